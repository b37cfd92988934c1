/- The walk of (*Sha).Sum: the hash, and nothing that was there is touched. Conditions: fewer than 64 bytes are left; fewer than 10^12 were written. -/
import Derived.Test.YtolmejipggdodaaWrite
import Derived.Test.YtolmejipggdodaaLaw2
namespace Go
namespace TL
open Go.RowKit
/-- How many noughts the padding has, behind r bytes. -/
def zpad (r : Nat) : Nat := (119 - r % 64) % 64
def padB (rest : List UInt8) (n : Nat) : List UInt8 := rest ++ [128] ++ List.replicate (zpad rest.length) 0 ++ bigB (UInt64.ofNat n * 8) 8
def outB (s : St) : List UInt8 := s.words.flatMap fun x => bigB x.toUInt64 4
def sumS (h : St) (rest : List UInt8) (n : Nat) : List UInt8 := outB (absorb ((padB rest n).length / 64) h (padB rest n))
theorem outB_length (s : St) : (outB s).length = 32 := rfl
/-- Sum's own blocks while it pads. -/
structure PI (w wr : World) (bv : Value) (l : List UInt8) : Prop where
  bel : Below w.heap.size w wr
  own : OwnB wr (w.heap.size + 1) bv l
  out : wr.there w.heap.size 0 32
  sz : w.heap.size < wr.heap.size
theorem PI.step {w wr w' : World} {bv v' : Value} {l l' : List UInt8} (h : PI w wr bv l) (ho : OwnB w' (w.heap.size + 1) v' l') (hg : wr.grownBy w' bv.ownBlock) : PI w w' v' l' := by
  have hne : ∀ k, bv.ownBlock = some k → w.heap.size + 1 ≤ k := fun k e => (Own.base_le h.own e).1
  refine ⟨h.bel.trans (below_of_grownBy hg (Nat.le_of_lt h.sz) fun k e => by have := hne k e; omega), ho, there_of_block h.out (hg.block _ h.sz ?_), Nat.lt_of_lt_of_le h.sz hg.size⟩
  cases e : bv.ownBlock with
  | none => simp
  | some k => intro e2; injection e2 with e2; have := hne k e; omega
theorem PI.drew {w wr : World} {bv : Value} {l : List UInt8} (h : PI w wr bv l) : PI w wr.drew bv l := ⟨h.bel.drew, h.own, h.out, h.sz⟩
/-- While the hash is laid: the words' bytes that are there. -/
structure RI (w wr : World) (s : St) (i : Nat) : Prop where
  bel : Below w.heap.size w wr
  out : wr.there w.heap.size 0 32
  sz : w.heap.size < wr.heap.size
  got : wr.rangeAt w.heap.size 0 (((outB s).take (4 * i)).map vb)
theorem outB_take (s : St) (i : Nat) (hi : i < 8) : ∃ x, s.words[i]? = some x ∧ s.cells.toArray[i]? = some (vw x) ∧ (outB s).take (4 * (i + 1)) = (outB s).take (4 * i) ++ bigB x.toUInt64 4 := by
  have : i = 0 ∨ i = 1 ∨ i = 2 ∨ i = 3 ∨ i = 4 ∨ i = 5 ∨ i = 6 ∨ i = 7 := by omega
  rcases this with rfl | rfl | rfl | rfl | rfl | rfl | rfl | rfl <;> exact ⟨_, rfl, rfl, rfl⟩
theorem RI.step {w wr w1 : World} {s : St} {i : Nat} (h : RI w wr s i) (hb : Below wr.heap.size wr w1) (hi : i < 8) (x : UInt32) (hx : (outB s).take (4 * (i + 1)) = (outB s).take (4 * i) ++ bigB x.toUInt64 4) :
    RI w (w1.setCells w.heap.size (4 * i) ((bigB x.toUInt64 4).map vb)) s (i + 1) := by
  have e := hb.block _ h.sz
  have hl : ((bigB x.toUInt64 4).map vb).length = 4 := by rw [List.length_map, bigB_length]
  have hlt : (((outB s).take (4 * i)).map vb).length = 4 * i := by rw [List.length_map, List.length_take, outB_length]; omega
  refine ⟨below_setCells (Nat.le_refl _) _ _ _ (h.bel.trans (hb.mono h.bel.size)), World.there_setCells (there_of_block h.out e) _ _ _, by rw [size_setCells]; exact Nat.lt_of_lt_of_le h.sz hb.size, ?_⟩
  rw [hx, List.map_append]
  refine rangeAt_append (World.rangeAt_setCells_apart (rangeAt_of_block h.got e) _ _ _ (.inr (.inl (by rw [hlt]; omega)))) ?_
  rw [hlt, Nat.zero_add]
  refine World.rangeAt_setCells_same _ _ _ _ ?_
  rw [hl]
  have := there_drop (there_of_block h.out e) (4 * i)
  rw [Nat.zero_add] at this
  exact there_mono this (by omega)
/-- While it turns: the words lie in a block of their own. -/
structure QI (w wr : World) (g : Nat) (bv : Value) (l : List UInt8) (s : St) : Prop where
  pi : PI w wr bv l
  glo : w.heap.size < g
  glt : g < wr.heap.size
  gne : bv.ownBlock ≠ some g
  gr : wr.rangeAt g 0 s.cells
  gt : wr.there g 0 8
theorem QI.drew {w wr : World} {g : Nat} {bv : Value} {l : List UInt8} {s : St} (h : QI w wr g bv l s) : QI w wr.drew g bv l s := ⟨h.pi.drew, h.glo, h.glt, h.gne, h.gr, h.gt⟩
theorem QI.below {w wr w' : World} {g : Nat} {bv : Value} {l : List UInt8} {s : St} (h : QI w wr g bv l s) (hb : Below wr.heap.size wr w') : QI w w' g bv l s := by
  have e := hb.block g h.glt
  exact ⟨h.pi.step (Own.below h.pi.own hb) (grownBy_of_below hb _), h.glo, Nat.lt_of_lt_of_le h.glt hb.size, h.gne, rangeAt_of_block h.gr e, there_of_block h.gt e⟩
theorem QI.set' {w wr : World} {g : Nat} {bv : Value} {l : List UInt8} (hpi : PI w wr bv l) (glo : w.heap.size < g) (glt : g < wr.heap.size) (gne : bv.ownBlock ≠ some g) (gt : wr.there g 0 8) (s' : St) : QI w (wr.setCells g 0 s'.cells) g bv l s' := by
  have hg := grownBy_setCells wr g 0 s'.cells
  refine ⟨⟨below_setCells (Nat.le_of_lt glo) _ _ _ hpi.bel, Own.kept hpi.own hg (.inr gne), there_of_block hpi.out (block_setCells g _ 0 wr _ (by omega)), by rw [size_setCells]; exact hpi.sz⟩, glo, by rw [size_setCells]; exact glt, gne, World.rangeAt_setCells_same _ _ _ _ gt, World.there_setCells gt _ _ _⟩
theorem QI.set {w wr : World} {g : Nat} {bv : Value} {l : List UInt8} {s : St} (h : QI w wr g bv l s) (s' : St) : QI w (wr.setCells g 0 s'.cells) g bv l s' := QI.set' h.pi h.glo h.glt h.gne h.gt s'
theorem padB_length (rest : List UInt8) (n : Nat) (hr : rest.length < 64) : ∃ N, N ≤ 2 ∧ (padB rest n).length = 64 * N := by
  have e : (padB rest n).length = rest.length + 1 + zpad rest.length + 8 := by simp [padB, bigB_length]; omega
  rw [e]; unfold zpad
  exact ⟨(rest.length + 1 + (119 - rest.length % 64) % 64 + 8) / 64, by omega, by omega⟩
theorem QI.slice {w wr : World} {g : Nat} {bv bv' : Value} {l l' : List UInt8} {s : St} (h : QI w wr g bv l s) (ho : OwnB wr (w.heap.size + 1) bv' l') (hne : bv'.ownBlock = bv.ownBlock) : QI w wr g bv' l' s :=
  ⟨⟨h.pi.bel, ho, h.pi.out, h.pi.sz⟩, h.glo, h.glt, by rw [hne]; exact h.gne, h.gr, h.gt⟩
end TL
end Go
namespace Go.Proofs.Ytolmejipggdodaa
open Go.RowKit Go.TL
set_option maxRecDepth 100000 in
set_option maxHeartbeats 4000000 in
theorem Sum_any (base b : Nat) (h : St) (rv : Value) (rest : List UInt8) (n : Nat) (w : World) (S : ShaAt w base b h rv rest n) (hr : rest.length < 64) :
    Calls Try.prog 27 #[.pointer (some ⟨b, 0, none⟩)] w fun e w' => e = .returned (.agg ((sumS h rest n).map vb).toArray) ∧ Below w.heap.size w w' := by
  have m0 := S.mc
  have n0 := S.nc
  have r0 := S.rc
  have hbl := S.lt
  have S' := Lib.hid S; clear S
  go_enter Try.func27, Try.ntmps27
  go_wp2_with (first | ((with_reducible show wpList _ _ _ (Oper.mk _ (Op.alloc 23) _ _ _ _ :: _) _ _); go_must (refine wpList_newRow rfl _ rfl (Array.replicate 32 (.int .u8 0)) (by kernel_rfl) ?_; intro w1 hb1 hs1 hr1 ht1; have S1 := S'.out.below hb1; have m1 := S1.mc; have n1 := S1.nc; have r1 := S1.rc; have l1 : b < w1.heap.size := S1.lt; have T1 := Lib.hid S1; clear S1 hr1; have Hb1 := Lib.hid hb1; clear hb1; have Hs1 := Lib.hid hs1; clear hs1; have Ht1 := Lib.hid ht1; clear ht1)) | (go_at_call 40; go_must (refine (none_no _ b m1).mono ?_; rintro e w2 ⟨rfl, rfl⟩)) | ((with_reducible show wpList _ _ _ (Oper.mk _ (Op.call ⟨Callee.builtin Builtin.append, #[.tmp 10, .tmp 14], _⟩) _ _ _ _ :: _) _ _); go_must (refine wpList_append bytesT rfl _ _ _ rfl uB (w.heap.size + 1) (.slice (some ⟨w1.heap.size, 0, none⟩) 0 0) 0 [] rfl (OwnB_empty _ _ w1.heap.size (by rw [Hs1.out]; exact Nat.le_refl _) (by simp)) rv rest.length _ rfl (SeesB.src (Sees.alloc T1.out.ro.sees _)) (by simp only [maxLen]; omega) (by omega) (by simp; rw [Hs1.out]; omega) ?_; intro v1 w2 ho2 hg2 hf2 _; have B2 : Below w1.heap.size w1 w2 := below_of_grownBy (grownBy_trans (World.grownBy_alloc w1 _ _) hg2) (Nat.le_refl _) (by simp [Value.ownBlock]); have T2 := Lib.hid (T1.out.below B2); have hsz2 : w1.heap.size + 1 ≤ w2.heap.size := (by have := hg2.size; simpa using this); have hOut2 := Lib.hid (there_of_block Ht1.out (B2.block w.heap.size (by rw [Hs1.out]; omega))); have HB2 := Lib.hid (Hb1.out.trans (B2.mono (by rw [Hs1.out]; omega))); have Ho2 : Hid (OwnB w2 (w.heap.size + 1) v1 rest) := Lib.hid (by simpa [OwnB] using ho2); have Hsz2 : Hid (w.heap.size + 2 ≤ w2.heap.size) := Lib.hid (by rw [Hs1.out] at hsz2; exact hsz2); clear ho2 hg2 hf2 B2 hsz2 m1 n1 r1 T1 Ht1 Hb1 Hs1)) | ((with_reducible show wpList _ _ _ (Oper.mk _ (Op.call ⟨Callee.builtin Builtin.append, #[.tmp 15, .tmp 16], _⟩) _ _ _ _ :: _) _ _); go_must (refine wpList_append_new bytesT rfl _ _ rfl (w.heap.size + 1) w2 [128] _ _ rfl v1 rest rfl Ho2.out rfl (by simp; omega) (by have := Hsz2.out; omega) ?_; intro v2 w3 ho3 hg3 hf3)))
  have I3 : Hid (PI w w3 v2 (rest ++ [128])) := Lib.hid (PI.step ⟨HB2.out, Ho2.out, by simpa using hOut2.out, by have := Hsz2.out; omega⟩ ho3 hg3)
  clear ho3 hg3 hf3 Ho2 hOut2 HB2 Hsz2 T2
  go_loopw [3] (fun bv wr => ∃ k : Nat, k ≤ zpad rest.length ∧ PI w wr bv (rest ++ [128] ++ List.replicate k 0)) (fun bv _ => rest.length + 1 + zpad rest.length - lenV bv)
  case atStart => exact ⟨0, by omega, by simpa using I3.out⟩
  case round =>
    obtain ⟨k, hk, I⟩ := hrel
    have hln := Sees.run_len I.own.sees 31 5 3 Try.underlying31
    have elen : (rest ++ [128] ++ List.replicate k 0).length = rest.length + 1 + k := by simp; omega
    rw [elen] at hln
    have I' := Lib.hid I; clear I I3
    by_cases hlt : k < zpad rest.length
    · have hd : (rest.length + 1 + k) % 64 ≠ 56 := by unfold zpad at hlt; omega
      go_wp2_with ((with_reducible show wpList _ _ _ (Oper.mk _ (Op.call ⟨Callee.builtin Builtin.append, #[.tmp 22, .tmp 23], _⟩) _ _ _ _ :: _) _ _); go_must (refine wpList_append_new bytesT rfl _ _ rfl (w.heap.size + 1) wr [0] _ _ rfl _ (rest ++ [128] ++ List.replicate k 0) rfl I'.out.own rfl (by rw [elen]; simp; unfold zpad at hlt; omega) (by have := I'.out.sz; omega) ?_; intro v4 w4 ho4 hg4 _; have I4 := Lib.hid (I'.out.step ho4 hg4); clear ho4 hg4))
      go_roundw
      case rel => exact ⟨k + 1, by omega, by have := I4.out; simpa [List.replicate_succ'] using this⟩
      case measure => rw [I4.out.own.sees.lenV, I'.out.own.sees.lenV]; simp; omega
    · have hkz : k = zpad rest.length := by omega
      have hd : (rest.length + 1 + k) % 64 = 56 := by unfold zpad at hkz; omega
      have T4 := Lib.hid (S'.out.below I'.out.bel)
      have n4 := T4.out.nc
      go_wp2_with (first | (go_at_call 42; go_must (refine (putBig_any (w.heap.size + 1) _ (rest ++ [128] ++ List.replicate k 0) (UInt64.ofNat n * 8) 8 wr I'.out.own (by have := I'.out.sz; omega) (by decide) (by rw [elen]; unfold zpad at hkz; omega)).mono ?_; rintro e w5 ⟨v5, rfl, ho5, hg5, _⟩; have I5 := Lib.hid (I'.out.step ho5 hg5); have T5 := Lib.hid (S'.out.below I5.out.bel); clear ho5 hg5 T4 n4)) | ((with_reducible show wpList _ _ _ (Oper.mk (some 36) (Op.load 52 _) _ _ _ _ :: _) _ _); go_must (refine wpList_load_mid rfl 52 _ rfl b 0 rfl _ _ (by exact T5.out.hh) Try.underlying52 rfl (by kernel_rfl) ?_)) | ((with_reducible show wpList _ _ _ (Oper.mk _ (Op.alloc 52) _ _ _ _ :: _) _ _); go_must (refine wpList_newRow rfl _ rfl (Array.replicate 8 (.int .u32 0)) (by kernel_rfl) ?_; intro w6 hb6 hs6 hr6 ht6; have Hb6 := Lib.hid hb6; clear hb6; have Hs6 := Lib.hid hs6; clear hs6 hr6; have Ht6 := Lib.hid ht6; clear ht6)) | ((with_reducible show wpList _ _ _ (Oper.mk none (Op.store 52 _ _) _ _ _ _ :: _) _ _); go_must (refine wpList_putRow rfl 52 _ _ rfl w5.heap.size 0 h.cells rfl rfl (by simpa [St.cells] using Ht6.out) (by kernel_rfl) (by simp [Value.oneCell', St.cells, vw]) ?_)))
      have J6 : Hid (QI w (w6.setCells w5.heap.size 0 h.cells) w5.heap.size v5 (padB rest n) h) := Lib.hid (by
        have hpi := I5.out.step (Own.below I5.out.own Hb6.out) (grownBy_of_below Hb6.out _)
        rw [hkz] at hpi
        have hlt5 := Hs6.out
        exact QI.set' hpi I5.out.sz (by omega) (fun e => by have := (Own.base_le I5.out.own e).2; omega) (by simpa using Ht6.out) h)
      clear Hs6 Ht6 Hb6 I5 T5 I'
      obtain ⟨N, hN, hpl⟩ := padB_length rest n hr
      go_simp
      go_loopw [3] (fun bv wr => ∃ j : Nat, j ≤ N ∧ QI w wr w5.heap.size bv ((padB rest n).drop (64 * j)) (absorb j h (padB rest n))) (fun bv _ => lenV bv)
      case atStart => exact ⟨0, by omega, by simpa [absorb] using J6.out⟩
      case round =>
        clear J6
        obtain ⟨j, hj, J⟩ := hrel
        have hdl : ((padB rest n).drop (64 * j)).length = 64 * N - 64 * j := by rw [List.length_drop, hpl]
        have hln2 := Sees.run_len J.pi.own.sees 31 5 3 Try.underlying31
        rw [hdl] at hln2
        have J' := Lib.hid J; clear J
        have Hdl := Lib.hid hdl; clear hdl
        by_cases hjN : j < N
        · have hpos : decide ((64 * N - 64 * j : Nat) > (0 : Int)) = true := by simp; omega
          obtain ⟨hj', ehj⟩ : ∃ x, x = absorb j h (padB rest n) := ⟨_, rfl⟩
          rw [← ehj] at J'
          have Ehj := Lib.hid ehj; clear ehj
          have hcut := J'.out.pi.own.sees.run_cut_hi bytesT 64 (by omega) (by rw [Hdl.out]; omega)
          have hsee := SeesB.cut J'.out.pi.own.sees 0 64 (by omega) (by rw [Hdl.out]; omega)
          obtain ⟨cv, ecv⟩ : ∃ x, x = cutV 1 u3 0 64 := ⟨_, rfl⟩
          rw [show (64 : Int).toNat = 64 from rfl, ← ecv] at hcut
          rw [← ecv, List.drop_zero] at hsee
          have Hsee := Lib.hid hsee; clear hsee ecv
          go_wp2_with fail
          refine region_det [(2, false), (3, false), (4, false), (5, false), (6, false), (0, false), (1, false), (7, true), (8, true)] [(44, .ptr)] (by kernel_rfl) (by kernel_rfl) rfl (by kernel_rfl) ?_
          simp only [reord, opAt, List.map_cons, List.map_nil, List.getElem?_toArray, List.getElem?_cons_zero, List.getElem?_cons_succ, Option.getD_some]
          have T6 := Lib.hid (S'.out.below J'.out.drew.pi.bel)
          go_wp2_with (first | ((with_reducible show wpList _ _ _ (Oper.mk _ (Op.load 52 _) _ _ _ _ :: _) _ _); go_must (refine wpList_load_mid rfl 52 _ rfl w5.heap.size 0 rfl _ _ (by exact J'.out.drew.gr) Try.underlying52 rfl (by kernel_rfl) ?_)) | (go_at_call 41; go_must (refine (turn_any hj' hj' K64 K64_length b 8 cv (((padB rest n).drop (64 * j)).take 64) (by rw [List.length_take, Hdl.out]; omega) _ (by exact T6.out.kk) (by exact Sees.drew Hsee.out)).mono ?_; rintro e w7 ⟨rfl, hb7⟩; have J3 := Lib.hid (J'.out.drew.below hb7); clear hb7)) | ((with_reducible show wpList _ _ _ (Oper.mk none (Op.store 52 _ _) _ _ _ _ :: _) _ _); go_must (refine wpList_putRow rfl 52 _ _ rfl w5.heap.size 0 _ rfl rfl (by exact J3.out.gt) (by kernel_rfl) (by simp [Value.oneCell', St.cells, vw]) ?_)))
          refine OnlyN.intro (by kernel_rfl) ?_
          have J4 := Lib.hid (J3.out.set (turnS hj' hj' K64 (((padB rest n).drop (64 * j)).take 64)))
          have hlo := J4.out.pi.own.sees.run_cut_lo bytesT 64 (by omega) (by rw [Hdl.out]; omega)
          have ho5 := OwnB.cut J4.out.pi.own 64 ((padB rest n).drop (64 * j)).length (by rw [Hdl.out]; omega) (Nat.le_refl _)
          rw [List.take_length, List.drop_drop, show 64 * j + 64 = 64 * (j + 1) by omega] at ho5
          have J5 := Lib.hid (J4.out.slice ho5 (ownBlock_cutV (size := 1) u3 64 ((padB rest n).drop (64 * j)).length))
          have hlen5 : ((padB rest n).drop (64 * (j + 1))).length = 64 * N - 64 * (j + 1) := by rw [List.length_drop, hpl]
          have Hlen5 := Lib.hid hlen5; clear hlen5 ho5
          rw [Hdl.out] at J5
          go_wp2_with fail
          go_roundw
          case rel =>
            have e : absorb (j + 1) h (padB rest n) = turnS hj' hj' K64 (((padB rest n).drop (64 * j)).take 64) := by rw [absorb_step, ← Ehj.out]
            exact ⟨j + 1, by omega, by rw [e]; exact J5.out⟩
          case measure => rw [J5.out.pi.own.sees.lenV, J'.out.pi.own.sees.lenV, Hlen5.out, Hdl.out]; omega
        · have hjn : j = N := by omega
          subst hjn
          have hneg : decide ((64 * j - 64 * j : Nat) > (0 : Int)) = false := by simp
          go_wp2_with ((with_reducible show wpList _ _ _ (Oper.mk _ (Op.load 52 _) _ _ _ _ :: _) _ _); go_must (refine wpList_load_mid rfl 52 _ rfl w5.heap.size 0 rfl _ _ (by exact J'.out.gr) Try.underlying52 rfl (by kernel_rfl) ?_))
          go_simp
          obtain ⟨sN, esN⟩ : ∃ s, s = absorb j h (padB rest n) := ⟨_, rfl⟩
          rw [← esN] at J'
          have R0 : Hid (RI w wr sN 0) := Lib.hid ⟨J'.out.pi.bel, J'.out.pi.out, J'.out.pi.sz, rangeAt_nil _ _ _⟩
          have EsN := Lib.hid esN
          rw [← esN]; clear esN J'
          go_loopw [51] (fun iv wr => ∃ i : Nat, i ≤ 8 ∧ iv = .int .i64 i ∧ RI w wr sN i) (fun iv _ => 8 - (intOf iv).toNat)
          case atStart => exact ⟨0, by omega, rfl, R0.out⟩
          case round =>
            clear R0
            obtain ⟨i, hi8, rfl, R⟩ := hrel
            have R' := Lib.hid R; clear R
            by_cases hlt : i < 8
            · obtain ⟨x, hx1, hx2, hx3⟩ := outB_take sN i hlt
              have hix : ∀ w'', (Instr.index 52 (.agg sN.cells.toArray) (.int .i64 i)).run Try.prog w'' = .ok (.int .u32 (I32 x)) w'' := fun w'' => run_index_agg _ _ 8 _ Try.underlying52 _ Try.underlying50 rfl (by kernel_rfl) i hlt _ hx2 w''
              have hsl : ∀ w'', (Instr.sliceAt 23 (.pointer (some ⟨w.heap.size, 0, none⟩)) (some (.int .i64 (4 * (i : Int)))) none none).run Try.prog w'' = .ok (.slice (some ⟨w.heap.size, 4 * i, none⟩) (32 - 4 * i) (32 - 4 * i)) w'' := fun w'' => by
                have := run_sliceAt_row 23 _ 32 Try.underlying23 (by kernel_rfl) w.heap.size 0 (4 * i) (by omega) (4 * (i : Int)) (by omega) w''
                rwa [Nat.zero_add] at this
              have Hx3 := Lib.hid hx3; clear hx3 hx1 hx2
              go_wp2_with fail
              refine region_det [(0, false), (1, false), (2, false), (3, false), (4, false), (5, true), (6, true)] [(55, .int), (58, .int)] (by kernel_rfl) (by kernel_rfl) rfl (by kernel_rfl) ?_
              simp only [reord, opAt, List.map_cons, List.map_nil, List.getElem?_toArray, List.getElem?_cons_zero, List.getElem?_cons_succ, Option.getD_some]
              go_wp2_with (first | (go_at_call 42; go_must (refine (putBig_any (w.heap.size + 1) (.slice none 0 0) [] x.toUInt64 4 wr.drew (Own_nil _ _ _) (by exact R'.out.sz) (by decide) (by simp)).mono ?_; rintro e w8 ⟨v8, rfl, ho8, hg8, hf8⟩; have Ho8 : Hid (OwnB w8 (w.heap.size + 1) v8 (bigB x.toUInt64 4)) := Lib.hid (by simpa using ho8); have Hb8 : Hid (Below wr.heap.size wr w8) := Lib.hid ((Below.refl _ wr).drew.trans (below_of_grownBy hg8 (Nat.le_refl _) (by simp [Value.ownBlock]))); clear ho8 hg8 hf8)) | ((with_reducible show wpList _ _ _ (Oper.mk _ (Op.call ⟨Callee.builtin Builtin.copy, _, _⟩) _ _ _ _ :: _) _ _); go_must (refine wpList_copy bytesT rfl _ _ 31 rfl w.heap.size (4 * i) (32 - 4 * i) (32 - 4 * i) rfl v8 4 ((bigB x.toUInt64 4).map vb) rfl (SeesB.src Ho8.out.sees) 4 ?_ ?_ ?_)))
              · show 4 = Nat.min 4 (32 - 4 * i)
                exact (Nat.min_eq_left (by omega)).symm
              · have := there_drop (there_of_block R'.out.out (Hb8.out.block _ R'.out.sz)) (4 * i)
                rw [Nat.zero_add] at this
                exact there_mono this (by omega)
              have R8 := Lib.hid (R'.out.step Hb8.out hlt x Hx3.out)
              rw [show List.take (4 * 1) ((bigB x.toUInt64 4).map vb) = (bigB x.toUInt64 4).map vb from rfl]
              go_wp2_with fail
              refine OnlyN.intro (by kernel_rfl) ?_
              go_wp2_with fail
              go_roundw
              case rel => exact ⟨i + 1, by omega, by go_num, R8.out⟩
              case measure => simp [intOf]; omega
            · have hi8' : i = 8 := by omega
              subst hi8'
              have hgot := R'.out.got
              rw [show 4 * 8 = (outB sN).length from rfl, List.take_length] at hgot
              have Hgot := Lib.hid hgot; clear hgot
              go_wp2_with (first | ((with_reducible show wpList _ _ _ (Oper.mk _ (Op.load 23 _) _ _ _ _ :: _) _ _); go_must (refine wpList_load_mid rfl 23 _ rfl w.heap.size 0 rfl _ _ Hgot.out Try.underlying23 rfl (by kernel_rfl) ?_)) | ((with_reducible show wpList _ _ _ (Oper.mk none (Op.store 23 _ _) _ _ _ _ :: _) _ _); go_must (refine wpList_putRow rfl 23 _ _ rfl w.heap.size 0 ((outB sN).map vb) rfl rfl (by rw [List.length_map, outB_length]; exact R'.out.out) (by rw [List.length_map, outB_length]; kernel_rfl) (vb_one _) ?_)))
              refine bodyPost_ret (results_row rfl _ _ w.heap.size 0 ((outB sN).map vb) _ rfl (World.rangeAt_setCells_same _ _ _ _ (by rw [List.length_map, outB_length]; exact R'.out.out)) Try.underlying23 rfl (by rw [List.length_map, outB_length]; kernel_rfl)) rfl ?_
              refine ⟨?_, below_setCells (Nat.le_refl _) _ _ _ R'.out.bel⟩
              have e : sumS h rest n = outB sN := by rw [EsN.out]; unfold sumS; rw [hpl, Nat.mul_div_cancel_left _ (by decide)]
              rw [e]
end Go.Proofs.Ytolmejipggdodaa
