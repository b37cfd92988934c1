/- The walk of (*Sha).Write on an object to which nothing was written: it turns the whole blocks, and keeps what is left. Conditions: the text is shorter than 10^12 bytes. -/
import Derived.Test.YtolmejipggdodaaNew
import Derived.Test.YtolmejipggdodaaDet
namespace Go
namespace TL
open Go.RowKit
/-- The words behind the first n blocks of a text. -/
def absorb : Nat → St → List UInt8 → St
  | 0, h, _ => h
  | n + 1, h, l => absorb n (turnS h h K64 (l.take 64)) (l.drop 64)
theorem absorb_step (n : Nat) : ∀ (h : St) (l : List UInt8), absorb (n + 1) h l = turnS (absorb n h l) (absorb n h l) K64 ((l.drop (64 * n)).take 64) := by
  induction n with
  | zero => intro h l; simp [absorb]
  | succ n ih =>
    intro h l
    rw [absorb, ih, absorb, List.drop_drop]
    rw [show 64 + 64 * n = 64 * (n + 1) by omega]
section
variable {w w1 : World} {base b : Nat} {h : St} {rv : Value} {rest : List UInt8} {n : Nat}
theorem ShaAt.setN (S : ShaAt w base b h rv rest n) (m : Nat) : ShaAt (w.setCell ⟨b, 73, none⟩ (.int .i64 m)) base b h rv rest m :=
  ⟨S.lo, by simpa using S.lt, rangeAt_setCell_apart S.hh _ (by right; right; simp [St.cells]) _, there_setCell S.ht _ _, rangeAt_setCell_apart S.kk _ (by right; right; simp [K64_length]) _,
   by rw [World.cell?_setCell_other _ _ _ _ (by simp)]; exact S.rc, by rw [World.frozen?_setCell]; exact S.rf, S.ro.setCell _ S.rne _, S.rne, World.cell?_setCell_same _ _ _ S.nc, by rw [World.frozen?_setCell]; exact S.nf,
   by rw [World.cell?_setCell_other _ _ _ _ (by simp)]; exact S.mc⟩
theorem ShaAt.kept (S : ShaAt w base b h rv rest n) (hb : w1.heap[b]? = w.heap[b]?) (hs : w.heap.size ≤ w1.heap.size) {v' : Value} {rest' : List UInt8} (ho : OwnB w1 base v' rest') (hne : v'.ownBlock ≠ some b) :
    ShaAt (w1.setCell ⟨b, 72, none⟩ v') base b h v' rest' n := by
  have rc' : w1.cell? ⟨b, 72, none⟩ = some rv := by rw [World.cell?_of_block (w := w) (a := ⟨b, 72, none⟩) hb]; exact S.rc
  exact ⟨S.lo, by have := S.lt; simp; omega, rangeAt_setCell_apart (rangeAt_of_block S.hh hb) _ (by right; right; simp [St.cells]) _, there_setCell (there_of_block S.ht hb) _ _, rangeAt_setCell_apart (rangeAt_of_block S.kk hb) _ (by right; right; simp [K64_length]) _,
   World.cell?_setCell_same _ _ _ rc', by rw [World.frozen?_setCell, World.frozen?_of_block (w := w) (a := ⟨b, 72, none⟩) hb]; exact S.rf, Own.setCell ho _ hne _, hne,
   by rw [World.cell?_setCell_other _ _ _ _ (by simp), World.cell?_of_block (w := w) (a := ⟨b, 73, none⟩) hb]; exact S.nc, by rw [World.frozen?_setCell, World.frozen?_of_block (w := w) (a := ⟨b, 73, none⟩) hb]; exact S.nf,
   by rw [World.cell?_setCell_other _ _ _ _ (by simp), World.cell?_of_block (w := w) (a := ⟨b, 74, none⟩) hb]; exact S.mc⟩
theorem ShaAt.below (S : ShaAt w base b h rv rest n) (hb : Below w.heap.size w w1) : ShaAt w1 base b h rv rest n := by
  have e := hb.block b S.lt
  exact ⟨S.lo, Nat.lt_of_lt_of_le S.lt hb.size, rangeAt_of_block S.hh e, there_of_block S.ht e, rangeAt_of_block S.kk e, by rw [World.cell?_of_block (w := w) (a := ⟨b, 72, none⟩) e]; exact S.rc, by rw [World.frozen?_of_block (w := w) (a := ⟨b, 72, none⟩) e]; exact S.rf,
    Own.below S.ro hb, S.rne, by rw [World.cell?_of_block (w := w) (a := ⟨b, 73, none⟩) e]; exact S.nc, by rw [World.frozen?_of_block (w := w) (a := ⟨b, 73, none⟩) e]; exact S.nf, by rw [World.cell?_of_block (w := w) (a := ⟨b, 74, none⟩) e]; exact S.mc⟩
theorem ShaAt.drew (S : ShaAt w base b h rv rest n) : ShaAt w.drew base b h rv rest n :=
  ⟨S.lo, S.lt, S.hh, S.ht, S.kk, S.rc, S.rf, S.ro, S.rne, S.nc, S.nf, S.mc⟩
theorem ShaAt.setH (S : ShaAt w base b h rv rest n) (h' : St) : ShaAt (w.setCells b 0 h'.cells) base b h' rv rest n := by
  have out : ∀ k, 8 ≤ k → (w.setCells b 0 h'.cells).cell? ⟨b, k, none⟩ = w.cell? ⟨b, k, none⟩ := fun k hk =>
    World.cell?_setCells_out b h'.cells 0 w ⟨b, k, none⟩ (fun _ _ => .inr (by simpa [St.cells] using hk))
  exact ⟨S.lo, by rw [size_setCells]; exact S.lt, World.rangeAt_setCells_same _ _ _ _ S.ht, World.there_setCells S.ht _ _ _, World.rangeAt_setCells_apart S.kk _ _ _ (.inr (.inr (by simp [St.cells]))),
    by rw [out 72 (by omega)]; exact S.rc, by rw [World.frozen?_setCells]; exact S.rf, S.ro.kept (grownBy_setCells _ _ _ _) (.inr S.rne), S.rne, by rw [out 73 (by omega)]; exact S.nc, by rw [World.frozen?_setCells]; exact S.nf, by rw [out 74 (by omega)]; exact S.mc⟩
end
/-- How many bytes are left, as the object's cell tells. -/
def restLen (b : Nat) (w : World) : Nat := match w.cell? ⟨b, 72, none⟩ with | some (.slice _ n _) => n | _ => 0
theorem ShaAt.restLen {w : World} {base b : Nat} {h : St} {rv : Value} {rest : List UInt8} {n : Nat} (S : ShaAt w base b h rv rest n) : restLen b w = rest.length := by
  obtain ⟨a, cap, e, _⟩ := S.ro.sees.form
  unfold TL.restLen; rw [S.rc, e]
end TL
end Go
namespace Go.Proofs.Ytolmejipggdodaa
open Go.RowKit Go.TL
set_option maxRecDepth 100000 in
set_option maxHeartbeats 4000000 in
theorem Write_any (base b : Nat) (s : ByteArray) (w : World) (hs : s.size ≤ 1000000000000) (hbase : base ≤ w.heap.size) (S : ShaAt w base b H0 (.slice none 0 0) [] 0) :
    Calls Try.prog 26 #[.pointer (some ⟨b, 0, none⟩), .string s] w fun e w' => e = .returned (.int .i64 s.size) ∧
      (∃ rv, ShaAt w' base b (absorb (s.size / 64) H0 s.data.toList) rv (s.data.toList.drop (64 * (s.size / 64))) s.size) ∧ Below base w w' := by
  have m0 := S.mc
  have n0 := S.nc
  have nf0 := S.nf
  have r0 := S.rc
  have rf0 := S.rf
  have S' := Lib.hid S; clear S
  go_enter Try.func26, Try.ntmps26
  go_wp2_with (first | (go_at_call 40; refine (none_no _ b m0).mono ?_; rintro e w1 ⟨rfl, rfl⟩) | ((with_reducible show wpList _ _ _ (Oper.mk _ (Op.call ⟨Callee.builtin Builtin.append, _, _⟩) _ _ _ _ :: _) _ _); go_must (refine wpList_append bytesT rfl _ _ _ rfl uS base (.slice none 0 0) 0 [] rfl (S'.out.setN s.size).ro (.string s) s.size _ rfl (Src_string _ s) ?_ ?_ ?_ ?_)))
  · simp only [maxLen]; omega
  · omega
  · simpa using hbase
  · intro v1 w1 hown1 hg1 hf1 _
    replace hown1 : Own w1 base 1 v1 s.size (List.map vb s.data.toList) := by simpa using hown1
    have S1 := S'.out.setN s.size
    have hsz1 : w.heap.size ≤ w1.heap.size := by have := hg1.size; simpa using this
    have hbk1 : w1.heap[b]? = (w.setCell ⟨b, 73, none⟩ (.int .i64 s.size)).heap[b]? := hg1.block b S1.lt (by simp [Value.ownBlock])
    have hne1 : v1.ownBlock ≠ some b := by
      have := S1.lt
      rcases hf1 with e | e
      · rw [e]; simp [Value.ownBlock]
      · rw [e]; simp at this ⊢; omega
    have hlen : (s.data.toList).length = s.size := by rw [Array.length_toList]; rfl
    have ho1 : OwnB w1 base v1 s.data.toList := by show Own _ _ _ _ s.data.toList.length _; rw [hlen]; exact hown1
    have S2 := Lib.hid (S1.kept hbk1 hg1.size ho1 hne1)
    have B1 : Below base w w1 := ((Below.refl base w).setCell (p := ⟨b, 73, none⟩) S'.out.lo _).trans ((Below.refl base _).grown hg1 (by simpa using hbase) (by simp [Value.ownBlock]))
    have B2 := Lib.hid (B1.setCell (p := ⟨b, 72, none⟩) S'.out.lo v1)
    have r1 : w1.cell? ⟨b, 72, none⟩ = some (.slice none 0 0) := by rw [World.cell?_of_block (w := w.setCell ⟨b, 73, none⟩ (.int .i64 s.size)) (a := ⟨b, 72, none⟩) hbk1]; exact S1.rc
    have rf1 : w1.frozen? ⟨b, 72, none⟩ = false := by rw [World.frozen?_of_block (w := w.setCell ⟨b, 73, none⟩ (.int .i64 s.size)) (a := ⟨b, 72, none⟩) hbk1]; exact S1.rf
    have hsz2 := Lib.hid (Nat.le_trans hbase hsz1)
    have hlen' := Lib.hid hlen
    obtain ⟨a1, c1, e1, _⟩ := ho1.sees.form
    rw [hlen] at e1
    subst e1
    clear hown1 hg1 hf1 S1 hbk1 ho1 B1 hlen hsz1
    go_wp2_with fail
    go_loopw [25] (fun _ wr => ∃ (j : Nat) (rv : Value), 64 * j ≤ s.size ∧ ShaAt wr base b (absorb j H0 s.data.toList) rv (s.data.toList.drop (64 * j)) s.size ∧ Below base w wr) (fun _ wr => restLen b wr)
    case atStart => exact ⟨0, _, by omega, S2.out, B2.out⟩
    case round =>
      obtain ⟨j, rv, hj, S, B⟩ := hrel
      have hrl : (s.data.toList.drop (64 * j)).length = s.size - 64 * j := by rw [List.length_drop, hlen'.out]
      have hln := Sees.run_len S.ro.sees 31 5 3 Try.underlying31
      rw [hrl] at hln
      have rc := S.rc
      have rf := S.rf
      have T := Lib.hid S; clear S
      have B' := Lib.hid B; clear B
      have Hrl := Lib.hid hrl; clear hrl
      by_cases hlt : 64 ≤ s.size - 64 * j
      · have hd : decide ((s.size - 64 * j : Nat) ≥ (64 : Int)) = true := by simp; omega
        obtain ⟨hj', ehj⟩ : ∃ x, x = absorb j H0 s.data.toList := ⟨_, rfl⟩
        rw [← ehj] at T
        have Ehj := Lib.hid ehj; clear ehj
        have hcut := T.out.ro.sees.run_cut_hi bytesT 64 (by omega) (by rw [Hrl.out]; omega)
        have hsee := SeesB.cut T.out.ro.sees 0 64 (by omega) (by rw [Hrl.out]; omega)
        obtain ⟨cv, ecv⟩ : ∃ x, x = cutV 1 rv 0 64 := ⟨_, rfl⟩
        rw [show (64 : Int).toNat = 64 from rfl, ← ecv] at hcut
        rw [← ecv, List.drop_zero] at hsee
        have Hsee := Lib.hid hsee; clear hsee ecv
        go_wp2_with fail
        refine region_det [(0, false), (1, false), (2, false), (3, false), (5, false), (6, false), (7, false), (9, false), (10, false), (11, false), (12, false), (13, false), (14, false), (4, false), (8, false), (15, false), (16, false), (17, true), (18, false), (19, false), (20, true)] [(32, .ptr), (36, .ptr), (40, .ptr), (43, .ptr), (31, .ptr)] (by kernel_rfl) (by kernel_rfl) rfl (by kernel_rfl) ?_
        simp only [reord, opAt, List.map_cons, List.map_nil, List.getElem?_toArray, List.getElem?_cons_zero, List.getElem?_cons_succ, Option.getD_some]
        go_wp2_with (first | ((with_reducible show wpList _ _ _ (Oper.mk _ (Op.load 52 _) _ _ _ _ :: _) _ _); go_must (refine wpList_load_mid rfl 52 _ rfl b 0 rfl _ _ T.out.drew.hh Try.underlying52 rfl (by kernel_rfl) ?_)) | (go_at_call 41; refine (turn_any hj' hj' K64 K64_length b 8 cv ((s.data.toList.drop (64 * j)).take 64) (by rw [List.length_take, Hrl.out]; omega) _ (by exact T.out.drew.kk) (by exact Sees.drew Hsee.out)).mono ?_; rintro e w1 ⟨rfl, hb1⟩; have S3 := Lib.hid (T.out.drew.below hb1)) | ((with_reducible show wpList _ _ _ (Oper.mk none (Op.store 52 _ _) _ _ _ _ :: _) _ _); go_must (refine wpList_putRow rfl 52 _ _ rfl b 0 _ rfl rfl (by exact S3.out.ht) (by kernel_rfl) (by simp [Value.oneCell', St.cells, vw]) ?_)))
        refine OnlyN.intro (by kernel_rfl) ?_
        have S4 := Lib.hid (S3.out.setH (turnS hj' hj' K64 ((s.data.toList.drop (64 * j)).take 64)))
        have rc4 := S4.out.rc
        have rf4 := S4.out.rf
        have hb1' := Lib.hid hb1; clear hb1
        have hlo := S4.out.ro.sees.run_cut_lo bytesT 64 (by omega) (by rw [Hrl.out]; omega)
        have ho5 := OwnB.cut S4.out.ro 64 (s.data.toList.drop (64 * j)).length (by rw [Hrl.out]; omega) (Nat.le_refl _)
        rw [List.take_length, List.drop_drop, show 64 * j + 64 = 64 * (j + 1) by omega] at ho5
        have hne5 := ownBlock_cutV (size := 1) rv 64 (s.data.toList.drop (64 * j)).length
        have hlen5 : (s.data.toList.drop (64 * (j + 1))).length = s.size - 64 * (j + 1) := by rw [List.length_drop, hlen'.out]
        obtain ⟨a2, c2, e2, _⟩ := ho5.sees.form
        rw [hlen5] at e2
        rw [show (64 : Int).toNat = 64 from rfl, e2] at hlo
        rw [e2] at ho5 hne5
        have S5 := Lib.hid (S4.out.kept rfl (Nat.le_refl _) ho5 (by rw [hne5]; exact S4.out.rne))
        have hlen6 := Lib.hid hlen5
        clear e2 ho5 hne5 hlen5
        go_wp2_with fail
        go_roundw
        case rel =>
          have e : absorb (j + 1) H0 s.data.toList = turnS hj' hj' K64 ((s.data.toList.drop (64 * j)).take 64) := by rw [absorb_step, ← Ehj.out]
          exact ⟨j + 1, .slice a2 (s.size - 64 * (j + 1)) c2, by omega, by rw [e]; exact S5.out, (below_setCells S'.out.lo _ _ _ (B'.out.drew.trans (hb1'.out.mono (Nat.le_trans hbase B'.out.size)))).setCell (p := ⟨b, 72, none⟩) S'.out.lo _⟩
        case measure =>
          rw [S5.out.restLen, T.out.restLen, hlen6.out, Hrl.out]; omega
      · go_wp2_with fail
        go_ret
        have hq : s.size / 64 = j := by omega
        rw [hq]
        exact ⟨rfl, ⟨rv, T.out⟩, B'.out⟩
end Go.Proofs.Ytolmejipggdodaa
