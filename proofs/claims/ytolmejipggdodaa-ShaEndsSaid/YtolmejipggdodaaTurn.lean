/- The walk of sha's turn: it turns the words by a block, and touches nothing that was there. Conditions: the block has 64 bytes, the numbers are 64. -/
import Derived.Test.YtolmejipggdodaaShaP
import Derived.Deep.QuietTactic
import Derived.BigQuiet
import Derived.Deep.DeepMust
namespace Go
namespace TL
open Go.RowKit
theorem drewN_heap (w : World) (n : Nat) : (w.drewN n).heap = w.heap := rfl
theorem rangeAt_of_heap {w w' : World} (h : w'.heap = w.heap) {g o : Nat} {xs : List Value} (hr : w.rangeAt g o xs) : w'.rangeAt g o xs := rangeAt_of_block hr (by rw [h])
theorem there_of_heap {w w' : World} (h : w'.heap = w.heap) {g o n : Nat} (hr : w.there g o n) : w'.there g o n := there_of_block hr (by rw [h])
/-- A callee that leaves the world alone, met in a drawn region behind another one. -/
theorem quiet_at {P : Program} {f : FuncId} {args : Array Value} {w : World} {n a : Nat} {v : Value}
    (h : Calls P f args (w.drewN (n + a)) fun e w' => e = .returned v ∧ w' = w.drewN (n + a)) : Calls P f args (w.drewN (n + a)) fun e w'' => e = .returned v ∧ ∃ m, w'' = w.drewN (n + m) :=
  h.mono fun _ _ ⟨he, hm⟩ => ⟨he, a, hm⟩
theorem vw_cell {w : World} {g o : Nat} {l : List UInt32} (h : w.rangeAt g o (l.map vw)) (i : Nat) (hi : i < l.length) : w.cell? ⟨g, o + i, none⟩ = some (.int .u32 (I32 (l.getD i 0))) := by
  refine h i _ ?_
  simp [vw, hi]
theorem free_of_there {w : World} {g o n : Nat} (h : w.there g o n) (i : Nat) (hi : i < n) : w.frozen? ⟨g, o + i, none⟩ = false := (h i hi).2
/-- What holds of turn's own blocks: the words h, the words b, the result's place, the list w. -/
structure TI (w wr : World) (h b : St) (W : List UInt32) : Prop where
  bel : Below w.heap.size w wr
  sz : wr.heap.size = w.heap.size + 4
  hh : wr.rangeAt w.heap.size 0 h.cells
  ht : wr.there w.heap.size 0 8
  bb : wr.rangeAt (w.heap.size + 1) 0 b.cells
  bt : wr.there (w.heap.size + 1) 0 8
  rt : wr.there (w.heap.size + 1 + 1) 0 8
  ww : wr.rangeAt (w.heap.size + 1 + 1 + 1) 0 (W.map vw)
  wt : wr.there (w.heap.size + 1 + 1 + 1) 0 64
theorem TI.drewN {w wr : World} {h b : St} {W : List UInt32} (T : TI w wr h b W) (n : Nat) : TI w (wr.drewN n) h b W :=
  ⟨⟨T.bel.os, T.bel.tape, T.bel.output, T.bel.size, T.bel.block⟩, T.sz, rangeAt_of_heap (drewN_heap _ _) T.hh, there_of_heap (drewN_heap _ _) T.ht, rangeAt_of_heap (drewN_heap _ _) T.bb, there_of_heap (drewN_heap _ _) T.bt, there_of_heap (drewN_heap _ _) T.rt, rangeAt_of_heap (drewN_heap _ _) T.ww, there_of_heap (drewN_heap _ _) T.wt⟩
theorem TI.pushW {w wr : World} {h b : St} {W : List UInt32} (T : TI w wr h b W) (x : UInt32) (hl : W.length < 64) : TI w (wr.setCell ⟨w.heap.size + 1 + 1 + 1, W.length, none⟩ (.int .u32 (I32 x))) h b (W ++ [x]) := by
  refine ⟨T.bel.setCell (by show w.heap.size ≤ w.heap.size + 1 + 1 + 1; omega) _, by simpa using T.sz, rangeAt_setCell_apart T.hh _ (.inl (by show _ + 1 + 1 + 1 ≠ _; omega)) _, there_setCell T.ht _ _, rangeAt_setCell_apart T.bb _ (.inl (by show _ + 1 + 1 + 1 ≠ _; omega)) _, there_setCell T.bt _ _, there_setCell T.rt _ _, ?_, there_setCell T.wt _ _⟩
  rw [List.map_append]
  refine rangeAt_append (rangeAt_setCell_apart T.ww _ (by simp) _) ?_
  intro j v hv
  cases j with
  | zero =>
    simp at hv; subst hv
    obtain ⟨u, hu⟩ := Option.isSome_iff_exists.1 (T.wt W.length hl).1
    simp only [List.length_map, Nat.zero_add, Nat.add_zero] at hu ⊢
    exact World.cell?_setCell_same _ _ _ hu
  | succ j => simp at hv
theorem TI.storeB {w wr : World} {h b : St} {W : List UInt32} (T : TI w wr h b W) (b' : St) : TI w (wr.setCells (w.heap.size + 1) 0 b'.cells) h b' W := by
  refine ⟨below_setCells (by omega) _ _ _ T.bel, by rw [size_setCells]; exact T.sz, World.rangeAt_setCells_apart T.hh _ _ _ (.inl (by omega)), World.there_setCells T.ht _ _ _, World.rangeAt_setCells_same _ _ _ _ T.bt, World.there_setCells T.bt _ _ _, World.there_setCells T.rt _ _ _, World.rangeAt_setCells_apart T.ww _ _ _ (.inl (by omega)), World.there_setCells T.wt _ _ _⟩
/-- The words h, of which the first i have had b's added. -/
def St.mix (h b : St) (i : Nat) : St :=
  ⟨if 0 < i then h.a + b.a else h.a, if 1 < i then h.b + b.b else h.b, if 2 < i then h.c + b.c else h.c, if 3 < i then h.d + b.d else h.d,
   if 4 < i then h.e + b.e else h.e, if 5 < i then h.f + b.f else h.f, if 6 < i then h.g + b.g else h.g, if 7 < i then h.h + b.h else h.h⟩
theorem St.mix_zero (h b : St) : h.mix b 0 = h := rfl
theorem St.mix_all (h b : St) : h.mix b 8 = h.add b := rfl
theorem St.mix_step (h b : St) (k : Nat) (hk : k < 8) : (h.mix b k).cells.set k (.int .u32 (I32 ((h.mix b k).words.getD k 0 + b.words.getD k 0))) = (h.mix b (k + 1)).cells := by
  have : k = 0 ∨ k = 1 ∨ k = 2 ∨ k = 3 ∨ k = 4 ∨ k = 5 ∨ k = 6 ∨ k = 7 := by omega
  rcases this with e | e | e | e | e | e | e | e <;> subst e <;> rfl
theorem TI.storeH {w wr : World} {h b : St} {W : List UInt32} (T : TI w wr h b W) (k : Nat) (hk : k < 8) (h' : St) (u : Value) (e : h.cells.set k u = h'.cells) : TI w (wr.setCell ⟨w.heap.size, k, none⟩ u) h' b W := by
  have h1 := rangeAt_setCell_same T.hh k (by simpa [St.cells] using hk) u
  rw [Nat.zero_add, e] at h1
  exact ⟨T.bel.setCell (Nat.le_refl _) _, by simpa using T.sz, h1, there_setCell T.ht _ _, rangeAt_setCell_apart T.bb _ (.inl (by show w.heap.size ≠ w.heap.size + 1; omega)) _, there_setCell T.bt _ _, there_setCell T.rt _ _, rangeAt_setCell_apart T.ww _ (.inl (by show w.heap.size ≠ w.heap.size + 1 + 1 + 1; omega)) _, there_setCell T.wt _ _⟩
theorem St.cells_eq (s : St) : s.cells = s.words.map vw := rfl
/-- turn's blocks, just laid. -/
theorem TI.start (w : World) (h b : St) (C D : Array Value) (hC : C.size = 8) (hD : D.size = 64) (t1 t2 t3 t4 : TypeId) :
    TI w ((((w.alloc (.cells h.cells.toArray t1)).alloc (.cells b.cells.toArray t2)).alloc (.cells C t3)).alloc (.cells D t4)) h b [] := by
  have n1 : (w.alloc (.cells h.cells.toArray t1)).heap.size = w.heap.size + 1 := by simp
  have n2 : ((w.alloc (.cells h.cells.toArray t1)).alloc (.cells b.cells.toArray t2)).heap.size = w.heap.size + 1 + 1 := by simp
  have n3 : (((w.alloc (.cells h.cells.toArray t1)).alloc (.cells b.cells.toArray t2)).alloc (.cells C t3)).heap.size = w.heap.size + 1 + 1 + 1 := by simp
  refine ⟨((((Below.refl _ _).alloc (Nat.le_refl _) _).alloc (by simp) _).alloc (by simp; omega) _).alloc (by simp; omega) _, by simp, ?_, ?_, ?_, ?_, ?_, by simp [World.rangeAt], ?_⟩
  · exact World.rangeAt_alloc (World.rangeAt_alloc (World.rangeAt_alloc (rangeAt_new w _ _ _) _) _) _
  · exact World.there_alloc (World.there_alloc (World.there_alloc (there_new w _ _ 8 (by simp [St.cells])) _) _) _
  · rw [← n1]; exact World.rangeAt_alloc (World.rangeAt_alloc (rangeAt_new _ _ _ _) _) _
  · rw [← n1]; exact World.there_alloc (World.there_alloc (there_new _ _ _ 8 (by simp [St.cells])) _) _
  · rw [← n2]; exact World.there_alloc (there_new _ _ _ 8 (by omega)) _
  · rw [← n3]; exact there_new _ _ _ 64 (by omega)
end TL
end Go
namespace Go.Proofs.Ytolmejipggdodaa
open Go.RowKit Go.TL
theorem rot_k (x : UInt32) (k : Int) (w : World) (h1 : -31 ≤ k) (h2 : k ≤ -1) :
    Calls Try.prog 52 #[.int .u32 (I32 x), .int .i64 k] w fun e w' => e = .returned (.int .u32 (I32 (ror x (-k).toNat))) ∧ w' = w :=
  (rot_any x (-k).toNat k w (by omega) (by omega) (by omega)).mono fun _ _ ⟨a, b⟩ => ⟨a, b.symm⟩
set_option maxRecDepth 100000 in
set_option maxHeartbeats 1000000 in
theorem turn_any (h b : St) (K : List UInt32) (hK : K.length = 64) (kb ko : Nat) (sv : Value) (s : List UInt8) (hs : s.length = 64) (w : World)
    (hk : w.rangeAt kb ko (K.map vw)) (hsee : SeesB w sv s) :
    Calls Try.prog 41 #[.agg h.cells.toArray, .agg b.cells.toArray, .pointer (some ⟨kb, ko, none⟩), sv] w fun e w' => e = .returned (.agg (turnS h b K s).cells.toArray) ∧ Below w.heap.size w w' := by
  have hkb : kb < w.heap.size := rangeAt.lt hk (by intro e; have := congrArg List.length e; simp [hK] at this)
  have H0 := Lib.hid hk; clear hk
  have H1 := Lib.hid hsee; clear hsee
  have H2 := Lib.hid hs; clear hs
  have H3 := Lib.hid hK; clear hK
  go_enter Try.func41, Try.ntmps41
  go_wp2
  go_loopw [22] (fun i wr => ∃ k : Nat, k ≤ 16 ∧ i = .int .i64 k ∧ TI w wr h b (wl s k)) (fun i _ => 16 - (intOf i).toNat)
  case atStart => exact ⟨0, by omega, rfl, TI.start w h b _ _ rfl rfl _ _ _ _⟩
  case round =>
    obtain ⟨k, hk, rfl, T⟩ := hrel
    have T' := Lib.hid T
    by_cases hlt : k < 16
    · have hsee := H1.out.below T.bel
      have hcut := hsee.run_cut bytesT (4 * (k : Int)) (4 * (k : Int) + 4) (by omega) (by omega) (by have := H2.out; omega)
      have hcs := SeesB.cut hsee (4 * k) (4 * k + 4) (by omega) (by have := H2.out; omega)
      have hstr := SeesB.run_string hcs 31 9 5 Try.underlying31 Try.underlying5 Try.underlying9 wr (grownBy_refl _ _)
      have hcut' : ∀ w'' : World, (Instr.sliceAt 31 sv (some (.int .i64 (4 * (k : Int)))) (some (.int .i64 (4 * (k : Int) + 4))) none).run Try.prog w'' = .ok (cutV 1 sv (4 * k) (4 * k + 4)) w'' := by
        intro w''; have := hcut w''; rwa [show (4 * (k : Int)).toNat = 4 * k by omega, show (4 * (k : Int) + 4).toNat = 4 * k + 4 by omega] at this
      clear hcut T hsee hcs
      obtain ⟨cv, hcv⟩ : ∃ cv, cv = cutV 1 sv (4 * k) (4 * k + 4) := ⟨_, rfl⟩
      rw [← hcv] at hstr hcut'
      clear hcv
      have hfr := free_of_there T'.out.wt k (by omega)
      obtain ⟨u0, hu0⟩ := Option.isSome_iff_exists.1 (T'.out.wt k (by omega)).1
      rw [Nat.zero_add] at hfr hu0
      have hsz : 4 ≤ (⟨(List.drop (4 * k) (List.take (4 * k + 4) s)).toArray⟩ : ByteArray).size := by
        have := H2.out; show 4 ≤ (List.drop (4 * k) (List.take (4 * k + 4) s)).toArray.size; simp; omega
      have hsz' := Lib.hid hsz; clear hsz
      go_wp2_with (go_at_call 51; refine (getBig_any _ 4 _ hsz'.out (by omega)).mono ?_; rintro e w1 ⟨rfl, rfl⟩)
      go_roundw
      case rel =>
        refine ⟨k + 1, by omega, by go_num, ?_⟩
        rw [wl_step, nextW_low _ _ hlt]
        have := T'.out.pushW (wordAt s k) (by rw [wl_length]; omega)
        rw [wl_length] at this
        rw [wordAt] at this ⊢
        rw [show (List.drop (4 * k) (List.take (4 * k + 4) s)) = (s.drop (4 * k)).take 4 from by rw [List.drop_take, show 4 * k + 4 - 4 * k = 4 by omega], List.take_take, Nat.min_self]
        exact this
      case measure => simp [intOf]; omega
    · obtain rfl : k = 16 := by omega
      rw [show ((16 : Nat) : Int) = 16 from rfl]
      go_wp2_with fail
      go_loopw [11] (fun i wr => ∃ k : Nat, 16 ≤ k ∧ k ≤ 64 ∧ i = .int .i64 k ∧ TI w wr h b (wl s k)) (fun i _ => 64 - (intOf i).toNat)
      case atStart => exact ⟨16, by omega, by omega, rfl, T'.out⟩
      case round =>
        obtain ⟨k, hk16, hk, rfl, T⟩ := hrel
        have T2 := Lib.hid T; clear T
        by_cases hlt : k < 64
        · have g15 := vw_cell T2.out.ww (k - 15) (by rw [wl_length]; omega)
          have g2 := vw_cell T2.out.ww (k - 2) (by rw [wl_length]; omega)
          have g16 := vw_cell T2.out.ww (k - 16) (by rw [wl_length]; omega)
          have g7 := vw_cell T2.out.ww (k - 7) (by rw [wl_length]; omega)
          have hfr := free_of_there T2.out.wt k (by omega)
          obtain ⟨u0, hu0⟩ := Option.isSome_iff_exists.1 (T2.out.wt k (by omega)).1
          rw [Nat.zero_add] at g15 g2 g16 g7 hfr hu0
          obtain ⟨x15, e15⟩ : ∃ x, x = (wl s k).getD (k - 15) 0 := ⟨_, rfl⟩
          obtain ⟨x2, e2⟩ : ∃ x, x = (wl s k).getD (k - 2) 0 := ⟨_, rfl⟩
          obtain ⟨x16, e16⟩ : ∃ x, x = (wl s k).getD (k - 16) 0 := ⟨_, rfl⟩
          obtain ⟨x7, e7⟩ : ∃ x, x = (wl s k).getD (k - 7) 0 := ⟨_, rfl⟩
          rw [← e15] at g15; rw [← e2] at g2; rw [← e16] at g16; rw [← e7] at g7
          have hx : nextW s (wl s k) = x16 + sig0 x15 + x7 + sig1 x2 := by rw [nextW_high _ _ hk16, e15, e2, e16, e7]
          have Hx := Lib.hid hx; clear hx e15 e2 e16 e7
          go_wp2_with fail
          go_quiet (fail)
          go_wp2_with (go_at_call 52; refine (rot_k _ _ _ (by omega) (by omega)).mono ?_; rintro e w1 ⟨rfl, rfl⟩)
          go_region
          go_wp2
          go_roundw
          case rel =>
            refine ⟨k + 1, by omega, by omega, by go_num, ?_⟩
            rw [wl_step, Hx.out]
            have := (T2.out.drewN nq).pushW (x16 + sig0 x15 + x7 + sig1 x2) (by rw [wl_length]; omega)
            rw [wl_length] at this
            exact this.drewN 1
          case measure => simp [intOf]; omega
        · obtain rfl : k = 64 := by omega
          rw [show ((64 : Nat) : Int) = 64 from rfl]
          go_wp2_with fail
          go_loopw [81] (fun i wr => ∃ k : Nat, k ≤ 64 ∧ i = .int .i64 k ∧ TI w wr h (rndN b K (wl s 64) k) (wl s 64)) (fun i _ => 64 - (intOf i).toNat)
          case atStart => exact ⟨0, by omega, rfl, T2.out⟩
          case round =>
            obtain ⟨k, hk, rfl, T⟩ := hrel
            obtain ⟨st, est⟩ : ∃ st, st = rndN b K (wl s 64) k := ⟨_, rfl⟩
            rw [← est] at T
            have Hst := Lib.hid est; clear est
            have T3 := Lib.hid T; clear T
            by_cases hlt : k < 64
            · have hkk := rangeAt_of_block H0.out (T3.out.bel.block kb hkb)
              have gk := vw_cell hkk k (by rw [H3.out]; exact hlt)
              have gw := vw_cell T3.out.ww k (by rw [wl_length]; exact hlt)
              obtain ⟨xk, ek⟩ : ∃ x, x = K.getD k 0 := ⟨_, rfl⟩
              obtain ⟨xw, ew⟩ : ∃ x, x = (wl s 64).getD k 0 := ⟨_, rfl⟩
              rw [← ek] at gk; rw [← ew] at gw
              have Ek := Lib.hid ek; have Ew := Lib.hid ew; clear ek ew hkk
              have c0 := T3.out.bb 0 _ rfl
              have c1 := T3.out.bb 1 _ rfl
              have c2 := T3.out.bb 2 _ rfl
              have c3 := T3.out.bb 3 _ rfl
              have c4 := T3.out.bb 4 _ rfl
              have c5 := T3.out.bb 5 _ rfl
              have c6 := T3.out.bb 6 _ rfl
              have c7 := T3.out.bb 7 _ rfl
              simp only [Nat.zero_add, vw] at c0 c1 c2 c3 c4 c5 c6 c7 gw
              go_wp2_with fail
              go_quiet (fail)
              go_wp2_with fail
              go_quiet ((go_at_call 52; exact quiet_at (rot_k _ _ _ (by omega) (by omega))))
              go_wp2_with fail
              go_quiet ((go_at_call 52; exact quiet_at (rot_k _ _ _ (by omega) (by omega))))
              go_wp2_with ((with_reducible show wpList _ _ _ (Oper.mk none (Op.store 52 (.tmp 5) (.tmp 163)) _ _ _ _ :: _) _ _); go_must (refine wpList_putRow rfl 52 (.tmp 5) (.tmp 163) rfl (w.heap.size + 1) 0 _ rfl rfl (by exact there_of_heap (drewN_heap _ _) T3.out.bt) (by kernel_rfl) (by simp [Value.oneCell']) ?_))
              go_roundw
              case rel =>
                refine ⟨k + 1, by omega, by go_num, ?_⟩
                have e : rndN b K (wl s 64) (k + 1) = rnd st xk xw := by rw [Hst.out, Ek.out, Ew.out]; rfl
                rw [e]
                exact ((T3.out.drewN _).storeB (rnd st xk xw))
              case measure => simp [intOf]; omega
            · obtain rfl : k = 64 := by omega
              rw [show ((64 : Nat) : Int) = 64 from rfl]
              go_wp2_with fail
              go_loopw [165] (fun i wr => ∃ k : Nat, k ≤ 8 ∧ i = .int .i64 k ∧ TI w wr (h.mix st k) st (wl s 64)) (fun i _ => 8 - (intOf i).toNat)
              case atStart => exact ⟨0, by omega, rfl, T3.out⟩
              case round =>
                obtain ⟨k, hk, rfl, T⟩ := hrel
                have T4 := Lib.hid T; clear T
                by_cases hlt : k < 8
                · have gh := T4.out.hh
                  have gb := T4.out.bb
                  rw [St.cells_eq] at gh gb
                  have gh' := vw_cell gh k (by exact hlt)
                  have gb' := vw_cell gb k (by exact hlt)
                  obtain ⟨xh, eh⟩ : ∃ x, x = (h.mix st k).words.getD k 0 := ⟨_, rfl⟩
                  obtain ⟨xb, eb⟩ : ∃ x, x = st.words.getD k 0 := ⟨_, rfl⟩
                  rw [Nat.zero_add] at gh' gb'
                  rw [← eh] at gh'; rw [← eb] at gb'
                  have hst := St.mix_step h st k hlt
                  rw [← eh, ← eb] at hst
                  have Hmix := Lib.hid hst
                  have hfr := free_of_there T4.out.ht k (by omega)
                  rw [Nat.zero_add] at hfr
                  clear eh eb hst gh gb
                  go_wp2_with fail
                  go_region
                  go_wp2
                  go_roundw
                  case rel => exact ⟨k + 1, by omega, by go_num, (T4.out.drewN 1).storeH k hlt _ _ Hmix.out⟩
                  case measure => simp [intOf]; omega
                · obtain rfl : k = 8 := by omega
                  rw [show ((8 : Nat) : Int) = 8 from rfl]
                  go_wp2_with (first | ((with_reducible show wpList _ _ _ (Oper.mk _ (Op.load 52 (.tmp 4)) _ _ _ _ :: _) _ _); go_must (refine wpList_load_mid rfl 52 _ rfl w.heap.size 0 rfl _ _ T4.out.hh Try.underlying52 rfl (by kernel_rfl) ?_)) | ((with_reducible show wpList _ _ _ (Oper.mk none (Op.store 52 (.tmp 8) (.tmp 177)) _ _ _ _ :: _) _ _); go_must (refine wpList_putRow rfl 52 (.tmp 8) (.tmp 177) rfl (w.heap.size + 1 + 1) 0 (h.mix st 8).cells rfl rfl (by exact T4.out.rt) (by kernel_rfl) (by simp [Value.oneCell', St.cells, vw]) ?_)))
                  refine bodyPost_ret (results_row rfl _ _ (w.heap.size + 1 + 1) 0 (h.mix st 8).cells _ rfl (World.rangeAt_setCells_same _ _ _ _ (by exact T4.out.rt)) Try.underlying52 rfl (by kernel_rfl)) rfl ?_
                  rw [St.mix_all, Hst.out]
                  exact ⟨rfl, below_setCells (by omega) _ _ _ T4.out.bel⟩
end Go.Proofs.Ytolmejipggdodaa
