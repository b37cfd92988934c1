/- The walk of the reference's Read (layer 12). Conditions: lengths. -/
import Derived.Test.YtoaabclemeibhaaZd
import Derived.Test.YtoaabclemeibhaaVBatO
import Derived.Test.YtoaabclemeibhaaVInN
namespace Go
namespace TL
open Go.RowKit
theorem RS.text_err {x : RS} (h : x.err ≠ 0) (m : Nat) : x.text m = ([], x) := by
  have e : x.num m = (0, x) := by unfold RS.num; rw [if_neg h]
  unfold RS.text; rw [e, if_neg h]
def RdO (n0 : Nat) (x0 : InS) (k : Nat) (d : List Opr) (y : RS) : Prop :=
  (y.err = 0 → ∃ x : InS, Alike x y ∧ rdOps n0 x0 = (d ++ (rdOps (n0 - k) x).1, (rdOps (n0 - k) x).2)) ∧ (y.err ≠ 0 → (rdOps n0 x0).2.err = y.err)
section
variable {n0 k : Nat} {x0 : InS} {d : List Opr} {y y1 : RS}
theorem RdO.stop {d' : List Opr} {y' : RS} {k' : Nat} (he : y'.err ≠ 0) (h : (rdOps n0 x0).2.err = y'.err) : RdO n0 x0 k' d' y' := ⟨fun h0 => absurd h0 he, fun _ => h⟩
theorem RdO.byteErr {nb : Nat} (h : RdO n0 x0 k d y) (hy : y.err = 0) (hk : k < n0) (hb : y.byte = (nb, y1)) (he : y1.err ≠ 0) : (rdOps n0 x0).2.err = y1.err := by
  obtain ⟨x, ha, hr⟩ := h.1 hy
  have ab := ha.byte
  rw [hb] at ab
  rw [show n0 - k = (n0 - (k + 1)) + 1 by omega] at hr
  rw [rdO_err (x := x) (n := x.byte.1) (x1 := x.byte.2) rfl (by rw [ab.2.1]; exact he)] at hr
  rw [hr]; exact ab.2.1
theorem RdO.kindErr {q : UInt8} (h : RdO n0 x0 k d y) (hy : y.err = 0) (hk : k < n0) (hb : y.byte = (q.toNat, y1)) (he : y1.err = 0) (hq : ¬ (q = 1 ∨ q = 2)) : (rdOps n0 x0).2.err = 10 := by
  obtain ⟨x, ha, hr⟩ := h.1 hy
  have ab := ha.byte
  rw [hb] at ab
  rw [show n0 - k = (n0 - (k + 1)) + 1 by omega] at hr
  rw [rdO_kind (x := x) (q := q) (x1 := x.byte.2) (Prod.ext ab.1 rfl) (by rw [ab.2.1]; exact he) hq] at hr
  rw [hr]; rfl
theorem RdO.put (h : RdO n0 x0 k d y) (hy : y.err = 0) (hk : k < n0) (hb : y.byte = (UInt8.toNat 1, y1)) (he : y1.err = 0) : RdO n0 x0 (k + 1) (d ++ [(1, (y1.text 33).1, ((y1.text 33).2.text 32).1)]) ((y1.text 33).2.text 32).2 := by
  obtain ⟨x, ha, hr⟩ := h.1 hy
  have ab := ha.byte
  rw [hb] at ab
  rw [show n0 - k = (n0 - (k + 1)) + 1 by omega] at hr
  rw [rdO_put (x := x) (x1 := x.byte.2) (Prod.ext ab.1 rfl) (by rw [ab.2.1]; exact he)] at hr
  have a1 := ab.2.text 33
  have a2 := a1.2.text 32
  refine ⟨fun _ => ⟨_, a2.2, ?_⟩, fun hn => ?_⟩
  · rw [hr, a1.1, a2.1]; simp
  · rw [hr]; simp only
    rw [rdO_stop (by rw [a2.2.1]; exact hn), a2.2.1]
theorem RdO.del (h : RdO n0 x0 k d y) (hy : y.err = 0) (hk : k < n0) (hb : y.byte = (UInt8.toNat 2, y1)) (he : y1.err = 0) : RdO n0 x0 (k + 1) (d ++ [(2, (y1.text 33).1, [])]) (y1.text 33).2 := by
  obtain ⟨x, ha, hr⟩ := h.1 hy
  have ab := ha.byte
  rw [hb] at ab
  rw [show n0 - k = (n0 - (k + 1)) + 1 by omega] at hr
  rw [rdO_del (x := x) (x1 := x.byte.2) (Prod.ext ab.1 rfl) (by rw [ab.2.1]; exact he)] at hr
  have a1 := ab.2.text 33
  refine ⟨fun _ => ⟨_, a1.2, ?_⟩, fun hn => ?_⟩
  · rw [hr, a1.1]; simp
  · rw [hr]; simp only
    rw [rdO_stop (by rw [a1.2.1]; exact hn), a1.2.1]
end
theorem RS.byte_q (x : RS) : ∃ q : UInt8, x.byte.1 = q.toNat := by
  unfold RS.byte
  split
  · split
    · exact ⟨0, rfl⟩
    · rename_i b _ _; exact ⟨b, rfl⟩
  · exact ⟨0, rfl⟩
theorem RS.byte_zero {x : RS} (h : x.byte.2.err ≠ 0) : x.byte.1 = 0 := by
  unfold RS.byte at h ⊢
  split
  · rename_i h0
    rw [if_pos h0] at h
    split
    · rfl
    · rename_i b r e; rw [e] at h; simp at h
  · rfl
theorem RS.byte_len (x : RS) : x.byte.2.rest.length ≤ x.rest.length := by
  unfold RS.byte
  split
  · split
    · simp
    · rename_i b r e; rw [e]; simp
  · exact Nat.le_refl _
theorem nums_alike (s : List UInt8) : (nums3 s).1 = ((RS.mk s 0).num 4611686018427387904).1 ∧ (nums3 s).2.1 = (((RS.mk s 0).num 4611686018427387904).2.num 9223372036854775807).1 ∧
    (nums3 s).2.2.1 = ((((RS.mk s 0).num 4611686018427387904).2.num 9223372036854775807).2.num 4).1 ∧ Alike (nums3 s).2.2.2 ((((RS.mk s 0).num 4611686018427387904).2.num 9223372036854775807).2.num 4).2 := by
  have a0 : Alike ⟨s, 0, 0⟩ ⟨s, 0⟩ := ⟨rfl, fun _ => rfl⟩
  have a1 := a0.most 4611686018427387904
  have a2 := a1.2.most 9223372036854775807
  have a3 := a2.2.most 4
  exact ⟨a1.1, a2.1, a3.1, a3.2⟩
theorem most_stop {x : InS} {m : Nat} (h : (x.most m).2.err ≠ 0) : (x.most m).1 = 0 := by
  unfold InS.most at h ⊢
  split
  · rename_i h0
    rw [if_pos h0] at h
    rcases read_err x.rest m with e | e | e
    · unfold InS.take at h; rw [if_pos e] at h; simp at h
    · rw [e]
    · rw [e]
  · rfl
theorem RdO.first {n : Nat} {x0 : InS} {y : RS} (ha : Alike x0 y) : RdO n x0 0 [] y := by
  refine ⟨fun _ => ⟨x0, ha, by simp⟩, fun hn => ?_⟩
  rw [rdO_stop (by rw [ha.1]; exact hn), ha.1]
end TL
end Go
namespace Go.Proofs.Ytoaabclemeibhaa
open Go.RowKit Go.TL
set_option maxRecDepth 100000 in
set_option maxHeartbeats 16000000 in
theorem rRead_c (s : List UInt8) (w : World) (hs : s.length ≤ 1000000) :
    Calls Try.prog 29 #[.string (mkS s)] w (Gives 3 opV (readB s).1.2.2 (batR (readB s).1.1 (readB s).1.2.1 (readB s).2) w) := by
  have M := (Mem.start [] w).nil 3
  have RF := @readB_fin s
  have RB := @readB_bad s
  have RO := @readB_ok s
  obtain ⟨A, eA⟩ : ∃ A, A = readB s := ⟨_, rfl⟩
  rw [← eA] at RF RB RO ⊢
  clear eA
  obtain ⟨n1, n2, n3, n4⟩ := nums_alike s
  obtain ⟨⟨i, e, n0, x2⟩, e3⟩ : ∃ R, R = nums3 s := ⟨_, rfl⟩
  rw [← e3] at n1 n2 n3 n4
  simp only at n1 n2 n3 n4
  have T0 := fun g w h => InNum12_c g ⟨s, 0⟩ w h 4611686018427387904 4611686018427387904 rfl (by simp only; omega)
  have hi0 := RS.num_le ⟨s, 0⟩ 4611686018427387904
  have hl0 := RS.num_len ⟨s, 0⟩ 4611686018427387904
  obtain ⟨⟨i', y0⟩, e0⟩ : ∃ R, R = (RS.mk s 0).num 4611686018427387904 := ⟨_, rfl⟩
  rw [← e0] at n1 n2 n3 n4 T0 hi0 hl0
  simp only at n1 n2 n3 n4 T0 hi0 hl0
  subst n1
  clear e0
  have T1 := fun g w h => InNum12_c g y0 w h 9223372036854775807 9223372036854775807 rfl (by omega)
  have hi1 := RS.num_le y0 9223372036854775807
  have hl1 := RS.num_len y0 9223372036854775807
  obtain ⟨⟨e', y1⟩, e1⟩ : ∃ R, R = y0.num 9223372036854775807 := ⟨_, rfl⟩
  rw [← e1] at n2 n3 n4 T1 hi1 hl1
  simp only at n2 n3 n4 T1 hi1 hl1
  subst n2
  clear e1
  have T2 := fun g w h => InNum12_c g y1 w h 4 4 rfl (by omega)
  have hi2 := RS.num_le y1 4
  have hl2 := RS.num_len y1 4
  obtain ⟨⟨n', y2⟩, e2⟩ : ∃ R, R = y1.num 4 := ⟨_, rfl⟩
  rw [← e2] at n3 n4 T2 hi2 hl2
  simp only at n3 n4 T2 hi2 hl2
  subst n3
  clear e2
  have FI := RdO.first (n := n0) n4
  replace RF := fun d x => @RF i e n0 x2 x d e3.symm
  replace RB := fun d x r => @RB i e n0 x2 x d r e3.symm
  replace RO := fun d x => @RO i e n0 x2 x d e3.symm
  replace RF := Lib.hid RF
  replace RB := Lib.hid RB
  replace RO := Lib.hid RO
  replace T0 := Lib.hid T0
  replace T1 := Lib.hid T1
  replace T2 := Lib.hid T2
  replace FI := Lib.hid FI
  clear e3 n4
  go_enter Try.func29, Try.ntmps29
  go_wp2_with ((first | ((with_reducible refine tAlloc (some 2) 25 ?_); refine w_alloc M _ rfl rfl (.agg #[.int .i64 0, .int .i64 0, .slice none 0 0]) ([.int .i64 0, .int .i64 0, .slice none 0 0]) (by kernel_rfl) rfl ?_; clear M; intro gr w1 M) | ((with_reducible refine tAlloc (some 5) 25 ?_); refine w_alloc M _ rfl rfl (.agg #[.int .i64 0, .int .i64 0, .slice none 0 0]) ([.int .i64 0, .int .i64 0, .slice none 0 0]) (by kernel_rfl) rfl ?_; clear M; intro gb w1 M) | ((with_reducible refine tBox (some 11) ?_); refine w_box M _ _ rfl rfl _ rfl (irV ⟨s, 0⟩) rfl ?_; clear M; intro gi w1 M) | (go_at_call 58; go_must ((first | (with_reducible refine (T0.out gi _ (M.ok 1 _ rfl)).mono ?_) | (with_reducible refine (T1.out gi _ (M.ok 1 _ rfl)).mono ?_) | (with_reducible refine (T2.out gi _ (M.ok 1 _ rfl)).mono ?_)); rintro e w1 ⟨rfl, U⟩; replace M := M.upd 1 rfl U; clear U; simp only [List.set_cons_zero, List.set_cons_succ] at M)) | ((with_reducible refine tGuard ?_); refine w_strip rfl (by with_reducible rfl) ?_) | fail | ((with_reducible refine tLoad ?_); go_must (refine w_at _ _ rfl (by exact ev_tmp rfl) ?_; intro hx; (first | refine w_load M _ _ _ rfl (by first | exact at0 | exact at1) hx rfl (by decide +kernel) (by exact rfl) ?_ | refine w_loadR M _ _ _ rfl (by first | exact at0 | exact at1) hx rfl (by decide +kernel) (by kernel_rfl) ?_); clear hx)) | ((with_reducible refine tStore ?_); go_must (refine w_at2 _ _ _ rfl (by exact ev_tmp rfl) (by first | exact ev_tmp rfl | exact ev_const) ?_; intro hx hy; (first | refine w_store M _ _ _ _ rfl (by first | exact at0 | exact at1) hx rfl hy rfl rfl (by decide +kernel) (by first | decide | simp | (simp; omega)) ?_ | refine w_storeR M _ _ _ _ rfl (by first | exact at0 | exact at1) hx rfl _ hy rfl (by kernel_rfl) (by simp [Value.oneCell']) (by first | rfl | assumption) ?_); clear hx hy M; intro w1 M; (try simp only [setC] at M))) | ((with_reducible refine tBox _ ?_); (refine w_box M _ _ rfl rfl _ rfl _ rfl ?_; clear M; intro g w1 M))) <;> (try conv => arg 5; simp only [Act.put, List.setIfInBounds_toArray, setC]))
  clear T0 T1 T2
  go_loopw [7] (fun kv wr => ∃ (k : Nat) (d : List Opr) (y : RS) (q : Option Addr) (c : Nat), kv = .int .u64 k ∧ k ≤ n0 ∧ d.length ≤ 4 ∧ y.rest.length ≤ s.length ∧ Hid (RdO n0 x2 k d y ∧ (∀ z ∈ d, z.2.1.length ≤ 33 ∧ z.2.2.length ≤ 32) ∧ d.length = k) ∧ Mem [] w wr [.row gb [.int .i64 i, .int .i64 e, .slice q d.length c], .row gi (irV y), .row gr [.int .i64 0, .int .i64 0, .slice none 0 0], .sl 3 (.slice q d.length c) d.length (d.flatMap opV)]) (fun kv _ => n0 - (intOf kv).toNat)
  case atStart => exact ⟨0, [], y2, none, 0, rfl, by omega, by simp, by omega, Lib.hid ⟨FI.out, by simp, rfl⟩, M⟩
  case round =>
    clear M
    obtain ⟨k, d, ⟨r, er⟩, q, c, rfl, hk, hdk, hr, HI, M⟩ := hrel
    simp only at hr
    clear hl0 hl1 hl2
    have M : Mem [] w wr [.row gb [.int .i64 i, .int .i64 e, .slice q d.length c], .row gi [.string (mkS r), .int .i64 (er : Nat)], .row gr [.int .i64 0, .int .i64 0, .slice none 0 0], .sl 3 (.slice q d.length c) d.length (d.flatMap opV)] := M
    by_cases he : er = 0
    · subst he
      by_cases hlt : k < n0
      · have hlt' : (k : Int) < (n0 : Int) := by omega
        have B := fun g w h => InByte12_c g ⟨r, 0⟩ w h (by simp only; omega)
        have HE := fun nb y1 => @RdO.byteErr n0 k x2 d ⟨r, 0⟩ y1 nb HI.out.1 rfl hlt
        have HQ := fun qk y1 => @RdO.kindErr n0 k x2 d ⟨r, 0⟩ y1 qk HI.out.1 rfl hlt
        have HP := fun y1 => @RdO.put n0 k x2 d ⟨r, 0⟩ y1 HI.out.1 rfl hlt
        have HD := fun y1 => @RdO.del n0 k x2 d ⟨r, 0⟩ y1 HI.out.1 rfl hlt
        have hbl := RS.byte_len ⟨r, 0⟩
        have hbz := @RS.byte_zero ⟨r, 0⟩
        obtain ⟨ki, hki⟩ := RS.byte_q ⟨r, 0⟩
        obtain ⟨⟨nb, y1⟩, eb⟩ : ∃ R, R = (RS.mk r 0).byte := ⟨_, rfl⟩
        rw [← eb] at B hbl hbz hki HP HD
        simp only at B hbl hbz hki
        subst hki
        replace HE := HE _ _ eb.symm
        replace HQ := HQ _ _ eb.symm
        replace HP := fun (h1 : ki = 1) => HP y1 (by rw [h1])
        replace HD := fun (h2 : ki = 2) => HD y1 (by rw [h2])
        clear eb
        obtain ⟨r1, e1⟩ := y1
        simp only at hbl
        by_cases h1 : e1 = 0
        · subst h1
          replace HQ := HQ rfl
          replace HP := fun h => HP h rfl
          replace HD := fun h => HD h rfl
          clear HE hbz
          by_cases hq : ki = 1 ∨ ki = 2
          · clear HQ
            have hp : ((RS.mk r1 0).text 33).1.length ≤ 33 := by have := InS.text_len ⟨r1, 0, 0⟩ 33; rwa [((show TL.Alike ⟨r1, 0, 0⟩ ⟨r1, 0⟩ from ⟨rfl, fun _ => rfl⟩).text 33).1] at this
            have hl1 := RS.text_len ⟨r1, 0⟩ 33
            have T1 := fun g w h => InText12_c g ⟨r1, 0⟩ w h 33 33 rfl (by simp only; omega)
            obtain ⟨⟨pa, y3⟩, e3⟩ : ∃ R, R = (RS.mk r1 0).text 33 := ⟨_, rfl⟩
            rw [← e3] at HP HD hp hl1 T1
            simp only at HP HD hp hl1 T1
            replace T1 := Lib.hid T1
            clear e3
            by_cases h1 : ki = 1
            · replace HP := HP h1
              clear HD hq
              subst h1
              rw [show (((UInt8.toNat 1 : Nat)) : Int) = 1 from rfl] at B
              have hv : (y3.text 32).1.length ≤ 32 := by
                have a : TL.Alike ⟨y3.rest, 0, y3.err⟩ y3 := ⟨rfl, fun _ => rfl⟩
                have := InS.text_len ⟨y3.rest, 0, y3.err⟩ 32; rwa [(a.text 32).1] at this
              have hl2 := RS.text_len y3 32
              have T2 := fun g w h => InText12_c g y3 w h 32 32 rfl (by omega)
              obtain ⟨⟨va, y4⟩, e4⟩ : ∃ R, R = y3.text 32 := ⟨_, rfl⟩
              rw [← e4] at HP hv hl2 T2
              simp only at HP hv hl2 T2
              replace T2 := Lib.hid T2
              replace HP := Lib.hid HP
              replace B := Lib.hid B
              clear e4
              go_wp2_with ((first | ((with_reducible refine tGuard ?_); (with_reducible refine w_stripE ?_ ?_); (focus (refine ⟨_, rfl, ?_⟩; first | (with_reducible rfl) | exact decide_eq_false (by omega) | exact decide_eq_true (by omega)))) | ((with_reducible refine tGuard ?_); first | ((with_reducible refine w_skip1 ?_ ?_); (focus (refine ⟨_, rfl, ?_⟩; first | (with_reducible rfl) | exact decide_eq_false (by omega) | exact decide_eq_true (by omega)))) | ((with_reducible refine w_skip0 ?_ ?_); (focus (refine ⟨_, rfl, ?_⟩; first | (with_reducible rfl) | exact decide_eq_false (by omega) | exact decide_eq_true (by omega))))) | (go_at_call 59; go_must (refine (B.out _ _ (M.ok 2 _ rfl)).mono ?_; rintro e w1 ⟨rfl, U⟩; replace M := M.upd 2 rfl U; clear U; simp only [List.set_cons_zero, List.set_cons_succ] at M)) | (go_at_call 60; go_must ((first | (with_reducible refine (T1.out _ _ (M.ok 2 _ rfl)).mono ?_) | (with_reducible refine (T2.out _ _ (M.ok 2 _ rfl)).mono ?_)); rintro e w1 ⟨rfl, U⟩; replace M := M.upd 2 rfl U; clear U; simp only [List.set_cons_zero, List.set_cons_succ] at M)) | ((with_reducible refine tAlloc (some 8) 75 ?_); refine w_alloc M _ rfl rfl (.agg #[.int .u8 0, .string (mkS []), .string (mkS [])]) ([.int .u8 0, .string (mkS []), .string (mkS [])]) (by kernel_rfl) rfl ?_; clear M; intro gp w1 M) | ((with_reducible show wpList _ _ _ (Oper.mk _ (Op.buildSlice _ 1 _) _ _ _ _ :: _) _ _); go_must (refine w_buildSlice1 M opT (by decide) _ rfl rfl (by first | exact ev_tmp rfl | exact ev_const) _ rfl rfl ?_; clear M; intro g w1 M)) | ((with_reducible refine tApp ?_); go_must (refine w_append_new M 4 opT _ _ rfl rfl rfl rfl rfl rfl (by first | decide | (intro q hq; simp at hq; subst hq; rfl) | (intro q hq; simp at hq; rcases hq with rfl | rfl; rfl; rfl) | (intro q hq; simp at hq; rcases hq with rfl | rfl | rfl <;> rfl)) (by decide) (by first | (simp only [maxLen]; omega) | (simp [maxLen]; omega)) (by first | omega | (simp; omega)) ?_; clear M; intro q cap w1 M; (try simp only [setC] at M))) | ((with_reducible refine tGuard ?_); refine w_strip rfl (by with_reducible rfl) ?_) | fail | ((with_reducible refine tLoad ?_); go_must (refine w_at _ _ rfl (by exact ev_tmp rfl) ?_; intro hx; (first | refine w_load M _ _ _ rfl (by first | exact at0 | exact at1 | exact at2 | exact at3) hx rfl (by decide +kernel) (by exact rfl) ?_ | refine w_loadR M _ _ _ rfl (by first | exact at0 | exact at1 | exact at2 | exact at3) hx rfl (by decide +kernel) (by kernel_rfl) ?_); clear hx)) | ((with_reducible refine tStore ?_); go_must (refine w_at2 _ _ _ rfl (by exact ev_tmp rfl) (by first | exact ev_tmp rfl | exact ev_const) ?_; intro hx hy; (first | refine w_store M _ _ _ _ rfl (by first | exact at0 | exact at1 | exact at2 | exact at3) hx rfl hy rfl rfl (by decide +kernel) (by first | decide | simp | (simp; omega)) ?_ | refine w_storeR M _ _ _ _ rfl (by first | exact at0 | exact at1 | exact at2 | exact at3) hx rfl _ hy rfl (by kernel_rfl) (by simp [Value.oneCell']) (by first | rfl | assumption) ?_); clear hx hy M; intro w1 M; (try simp only [setC] at M))) | ((with_reducible refine tBox _ ?_); (refine w_box M _ _ rfl rfl _ rfl _ rfl ?_; clear M; intro g w1 M))) <;> (try conv => arg 5; simp only [Act.put, List.setIfInBounds_toArray, setC]))
              have e9 := I64_succ k (by omega)
              go_roundw
              case rel => exact ⟨k + 1, d ++ [(1, pa, va)], y4, q, cap, by rw [← e9], by omega, by have := HI.out.2.2; simp; omega, by omega, Lib.hid ⟨HP.out, fun z hz => by
                rcases List.mem_append.1 hz with hz | hz
                · exact HI.out.2.1 z hz
                · obtain rfl : z = (1, pa, va) := by simpa using hz
                  exact ⟨hp, hv⟩, by have := HI.out.2.2; simp; omega⟩, by simpa [opV, irV, show I8 0 = 0 from rfl, show I8 1 = 1 from rfl, show I8 2 = 2 from rfl] using M.tail⟩
              case measure =>
                rw [e9]; simp only [intOf]; omega
            · have h2 : ki = 2 := hq.resolve_left h1
              replace HD := HD h2
              clear HP hq h1
              subst h2
              rw [show (((UInt8.toNat 2 : Nat)) : Int) = 2 from rfl] at B
              replace HD := Lib.hid HD
              replace B := Lib.hid B
              go_wp2_with ((first | ((with_reducible refine tGuard ?_); (with_reducible refine w_stripE ?_ ?_); (focus (refine ⟨_, rfl, ?_⟩; first | (with_reducible rfl) | exact decide_eq_false (by omega) | exact decide_eq_true (by omega)))) | ((with_reducible refine tGuard ?_); first | ((with_reducible refine w_skip1 ?_ ?_); (focus (refine ⟨_, rfl, ?_⟩; first | (with_reducible rfl) | exact decide_eq_false (by omega) | exact decide_eq_true (by omega)))) | ((with_reducible refine w_skip0 ?_ ?_); (focus (refine ⟨_, rfl, ?_⟩; first | (with_reducible rfl) | exact decide_eq_false (by omega) | exact decide_eq_true (by omega))))) | (go_at_call 59; go_must (refine (B.out _ _ (M.ok 2 _ rfl)).mono ?_; rintro e w1 ⟨rfl, U⟩; replace M := M.upd 2 rfl U; clear U; simp only [List.set_cons_zero, List.set_cons_succ] at M)) | (go_at_call 60; go_must ((first | (with_reducible refine (T1.out _ _ (M.ok 2 _ rfl)).mono ?_)); rintro e w1 ⟨rfl, U⟩; replace M := M.upd 2 rfl U; clear U; simp only [List.set_cons_zero, List.set_cons_succ] at M)) | ((with_reducible refine tAlloc (some 8) 75 ?_); refine w_alloc M _ rfl rfl (.agg #[.int .u8 0, .string (mkS []), .string (mkS [])]) ([.int .u8 0, .string (mkS []), .string (mkS [])]) (by kernel_rfl) rfl ?_; clear M; intro gp w1 M) | ((with_reducible show wpList _ _ _ (Oper.mk _ (Op.buildSlice _ 1 _) _ _ _ _ :: _) _ _); go_must (refine w_buildSlice1 M opT (by decide) _ rfl rfl (by first | exact ev_tmp rfl | exact ev_const) _ rfl rfl ?_; clear M; intro g w1 M)) | ((with_reducible refine tApp ?_); go_must (refine w_append_new M 4 opT _ _ rfl rfl rfl rfl rfl rfl (by first | decide | (intro q hq; simp at hq; subst hq; rfl) | (intro q hq; simp at hq; rcases hq with rfl | rfl; rfl; rfl) | (intro q hq; simp at hq; rcases hq with rfl | rfl | rfl <;> rfl)) (by decide) (by first | (simp only [maxLen]; omega) | (simp [maxLen]; omega)) (by first | omega | (simp; omega)) ?_; clear M; intro q cap w1 M; (try simp only [setC] at M))) | ((with_reducible refine tGuard ?_); refine w_strip rfl (by with_reducible rfl) ?_) | fail | ((with_reducible refine tLoad ?_); go_must (refine w_at _ _ rfl (by exact ev_tmp rfl) ?_; intro hx; (first | refine w_load M _ _ _ rfl (by first | exact at0 | exact at1 | exact at2 | exact at3) hx rfl (by decide +kernel) (by exact rfl) ?_ | refine w_loadR M _ _ _ rfl (by first | exact at0 | exact at1 | exact at2 | exact at3) hx rfl (by decide +kernel) (by kernel_rfl) ?_); clear hx)) | ((with_reducible refine tStore ?_); go_must (refine w_at2 _ _ _ rfl (by exact ev_tmp rfl) (by first | exact ev_tmp rfl | exact ev_const) ?_; intro hx hy; (first | refine w_store M _ _ _ _ rfl (by first | exact at0 | exact at1 | exact at2 | exact at3) hx rfl hy rfl rfl (by decide +kernel) (by first | decide | simp | (simp; omega)) ?_ | refine w_storeR M _ _ _ _ rfl (by first | exact at0 | exact at1 | exact at2 | exact at3) hx rfl _ hy rfl (by kernel_rfl) (by simp [Value.oneCell']) (by first | rfl | assumption) ?_); clear hx hy M; intro w1 M; (try simp only [setC] at M))) | ((with_reducible refine tBox _ ?_); (refine w_box M _ _ rfl rfl _ rfl _ rfl ?_; clear M; intro g w1 M))) <;> (try conv => arg 5; simp only [Act.put, List.setIfInBounds_toArray, setC]))
              have e9 := I64_succ k (by omega)
              go_roundw
              case rel => exact ⟨k + 1, d ++ [(2, pa, [])], y3, q, cap, by rw [← e9], by omega, by have := HI.out.2.2; simp; omega, by omega, Lib.hid ⟨HD.out, fun z hz => by
                rcases List.mem_append.1 hz with hz | hz
                · exact HI.out.2.1 z hz
                · obtain rfl : z = (2, pa, []) := by simpa using hz
                  exact ⟨hp, by simp⟩, by have := HI.out.2.2; simp; omega⟩, by simpa [opV, irV, show I8 0 = 0 from rfl, show I8 1 = 1 from rfl, show I8 2 = 2 from rfl] using M.tail⟩
              case measure =>
                rw [e9]; simp only [intOf]; omega
          · have HQ := Lib.hid (HQ hq)
            simp only [← I8_eq] at B
            replace B := Lib.hid B
            obtain ⟨h1, h1'⟩ := I8_ne (q := ki) (c := 1) (fun h => hq (.inl h))
            obtain ⟨h2, h2'⟩ := I8_ne (q := ki) (c := 2) (fun h => hq (.inr h))
            rw [show I8 1 = 1 from rfl] at h1 h1'
            rw [show I8 2 = 2 from rfl] at h2 h2'
            have T1 := fun g w h => InText12_c g ⟨r1, 10⟩ w h 33 33 rfl (by simp only; omega)
            rw [RS.text_err (x := ⟨r1, 10⟩) (by simp)] at T1
            simp only at T1
            replace T1 := Lib.hid T1
            clear hq HP HD
            go_wp2_with ((first | ((with_reducible refine tGuard ?_); (with_reducible refine w_stripE ?_ ?_); (focus (refine ⟨_, rfl, ?_⟩; first | (with_reducible rfl) | exact decide_eq_false (by omega) | exact decide_eq_true (by omega)))) | ((with_reducible refine tGuard ?_); first | ((with_reducible refine w_skip1 ?_ ?_); (focus (refine ⟨_, rfl, ?_⟩; first | (with_reducible rfl) | exact decide_eq_false (by omega) | exact decide_eq_true (by omega)))) | ((with_reducible refine w_skip0 ?_ ?_); (focus (refine ⟨_, rfl, ?_⟩; first | (with_reducible rfl) | exact decide_eq_false (by omega) | exact decide_eq_true (by omega))))) | (go_at_call 59; go_must (refine (B.out _ _ (M.ok 2 _ rfl)).mono ?_; rintro e w1 ⟨rfl, U⟩; replace M := M.upd 2 rfl U; clear U; simp only [List.set_cons_zero, List.set_cons_succ, irV] at M)) | (go_at_call 60; go_must ((refine (T1.out _ _ (M.ok 2 _ rfl)).mono ?_); rintro e w1 ⟨rfl, U⟩; replace M := M.upd 2 rfl U; clear U; simp only [List.set_cons_zero, List.set_cons_succ, irV] at M)) | ((with_reducible refine tAlloc (some 8) 75 ?_); refine w_alloc M _ rfl rfl (.agg #[.int .u8 0, .string (mkS []), .string (mkS [])]) ([.int .u8 0, .string (mkS []), .string (mkS [])]) (by kernel_rfl) rfl ?_; clear M; intro gp w1 M) | ((with_reducible show wpList _ _ _ (Oper.mk _ (Op.buildSlice _ 1 _) _ _ _ _ :: _) _ _); go_must (refine w_buildSlice1 M opT (by decide) _ rfl rfl (by first | exact ev_tmp rfl | exact ev_const) _ rfl rfl ?_; clear M; intro g w1 M)) | ((with_reducible refine tApp ?_); go_must (refine w_append_new M 4 opT _ _ rfl rfl rfl rfl rfl rfl (by first | decide | (intro q hq; simp at hq; subst hq; rfl) | (intro q hq; simp at hq; rcases hq with rfl | rfl; rfl; rfl) | (intro q hq; simp at hq; rcases hq with rfl | rfl | rfl <;> rfl)) (by decide) (by first | (simp only [maxLen]; omega) | (simp [maxLen]; omega)) (by first | omega | (simp; omega)) ?_; clear M; intro q cap w1 M; (try simp only [setC] at M))) | ((with_reducible refine tGuard ?_); refine w_strip rfl (by with_reducible rfl) ?_) | fail | ((with_reducible refine tLoad ?_); go_must (refine w_at _ _ rfl (by exact ev_tmp rfl) ?_; intro hx; (first | refine w_load M _ _ _ rfl (by first | exact at0 | exact at1 | exact at2 | exact at3) hx rfl (by decide +kernel) (by exact rfl) ?_ | refine w_loadR M _ _ _ rfl (by first | exact at0 | exact at1 | exact at2 | exact at3) hx rfl (by decide +kernel) (by kernel_rfl) ?_); clear hx)) | ((with_reducible refine tStore ?_); go_must (refine w_at2 _ _ _ rfl (by exact ev_tmp rfl) (by first | exact ev_tmp rfl | exact ev_const) ?_; intro hx hy; (first | refine w_store M _ _ _ _ rfl (by first | exact at0 | exact at1 | exact at2 | exact at3) hx rfl hy rfl rfl (by decide +kernel) (by first | decide | simp | (simp; omega)) ?_ | refine w_storeR M _ _ _ _ rfl (by first | exact at0 | exact at1 | exact at2 | exact at3) hx rfl _ hy rfl (by kernel_rfl) (by simp [Value.oneCell']) (by first | rfl | assumption) ?_); clear hx hy M; intro w1 M; (try simp only [setC] at M))) | ((with_reducible refine tBox _ ?_); (refine w_box M _ _ rfl rfl _ rfl _ rfl ?_; clear M; intro g w1 M))) <;> (try conv => arg 5; simp only [Act.put, List.setIfInBounds_toArray, setC]))
            have e9 := I64_succ k (by omega)
            go_roundw
            case rel => exact ⟨k + 1, d ++ [(ki, [], [])], ⟨r1, 10⟩, q, cap, by rw [← e9], by omega, by have := HI.out.2.2; simp; omega, by simp only; omega, Lib.hid ⟨RdO.stop (by simp) HQ.out, fun z hz => by
              rcases List.mem_append.1 hz with hz | hz
              · exact HI.out.2.1 z hz
              · obtain rfl : z = (ki, [], []) := by simpa using hz
                exact ⟨by simp, by simp⟩, by have := HI.out.2.2; simp; omega⟩, by simpa [opV, irV, show I8 0 = 0 from rfl, show I8 1 = 1 from rfl, show I8 2 = 2 from rfl] using M.tail⟩
            case measure =>
              rw [e9]; simp only [intOf]; omega
        · have HQ := Lib.hid (HE h1)
          have hz0 := hbz h1
          rw [hz0] at B
          replace B := Lib.hid B
          have T1 := fun g w h => InText12_c g ⟨r1, e1⟩ w h 33 33 rfl (by simp only; omega)
          rw [RS.text_err (x := ⟨r1, e1⟩) h1] at T1
          simp only at T1
          replace T1 := Lib.hid T1
          have H1 := Lib.hid h1
          have hz : ((e1 : Int) == 0) = false := by simp; exact h1
          have hz' : ((e1 : Int) != 0) = true := by simp; exact h1
          clear HE HP HD hbz hz0 h1
          go_wp2_with ((first | ((with_reducible refine tGuard ?_); (with_reducible refine w_stripE ?_ ?_); (focus (refine ⟨_, rfl, ?_⟩; first | (with_reducible rfl) | exact decide_eq_false (by omega) | exact decide_eq_true (by omega)))) | ((with_reducible refine tGuard ?_); first | ((with_reducible refine w_skip1 ?_ ?_); (focus (refine ⟨_, rfl, ?_⟩; first | (with_reducible rfl) | exact decide_eq_false (by omega) | exact decide_eq_true (by omega)))) | ((with_reducible refine w_skip0 ?_ ?_); (focus (refine ⟨_, rfl, ?_⟩; first | (with_reducible rfl) | exact decide_eq_false (by omega) | exact decide_eq_true (by omega))))) | (go_at_call 59; go_must (refine (B.out _ _ (M.ok 2 _ rfl)).mono ?_; rintro e w1 ⟨rfl, U⟩; replace M := M.upd 2 rfl U; clear U; simp only [List.set_cons_zero, List.set_cons_succ] at M)) | (go_at_call 60; go_must ((first | (with_reducible refine (T1.out _ _ (M.ok 2 _ rfl)).mono ?_)); rintro e w1 ⟨rfl, U⟩; replace M := M.upd 2 rfl U; clear U; simp only [List.set_cons_zero, List.set_cons_succ] at M)) | ((with_reducible refine tAlloc (some 8) 75 ?_); refine w_alloc M _ rfl rfl (.agg #[.int .u8 0, .string (mkS []), .string (mkS [])]) ([.int .u8 0, .string (mkS []), .string (mkS [])]) (by kernel_rfl) rfl ?_; clear M; intro gp w1 M) | ((with_reducible show wpList _ _ _ (Oper.mk _ (Op.buildSlice _ 1 _) _ _ _ _ :: _) _ _); go_must (refine w_buildSlice1 M opT (by decide) _ rfl rfl (by first | exact ev_tmp rfl | exact ev_const) _ rfl rfl ?_; clear M; intro g w1 M)) | ((with_reducible refine tApp ?_); go_must (refine w_append_new M 4 opT _ _ rfl rfl rfl rfl rfl rfl (by first | decide | (intro q hq; simp at hq; subst hq; rfl) | (intro q hq; simp at hq; rcases hq with rfl | rfl; rfl; rfl) | (intro q hq; simp at hq; rcases hq with rfl | rfl | rfl <;> rfl)) (by decide) (by first | (simp only [maxLen]; omega) | (simp [maxLen]; omega)) (by first | omega | (simp; omega)) ?_; clear M; intro q cap w1 M; (try simp only [setC] at M))) | ((with_reducible refine tGuard ?_); refine w_strip rfl (by with_reducible rfl) ?_) | fail | ((with_reducible refine tLoad ?_); go_must (refine w_at _ _ rfl (by exact ev_tmp rfl) ?_; intro hx; (first | refine w_load M _ _ _ rfl (by first | exact at0 | exact at1 | exact at2 | exact at3) hx rfl (by decide +kernel) (by exact rfl) ?_ | refine w_loadR M _ _ _ rfl (by first | exact at0 | exact at1 | exact at2 | exact at3) hx rfl (by decide +kernel) (by kernel_rfl) ?_); clear hx)) | ((with_reducible refine tStore ?_); go_must (refine w_at2 _ _ _ rfl (by exact ev_tmp rfl) (by first | exact ev_tmp rfl | exact ev_const) ?_; intro hx hy; (first | refine w_store M _ _ _ _ rfl (by first | exact at0 | exact at1 | exact at2 | exact at3) hx rfl hy rfl rfl (by decide +kernel) (by first | decide | simp | (simp; omega)) ?_ | refine w_storeR M _ _ _ _ rfl (by first | exact at0 | exact at1 | exact at2 | exact at3) hx rfl _ hy rfl (by kernel_rfl) (by simp [Value.oneCell']) (by first | rfl | assumption) ?_); clear hx hy M; intro w1 M; (try simp only [setC] at M))) | ((with_reducible refine tBox _ ?_); (refine w_box M _ _ rfl rfl _ rfl _ rfl ?_; clear M; intro g w1 M))) <;> (try conv => arg 5; simp only [Act.put, List.setIfInBounds_toArray, setC]))
          have e9 := I64_succ k (by omega)
          go_roundw
          case rel => exact ⟨k + 1, d ++ [(0, [], [])], ⟨r1, e1⟩, q, cap, by rw [← e9], by omega, by have := HI.out.2.2; simp; omega, by simp only; omega, Lib.hid ⟨RdO.stop H1.out HQ.out, fun z hz => by
            rcases List.mem_append.1 hz with hz | hz
            · exact HI.out.2.1 z hz
            · obtain rfl : z = (0, [], []) := by simpa using hz
              exact ⟨by simp, by simp⟩, by have := HI.out.2.2; simp; omega⟩, by simpa [opV, irV, show I8 0 = 0 from rfl, show I8 1 = 1 from rfl, show I8 2 = 2 from rfl] using M.tail⟩
          case measure =>
            rw [e9]; simp only [intOf]; omega
      · have hlt' : (n0 : Int) ≤ (k : Int) := by omega
        obtain ⟨x, ha, hR⟩ := HI.out.1.1 rfl
        rw [show n0 - k = 0 by omega, rdO_zero, List.append_nil] at hR
        have hx0 : x.err = 0 := ha.1
        have hxr : x.rest = r := ha.2 hx0
        have hm := HI.out.2.1
        have RA := RF.out d x hR
        have RC := RB.out d x
        have RD := RO.out d x hR
        replace RC := fun r => RC r hR
        clear hR hlt
        cases r with
        | cons b t =>
          have hfin : x.fin = 8 := by unfold InS.fin; rw [if_pos hx0, hxr, if_neg (by simp)]
          have e0 : A = ((0, 0, []), 8) := by rw [RA (by rw [hfin]; decide), hfin]
          subst e0
          clear RA RC RD hx0 hxr hfin ha hm
          go_wp2_with ((first | ((with_reducible refine tGuard ?_); (with_reducible refine w_stripE ?_ ?_); (focus (refine ⟨_, rfl, ?_⟩; first | (with_reducible rfl) | exact decide_eq_false (by omega) | exact decide_eq_true (by omega)))) | ((with_reducible refine tGuard ?_); first | ((with_reducible refine w_skip1 ?_ ?_); (focus (refine ⟨_, rfl, ?_⟩; first | (with_reducible rfl) | exact decide_eq_false (by omega) | exact decide_eq_true (by omega)))) | ((with_reducible refine w_skip0 ?_ ?_); (focus (refine ⟨_, rfl, ?_⟩; first | (with_reducible rfl) | exact decide_eq_false (by omega) | exact decide_eq_true (by omega))))) | ((with_reducible show Code.wp _ (Code.region 22 _ _) _ _ _); go_must (have MR := M; refine region_lowc [(1, false), (2, false), (3, false), (4, false), (0, true), (5, true), (6, false)] [(101, .ptr)] [(4, _)] (IxOk MR [1]) 7 (by kernel_rfl) (by kernel_rfl) rfl (by kernel_rfl) (lows_cons (by first | exact stab_ix MR 1 1 rfl rfl (by decide) (by decide +kernel) rfl | exact stab_ixB MR 1 1 rfl rfl (by decide) (by decide +kernel) (by first | assumption | omega) | exact stab_ix32 MR 1 1 rfl rfl (by decide) (by decide +kernel) (by first | assumption | omega | (simp; omega)) | exact stab_ixH MR 1 rfl rfl (by decide) (by decide +kernel) (by first | assumption | exact lenI | exact lenS ‹_› | rfl) (by decide +kernel) | exact stab_ixW32 MR 1 rfl rfl (by decide) (by decide +kernel) (by first | assumption | exact lenI | exact lenS ‹_› | rfl) (by decide +kernel) | exact stab_ixR MR 1 rfl rfl (by decide) (by decide +kernel) (by kernel_rfl) | exact stab_ixW MR 1 rfl rfl (by decide) (by first | assumption | exact lenI | exact lenS ‹_› | rfl) (by decide) Try.underlying41 Try.underlying5 Try.underlying9 | exact stab_ixS MR 1 rfl rfl (by decide) (by first | rfl | simp | assumption) Try.underlying41 Try.underlying5 Try.underlying9) lows_nil) (ixOk_self MR _) ?_; replace M := M.drew; simp only [planC, opAt, List.getElem?_toArray, List.getElem?_cons_zero, List.getElem?_cons_succ, Option.getD_some])) | ((with_reducible show Seg _ _ _ _); go_must (first | refine Seg.intro ⟨fun h => absurd rfl h, ?_⟩ | refine Seg.intro ⟨fun _ => (by repeat' (first | exact ixOk_nil M.kept | refine ixOk_cons rfl (by first | exact M.ok 0 _ rfl | exact M.ok 1 _ rfl | exact M.ok 2 _ rfl | exact M.ok 3 _ rfl | exact M.ok 4 _ rfl) ?_)), ?_⟩ | refine Seg.intro ⟨(by repeat' (first | (with_reducible exact needs_nil) | refine needs_at rfl (by first | (show Shape.ok Shape.nums _ = true; exact nums_bs _) | rfl) ?_)), (by repeat' (first | (with_reducible exact ats_nil) | refine ats_cons (by first | exact ev_tmp rfl | rfl) ?_)), ?_⟩)) | ((with_reducible show OnlyN _ _ _ _ _); refine OnlyN.intro (by kernel_rfl) ?_) | ((with_reducible refine tGuard ?_); refine w_strip rfl (by with_reducible rfl) ?_) | fail | ((with_reducible refine tLoad ?_); go_must (refine w_at _ _ rfl (by exact ev_tmp rfl) ?_; intro hx; (first | refine w_load M _ _ _ rfl (by first | exact at0 | exact at1 | exact at2) hx rfl (by decide +kernel) (by exact rfl) ?_ | refine w_loadR M _ _ _ rfl (by first | exact at0 | exact at1 | exact at2) hx rfl (by decide +kernel) (by kernel_rfl) ?_); clear hx)) | ((with_reducible refine tStore ?_); go_must (refine w_at2 _ _ _ rfl (by exact ev_tmp rfl) (by first | exact ev_tmp rfl | exact ev_const) ?_; intro hx hy; (first | refine w_store M _ _ _ _ rfl (by first | exact at0 | exact at1 | exact at2) hx rfl hy rfl rfl (by decide +kernel) (by first | decide | simp | (simp; omega)) ?_ | refine w_storeR M _ _ _ _ rfl (by first | exact at0 | exact at1 | exact at2) hx rfl _ hy rfl (by kernel_rfl) (by simp [Value.oneCell']) (by first | rfl | assumption) ?_); clear hx hy M; intro w1 M; (try simp only [setC] at M))) | ((with_reducible refine tBox _ ?_); (refine w_box M _ _ rfl rfl _ rfl _ rfl ?_; clear M; intro g w1 M))) <;> (try conv => arg 5; simp only [Act.put, List.setIfInBounds_toArray, setC]))
          refine bodyPost_ret (results_row2 rfl _ _ gr 0 [.int .i64 0, .int .i64 0, .slice none 0 0] _ (.int .i64 ((8 : Nat) : Int)) rfl rfl (M.ok 2 _ rfl).2.1 Try.underlying25 rfl (by kernel_rfl)) rfl (Gives.intro (r := batR 0 0 8) (p := none) (cap := 0) (M.nil 3))
        | nil =>
          have hfin : x.fin = 0 := by unfold InS.fin; rw [if_pos hx0, hxr, if_pos (by simp)]
          have P := fun w S => rRight_c i e d (.slice q d.length c) w S (by omega) (fun y hy => by have := hm y hy; omega)
          replace RC := RC _ hfin rfl
          replace RD := RD hfin
          obtain ⟨pe, ep⟩ : ∃ R, R = rightB i e d := ⟨_, rfl⟩
          rw [← ep] at P RC RD
          replace RC := Lib.hid RC
          replace RD := Lib.hid RD
          replace P := Lib.hid P
          clear ep hx0 hxr hfin ha hm RA
          by_cases hpe : pe = 0
          · subst hpe
            have e0 := RD.out rfl
            subst e0
            clear RC RD
            go_wp2_with ((first | ((with_reducible refine tGuard ?_); (with_reducible refine w_stripE ?_ ?_); (focus (refine ⟨_, rfl, ?_⟩; first | (with_reducible rfl) | exact decide_eq_false (by omega) | exact decide_eq_true (by omega)))) | ((with_reducible refine tGuard ?_); first | ((with_reducible refine w_skip1 ?_ ?_); (focus (refine ⟨_, rfl, ?_⟩; first | (with_reducible rfl) | exact decide_eq_false (by omega) | exact decide_eq_true (by omega)))) | ((with_reducible refine w_skip0 ?_ ?_); (focus (refine ⟨_, rfl, ?_⟩; first | (with_reducible rfl) | exact decide_eq_false (by omega) | exact decide_eq_true (by omega))))) | (go_at_call 61; go_must (refine (P.out _ (SeesL.own M 3 rfl rfl opV_len)).mono ?_; rintro e w1 ⟨rfl, hb⟩; replace M := M.call hb; clear hb)) | ((with_reducible show Code.wp _ (Code.region 22 _ _) _ _ _); go_must (have MR := M; refine region_lowc [(1, false), (2, false), (3, false), (4, false), (0, true), (5, true), (6, false)] [(101, .ptr)] [(4, _)] (IxOk MR [1]) 7 (by kernel_rfl) (by kernel_rfl) rfl (by kernel_rfl) (lows_cons (by first | exact stab_ix MR 1 1 rfl rfl (by decide) (by decide +kernel) rfl | exact stab_ixB MR 1 1 rfl rfl (by decide) (by decide +kernel) (by first | assumption | omega) | exact stab_ix32 MR 1 1 rfl rfl (by decide) (by decide +kernel) (by first | assumption | omega | (simp; omega)) | exact stab_ixH MR 1 rfl rfl (by decide) (by decide +kernel) (by first | assumption | exact lenI | exact lenS ‹_› | rfl) (by decide +kernel) | exact stab_ixW32 MR 1 rfl rfl (by decide) (by decide +kernel) (by first | assumption | exact lenI | exact lenS ‹_› | rfl) (by decide +kernel) | exact stab_ixR MR 1 rfl rfl (by decide) (by decide +kernel) (by kernel_rfl) | exact stab_ixW MR 1 rfl rfl (by decide) (by first | assumption | exact lenI | exact lenS ‹_› | rfl) (by decide) Try.underlying41 Try.underlying5 Try.underlying9 | exact stab_ixS MR 1 rfl rfl (by decide) (by first | rfl | simp | assumption) Try.underlying41 Try.underlying5 Try.underlying9) lows_nil) (ixOk_self MR _) ?_; replace M := M.drew; simp only [planC, opAt, List.getElem?_toArray, List.getElem?_cons_zero, List.getElem?_cons_succ, Option.getD_some])) | ((with_reducible show Seg _ _ _ _); go_must (first | refine Seg.intro ⟨fun h => absurd rfl h, ?_⟩ | refine Seg.intro ⟨fun _ => (by repeat' (first | exact ixOk_nil M.kept | refine ixOk_cons rfl (by first | exact M.ok 0 _ rfl | exact M.ok 1 _ rfl | exact M.ok 2 _ rfl | exact M.ok 3 _ rfl | exact M.ok 4 _ rfl) ?_)), ?_⟩ | refine Seg.intro ⟨(by repeat' (first | (with_reducible exact needs_nil) | refine needs_at rfl (by first | (show Shape.ok Shape.nums _ = true; exact nums_bs _) | rfl) ?_)), (by repeat' (first | (with_reducible exact ats_nil) | refine ats_cons (by first | exact ev_tmp rfl | rfl) ?_)), ?_⟩)) | ((with_reducible show OnlyN _ _ _ _ _); refine OnlyN.intro (by kernel_rfl) ?_) | ((with_reducible refine tGuard ?_); refine w_strip rfl (by with_reducible rfl) ?_) | fail | ((with_reducible refine tLoad ?_); go_must (refine w_at _ _ rfl (by exact ev_tmp rfl) ?_; intro hx; (first | refine w_load M _ _ _ rfl (by first | exact at0 | exact at1 | exact at2) hx rfl (by decide +kernel) (by exact rfl) ?_ | refine w_loadR M _ _ _ rfl (by first | exact at0 | exact at1 | exact at2) hx rfl (by decide +kernel) (by kernel_rfl) ?_); clear hx)) | ((with_reducible refine tStore ?_); go_must (refine w_at2 _ _ _ rfl (by exact ev_tmp rfl) (by first | exact ev_tmp rfl | exact ev_const) ?_; intro hx hy; (first | refine w_store M _ _ _ _ rfl (by first | exact at0 | exact at1 | exact at2) hx rfl hy rfl rfl (by decide +kernel) (by first | decide | simp | (simp; omega)) ?_ | refine w_storeR M _ _ _ _ rfl (by first | exact at0 | exact at1 | exact at2) hx rfl _ hy rfl (by kernel_rfl) (by simp [Value.oneCell']) (by first | rfl | assumption) ?_); clear hx hy M; intro w1 M; (try simp only [setC] at M))) | ((with_reducible refine tBox _ ?_); (refine w_box M _ _ rfl rfl _ rfl _ rfl ?_; clear M; intro g w1 M))) <;> (try conv => arg 5; simp only [Act.put, List.setIfInBounds_toArray, setC]))
            refine bodyPost_ret (results_row2 rfl _ _ gr 0 [.int .i64 i, .int .i64 e, .slice q d.length c] _ (.int .i64 ((0 : Nat) : Int)) rfl rfl (M.ok 2 _ rfl).2.1 Try.underlying25 rfl (by kernel_rfl)) rfl (Gives.at (r := batR i e 0) M 3 rfl)
          · have e0 := RC.out hpe
            subst e0
            clear RC RD
            have hz : ((pe : Int) == 0) = false := by simp; exact hpe
            have hz' : ((pe : Int) != 0) = true := by simp; exact hpe
            clear hpe
            go_wp2_with ((first | ((with_reducible refine tGuard ?_); (with_reducible refine w_stripE ?_ ?_); (focus (refine ⟨_, rfl, ?_⟩; first | (with_reducible rfl) | exact decide_eq_false (by omega) | exact decide_eq_true (by omega)))) | ((with_reducible refine tGuard ?_); first | ((with_reducible refine w_skip1 ?_ ?_); (focus (refine ⟨_, rfl, ?_⟩; first | (with_reducible rfl) | exact decide_eq_false (by omega) | exact decide_eq_true (by omega)))) | ((with_reducible refine w_skip0 ?_ ?_); (focus (refine ⟨_, rfl, ?_⟩; first | (with_reducible rfl) | exact decide_eq_false (by omega) | exact decide_eq_true (by omega))))) | (go_at_call 61; go_must (refine (P.out _ (SeesL.own M 3 rfl rfl opV_len)).mono ?_; rintro e w1 ⟨rfl, hb⟩; replace M := M.call hb; clear hb)) | ((with_reducible show Code.wp _ (Code.region 22 _ _) _ _ _); go_must (have MR := M; refine region_lowc [(1, false), (2, false), (3, false), (4, false), (0, true), (5, true), (6, false)] [(101, .ptr)] [(4, _)] (IxOk MR [1]) 7 (by kernel_rfl) (by kernel_rfl) rfl (by kernel_rfl) (lows_cons (by first | exact stab_ix MR 1 1 rfl rfl (by decide) (by decide +kernel) rfl | exact stab_ixB MR 1 1 rfl rfl (by decide) (by decide +kernel) (by first | assumption | omega) | exact stab_ix32 MR 1 1 rfl rfl (by decide) (by decide +kernel) (by first | assumption | omega | (simp; omega)) | exact stab_ixH MR 1 rfl rfl (by decide) (by decide +kernel) (by first | assumption | exact lenI | exact lenS ‹_› | rfl) (by decide +kernel) | exact stab_ixW32 MR 1 rfl rfl (by decide) (by decide +kernel) (by first | assumption | exact lenI | exact lenS ‹_› | rfl) (by decide +kernel) | exact stab_ixR MR 1 rfl rfl (by decide) (by decide +kernel) (by kernel_rfl) | exact stab_ixW MR 1 rfl rfl (by decide) (by first | assumption | exact lenI | exact lenS ‹_› | rfl) (by decide) Try.underlying41 Try.underlying5 Try.underlying9 | exact stab_ixS MR 1 rfl rfl (by decide) (by first | rfl | simp | assumption) Try.underlying41 Try.underlying5 Try.underlying9) lows_nil) (ixOk_self MR _) ?_; replace M := M.drew; simp only [planC, opAt, List.getElem?_toArray, List.getElem?_cons_zero, List.getElem?_cons_succ, Option.getD_some])) | ((with_reducible show Seg _ _ _ _); go_must (first | refine Seg.intro ⟨fun h => absurd rfl h, ?_⟩ | refine Seg.intro ⟨fun _ => (by repeat' (first | exact ixOk_nil M.kept | refine ixOk_cons rfl (by first | exact M.ok 0 _ rfl | exact M.ok 1 _ rfl | exact M.ok 2 _ rfl | exact M.ok 3 _ rfl | exact M.ok 4 _ rfl) ?_)), ?_⟩ | refine Seg.intro ⟨(by repeat' (first | (with_reducible exact needs_nil) | refine needs_at rfl (by first | (show Shape.ok Shape.nums _ = true; exact nums_bs _) | rfl) ?_)), (by repeat' (first | (with_reducible exact ats_nil) | refine ats_cons (by first | exact ev_tmp rfl | rfl) ?_)), ?_⟩)) | ((with_reducible show OnlyN _ _ _ _ _); refine OnlyN.intro (by kernel_rfl) ?_) | ((with_reducible refine tGuard ?_); refine w_strip rfl (by with_reducible rfl) ?_) | fail | ((with_reducible refine tLoad ?_); go_must (refine w_at _ _ rfl (by exact ev_tmp rfl) ?_; intro hx; (first | refine w_load M _ _ _ rfl (by first | exact at0 | exact at1 | exact at2) hx rfl (by decide +kernel) (by exact rfl) ?_ | refine w_loadR M _ _ _ rfl (by first | exact at0 | exact at1 | exact at2) hx rfl (by decide +kernel) (by kernel_rfl) ?_); clear hx)) | ((with_reducible refine tStore ?_); go_must (refine w_at2 _ _ _ rfl (by exact ev_tmp rfl) (by first | exact ev_tmp rfl | exact ev_const) ?_; intro hx hy; (first | refine w_store M _ _ _ _ rfl (by first | exact at0 | exact at1 | exact at2) hx rfl hy rfl rfl (by decide +kernel) (by first | decide | simp | (simp; omega)) ?_ | refine w_storeR M _ _ _ _ rfl (by first | exact at0 | exact at1 | exact at2) hx rfl _ hy rfl (by kernel_rfl) (by simp [Value.oneCell']) (by first | rfl | assumption) ?_); clear hx hy M; intro w1 M; (try simp only [setC] at M))) | ((with_reducible refine tBox _ ?_); (refine w_box M _ _ rfl rfl _ rfl _ rfl ?_; clear M; intro g w1 M))) <;> (try conv => arg 5; simp only [Act.put, List.setIfInBounds_toArray, setC]))
            refine bodyPost_ret (results_row2 rfl _ _ gr 0 [.int .i64 0, .int .i64 0, .slice none 0 0] _ (.int .i64 ((pe : Nat) : Int)) rfl rfl (M.ok 2 _ rfl).2.1 Try.underlying25 rfl (by kernel_rfl)) rfl (Gives.intro (r := batR 0 0 pe) (p := none) (cap := 0) (M.nil 3))
    · have hE := HI.out.1.2 he
      simp only at hE
      have hfin : (rdOps n0 x2).2.fin = er := by rw [fin_err (by rw [hE]; exact he), hE]
      have e0 := RF.out _ _ (rfl : rdOps n0 x2 = ((rdOps n0 x2).1, (rdOps n0 x2).2)) (by rw [hfin]; exact he)
      rw [hfin] at e0
      subst e0
      have hz : ((er : Int) == 0) = false := by simp; exact he
      have hz' : ((er : Int) != 0) = true := by simp; exact he
      clear hE hfin he RF RB RO
      by_cases hlt : (k : Int) < (n0 : Int)
      all_goals
        go_wp2_with ((first | ((with_reducible refine tGuard ?_); (with_reducible refine w_stripE ?_ ?_); (focus (refine ⟨_, rfl, ?_⟩; first | (with_reducible rfl) | exact decide_eq_false (by omega) | exact decide_eq_true (by omega)))) | ((with_reducible refine tGuard ?_); first | ((with_reducible refine w_skip1 ?_ ?_); (focus (refine ⟨_, rfl, ?_⟩; first | (with_reducible rfl) | exact decide_eq_false (by omega) | exact decide_eq_true (by omega)))) | ((with_reducible refine w_skip0 ?_ ?_); (focus (refine ⟨_, rfl, ?_⟩; first | (with_reducible rfl) | exact decide_eq_false (by omega) | exact decide_eq_true (by omega))))) | ((with_reducible show Code.wp _ (Code.region 22 _ _) _ _ _); go_must (have MR := M; refine region_lowc [(1, false), (2, false), (3, false), (4, false), (0, true), (5, true), (6, false)] [(101, .ptr)] [(4, _)] (IxOk MR [1]) 7 (by kernel_rfl) (by kernel_rfl) rfl (by kernel_rfl) (lows_cons (by first | exact stab_ix MR 1 1 rfl rfl (by decide) (by decide +kernel) rfl | exact stab_ixB MR 1 1 rfl rfl (by decide) (by decide +kernel) (by first | assumption | omega) | exact stab_ix32 MR 1 1 rfl rfl (by decide) (by decide +kernel) (by first | assumption | omega | (simp; omega)) | exact stab_ixH MR 1 rfl rfl (by decide) (by decide +kernel) (by first | assumption | exact lenI | exact lenS ‹_› | rfl) (by decide +kernel) | exact stab_ixW32 MR 1 rfl rfl (by decide) (by decide +kernel) (by first | assumption | exact lenI | exact lenS ‹_› | rfl) (by decide +kernel) | exact stab_ixR MR 1 rfl rfl (by decide) (by decide +kernel) (by kernel_rfl) | exact stab_ixW MR 1 rfl rfl (by decide) (by first | assumption | exact lenI | exact lenS ‹_› | rfl) (by decide) Try.underlying41 Try.underlying5 Try.underlying9 | exact stab_ixS MR 1 rfl rfl (by decide) (by first | rfl | simp | assumption) Try.underlying41 Try.underlying5 Try.underlying9) lows_nil) (ixOk_self MR _) ?_; replace M := M.drew; simp only [planC, opAt, List.getElem?_toArray, List.getElem?_cons_zero, List.getElem?_cons_succ, Option.getD_some])) | ((with_reducible show Seg _ _ _ _); go_must (first | refine Seg.intro ⟨fun h => absurd rfl h, ?_⟩ | refine Seg.intro ⟨fun _ => (by repeat' (first | exact ixOk_nil M.kept | refine ixOk_cons rfl (by first | exact M.ok 0 _ rfl | exact M.ok 1 _ rfl | exact M.ok 2 _ rfl | exact M.ok 3 _ rfl | exact M.ok 4 _ rfl) ?_)), ?_⟩ | refine Seg.intro ⟨(by repeat' (first | (with_reducible exact needs_nil) | refine needs_at rfl (by first | (show Shape.ok Shape.nums _ = true; exact nums_bs _) | rfl) ?_)), (by repeat' (first | (with_reducible exact ats_nil) | refine ats_cons (by first | exact ev_tmp rfl | rfl) ?_)), ?_⟩)) | ((with_reducible show OnlyN _ _ _ _ _); refine OnlyN.intro (by kernel_rfl) ?_) | ((with_reducible refine tGuard ?_); refine w_strip rfl (by with_reducible rfl) ?_) | fail | ((with_reducible refine tLoad ?_); go_must (refine w_at _ _ rfl (by exact ev_tmp rfl) ?_; intro hx; (first | refine w_load M _ _ _ rfl (by first | exact at0 | exact at1 | exact at2) hx rfl (by decide +kernel) (by exact rfl) ?_ | refine w_loadR M _ _ _ rfl (by first | exact at0 | exact at1 | exact at2) hx rfl (by decide +kernel) (by kernel_rfl) ?_); clear hx)) | ((with_reducible refine tStore ?_); go_must (refine w_at2 _ _ _ rfl (by exact ev_tmp rfl) (by first | exact ev_tmp rfl | exact ev_const) ?_; intro hx hy; (first | refine w_store M _ _ _ _ rfl (by first | exact at0 | exact at1 | exact at2) hx rfl hy rfl rfl (by decide +kernel) (by first | decide | simp | (simp; omega)) ?_ | refine w_storeR M _ _ _ _ rfl (by first | exact at0 | exact at1 | exact at2) hx rfl _ hy rfl (by kernel_rfl) (by simp [Value.oneCell']) (by first | rfl | assumption) ?_); clear hx hy M; intro w1 M; (try simp only [setC] at M))) | ((with_reducible refine tBox _ ?_); (refine w_box M _ _ rfl rfl _ rfl _ rfl ?_; clear M; intro g w1 M))) <;> (try conv => arg 5; simp only [Act.put, List.setIfInBounds_toArray, setC]))
        refine bodyPost_ret (results_row2 rfl _ _ gr 0 [.int .i64 0, .int .i64 0, .slice none 0 0] _ (.int .i64 ((er : Nat) : Int)) rfl rfl (M.ok 2 _ rfl).2.1 Try.underlying25 rfl (by kernel_rfl)) rfl (Gives.intro (r := batR 0 0 er) (p := none) (cap := 0) (M.nil 3))
end Go.Proofs.Ytoaabclemeibhaa
