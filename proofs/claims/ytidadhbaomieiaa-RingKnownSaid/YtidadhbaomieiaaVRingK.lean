/- The walk of RingKnown. Conditions: none. -/
import Derived.Test.YtidadhbaomieiaaZf
import Derived.Test.YtidadhbaomieiaaVRingN
namespace Go.Proofs.Ytidadhbaomieiaa
open Go.RowKit Go.TL
set_option maxRecDepth 100000 in
set_option maxHeartbeats 8000000 in
theorem RingKnown_any (w : World) : Calls Try.prog 3 #[] w fun e w' => e = .returned (.bool true) ∧ Below w.heap.size w w' := by
  have M := Mem.start [] w
  have N1 : ∀ w, Calls Try.prog 8 #[.string (mkS [109]), .int .i64 (-1), .int .u32 0] w fun e w' => e = .returned (.tuple #[.pointer none, .int .i64 1]) ∧ Below w.heap.size w w' := fun w => New_no [109] (-1) 0 w (by omega)
  have N2 : ∀ w, Calls Try.prog 8 #[.string (mkS [109]), .int .i64 1048577, .int .u32 0] w fun e w' => e = .returned (.tuple #[.pointer none, .int .i64 1]) ∧ Below w.heap.size w w' := fun w => New_no [109] 1048577 0 w (by omega)
  have N3 : ∀ w, Calls Try.prog 8 #[.string (mkS [109]), .int .i64 0, .int .u32 7] w fun e w' => ∃ g C, e = .returned (.tuple #[.pointer (some ⟨g, 0, none⟩), .int .i64 0]) ∧ IsRing g ⟨[109], 0, 7, 0⟩ C ∧ Mem [] w w' [C] := fun w => New_ok [109] 0 7 w (by decide)
  have N4 : ∀ w, Calls Try.prog 8 #[.string (mkS [109]), .int .i64 0, .int .u32 8] w fun e w' => ∃ g C, e = .returned (.tuple #[.pointer (some ⟨g, 0, none⟩), .int .i64 0]) ∧ IsRing g ⟨[109], 0, 8, 0⟩ C ∧ Mem [] w w' [C] := fun w => New_ok [109] 0 8 w (by decide)
  obtain ⟨L, hL⟩ : ∃ L : Nat, (L : Int) = 1048576 := ⟨1048576, rfl⟩
  have N5 : ∀ w, Calls Try.prog 8 #[.string (mkS [109]), .int .i64 1048576, .int .u32 0] w fun e w' => ∃ g C, e = .returned (.tuple #[.pointer (some ⟨g, 0, none⟩), .int .i64 0]) ∧ IsRing g ⟨[109], L, 0, 0⟩ C ∧ Mem [] w w' [C] := fun w => by have := New_ok [109] L 0 w (by omega); rw [hL] at this; exact this
  have W1 := fun (g : Nat) (c : Chunk) (w : World) (h : c.ok w) (I : IsRing g ⟨[109], 0, 7, 0⟩ c) => Wrap_ok [97] [120] h I (by decide) (by decide) (by decide) (by decide) (by decide)
  have R1 := fun (g : Nat) (c : Chunk) (w : World) (h : c.ok w) (I : IsRing g ⟨[109], 0, 7, 0 + 1⟩ c) => Rotate_ok h I (by decide)
  have W2 := fun (g : Nat) (c : Chunk) (w : World) (h : c.ok w) (I : IsRing g ⟨[109], 0 + 1, 7, 0 + 1⟩ c) => Wrap_ok [97] [120] h I (by decide) (by decide) (by decide) (by decide) (by decide)
  have T1 := fun (g : Nat) (c : Chunk) (w : World) (h : c.ok w) (I : IsRing g ⟨[109], 0 + 1, 7, 0 + 1 + 1⟩ c) => Count_c h I
  have lX : (envB (RingS.env ⟨[109], 0, 7, 0⟩ [97] [120])).length ≤ 8600 := envB_length (RingS.env_right (R := ⟨[109], 0, 7, 0⟩) [97] [120] (by decide) (by decide))
  have lY : (envB (RingS.env ⟨[109], 0 + 1, 7, 0 + 1⟩ [97] [120])).length ≤ 8600 := envB_length (RingS.env_right (R := ⟨[109], 0 + 1, 7, 0 + 1⟩) [97] [120] (by decide) (by decide))
  have O1 := fun (g : Nat) (c : Chunk) (w : World) (h : c.ok w) (I : IsRing g ⟨[109], 0 + 1, 7, 0 + 1 + 1⟩ c) => RingOpen_c (envB (RingS.env ⟨[109], 0, 7, 0⟩ [97] [120])) [97] h I (by decide) (by omega) (by decide)
  have H1 : openL [109] (0 + 1) (envB (RingS.env ⟨[109], 0, 7, 0⟩ [97] [120])) [97] = ([120], 0) := openL_ok (R := ⟨[109], 0, 7, 0⟩) [97] [120] (by decide) (by decide) (by decide)
  have O2 := fun (g : Nat) (c : Chunk) (w : World) (h : c.ok w) (I : IsRing g ⟨[109], 0 + 1, 7, 0 + 1 + 1⟩ c) => RingOpen_c (envB (RingS.env ⟨[109], 0 + 1, 7, 0 + 1⟩ [97] [120])) [97] h I (by decide) (by omega) (by decide)
  have H2 : openL [109] (0 + 1) (envB (RingS.env ⟨[109], 0 + 1, 7, 0 + 1⟩ [97] [120])) [97] = ([120], 0) := openL_ok (R := ⟨[109], 0 + 1, 7, 0 + 1⟩) [97] [120] (by decide) (by decide) (by decide)
  have O3 := fun (g : Nat) (c : Chunk) (w : World) (h : c.ok w) (I : IsRing g ⟨[109], 0, 8, 0⟩ c) => RingOpen_c (envB (RingS.env ⟨[109], 0 + 1, 7, 0 + 1⟩ [97] [120])) [97] h I (by decide) (by omega) (by decide)
  have H3 : openL [109] 0 (envB (RingS.env ⟨[109], 0 + 1, 7, 0 + 1⟩ [97] [120])) [97] = ([], 20) := openL_key (R := ⟨[109], 0 + 1, 7, 0 + 1⟩) [109] [97] [97] [120] (by decide) (by decide) (by decide)
  have O4 := fun (g : Nat) (c : Chunk) (w : World) (h : c.ok w) (I : IsRing g ⟨[109], 0, 8, 0⟩ c) => RingOpen_c (envB (RingS.env ⟨[109], 0, 7, 0⟩ [97] [120])) [98] h I (by decide) (by omega) (by decide)
  have H4 := ring_mac
  have HN : envB (RingS.env ⟨[109], 0, 7, 0⟩ [97] [120]) ≠ envB (RingS.env ⟨[109], 0 + 1, 7, 0 + 1⟩ [97] [120]) := ring_unlike [109] [97] [120] [97] [120] 7 7 0 (0 + 1)
  have R2 := fun (g : Nat) (c : Chunk) (w : World) (h : c.ok w) (I : IsRing g ⟨[109], L, 0, 0⟩ c) => Rotate_full h I (by simp only; omega)
  have Q2 : ∀ (g : Nat) (c : Chunk) (w : World) (h : c.ok w) (I : IsRing g ⟨[109], L, 0, 0⟩ c), Calls Try.prog 14 #[.pointer (some ⟨g, 0, none⟩)] w fun e w' => e = .returned (.int .i64 1048576) ∧ w = w' := fun g c w h I => by have := Current_c h I; simp only at this; rw [hL] at this; exact this
  simp only at W1 R1 W2 T1 O1 O2 O3 O4
  rw [H1] at O1
  rw [H2] at O2
  rw [H3] at O3
  rw [H4] at O4
  simp only [show ((0 : Nat) : Int) = 0 from rfl, show ((13 : Nat) : Int) = 13 from rfl, show ((20 : Nat) : Int) = 20 from rfl] at O1 O2 O3 O4
  rw [show I32 7 = 7 from by decide, show I64 (0 + 1 + 1) = 2 from by decide] at T1
  obtain ⟨X, eX⟩ : ∃ B, B = envB (RingS.env ⟨[109], 0, 7, 0⟩ [97] [120]) := ⟨_, rfl⟩
  rw [← eX] at O1 O4 W1 HN
  obtain ⟨Y, eY⟩ : ∃ B, B = envB (RingS.env ⟨[109], 0 + 1, 7, 0 + 1⟩ [97] [120]) := ⟨_, rfl⟩
  rw [← eY] at O2 O3 W2 HN
  have hXY : ¬ mkS X = mkS Y := fun h => HN (mkS_inj.1 h)
  have hXY3 : (X == Y) = false := by simpa using HN
  replace N1 := Lib.hid N1
  replace N2 := Lib.hid N2
  replace N3 := Lib.hid N3
  replace N4 := Lib.hid N4
  replace N5 := Lib.hid N5
  replace W1 := Lib.hid W1
  replace W2 := Lib.hid W2
  replace R1 := Lib.hid R1
  replace R2 := Lib.hid R2
  replace T1 := Lib.hid T1
  replace O1 := Lib.hid O1
  replace O2 := Lib.hid O2
  replace O3 := Lib.hid O3
  replace O4 := Lib.hid O4
  replace Q2 := Lib.hid Q2
  clear eX eY H1 H2 H3 H4 HN lX lY hL
  go_enter Try.func3, Try.ntmps3
  go_wp2_with ((first | ((with_reducible refine tGuard ?_); (with_reducible refine w_stripE ?_ ?_); (focus (refine ⟨_, rfl, ?_⟩; first | (with_reducible rfl) | exact decide_eq_false (by omega) | exact decide_eq_true (by omega)))) | ((with_reducible refine tGuard ?_); first | ((with_reducible refine w_skip1 ?_ ?_); (focus (refine ⟨_, rfl, ?_⟩; first | (with_reducible rfl) | exact decide_eq_false (by omega) | exact decide_eq_true (by omega)))) | ((with_reducible refine w_skip0 ?_ ?_); (focus (refine ⟨_, rfl, ?_⟩; first | (with_reducible rfl) | exact decide_eq_false (by omega) | exact decide_eq_true (by omega))))) | (go_at_call 13; go_must (refine (awake06_c _).mono ?_; rintro e w1 ⟨rfl, hb⟩; replace M := M.call hb; clear hb)) | (go_at_call 8; go_must (first | (with_reducible refine (N1.out _).mono ?_; rintro e w1 ⟨rfl, hb⟩; replace M := M.call hb; clear hb) | (with_reducible refine (N2.out _).mono ?_; rintro e w1 ⟨rfl, hb⟩; replace M := M.call hb; clear hb) | (with_reducible refine (N3.out _).mono ?_; rintro e w1 ⟨g, c, rfl, I0, MJ⟩; replace M := M.join MJ; clear MJ; simp only [List.cons_append, List.nil_append] at M) | (with_reducible refine (N4.out _).mono ?_; rintro e w1 ⟨q, d, rfl, J0, MJ⟩; replace M := M.join MJ; clear MJ; simp only [List.cons_append, List.nil_append] at M) | (with_reducible refine (N5.out _).mono ?_; rintro e w1 ⟨l, f, rfl, K0, MJ⟩; replace M := M.join MJ; clear MJ; simp only [List.cons_append, List.nil_append] at M))) | (go_at_call 9; go_must (first | (with_reducible refine (W2.out _ _ _ (M.ok 0 _ at0) I2).mono ?_; rintro e w1 ⟨rfl, c3, I3, U⟩; replace M := M.upd 0 at0 U) | (with_reducible refine (W1.out _ _ _ (M.ok 0 _ at0) I0).mono ?_; rintro e w1 ⟨rfl, c1, I1, U⟩; replace M := M.upd 0 at0 U)); clear U; simp only [setC] at M) | (go_at_call 10; go_must (first | (with_reducible refine (R2.out _ _ _ (M.ok 0 _ at0) K0).mono ?_; rintro e w1 ⟨rfl, rfl⟩) | (with_reducible refine (R1.out _ _ _ (M.ok 0 _ at0) I1).mono ?_; rintro e w1 ⟨rfl, c2, I2, U⟩; replace M := M.upd 0 at0 U; clear U; simp only [setC] at M))) | (go_at_call 12; go_must (first | (with_reducible refine (O4.out _ _ _ (M.ok 0 _ at0) J1).mono ?_; rintro e w1 ⟨rfl, d2, J2, U⟩; replace M := M.upd 0 at0 U) | (with_reducible refine (O3.out _ _ _ (M.ok 0 _ at0) J0).mono ?_; rintro e w1 ⟨rfl, d1, J1, U⟩; replace M := M.upd 0 at0 U) | (with_reducible refine (O2.out _ _ _ (M.ok 0 _ at0) I4).mono ?_; rintro e w1 ⟨rfl, c5, I5, U⟩; replace M := M.upd 0 at0 U) | (with_reducible refine (O1.out _ _ _ (M.ok 0 _ at0) I3).mono ?_; rintro e w1 ⟨rfl, c4, I4, U⟩; replace M := M.upd 0 at0 U)); clear U; simp only [setC] at M) | (go_at_call 11; go_must (refine (T1.out _ _ _ (M.ok 0 _ at0) I3).mono ?_; rintro e w1 ⟨rfl, hb⟩; replace M := M.call hb; clear hb)) | (go_at_call 14; go_must (refine (Q2.out _ _ _ (M.ok 0 _ at0) K0).mono ?_; rintro e w1 ⟨rfl, rfl⟩)) | ((with_reducible refine tGuard ?_); first | refine w_strip rfl (by with_reducible rfl) ?_ | ((fail_if_success (refine w_lit false rfl (by with_reducible rfl) ?_)); (fail_if_success (refine w_lit true rfl (by with_reducible rfl) ?_)); refine w_case rfl ?_ ?_ <;> (intro hgd; rw [hgd]; try (exfalso; simp at hgd; omega)))) | fail | ((with_reducible refine tLoad ?_); go_must (refine w_at _ _ rfl (by exact ev_tmp rfl) ?_; intro hx; (first | refine w_load M _ _ _ rfl rfl hx rfl (by decide +kernel) (by exact rfl) ?_ | refine w_loadR M _ _ _ rfl rfl hx rfl (by decide +kernel) (by kernel_rfl) ?_); clear hx)) | ((with_reducible refine tStore ?_); go_must (refine w_at2 _ _ _ rfl (by exact ev_tmp rfl) (by first | exact ev_tmp rfl | exact ev_const) ?_; intro hx hy; (first | refine w_store M _ _ _ _ rfl rfl hx rfl hy rfl rfl (by decide +kernel) (by first | decide | simp | (simp; omega)) ?_ | refine w_storeR M _ _ _ _ rfl rfl hx rfl _ hy rfl (by kernel_rfl) (by simp [Value.oneCell']) (by first | rfl | assumption) ?_); clear hx hy M; intro w1 M; (try simp only [setC] at M))) | ((with_reducible refine tBox _ ?_); (refine w_box M _ _ rfl rfl _ rfl _ rfl ?_; clear M; intro g w1 M))) <;> (try conv => arg 5; simp only [Act.put, List.setIfInBounds_toArray, setC]))
  go_ret
  exact ⟨by first | rfl | simp, M.below⟩
end Go.Proofs.Ytidadhbaomieiaa
