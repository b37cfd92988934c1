/- Texts of this seat, put together: RingF, RingG, Frame, FrameW. Each begins with a remark that says what is proved in it, and under which conditions. -/
import Derived.ProofKit
import Derived.OpenShut
import Derived.ShutString
import Derived.ChangeOld
import Derived.Below
import Derived.Test.YtidadhbaomieiaaZa
import Derived.Test.YtidadhbaomieiaaZe
/- The walks of a ring's Rewrap, and of what none does. Conditions: lengths, and the bounds of its numbers. -/
namespace Go.Proofs.Ytidadhbaomieiaa
open Go.RowKit Go.TL
section
variable {g q : Nat} {R T : RingS} {c d : Chunk} {w : World}
theorem noneRing (h : c.ok w) (I : IsRing g R c) : Calls Try.prog 18 #[.pointer (some ⟨g, 0, none⟩)] w fun e w' => e = .returned (.bool false) ∧ w = w' := by
  obtain ⟨gm, K, _, rfl⟩ := I
  exact ringNone_no (ring_row h)
set_option maxRecDepth 100000 in
set_option maxHeartbeats 4000000 in
theorem Rewrap_bad {G : List Nat} (M : Mem G w w [c, d]) (s about other : List UInt8) (I : IsRing g R c) (J : IsRing q T d) (hm : R.m.length ≤ 1000000) (hs : s.length ≤ 1000000) (ha : about.length ≤ 100000) (hz : (openL R.m R.c s about).2 ≠ 0) :
    Calls Try.prog 17 #[.pointer (some ⟨g, 0, none⟩), .string (mkS s), .string (mkS about), .pointer (some ⟨q, 0, none⟩), .string (mkS other)] w fun e w' => ∃ c', e = .returned (.tuple #[.string (mkS []), .int .i64 (openL R.m R.c s about).2]) ∧ IsRing g R c' ∧ Mem G w w' [c', d] := by
  have OC := fun (w : World) h => RingOpen_c s about (w := w) h I hm hs ha
  obtain ⟨⟨t, e⟩, eo⟩ : ∃ o, o = openL R.m R.c s about := ⟨_, rfl⟩
  rw [← eo] at OC hz ⊢
  simp only at OC hz ⊢
  have N1 := fun (w : World) (h : c.ok w) => noneRing h I
  have N2 := fun (w : World) (h : d.ok w) => noneRing h J
  replace OC := Lib.hid OC
  replace N1 := Lib.hid N1
  replace N2 := Lib.hid N2
  have hz1 : ((e : Int) != 0) = true := by simp; exact hz
  have hz2 : ((e : Int) == 0) = false := by simp; exact hz
  clear eo hz
  go_enter Try.func17, Try.ntmps17
  go_wp2_with ((first | ((with_reducible refine tGuard ?_); (with_reducible refine w_stripE ?_ ?_); (focus (refine ⟨_, rfl, ?_⟩; first | (with_reducible rfl) | exact decide_eq_false (by omega) | exact decide_eq_true (by omega)))) | ((with_reducible refine tGuard ?_); first | ((with_reducible refine w_skip1 ?_ ?_); (focus (refine ⟨_, rfl, ?_⟩; first | (with_reducible rfl) | exact decide_eq_false (by omega) | exact decide_eq_true (by omega)))) | ((with_reducible refine w_skip0 ?_ ?_); (focus (refine ⟨_, rfl, ?_⟩; first | (with_reducible rfl) | exact decide_eq_false (by omega) | exact decide_eq_true (by omega))))) | (go_at_call 18; go_must ((first | (with_reducible refine (N1.out _ (M.ok 0 _ at0)).mono ?_) | (with_reducible refine (N2.out _ (M.ok 1 _ at1)).mono ?_)); rintro e w1 ⟨rfl, rfl⟩)) | (go_at_call 12; go_must (refine (OC.out _ (M.ok 0 _ at0)).mono ?_; rintro e w1 ⟨rfl, c1, I1, U⟩; replace M := M.upd 0 at0 U; clear U; simp only [setC] at M)) | ((with_reducible refine tGuard ?_); first | refine w_strip rfl (by with_reducible rfl) ?_ | ((fail_if_success (refine w_lit false rfl (by with_reducible rfl) ?_)); (fail_if_success (refine w_lit true rfl (by with_reducible rfl) ?_)); refine w_case rfl ?_ ?_ <;> (intro hgd; rw [hgd]; try (exfalso; simp at hgd; omega)))) | fail | ((with_reducible refine tLoad ?_); go_must (refine w_at _ _ rfl (by exact ev_tmp rfl) ?_; intro hx; (first | refine w_load M _ _ _ rfl rfl hx rfl (by decide +kernel) (by exact rfl) ?_ | refine w_loadR M _ _ _ rfl rfl hx rfl (by decide +kernel) (by kernel_rfl) ?_); clear hx)) | ((with_reducible refine tStore ?_); go_must (refine w_at2 _ _ _ rfl (by exact ev_tmp rfl) (by first | exact ev_tmp rfl | exact ev_const) ?_; intro hx hy; (first | refine w_store M _ _ _ _ rfl rfl hx rfl hy rfl rfl (by decide +kernel) (by first | decide | simp | (simp; omega)) ?_ | refine w_storeR M _ _ _ _ rfl rfl hx rfl _ hy rfl (by kernel_rfl) (by simp [Value.oneCell']) (by first | rfl | assumption) ?_); clear hx hy M; intro w1 M; (try simp only [setC] at M))) | ((with_reducible refine tBox _ ?_); (refine w_box M _ _ rfl rfl _ rfl _ rfl ?_; clear M; intro g w1 M))) <;> (try conv => arg 5; simp only [Act.put, List.setIfInBounds_toArray, setC]))
  go_ret2
  exact ⟨_, rfl, I1, M⟩
set_option maxRecDepth 100000 in
set_option maxHeartbeats 4000000 in
theorem Rewrap_ok {G : List Nat} (M : Mem G w w [c, d]) (s about other : List UInt8) (I : IsRing g R c) (J : IsRing q T d) (hm : R.m.length ≤ 1000000) (hs : s.length ≤ 1000000) (ha : about.length ≤ 100000) (hz : (openL R.m R.c s about).2 = 0) (hm2 : T.m.length ≤ 1000000) (hc2 : T.c ≤ 1048576) (hn2 : T.n.toNat < 9223372036854775808) (ho : other.length ≤ 100000) :
    Calls Try.prog 17 #[.pointer (some ⟨g, 0, none⟩), .string (mkS s), .string (mkS about), .pointer (some ⟨q, 0, none⟩), .string (mkS other)] w fun e w' => ∃ c' d', e = .returned (.tuple #[.string (mkS (envB (T.env other (openL R.m R.c s about).1))), .int .i64 0]) ∧ IsRing g R c' ∧ IsRing q { T with n := T.n + 1 } d' ∧ Mem G w w' [c', d'] := by
  have OC := fun (w : World) h => RingOpen_c s about (w := w) h I hm hs ha
  have hl := openL_len R.m R.c s about
  obtain ⟨⟨t, e⟩, eo⟩ : ∃ o, o = openL R.m R.c s about := ⟨_, rfl⟩
  rw [← eo] at OC hz hl ⊢
  simp only at OC hz hl ⊢
  rw [hz, show ((0 : Nat) : Int) = 0 from rfl] at OC
  have WC := fun (w : World) h => Wrap_ok other t (w := w) h J hm2 hc2 hn2 hl ho
  have N1 := fun (w : World) (h : c.ok w) => noneRing h I
  have N2 := fun (w : World) (h : d.ok w) => noneRing h J
  replace OC := Lib.hid OC
  replace WC := Lib.hid WC
  replace N1 := Lib.hid N1
  replace N2 := Lib.hid N2
  clear eo hz
  go_enter Try.func17, Try.ntmps17
  go_wp2_with ((first | ((with_reducible refine tGuard ?_); (with_reducible refine w_stripE ?_ ?_); (focus (refine ⟨_, rfl, ?_⟩; first | (with_reducible rfl) | exact decide_eq_false (by omega) | exact decide_eq_true (by omega)))) | ((with_reducible refine tGuard ?_); first | ((with_reducible refine w_skip1 ?_ ?_); (focus (refine ⟨_, rfl, ?_⟩; first | (with_reducible rfl) | exact decide_eq_false (by omega) | exact decide_eq_true (by omega)))) | ((with_reducible refine w_skip0 ?_ ?_); (focus (refine ⟨_, rfl, ?_⟩; first | (with_reducible rfl) | exact decide_eq_false (by omega) | exact decide_eq_true (by omega))))) | (go_at_call 18; go_must ((first | (with_reducible refine (N1.out _ (M.ok 0 _ at0)).mono ?_) | (with_reducible refine (N2.out _ (M.ok 1 _ at1)).mono ?_)); rintro e w1 ⟨rfl, rfl⟩)) | (go_at_call 12; go_must (refine (OC.out _ (M.ok 0 _ at0)).mono ?_; rintro e w1 ⟨rfl, c1, I1, U⟩; replace M := M.upd 0 at0 U; clear U; simp only [setC] at M)) | (go_at_call 9; go_must (refine (WC.out _ (M.ok 1 _ at1)).mono ?_; rintro e w1 ⟨rfl, d1, J1, U⟩; replace M := M.upd 1 at1 U; clear U; simp only [setC] at M)) | ((with_reducible refine tGuard ?_); first | refine w_strip rfl (by with_reducible rfl) ?_ | ((fail_if_success (refine w_lit false rfl (by with_reducible rfl) ?_)); (fail_if_success (refine w_lit true rfl (by with_reducible rfl) ?_)); refine w_case rfl ?_ ?_ <;> (intro hgd; rw [hgd]; try (exfalso; simp at hgd; omega)))) | fail | ((with_reducible refine tLoad ?_); go_must (refine w_at _ _ rfl (by exact ev_tmp rfl) ?_; intro hx; (first | refine w_load M _ _ _ rfl rfl hx rfl (by decide +kernel) (by exact rfl) ?_ | refine w_loadR M _ _ _ rfl rfl hx rfl (by decide +kernel) (by kernel_rfl) ?_); clear hx)) | ((with_reducible refine tStore ?_); go_must (refine w_at2 _ _ _ rfl (by exact ev_tmp rfl) (by first | exact ev_tmp rfl | exact ev_const) ?_; intro hx hy; (first | refine w_store M _ _ _ _ rfl rfl hx rfl hy rfl rfl (by decide +kernel) (by first | decide | simp | (simp; omega)) ?_ | refine w_storeR M _ _ _ _ rfl rfl hx rfl _ hy rfl (by kernel_rfl) (by simp [Value.oneCell']) (by first | rfl | assumption) ?_); clear hx hy M; intro w1 M; (try simp only [setC] at M))) | ((with_reducible refine tBox _ ?_); (refine w_box M _ _ rfl rfl _ rfl _ rfl ?_; clear M; intro g w1 M))) <;> (try conv => arg 5; simp only [Act.put, List.setIfInBounds_toArray, setC]))
  go_ret2
  exact ⟨_, _, rfl, I1, J1, M⟩
end
set_option maxRecDepth 100000 in
set_option maxHeartbeats 4000000 in
/-- What is none does nothing. -/
theorem nil_Wrap (about text : List UInt8) (w : World) : Calls Try.prog 9 #[.pointer none, .string (mkS about), .string (mkS text)] w fun e w' => e = .returned (.tuple #[.string (mkS []), .int .i64 2]) ∧ w = w' := by
  have M := Mem.start [] w
  go_enter Try.func9, Try.ntmps9
  go_wp2_with ((first | (go_at_call 18; go_must (refine (ringNone_nil _).mono ?_; rintro e w1 ⟨rfl, rfl⟩)) | ((with_reducible refine tGuard ?_); first | refine w_strip rfl (by with_reducible rfl) ?_ | ((fail_if_success (refine w_lit false rfl (by with_reducible rfl) ?_)); (fail_if_success (refine w_lit true rfl (by with_reducible rfl) ?_)); refine w_case rfl ?_ ?_ <;> (intro hgd; rw [hgd]; try (exfalso; simp at hgd; omega)))) | fail | ((with_reducible refine tLoad ?_); go_must (refine w_at _ _ rfl (by exact ev_tmp rfl) ?_; intro hx; (first | refine w_load M _ _ _ rfl rfl hx rfl (by decide +kernel) (by exact rfl) ?_ | refine w_loadR M _ _ _ rfl rfl hx rfl (by decide +kernel) (by kernel_rfl) ?_); clear hx)) | ((with_reducible refine tStore ?_); go_must (refine w_at2 _ _ _ rfl (by exact ev_tmp rfl) (by first | exact ev_tmp rfl | exact ev_const) ?_; intro hx hy; (first | refine w_store M _ _ _ _ rfl rfl hx rfl hy rfl rfl (by decide +kernel) (by first | decide | simp | (simp; omega)) ?_ | refine w_storeR M _ _ _ _ rfl rfl hx rfl _ hy rfl (by kernel_rfl) (by simp [Value.oneCell']) (by first | rfl | assumption) ?_); clear hx hy M; intro w1 M; (try simp only [setC] at M))) | ((with_reducible refine tBox _ ?_); (refine w_box M _ _ rfl rfl _ rfl _ rfl ?_; clear M; intro g w1 M))) <;> (try conv => arg 5; simp only [Act.put, List.setIfInBounds_toArray, setC]))
  go_ret2
  exact ⟨rfl, rfl⟩
set_option maxRecDepth 100000 in
set_option maxHeartbeats 4000000 in
theorem nil_Open (s about : List UInt8) (w : World) : Calls Try.prog 12 #[.pointer none, .string (mkS s), .string (mkS about)] w fun e w' => e = .returned (.tuple #[.string (mkS []), .int .i64 2]) ∧ w = w' := by
  have M := Mem.start [] w
  go_enter Try.func12, Try.ntmps12
  go_wp2_with ((first | (go_at_call 18; go_must (refine (ringNone_nil _).mono ?_; rintro e w1 ⟨rfl, rfl⟩)) | ((with_reducible refine tGuard ?_); first | refine w_strip rfl (by with_reducible rfl) ?_ | ((fail_if_success (refine w_lit false rfl (by with_reducible rfl) ?_)); (fail_if_success (refine w_lit true rfl (by with_reducible rfl) ?_)); refine w_case rfl ?_ ?_ <;> (intro hgd; rw [hgd]; try (exfalso; simp at hgd; omega)))) | fail | ((with_reducible refine tLoad ?_); go_must (refine w_at _ _ rfl (by exact ev_tmp rfl) ?_; intro hx; (first | refine w_load M _ _ _ rfl rfl hx rfl (by decide +kernel) (by exact rfl) ?_ | refine w_loadR M _ _ _ rfl rfl hx rfl (by decide +kernel) (by kernel_rfl) ?_); clear hx)) | ((with_reducible refine tStore ?_); go_must (refine w_at2 _ _ _ rfl (by exact ev_tmp rfl) (by first | exact ev_tmp rfl | exact ev_const) ?_; intro hx hy; (first | refine w_store M _ _ _ _ rfl rfl hx rfl hy rfl rfl (by decide +kernel) (by first | decide | simp | (simp; omega)) ?_ | refine w_storeR M _ _ _ _ rfl rfl hx rfl _ hy rfl (by kernel_rfl) (by simp [Value.oneCell']) (by first | rfl | assumption) ?_); clear hx hy M; intro w1 M; (try simp only [setC] at M))) | ((with_reducible refine tBox _ ?_); (refine w_box M _ _ rfl rfl _ rfl _ rfl ?_; clear M; intro g w1 M))) <;> (try conv => arg 5; simp only [Act.put, List.setIfInBounds_toArray, setC]))
  go_ret2
  exact ⟨rfl, rfl⟩
set_option maxRecDepth 100000 in
set_option maxHeartbeats 4000000 in
theorem nil_Rewrap (s about other : List UInt8) (to : Value) (w : World) : Calls Try.prog 17 #[.pointer none, .string (mkS s), .string (mkS about), to, .string (mkS other)] w fun e w' => e = .returned (.tuple #[.string (mkS []), .int .i64 2]) ∧ w = w' := by
  have M := Mem.start [] w
  go_enter Try.func17, Try.ntmps17
  go_wp2_with ((first | (go_at_call 18; go_must (refine (ringNone_nil _).mono ?_; rintro e w1 ⟨rfl, rfl⟩)) | ((with_reducible refine tGuard ?_); (with_reducible refine w_stripE ?_ ?_); (focus (refine ⟨_, rfl, ?_⟩; first | (with_reducible rfl) | exact decide_eq_false (by omega) | exact decide_eq_true (by omega)))) | ((with_reducible refine tGuard ?_); first | ((with_reducible refine w_skip1 ?_ ?_); (focus (refine ⟨_, rfl, ?_⟩; first | (with_reducible rfl) | exact decide_eq_false (by omega) | exact decide_eq_true (by omega)))) | ((with_reducible refine w_skip0 ?_ ?_); (focus (refine ⟨_, rfl, ?_⟩; first | (with_reducible rfl) | exact decide_eq_false (by omega) | exact decide_eq_true (by omega))))) | ((with_reducible refine tGuard ?_); first | refine w_strip rfl (by with_reducible rfl) ?_ | ((fail_if_success (refine w_lit false rfl (by with_reducible rfl) ?_)); (fail_if_success (refine w_lit true rfl (by with_reducible rfl) ?_)); refine w_case rfl ?_ ?_ <;> (intro hgd; rw [hgd]; try (exfalso; simp at hgd; omega)))) | fail | ((with_reducible refine tLoad ?_); go_must (refine w_at _ _ rfl (by exact ev_tmp rfl) ?_; intro hx; (first | refine w_load M _ _ _ rfl rfl hx rfl (by decide +kernel) (by exact rfl) ?_ | refine w_loadR M _ _ _ rfl rfl hx rfl (by decide +kernel) (by kernel_rfl) ?_); clear hx)) | ((with_reducible refine tStore ?_); go_must (refine w_at2 _ _ _ rfl (by exact ev_tmp rfl) (by first | exact ev_tmp rfl | exact ev_const) ?_; intro hx hy; (first | refine w_store M _ _ _ _ rfl rfl hx rfl hy rfl rfl (by decide +kernel) (by first | decide | simp | (simp; omega)) ?_ | refine w_storeR M _ _ _ _ rfl rfl hx rfl _ hy rfl (by kernel_rfl) (by simp [Value.oneCell']) (by first | rfl | assumption) ?_); clear hx hy M; intro w1 M; (try simp only [setC] at M))) | ((with_reducible refine tBox _ ?_); (refine w_box M _ _ rfl rfl _ rfl _ rfl ?_; clear M; intro g w1 M))) <;> (try conv => arg 5; simp only [Act.put, List.setIfInBounds_toArray, setC]))
  go_ret2
  exact ⟨rfl, rfl⟩
set_option maxRecDepth 100000 in
set_option maxHeartbeats 4000000 in
theorem Rewrap_nil {g : Nat} {R : RingS} {c : Chunk} (s about other : List UInt8) (w : World) (h : c.ok w) (I : IsRing g R c) : Calls Try.prog 17 #[.pointer (some ⟨g, 0, none⟩), .string (mkS s), .string (mkS about), .pointer none, .string (mkS other)] w fun e w' => e = .returned (.tuple #[.string (mkS []), .int .i64 2]) ∧ w = w' := by
  have M := Mem.start [] w
  have N1 := noneRing h I
  replace N1 := Lib.hid N1
  go_enter Try.func17, Try.ntmps17
  go_wp2_with ((first | (go_at_call 18; go_must ((first | (with_reducible refine N1.out.mono ?_) | (with_reducible refine (ringNone_nil _).mono ?_)); rintro e w1 ⟨rfl, rfl⟩)) | ((with_reducible refine tGuard ?_); (with_reducible refine w_stripE ?_ ?_); (focus (refine ⟨_, rfl, ?_⟩; first | (with_reducible rfl) | exact decide_eq_false (by omega) | exact decide_eq_true (by omega)))) | ((with_reducible refine tGuard ?_); first | ((with_reducible refine w_skip1 ?_ ?_); (focus (refine ⟨_, rfl, ?_⟩; first | (with_reducible rfl) | exact decide_eq_false (by omega) | exact decide_eq_true (by omega)))) | ((with_reducible refine w_skip0 ?_ ?_); (focus (refine ⟨_, rfl, ?_⟩; first | (with_reducible rfl) | exact decide_eq_false (by omega) | exact decide_eq_true (by omega))))) | ((with_reducible refine tGuard ?_); first | refine w_strip rfl (by with_reducible rfl) ?_ | ((fail_if_success (refine w_lit false rfl (by with_reducible rfl) ?_)); (fail_if_success (refine w_lit true rfl (by with_reducible rfl) ?_)); refine w_case rfl ?_ ?_ <;> (intro hgd; rw [hgd]; try (exfalso; simp at hgd; omega)))) | fail | ((with_reducible refine tLoad ?_); go_must (refine w_at _ _ rfl (by exact ev_tmp rfl) ?_; intro hx; (first | refine w_load M _ _ _ rfl rfl hx rfl (by decide +kernel) (by exact rfl) ?_ | refine w_loadR M _ _ _ rfl rfl hx rfl (by decide +kernel) (by kernel_rfl) ?_); clear hx)) | ((with_reducible refine tStore ?_); go_must (refine w_at2 _ _ _ rfl (by exact ev_tmp rfl) (by first | exact ev_tmp rfl | exact ev_const) ?_; intro hx hy; (first | refine w_store M _ _ _ _ rfl rfl hx rfl hy rfl rfl (by decide +kernel) (by first | decide | simp | (simp; omega)) ?_ | refine w_storeR M _ _ _ _ rfl rfl hx rfl _ hy rfl (by kernel_rfl) (by simp [Value.oneCell']) (by first | rfl | assumption) ?_); clear hx hy M; intro w1 M; (try simp only [setC] at M))) | ((with_reducible refine tBox _ ?_); (refine w_box M _ _ rfl rfl _ rfl _ rfl ?_; clear M; intro g w1 M))) <;> (try conv => arg 5; simp only [Act.put, List.setIfInBounds_toArray, setC]))
  go_ret2
  exact ⟨rfl, rfl⟩
set_option maxRecDepth 100000 in
set_option maxHeartbeats 4000000 in
theorem nil_Rotate (w : World) : Calls Try.prog 10 #[.pointer none] w fun e w' => e = .returned (.int .i64 2) ∧ w = w' := by
  have M := Mem.start [] w
  go_enter Try.func10, Try.ntmps10
  go_wp2_with ((first | (go_at_call 18; go_must (refine (ringNone_nil _).mono ?_; rintro e w1 ⟨rfl, rfl⟩)) | ((with_reducible refine tGuard ?_); first | refine w_strip rfl (by with_reducible rfl) ?_ | ((fail_if_success (refine w_lit false rfl (by with_reducible rfl) ?_)); (fail_if_success (refine w_lit true rfl (by with_reducible rfl) ?_)); refine w_case rfl ?_ ?_ <;> (intro hgd; rw [hgd]; try (exfalso; simp at hgd; omega)))) | fail | ((with_reducible refine tLoad ?_); go_must (refine w_at _ _ rfl (by exact ev_tmp rfl) ?_; intro hx; (first | refine w_load M _ _ _ rfl rfl hx rfl (by decide +kernel) (by exact rfl) ?_ | refine w_loadR M _ _ _ rfl rfl hx rfl (by decide +kernel) (by kernel_rfl) ?_); clear hx)) | ((with_reducible refine tStore ?_); go_must (refine w_at2 _ _ _ rfl (by exact ev_tmp rfl) (by first | exact ev_tmp rfl | exact ev_const) ?_; intro hx hy; (first | refine w_store M _ _ _ _ rfl rfl hx rfl hy rfl rfl (by decide +kernel) (by first | decide | simp | (simp; omega)) ?_ | refine w_storeR M _ _ _ _ rfl rfl hx rfl _ hy rfl (by kernel_rfl) (by simp [Value.oneCell']) (by first | rfl | assumption) ?_); clear hx hy M; intro w1 M; (try simp only [setC] at M))) | ((with_reducible refine tBox _ ?_); (refine w_box M _ _ rfl rfl _ rfl _ rfl ?_; clear M; intro g w1 M))) <;> (try conv => arg 5; simp only [Act.put, List.setIfInBounds_toArray, setC]))
  go_ret
  exact ⟨rfl, rfl⟩
set_option maxRecDepth 100000 in
set_option maxHeartbeats 4000000 in
theorem nil_Current (w : World) : Calls Try.prog 14 #[.pointer none] w fun e w' => e = .returned (.int .i64 0) ∧ w = w' := by
  have M := Mem.start [] w
  go_enter Try.func14, Try.ntmps14
  go_wp2_with ((first | (go_at_call 18; go_must (refine (ringNone_nil _).mono ?_; rintro e w1 ⟨rfl, rfl⟩)) | ((with_reducible refine tGuard ?_); first | refine w_strip rfl (by with_reducible rfl) ?_ | ((fail_if_success (refine w_lit false rfl (by with_reducible rfl) ?_)); (fail_if_success (refine w_lit true rfl (by with_reducible rfl) ?_)); refine w_case rfl ?_ ?_ <;> (intro hgd; rw [hgd]; try (exfalso; simp at hgd; omega)))) | fail | ((with_reducible refine tLoad ?_); go_must (refine w_at _ _ rfl (by exact ev_tmp rfl) ?_; intro hx; (first | refine w_load M _ _ _ rfl rfl hx rfl (by decide +kernel) (by exact rfl) ?_ | refine w_loadR M _ _ _ rfl rfl hx rfl (by decide +kernel) (by kernel_rfl) ?_); clear hx)) | ((with_reducible refine tStore ?_); go_must (refine w_at2 _ _ _ rfl (by exact ev_tmp rfl) (by first | exact ev_tmp rfl | exact ev_const) ?_; intro hx hy; (first | refine w_store M _ _ _ _ rfl rfl hx rfl hy rfl rfl (by decide +kernel) (by first | decide | simp | (simp; omega)) ?_ | refine w_storeR M _ _ _ _ rfl rfl hx rfl _ hy rfl (by kernel_rfl) (by simp [Value.oneCell']) (by first | rfl | assumption) ?_); clear hx hy M; intro w1 M; (try simp only [setC] at M))) | ((with_reducible refine tBox _ ?_); (refine w_box M _ _ rfl rfl _ rfl _ rfl ?_; clear M; intro g w1 M))) <;> (try conv => arg 5; simp only [Act.put, List.setIfInBounds_toArray, setC]))
  go_ret
  exact ⟨rfl, rfl⟩
set_option maxRecDepth 100000 in
set_option maxHeartbeats 4000000 in
theorem nil_Count (w : World) : Calls Try.prog 11 #[.pointer none] w fun e w' => e = .returned (.tuple #[.int .u32 0, .int .u64 0]) ∧ w = w' := by
  have M := Mem.start [] w
  go_enter Try.func11, Try.ntmps11
  go_wp2_with ((first | (go_at_call 18; go_must (refine (ringNone_nil _).mono ?_; rintro e w1 ⟨rfl, rfl⟩)) | ((with_reducible refine tGuard ?_); first | refine w_strip rfl (by with_reducible rfl) ?_ | ((fail_if_success (refine w_lit false rfl (by with_reducible rfl) ?_)); (fail_if_success (refine w_lit true rfl (by with_reducible rfl) ?_)); refine w_case rfl ?_ ?_ <;> (intro hgd; rw [hgd]; try (exfalso; simp at hgd; omega)))) | fail | ((with_reducible refine tLoad ?_); go_must (refine w_at _ _ rfl (by exact ev_tmp rfl) ?_; intro hx; (first | refine w_load M _ _ _ rfl rfl hx rfl (by decide +kernel) (by exact rfl) ?_ | refine w_loadR M _ _ _ rfl rfl hx rfl (by decide +kernel) (by kernel_rfl) ?_); clear hx)) | ((with_reducible refine tStore ?_); go_must (refine w_at2 _ _ _ rfl (by exact ev_tmp rfl) (by first | exact ev_tmp rfl | exact ev_const) ?_; intro hx hy; (first | refine w_store M _ _ _ _ rfl rfl hx rfl hy rfl rfl (by decide +kernel) (by first | decide | simp | (simp; omega)) ?_ | refine w_storeR M _ _ _ _ rfl rfl hx rfl _ hy rfl (by kernel_rfl) (by simp [Value.oneCell']) (by first | rfl | assumption) ?_); clear hx hy M; intro w1 M; (try simp only [setC] at M))) | ((with_reducible refine tBox _ ?_); (refine w_box M _ _ rfl rfl _ rfl _ rfl ?_; clear M; intro g w1 M))) <;> (try conv => arg 5; simp only [Act.put, List.setIfInBounds_toArray, setC]))
  go_ret2
  exact ⟨rfl, rfl⟩
set_option maxRecDepth 100000 in
set_option maxHeartbeats 4000000 in
theorem bare_Wrap {g : Nat} {s : List UInt8} {a b n : Int} (about text : List UInt8) (w : World) (RR : (Chunk.row g [.string (mkS s), .int .i64 a, .int .u32 b, .int .u64 n, .map none]).ok w) : Calls Try.prog 9 #[.pointer (some ⟨g, 0, none⟩), .string (mkS about), .string (mkS text)] w fun e w' => e = .returned (.tuple #[.string (mkS []), .int .i64 2]) ∧ w = w' := by
  have M := Mem.start [] w
  have nR : g ∉ ([] : List Nat) := by simp
  have NC : ∀ w, (Chunk.row g [.string (mkS s), .int .i64 a, .int .u32 b, .int .u64 n, .map none]).ok w → Calls Try.prog 18 #[.pointer (some ⟨g, 0, none⟩)] w fun e w' => e = .returned (.bool true) ∧ w = w' := by
    clear RR M
    intro w RR
    have M := Mem.start [] w
    have hme : ∀ w : World, (binOp .eql 55 (.map none) (.map none)).run Try.prog w = .ok (.bool true) w := fun w => map_eql_none Try.underlying55 w
    go_enter Try.func18, Try.ntmps18
    go_wp2_with ((first | ((with_reducible refine tLoad ?_); refine w_at _ _ rfl (by exact ev_tmp rfl) ?_; intro hx; (first | refine w_rowF M RR nR _ _ rfl hx rfl (by decide +kernel) (by exact rfl) ?_); clear hx) | ((with_reducible refine tGuard ?_); first | refine w_strip rfl (by with_reducible rfl) ?_ | ((fail_if_success (refine w_lit false rfl (by with_reducible rfl) ?_)); (fail_if_success (refine w_lit true rfl (by with_reducible rfl) ?_)); refine w_case rfl ?_ ?_ <;> (intro hgd; rw [hgd]; try (exfalso; simp at hgd; omega)))) | fail | ((with_reducible refine tLoad ?_); go_must (refine w_at _ _ rfl (by exact ev_tmp rfl) ?_; intro hx; (first | refine w_load M _ _ _ rfl rfl hx rfl (by decide +kernel) (by exact rfl) ?_ | refine w_loadR M _ _ _ rfl rfl hx rfl (by decide +kernel) (by kernel_rfl) ?_); clear hx)) | ((with_reducible refine tStore ?_); go_must (refine w_at2 _ _ _ rfl (by exact ev_tmp rfl) (by first | exact ev_tmp rfl | exact ev_const) ?_; intro hx hy; (first | refine w_store M _ _ _ _ rfl rfl hx rfl hy rfl rfl (by decide +kernel) (by first | decide | simp | (simp; omega)) ?_ | refine w_storeR M _ _ _ _ rfl rfl hx rfl _ hy rfl (by kernel_rfl) (by simp [Value.oneCell']) (by first | rfl | assumption) ?_); clear hx hy M; intro w1 M; (try simp only [setC] at M))) | ((with_reducible refine tBox _ ?_); (refine w_box M _ _ rfl rfl _ rfl _ rfl ?_; clear M; intro g w1 M))) <;> (try conv => arg 5; simp only [Act.put, List.setIfInBounds_toArray, setC]))
    go_ret
    exact ⟨rfl, rfl⟩
  replace NC := Lib.hid (NC w RR)
  go_enter Try.func9, Try.ntmps9
  go_wp2_with ((first | (go_at_call 18; go_must (refine (NC.out).mono ?_; rintro e w1 ⟨rfl, rfl⟩)) | ((with_reducible refine tGuard ?_); first | refine w_strip rfl (by with_reducible rfl) ?_ | ((fail_if_success (refine w_lit false rfl (by with_reducible rfl) ?_)); (fail_if_success (refine w_lit true rfl (by with_reducible rfl) ?_)); refine w_case rfl ?_ ?_ <;> (intro hgd; rw [hgd]; try (exfalso; simp at hgd; omega)))) | fail | ((with_reducible refine tLoad ?_); go_must (refine w_at _ _ rfl (by exact ev_tmp rfl) ?_; intro hx; (first | refine w_load M _ _ _ rfl rfl hx rfl (by decide +kernel) (by exact rfl) ?_ | refine w_loadR M _ _ _ rfl rfl hx rfl (by decide +kernel) (by kernel_rfl) ?_); clear hx)) | ((with_reducible refine tStore ?_); go_must (refine w_at2 _ _ _ rfl (by exact ev_tmp rfl) (by first | exact ev_tmp rfl | exact ev_const) ?_; intro hx hy; (first | refine w_store M _ _ _ _ rfl rfl hx rfl hy rfl rfl (by decide +kernel) (by first | decide | simp | (simp; omega)) ?_ | refine w_storeR M _ _ _ _ rfl rfl hx rfl _ hy rfl (by kernel_rfl) (by simp [Value.oneCell']) (by first | rfl | assumption) ?_); clear hx hy M; intro w1 M; (try simp only [setC] at M))) | ((with_reducible refine tBox _ ?_); (refine w_box M _ _ rfl rfl _ rfl _ rfl ?_; clear M; intro g w1 M))) <;> (try conv => arg 5; simp only [Act.put, List.setIfInBounds_toArray, setC]))
  go_ret2
  exact ⟨rfl, rfl⟩
end Go.Proofs.Ytidadhbaomieiaa

/- The walk of layer 6's example. Conditions: none. -/
namespace Go.Proofs.Ytidadhbaomieiaa
open Go.RowKit Go.TL
set_option maxRecDepth 100000 in
set_option maxHeartbeats 4000000 in
theorem awake06_c (w : World) : Calls Try.prog 13 #[] w fun e w' => e = .returned (.bool true) ∧ Below w.heap.size w w' := by
  have M := Mem.start [] w
  have NC : ∀ w, Calls Try.prog 8 #[.string (mkS [109]), .int .i64 0, .int .u32 7] w fun e w' => ∃ g C, e = .returned (.tuple #[.pointer (some ⟨g, 0, none⟩), .int .i64 0]) ∧ IsRing g ⟨[109], 0, 7, 0⟩ C ∧ Mem [] w w' [C] := fun w => New_ok [109] 0 7 w (by decide)
  have WC := fun (g : Nat) (c : Chunk) (w : World) (h : c.ok w) (I : IsRing g ⟨[109], 0, 7, 0⟩ c) => Wrap_ok [97] [120] h I (by decide) (by decide) (by decide) (by decide) (by decide)
  have RC := fun (g : Nat) (c : Chunk) (w : World) (h : c.ok w) (I : IsRing g ⟨[109], 0, 7, 0 + 1⟩ c) => Rotate_ok h I (by decide)
  have OC := fun (g : Nat) (c : Chunk) (w : World) (h : c.ok w) (I : IsRing g ⟨[109], 0 + 1, 7, 0 + 1⟩ c) => RingOpen_c (envB (RingS.env ⟨[109], 0, 7, 0⟩ [97] [120])) [97] h I (by decide) (by have := envB_length (RingS.env_right (R := ⟨[109], 0, 7, 0⟩) [97] [120] (by decide) (by decide)); omega) (by decide)
  have HO : openL [109] (0 + 1) (envB (RingS.env ⟨[109], 0, 7, 0⟩ [97] [120])) [97] = ([120], 0) := openL_ok (R := ⟨[109], 0, 7, 0⟩) [97] [120] (by decide) (by decide) (by decide)
  have TC := fun (g : Nat) (c : Chunk) (w : World) (h : c.ok w) (I : IsRing g ⟨[109], 0 + 1, 7, 0 + 1⟩ c) => Count_c h I
  have QC := fun (g : Nat) (c : Chunk) (w : World) (h : c.ok w) (I : IsRing g ⟨[109], 0 + 1, 7, 0 + 1⟩ c) => Current_c h I
  simp only at OC WC RC TC QC
  rw [HO] at OC
  obtain ⟨B, eB⟩ : ∃ B, B = envB (RingS.env ⟨[109], 0, 7, 0⟩ [97] [120]) := ⟨_, rfl⟩
  rw [← eB] at OC WC
  rw [show I32 7 = 7 from by decide, show I64 (0 + 1) = 1 from by decide] at TC
  rw [show (((0 + 1 : Nat)) : Int) = 1 from rfl] at QC
  simp only [show ((0 : Nat) : Int) = 0 from rfl] at OC
  replace NC := Lib.hid NC
  replace WC := Lib.hid WC
  replace RC := Lib.hid RC
  replace OC := Lib.hid OC
  replace TC := Lib.hid TC
  replace QC := Lib.hid QC
  clear eB HO
  go_enter Try.func13, Try.ntmps13
  go_wp2_with ((first | ((with_reducible refine tGuard ?_); (with_reducible refine w_stripE ?_ ?_); (focus (refine ⟨_, rfl, ?_⟩; first | (with_reducible rfl) | exact decide_eq_false (by omega) | exact decide_eq_true (by omega)))) | ((with_reducible refine tGuard ?_); first | ((with_reducible refine w_skip1 ?_ ?_); (focus (refine ⟨_, rfl, ?_⟩; first | (with_reducible rfl) | exact decide_eq_false (by omega) | exact decide_eq_true (by omega)))) | ((with_reducible refine w_skip0 ?_ ?_); (focus (refine ⟨_, rfl, ?_⟩; first | (with_reducible rfl) | exact decide_eq_false (by omega) | exact decide_eq_true (by omega))))) | (go_at_call 8; go_must (refine (NC.out _).mono ?_; rintro e w1 ⟨g, c, rfl, I0, MJ⟩; replace M := M.join MJ; clear MJ; simp only [List.cons_append, List.nil_append] at M)) | (go_at_call 9; go_must (refine (WC.out _ _ _ (M.ok 0 _ at0) I0).mono ?_; rintro e w1 ⟨rfl, c1, I1, U⟩; replace M := M.upd 0 at0 U; clear U; simp only [setC] at M)) | (go_at_call 10; go_must (refine (RC.out _ _ _ (M.ok 0 _ at0) I1).mono ?_; rintro e w1 ⟨rfl, c2, I2, U⟩; replace M := M.upd 0 at0 U; clear U; simp only [setC] at M)) | (go_at_call 12; go_must (refine (OC.out _ _ _ (M.ok 0 _ at0) I2).mono ?_; rintro e w1 ⟨rfl, c3, I3, U⟩; replace M := M.upd 0 at0 U; clear U; simp only [setC] at M)) | (go_at_call 11; go_must (refine (TC.out _ _ _ (M.ok 0 _ at0) I3).mono ?_; rintro e w1 ⟨rfl, hb⟩; replace M := M.call hb; clear hb)) | (go_at_call 14; go_must (refine (QC.out _ _ _ (M.ok 0 _ at0) I3).mono ?_; rintro e w1 ⟨rfl, rfl⟩)) | ((with_reducible refine tGuard ?_); first | refine w_strip rfl (by with_reducible rfl) ?_ | ((fail_if_success (refine w_lit false rfl (by with_reducible rfl) ?_)); (fail_if_success (refine w_lit true rfl (by with_reducible rfl) ?_)); refine w_case rfl ?_ ?_ <;> (intro hgd; rw [hgd]; try (exfalso; simp at hgd; omega)))) | fail | ((with_reducible refine tLoad ?_); go_must (refine w_at _ _ rfl (by exact ev_tmp rfl) ?_; intro hx; (first | refine w_load M _ _ _ rfl rfl hx rfl (by decide +kernel) (by exact rfl) ?_ | refine w_loadR M _ _ _ rfl rfl hx rfl (by decide +kernel) (by kernel_rfl) ?_); clear hx)) | ((with_reducible refine tStore ?_); go_must (refine w_at2 _ _ _ rfl (by exact ev_tmp rfl) (by first | exact ev_tmp rfl | exact ev_const) ?_; intro hx hy; (first | refine w_store M _ _ _ _ rfl rfl hx rfl hy rfl rfl (by decide +kernel) (by first | decide | simp | (simp; omega)) ?_ | refine w_storeR M _ _ _ _ rfl rfl hx rfl _ hy rfl (by kernel_rfl) (by simp [Value.oneCell']) (by first | rfl | assumption) ?_); clear hx hy M; intro w1 M; (try simp only [setC] at M))) | ((with_reducible refine tBox _ ?_); (refine w_box M _ _ rfl rfl _ rfl _ rfl ?_; clear M; intro g w1 M))) <;> (try conv => arg 5; simp only [Act.put, List.setIfInBounds_toArray, setC]))
  go_ret
  exact ⟨by first | rfl | simp, M.below⟩
end Go.Proofs.Ytidadhbaomieiaa

/- What the statements' frames lean on: an array of bytes that came in; a byte that came in. No conditions but those each lemma names. -/
namespace Go
namespace TL
open Go.RowKit
theorem wf_u8 {a : Int} (h : (Lit.int .u8 a).wf = true) : ∃ x : UInt8, a = I8 x := by
  have hb : IntKind.u8.min ≤ a ∧ a ≤ IntKind.u8.max := by simpa [Lit.wf] using h
  have h0 : IntKind.u8.min = 0 := by decide
  have h1 : IntKind.u8.max = 255 := by decide
  rw [h0, h1] at hb
  refine ⟨UInt8.ofNat a.toNat, ?_⟩
  rw [I8_eq, UInt8.toNat_ofNat']
  omega
theorem eq_of_cells {n : Nat} (cs : List Value) (h : ∀ i, i < n → ∃ x : UInt8, (cs.drop i).take 1 = [vb x]) (hl : cs.length = n) : ∃ l : List UInt8, l.length = n ∧ cs = l.map vb := by
  induction n generalizing cs with
  | zero => exact ⟨[], rfl, by simpa using hl⟩
  | succ n ih =>
    cases cs with
    | nil => simp at hl
    | cons c cs =>
      obtain ⟨x, hx⟩ := h 0 (by omega)
      simp only [List.drop_zero, List.take_succ_cons, List.take_zero, List.cons.injEq, and_true] at hx
      obtain ⟨l, h1, h2⟩ := ih cs (fun i hi => by simpa using h (i + 1) (by omega)) (by simpa using hl)
      exact ⟨x :: l, by simp [h1], by rw [hx, h2]; rfl⟩
theorem open_arr {P : Program} {w : World} {H : Type} {enc : TypeId × Value → H} {base : Nat} {spare : Bool} {held : _} {r : Reach} {b0 : Nat} {t e : TypeId} {n : Nat} {v : Value} {d : DataW H} {p : List MemPlace} (hu : P.underlying t = some (.array n e)) (he : P.underlying e = some (.int .u8)) (hc : P.cellsOf e = 1) (hct : P.cellsOf t = n)
    (hv : Value.okWide P w r b0 t v) (h : DataW.Trod enc P w base held spare t v d p) : ∃ l : List UInt8, l.length = n ∧ v = .agg (l.map vb).toArray := by
  simp only [Value.okWide, hu] at hv
  obtain ⟨cs, rfl, hsz, _⟩ := hv
  obtain ⟨fuel, hf⟩ := h
  obtain ⟨xs, m, _, _, _, hxl, hi⟩ := DataW.trod_array hu hf
  obtain ⟨l, h1, h2⟩ := eq_of_cells (n := n) cs.toList (fun i hin => by
    have h3 := hi i hin
    rw [hc, Nat.mul_one, List.getElem?_eq_getElem (by omega)] at h3
    obtain ⟨k, h4, _, h5⟩ := DataW.trod_int he h3
    obtain ⟨x, rfl⟩ := wf_u8 h5
    exact ⟨x, h4⟩) (by rw [Array.length_toList, hsz, hct])
  exact ⟨l, h1, by rw [← h2]⟩
end TL
end Go

/- Frames of statements about words of 32 and 64 bits. No conditions but those each lemma names. -/
namespace Go
namespace TL
open Go.RowKit
theorem wf_u32 {a : Int} (h : (Lit.int .u32 a).wf = true) : ∃ x : UInt32, a = I32 x := by
  have hb : IntKind.u32.min ≤ a ∧ a ≤ IntKind.u32.max := by simpa [Lit.wf] using h
  have h0 : IntKind.u32.min = 0 := by decide
  have h1 : IntKind.u32.max = 4294967295 := by decide
  rw [h0, h1] at hb
  refine ⟨UInt32.ofNat a.toNat, ?_⟩
  rw [I32_eq, UInt32.toNat_ofNat']
  omega
theorem wf_u64 {a : Int} (h : (Lit.int .u64 a).wf = true) : ∃ x : UInt64, a = I64 x := by
  have hb : IntKind.u64.min ≤ a ∧ a ≤ IntKind.u64.max := by simpa [Lit.wf] using h
  have h0 : IntKind.u64.min = 0 := by decide
  have h1 : IntKind.u64.max = 18446744073709551615 := by decide
  rw [h0, h1] at hb
  refine ⟨UInt64.ofNat a.toNat, ?_⟩
  rw [I64_eq, UInt64.toNat_ofNat']
  omega
end TL
end Go
