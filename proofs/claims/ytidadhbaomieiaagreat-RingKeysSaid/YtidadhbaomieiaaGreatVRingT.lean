/- The walk of RingKeys. Conditions: none but what every machine has. -/
import Derived.Test.YtidadhbaomieiaaGreatZe
import Derived.Test.YtidadhbaomieiaaGreatVRef06K
namespace Go.Proofs.YtidadhbaomieiaaGreat
open Go.RowKit Go.TL
theorem keyEq (l m : List UInt8) (hl : l.length = 32) (hm : m.length = 32) : EqRow Tryz.prog 50 l m :=
  eqRow Tryz.underlying50 Tryz.underlying5 (by kernel_rfl) (by kernel_rfl) l m hl hm
section
variable (l m : List UInt8) (hl : l.length = 32) (hm : m.length = 32) (w : World)
include hl hm
@[go_sem ↓] theorem key_eql : (binOp .eql 50 (.agg (bs l).toArray) (.agg (bs m).toArray)).run Tryz.prog w = .ok (.bool (l == m)) w := (keyEq l m hl hm).eql w
@[go_sem ↓] theorem key_guard (x y : Operand) : (eqGuard .eql 50 x y (.agg (bs l).toArray) (.agg (bs m).toArray)).run Tryz.prog w = .ok () w := (keyEq l m hl hm).guardE x y w
end
set_option maxRecDepth 100000 in
set_option maxHeartbeats 4000000 in
theorem RingKeys_any (m : List UInt8) (i : Int) (w : World) : Calls Tryz.prog 4 #[.string (mkS m), .int .i64 i] w fun e w' => e = .returned (.bool true) ∧ Below w.heap.size w w' := by
  have M := Mem.start [] w
  rcases (by omega : (3000 : Int) < (m.length : Int) ∨ (m.length : Int) ≤ 3000) with h1 | h1
  · go_enter Tryz.func4, Tryz.ntmps4
    go_wp2_with ((first | ((with_reducible refine tGuard ?_); (with_reducible refine w_stripE ?_ ?_); (focus (refine ⟨_, rfl, ?_⟩; first | (with_reducible rfl) | exact decide_eq_false (by omega) | exact decide_eq_true (by omega)))) | ((with_reducible refine tGuard ?_); first | ((with_reducible refine w_skip1 ?_ ?_); (focus (refine ⟨_, rfl, ?_⟩; first | (with_reducible rfl) | exact decide_eq_false (by omega) | exact decide_eq_true (by omega)))) | ((with_reducible refine w_skip0 ?_ ?_); (focus (refine ⟨_, rfl, ?_⟩; first | (with_reducible rfl) | exact decide_eq_false (by omega) | exact decide_eq_true (by omega))))) | (go_at_call 10; go_must (refine (awake06_c _).mono ?_; rintro e w1 ⟨rfl, hb⟩; replace M := M.call hb; clear hb)) | ((with_reducible refine tGuard ?_); first | refine w_strip rfl (by with_reducible rfl) ?_ | ((fail_if_success (refine w_lit false rfl (by with_reducible rfl) ?_)); (fail_if_success (refine w_lit true rfl (by with_reducible rfl) ?_)); refine w_case rfl ?_ ?_ <;> (intro hgd; rw [hgd]; try (exfalso; simp at hgd; omega)))) | fail | ((with_reducible refine tLoad ?_); go_must (refine w_at _ _ rfl (by exact ev_tmp rfl) ?_; intro hx; (first | refine w_load M _ _ _ rfl rfl hx rfl (by decide +kernel) (by exact rfl) ?_ | refine w_loadR M _ _ _ rfl rfl hx rfl (by decide +kernel) (by kernel_rfl) ?_); clear hx)) | ((with_reducible refine tStore ?_); go_must (refine w_at2 _ _ _ rfl (by exact ev_tmp rfl) (by first | exact ev_tmp rfl | exact ev_const) ?_; intro hx hy; (first | refine w_store M _ _ _ _ rfl rfl hx rfl hy rfl rfl (by decide +kernel) (by first | decide | simp | (simp; omega)) ?_ | refine w_storeR M _ _ _ _ rfl rfl hx rfl _ hy rfl (by kernel_rfl) (by simp [Value.oneCell']) (by first | rfl | assumption) ?_); clear hx hy M; intro w1 M; (try simp only [setC] at M))) | ((with_reducible refine tBox _ ?_); (refine w_box M _ _ rfl rfl _ rfl _ rfl ?_; clear M; intro g w1 M))) <;> (try conv => arg 5; simp only [Act.put, List.setIfInBounds_toArray, setC]))
    go_ret
    exact ⟨by first | rfl | simp, M.below⟩
  · have KC := fun w => ringKey_c m i w (by omega)
    have RC := fun w => rKey06_c m i w (by omega)
    have hr : (ringU m (w64 i)).length = 32 := macL_len _ _
    obtain ⟨r, er⟩ : ∃ r, r = ringU m (w64 i) := ⟨_, rfl⟩
    rw [← er] at KC RC hr
    replace KC := Lib.hid KC
    replace RC := Lib.hid RC
    clear er
    go_enter Tryz.func4, Tryz.ntmps4
    go_wp2_with ((first | (go_at_call 10; go_must (refine (awake06_c _).mono ?_; rintro e w1 ⟨rfl, hb⟩; replace M := M.call hb; clear hb)) | (go_at_call 21; go_must (refine (KC.out _).mono ?_; rintro e w1 ⟨rfl, hb⟩; replace M := M.call hb; clear hb)) | (go_at_call 22; go_must (refine (RC.out _).mono ?_; rintro e w1 ⟨rfl, hb⟩; replace M := M.call hb; clear hb)) | ((with_reducible refine tGuard ?_); first | refine w_strip rfl (by with_reducible rfl) ?_ | ((fail_if_success (refine w_lit false rfl (by with_reducible rfl) ?_)); (fail_if_success (refine w_lit true rfl (by with_reducible rfl) ?_)); refine w_case rfl ?_ ?_ <;> (intro hgd; rw [hgd]; try (exfalso; simp at hgd; omega)))) | fail | ((with_reducible refine tLoad ?_); go_must (refine w_at _ _ rfl (by exact ev_tmp rfl) ?_; intro hx; (first | refine w_load M _ _ _ rfl rfl hx rfl (by decide +kernel) (by exact rfl) ?_ | refine w_loadR M _ _ _ rfl rfl hx rfl (by decide +kernel) (by kernel_rfl) ?_); clear hx)) | ((with_reducible refine tStore ?_); go_must (refine w_at2 _ _ _ rfl (by exact ev_tmp rfl) (by first | exact ev_tmp rfl | exact ev_const) ?_; intro hx hy; (first | refine w_store M _ _ _ _ rfl rfl hx rfl hy rfl rfl (by decide +kernel) (by first | decide | simp | (simp; omega)) ?_ | refine w_storeR M _ _ _ _ rfl rfl hx rfl _ hy rfl (by kernel_rfl) (by simp [Value.oneCell']) (by first | rfl | assumption) ?_); clear hx hy M; intro w1 M; (try simp only [setC] at M))) | ((with_reducible refine tBox _ ?_); (refine w_box M _ _ rfl rfl _ rfl _ rfl ?_; clear M; intro g w1 M))) <;> (try conv => arg 5; simp only [Act.put, List.setIfInBounds_toArray, setC]))
    go_ret
    exact ⟨by first | rfl | simp, M.below⟩
end Go.Proofs.YtidadhbaomieiaaGreat
