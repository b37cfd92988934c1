/- Texts of this seat, put together: Ref24, Frame, FrameS, FrameT. Each begins with a remark that says what is proved in it, and under which conditions. -/
import Derived.ProofKit
import Derived.OpenShut
import Derived.ShutString
import Derived.ChangeOld
import Derived.Below
import Derived.Deep.Slices
import Derived.ChangeArms
import Derived.Test.YtjlkiopncclomaaZa
import Derived.Test.YtjlkiopncclomaaZe
import Derived.Test.YtjlkiopncclomaaZf
import Derived.Test.YtjlkiopncclomaaZg
/- The walks of layer 24's reference: when a token is right, its bytes, wrapped; and of layer 11's Right. Conditions: lengths. -/
namespace Go
namespace TL
open Go.RowKit
theorem rightM_len {l : List Mt} (h : ¬ (1 ≤ l.length ∧ l.length ≤ 4)) : rightM l = false := by
  unfold rightM
  by_cases h1 : 1 ≤ l.length
  · rw [decide_eq_false (fun h4 : l.length ≤ 4 => h ⟨h1, h4⟩), Bool.and_false, Bool.and_false]
  · rw [decide_eq_false h1, Bool.false_and, Bool.and_false]
theorem okM_at {l : List Mt} {k : Nat} {x : Mt} (hx : l[k]? = some x) : okM l k = (namedL x.1 && !((l.take k).any fun y => y.1 == x.1)) := by unfold okM; rw [List.getD_eq_getElem?_getD, hx]; rfl
theorem okM_twin {l : List Mt} {k i : Nat} {a c : List UInt8} {b d : Bool} (hx : l[k]? = some (a, b)) (hy : l[i]? = some (c, d)) (hi : i < k) (h : c = a) : okM l k = false := by
  rw [okM_at hx]
  have : ((l.take k).any fun y => y.1 == a) = true := by
    rw [List.any_eq_true]
    exact ⟨(c, d), List.mem_of_getElem? (i := i) (by rw [List.getElem?_take, if_pos hi]; exact hy), by simpa using h⟩
  rw [this]; simp
theorem okM_bad {l : List Mt} {k : Nat} {a : List UInt8} {b : Bool} (hx : l[k]? = some (a, b)) (h : namedL a = false) : okM l k = false := by rw [okM_at hx, h, Bool.false_and]
theorem okM_good {l : List Mt} {k : Nat} {a : List UInt8} {b : Bool} (hx : l[k]? = some (a, b)) (h : namedL a = true) (hn : ∀ (i : Nat) (y : Mt), i < k → l[i]? = some y → y.1 ≠ a) : okM l k = true := by
  rw [okM_at hx, h, Bool.true_and]
  have : ((l.take k).any fun y => y.1 == a) = false := by
    rw [List.any_eq_false]
    intro y hy
    obtain ⟨i, hi⟩ := List.mem_iff_getElem?.1 hy
    rw [List.getElem?_take] at hi
    split at hi
    · simpa using hn i y (by assumption) hi
    · cases hi
  rw [this]; rfl
end TL
end Go
namespace Go.Proofs.Ytjlkiopncclomaa
open Go.RowKit Go.TL
set_option maxRecDepth 100000 in
set_option maxHeartbeats 4000000 in
theorem ref11Right_c (l : List Mt) (v : Value) (w : World) (S : SeesL w 2 mtV v l) (hl : l.length ≤ 1000000) (hm : ∀ x ∈ l, x.1.length ≤ 1000000000) :
    Calls Try.prog 96 #[v] w fun e w' => e = .returned (.bool (rightM l)) ∧ Below w.heap.size w w' := by
  obtain ⟨p, cap, rfl, hc⟩ := S.form
  have M := Mem.start [] w
  by_cases hn : 1 ≤ l.length ∧ l.length ≤ 4
  rotate_left
  · rw [rightM_len hn]
    rcases (by omega : (l.length : Int) < 1 ∨ (¬ (l.length : Int) < 1 ∧ (4 : Int) < (l.length : Int))) with h1 | ⟨h1, h2⟩
    all_goals
      go_enter Try.func96, Try.ntmps96
      go_wp2_with ((first | ((with_reducible refine tGuard ?_); (with_reducible refine w_stripE ?_ ?_); (focus (refine ⟨_, rfl, ?_⟩; first | (with_reducible rfl) | exact decide_eq_false (by omega) | exact decide_eq_true (by omega)))) | ((with_reducible refine tGuard ?_); first | ((with_reducible refine w_skip1 ?_ ?_); (focus (refine ⟨_, rfl, ?_⟩; first | (with_reducible rfl) | exact decide_eq_false (by omega) | exact decide_eq_true (by omega)))) | ((with_reducible refine w_skip0 ?_ ?_); (focus (refine ⟨_, rfl, ?_⟩; first | (with_reducible rfl) | exact decide_eq_false (by omega) | exact decide_eq_true (by omega))))) | ((with_reducible refine tGuard ?_); refine w_strip rfl (by with_reducible rfl) ?_) | fail | ((with_reducible refine tLoad ?_); go_must (refine w_at _ _ rfl (by exact ev_tmp rfl) ?_; intro hx; (first | refine w_load M _ _ _ rfl (by first | exact at0) hx rfl (by decide +kernel) (by exact rfl) ?_ | refine w_loadR M _ _ _ rfl (by first | exact at0) hx rfl (by decide +kernel) (by kernel_rfl) ?_); clear hx)) | ((with_reducible refine tStore ?_); go_must (refine w_at2 _ _ _ rfl (by exact ev_tmp rfl) (by first | exact ev_tmp rfl | exact ev_const) ?_; intro hx hy; (first | refine w_store M _ _ _ _ rfl (by first | exact at0) hx rfl hy rfl rfl (by decide +kernel) (by first | decide | simp | (simp; omega)) ?_ | refine w_storeR M _ _ _ _ rfl (by first | exact at0) hx rfl _ hy rfl (by kernel_rfl) (by simp [Value.oneCell']) (by first | rfl | assumption) ?_); clear hx hy M; intro w1 M; (try simp only [setC] at M))) | ((with_reducible refine tBox _ ?_); (refine w_box M _ _ rfl rfl _ rfl _ rfl ?_; clear M; intro g w1 M))) <;> (try conv => arg 5; simp only [Act.put, List.setIfInBounds_toArray, setC]))
      go_ret
      exact ⟨by first | rfl | simp, M.below⟩
  obtain ⟨hn1, hn4⟩ := hn
  have h1 : ¬ (l.length : Int) < 1 := by omega
  have h2 : ¬ (4 : Int) < (l.length : Int) := by omega
  have HB := fun i => @rightM_bad l i
  have HG : (∀ i, i < l.length → okM l i = true) → rightM l = true := fun h => by rw [rightM_good h, decide_eq_true hn1, decide_eq_true hn4]; rfl
  obtain ⟨R, eR⟩ : ∃ R, R = rightM l := ⟨_, rfl⟩
  simp only [← eR] at HB HG
  rw [← eR]
  replace HB := Lib.hid HB
  replace HG := Lib.hid HG
  clear eR
  go_enter Try.func96, Try.ntmps96
  go_wp2_with ((first | ((with_reducible refine tGuard ?_); (with_reducible refine w_stripE ?_ ?_); (focus (refine ⟨_, rfl, ?_⟩; first | (with_reducible rfl) | exact decide_eq_false (by omega) | exact decide_eq_true (by omega)))) | ((with_reducible refine tGuard ?_); first | ((with_reducible refine w_skip1 ?_ ?_); (focus (refine ⟨_, rfl, ?_⟩; first | (with_reducible rfl) | exact decide_eq_false (by omega) | exact decide_eq_true (by omega)))) | ((with_reducible refine w_skip0 ?_ ?_); (focus (refine ⟨_, rfl, ?_⟩; first | (with_reducible rfl) | exact decide_eq_false (by omega) | exact decide_eq_true (by omega))))) | ((with_reducible refine tGuard ?_); refine w_strip rfl (by with_reducible rfl) ?_) | fail | ((with_reducible refine tLoad ?_); go_must (refine w_at _ _ rfl (by exact ev_tmp rfl) ?_; intro hx; (first | refine w_load M _ _ _ rfl (by first | exact at0) hx rfl (by decide +kernel) (by exact rfl) ?_ | refine w_loadR M _ _ _ rfl (by first | exact at0) hx rfl (by decide +kernel) (by kernel_rfl) ?_); clear hx)) | ((with_reducible refine tStore ?_); go_must (refine w_at2 _ _ _ rfl (by exact ev_tmp rfl) (by first | exact ev_tmp rfl | exact ev_const) ?_; intro hx hy; (first | refine w_store M _ _ _ _ rfl (by first | exact at0) hx rfl hy rfl rfl (by decide +kernel) (by first | decide | simp | (simp; omega)) ?_ | refine w_storeR M _ _ _ _ rfl (by first | exact at0) hx rfl _ hy rfl (by kernel_rfl) (by simp [Value.oneCell']) (by first | rfl | assumption) ?_); clear hx hy M; intro w1 M; (try simp only [setC] at M))) | ((with_reducible refine tBox _ ?_); (refine w_box M _ _ rfl rfl _ rfl _ rfl ?_; clear M; intro g w1 M))) <;> (try conv => arg 5; simp only [Act.put, List.setIfInBounds_toArray, setC]))
  go_loopw [3] (fun iv wr => ∃ k : Nat, k ≤ l.length ∧ iv = .int .i64 k ∧ Hid (∀ j, j < k → okM l j = true) ∧ Mem [] w wr []) (fun iv _ => l.length - (intOf iv).toNat)
  case atStart => exact ⟨0, by omega, rfl, Lib.hid (by omega), M⟩
  case round =>
    clear M
    obtain ⟨k, hk, rfl, HK, M⟩ := hrel
    by_cases hlt : k < l.length
    · obtain ⟨g, so, rfl⟩ := S.addr (by omega)
      obtain ⟨⟨a, b⟩, hx⟩ : ∃ x, l[k]? = some x := ⟨_, List.getElem?_eq_getElem hlt⟩
      have ha := hm (a, b) (List.mem_of_getElem? hx)
      simp only at ha
      have HX := Lib.hid hx
      have NC := fun w => Named_c a w ha
      have ob := @okM_bad l k a b hx
      have og := @okM_good l k a b hx
      have ot := fun i c d => @okM_twin l k i a c b d hx
      obtain ⟨nb, en⟩ : ∃ nb, nb = namedL a := ⟨_, rfl⟩
      rw [← en] at NC ob og
      replace NC := Lib.hid NC
      replace ob := Lib.hid ob
      replace og := Lib.hid og
      replace ot := Lib.hid ot
      clear hx en
      cases nb with
      | false =>
        obtain rfl : R = false := HB.out k hlt (ob.out rfl)
        go_wp2_with ((first | ((with_reducible refine tGuard ?_); (with_reducible refine w_stripE ?_ ?_); (focus (refine ⟨_, rfl, ?_⟩; first | (with_reducible rfl) | exact decide_eq_false (by omega) | exact decide_eq_true (by omega)))) | ((with_reducible refine tGuard ?_); first | ((with_reducible refine w_skip1 ?_ ?_); (focus (refine ⟨_, rfl, ?_⟩; first | (with_reducible rfl) | exact decide_eq_false (by omega) | exact decide_eq_true (by omega)))) | ((with_reducible refine w_skip0 ?_ ?_); (focus (refine ⟨_, rfl, ?_⟩; first | (with_reducible rfl) | exact decide_eq_false (by omega) | exact decide_eq_true (by omega))))) | ((with_reducible refine tLoad ?_); refine w_at _ _ rfl (by exact ev_tmp rfl) ?_; intro hx; first | (refine w_seeA M S HX.out _ _ rfl hx rfl (by decide +kernel) (by first | (with_reducible rfl) | omega) (by kernel_rfl) ?_; clear hx; (try conv => arg 5; simp only [Act.put, List.setIfInBounds_toArray, setC, mtV_eq])) | (refine w_see M S HX.out _ _ rfl hx rfl (by decide +kernel) 0 (by first | (with_reducible rfl) | omega) rfl ?_; clear hx) | (refine w_see M S HX.out _ _ rfl hx rfl (by decide +kernel) 1 (by first | (with_reducible rfl) | omega) rfl ?_; clear hx) | (refine w_see M S HX.out _ _ rfl hx rfl (by decide +kernel) 2 (by first | (with_reducible rfl) | omega) rfl ?_; clear hx)) | (go_at_call 117; go_must (refine (NC.out _).mono ?_; rintro e w1 ⟨rfl, rfl⟩)) | ((with_reducible refine tGuard ?_); refine w_strip rfl (by with_reducible rfl) ?_) | fail | ((with_reducible refine tLoad ?_); go_must (refine w_at _ _ rfl (by exact ev_tmp rfl) ?_; intro hx; (first | refine w_load M _ _ _ rfl (by first | exact at0) hx rfl (by decide +kernel) (by exact rfl) ?_ | refine w_loadR M _ _ _ rfl (by first | exact at0) hx rfl (by decide +kernel) (by kernel_rfl) ?_); clear hx)) | ((with_reducible refine tStore ?_); go_must (refine w_at2 _ _ _ rfl (by exact ev_tmp rfl) (by first | exact ev_tmp rfl | exact ev_const) ?_; intro hx hy; (first | refine w_store M _ _ _ _ rfl (by first | exact at0) hx rfl hy rfl rfl (by decide +kernel) (by first | decide | simp | (simp; omega)) ?_ | refine w_storeR M _ _ _ _ rfl (by first | exact at0) hx rfl _ hy rfl (by kernel_rfl) (by simp [Value.oneCell']) (by first | rfl | assumption) ?_); clear hx hy M; intro w1 M; (try simp only [setC] at M))) | ((with_reducible refine tBox _ ?_); (refine w_box M _ _ rfl rfl _ rfl _ rfl ?_; clear M; intro g w1 M))) <;> (try conv => arg 5; simp only [Act.put, List.setIfInBounds_toArray, setC]))
        go_ret
        exact ⟨rfl, M.below⟩
      | true =>
        go_wp2_with ((first | ((with_reducible refine tGuard ?_); (with_reducible refine w_stripE ?_ ?_); (focus (refine ⟨_, rfl, ?_⟩; first | (with_reducible rfl) | exact decide_eq_false (by omega) | exact decide_eq_true (by omega)))) | ((with_reducible refine tGuard ?_); first | ((with_reducible refine w_skip1 ?_ ?_); (focus (refine ⟨_, rfl, ?_⟩; first | (with_reducible rfl) | exact decide_eq_false (by omega) | exact decide_eq_true (by omega)))) | ((with_reducible refine w_skip0 ?_ ?_); (focus (refine ⟨_, rfl, ?_⟩; first | (with_reducible rfl) | exact decide_eq_false (by omega) | exact decide_eq_true (by omega))))) | ((with_reducible refine tLoad ?_); refine w_at _ _ rfl (by exact ev_tmp rfl) ?_; intro hx; first | (refine w_seeA M S HX.out _ _ rfl hx rfl (by decide +kernel) (by first | (with_reducible rfl) | omega) (by kernel_rfl) ?_; clear hx; (try conv => arg 5; simp only [Act.put, List.setIfInBounds_toArray, setC, mtV_eq])) | (refine w_see M S HX.out _ _ rfl hx rfl (by decide +kernel) 0 (by first | (with_reducible rfl) | omega) rfl ?_; clear hx) | (refine w_see M S HX.out _ _ rfl hx rfl (by decide +kernel) 1 (by first | (with_reducible rfl) | omega) rfl ?_; clear hx) | (refine w_see M S HX.out _ _ rfl hx rfl (by decide +kernel) 2 (by first | (with_reducible rfl) | omega) rfl ?_; clear hx)) | (go_at_call 117; go_must (refine (NC.out _).mono ?_; rintro e w1 ⟨rfl, rfl⟩)) | ((with_reducible refine tGuard ?_); refine w_strip rfl (by with_reducible rfl) ?_) | fail | ((with_reducible refine tLoad ?_); go_must (refine w_at _ _ rfl (by exact ev_tmp rfl) ?_; intro hx; (first | refine w_load M _ _ _ rfl (by first | exact at0) hx rfl (by decide +kernel) (by exact rfl) ?_ | refine w_loadR M _ _ _ rfl (by first | exact at0) hx rfl (by decide +kernel) (by kernel_rfl) ?_); clear hx)) | ((with_reducible refine tStore ?_); go_must (refine w_at2 _ _ _ rfl (by exact ev_tmp rfl) (by first | exact ev_tmp rfl | exact ev_const) ?_; intro hx hy; (first | refine w_store M _ _ _ _ rfl (by first | exact at0) hx rfl hy rfl rfl (by decide +kernel) (by first | decide | simp | (simp; omega)) ?_ | refine w_storeR M _ _ _ _ rfl (by first | exact at0) hx rfl _ hy rfl (by kernel_rfl) (by simp [Value.oneCell']) (by first | rfl | assumption) ?_); clear hx hy M; intro w1 M; (try simp only [setC] at M))) | ((with_reducible refine tBox _ ?_); (refine w_box M _ _ rfl rfl _ rfl _ rfl ?_; clear M; intro g w1 M))) <;> (try conv => arg 5; simp only [Act.put, List.setIfInBounds_toArray, setC]))
        go_loopw [4] (fun iv wr => ∃ i : Nat, i ≤ k ∧ iv = .int .i64 i ∧ Hid (∀ (j : Nat) (y : Mt), j < i → l[j]? = some y → y.1 ≠ a) ∧ Mem [] w wr []) (fun iv _ => k - (intOf iv).toNat)
        case atStart => exact ⟨0, by omega, rfl, Lib.hid (by omega), M⟩
        case round =>
          clear M
          obtain ⟨i, hi, rfl, HI, M⟩ := hrel
          by_cases hik : i < k
          · obtain ⟨⟨c, d⟩, hy⟩ : ∃ x, l[i]? = some x := ⟨_, List.getElem?_eq_getElem (by omega)⟩
            have HY := Lib.hid hy
            clear hy
            have OT := Lib.hid fun h : c = a => HB.out k hlt (ot.out i c d HY.out hik h)
            have hil : i < l.length := by omega
            cases hca : c == a with
            | true =>
              obtain rfl : R = false := OT.out (by simpa using hca)
              go_wp2_with ((first | ((with_reducible refine tGuard ?_); (with_reducible refine w_stripE ?_ ?_); (focus (refine ⟨_, rfl, ?_⟩; first | (with_reducible rfl) | exact decide_eq_false (by omega) | exact decide_eq_true (by omega)))) | ((with_reducible refine tGuard ?_); first | ((with_reducible refine w_skip1 ?_ ?_); (focus (refine ⟨_, rfl, ?_⟩; first | (with_reducible rfl) | exact decide_eq_false (by omega) | exact decide_eq_true (by omega)))) | ((with_reducible refine w_skip0 ?_ ?_); (focus (refine ⟨_, rfl, ?_⟩; first | (with_reducible rfl) | exact decide_eq_false (by omega) | exact decide_eq_true (by omega))))) | ((with_reducible show Code.wp _ (Code.region 11 _ _) _ _ _); go_must (refine region_det [(0, false), (1, false), (2, false), (3, false), (5, false), (6, false), (7, false), (8, false), (4, false), (9, false), (10, false)] [(35, .str), (40, .str)] (by kernel_rfl) (by kernel_rfl) rfl (by kernel_rfl) ?_; replace M := M.drew; simp only [reord, opAt, List.map_cons, List.map_nil, List.getElem?_toArray, List.getElem?_cons_zero, List.getElem?_cons_succ, Option.getD_some])) | ((with_reducible refine tLoad ?_); refine w_at _ _ rfl (by exact ev_tmp rfl) ?_; intro hx; first | (refine w_seeA M S HX.out _ _ rfl hx rfl (by decide +kernel) (by first | (with_reducible rfl) | omega) (by kernel_rfl) ?_; clear hx; (try conv => arg 5; simp only [Act.put, List.setIfInBounds_toArray, setC, mtV_eq])) | (refine w_see M S HX.out _ _ rfl hx rfl (by decide +kernel) 0 (by first | (with_reducible rfl) | omega) rfl ?_; clear hx) | (refine w_see M S HX.out _ _ rfl hx rfl (by decide +kernel) 1 (by first | (with_reducible rfl) | omega) rfl ?_; clear hx) | (refine w_see M S HX.out _ _ rfl hx rfl (by decide +kernel) 2 (by first | (with_reducible rfl) | omega) rfl ?_; clear hx) | (refine w_seeA M S HY.out _ _ rfl hx rfl (by decide +kernel) (by first | (with_reducible rfl) | omega) (by kernel_rfl) ?_; clear hx; (try conv => arg 5; simp only [Act.put, List.setIfInBounds_toArray, setC, mtV_eq])) | (refine w_see M S HY.out _ _ rfl hx rfl (by decide +kernel) 0 (by first | (with_reducible rfl) | omega) rfl ?_; clear hx) | (refine w_see M S HY.out _ _ rfl hx rfl (by decide +kernel) 1 (by first | (with_reducible rfl) | omega) rfl ?_; clear hx) | (refine w_see M S HY.out _ _ rfl hx rfl (by decide +kernel) 2 (by first | (with_reducible rfl) | omega) rfl ?_; clear hx)) | ((with_reducible show Seg _ _ _ _); go_must (first | refine Seg.intro ⟨fun h => absurd rfl h, ?_⟩ | refine Seg.intro ⟨fun _ => (by repeat' (first | exact ixOk_nil M.kept | refine ixOk_cons rfl (by first | exact M.ok 0 _ rfl | exact M.ok 1 _ rfl | exact M.ok 2 _ rfl) ?_)), ?_⟩ | refine Seg.intro ⟨(by repeat' (first | (with_reducible exact needs_nil) | refine needs_at rfl (by first | (show Shape.ok Shape.nums _ = true; exact nums_bs _) | rfl) ?_)), (by repeat' (first | (with_reducible exact ats_nil) | refine ats_cons (by first | exact ev_tmp rfl | rfl) ?_)), ?_⟩)) | ((with_reducible show OnlyN _ _ _ _ _); refine OnlyN.intro (by kernel_rfl) ?_) | ((with_reducible refine tGuard ?_); refine w_strip rfl (by with_reducible rfl) ?_) | fail | ((with_reducible refine tLoad ?_); go_must (refine w_at _ _ rfl (by exact ev_tmp rfl) ?_; intro hx; (first | refine w_load M _ _ _ rfl (by first | exact at0) hx rfl (by decide +kernel) (by exact rfl) ?_ | refine w_loadR M _ _ _ rfl (by first | exact at0) hx rfl (by decide +kernel) (by kernel_rfl) ?_); clear hx)) | ((with_reducible refine tStore ?_); go_must (refine w_at2 _ _ _ rfl (by exact ev_tmp rfl) (by first | exact ev_tmp rfl | exact ev_const) ?_; intro hx hy; (first | refine w_store M _ _ _ _ rfl (by first | exact at0) hx rfl hy rfl rfl (by decide +kernel) (by first | decide | simp | (simp; omega)) ?_ | refine w_storeR M _ _ _ _ rfl (by first | exact at0) hx rfl _ hy rfl (by kernel_rfl) (by simp [Value.oneCell']) (by first | rfl | assumption) ?_); clear hx hy M; intro w1 M; (try simp only [setC] at M))) | ((with_reducible refine tBox _ ?_); (refine w_box M _ _ rfl rfl _ rfl _ rfl ?_; clear M; intro g w1 M))) <;> (try conv => arg 5; simp only [Act.put, List.setIfInBounds_toArray, setC]))
              go_ret
              exact ⟨rfl, M.below⟩
            | false =>
              go_wp2_with ((first | ((with_reducible refine tGuard ?_); (with_reducible refine w_stripE ?_ ?_); (focus (refine ⟨_, rfl, ?_⟩; first | (with_reducible rfl) | exact decide_eq_false (by omega) | exact decide_eq_true (by omega)))) | ((with_reducible refine tGuard ?_); first | ((with_reducible refine w_skip1 ?_ ?_); (focus (refine ⟨_, rfl, ?_⟩; first | (with_reducible rfl) | exact decide_eq_false (by omega) | exact decide_eq_true (by omega)))) | ((with_reducible refine w_skip0 ?_ ?_); (focus (refine ⟨_, rfl, ?_⟩; first | (with_reducible rfl) | exact decide_eq_false (by omega) | exact decide_eq_true (by omega))))) | ((with_reducible show Code.wp _ (Code.region 11 _ _) _ _ _); go_must (refine region_det [(0, false), (1, false), (2, false), (3, false), (5, false), (6, false), (7, false), (8, false), (4, false), (9, false), (10, false)] [(35, .str), (40, .str)] (by kernel_rfl) (by kernel_rfl) rfl (by kernel_rfl) ?_; replace M := M.drew; simp only [reord, opAt, List.map_cons, List.map_nil, List.getElem?_toArray, List.getElem?_cons_zero, List.getElem?_cons_succ, Option.getD_some])) | ((with_reducible refine tLoad ?_); refine w_at _ _ rfl (by exact ev_tmp rfl) ?_; intro hx; first | (refine w_seeA M S HX.out _ _ rfl hx rfl (by decide +kernel) (by first | (with_reducible rfl) | omega) (by kernel_rfl) ?_; clear hx; (try conv => arg 5; simp only [Act.put, List.setIfInBounds_toArray, setC, mtV_eq])) | (refine w_see M S HX.out _ _ rfl hx rfl (by decide +kernel) 0 (by first | (with_reducible rfl) | omega) rfl ?_; clear hx) | (refine w_see M S HX.out _ _ rfl hx rfl (by decide +kernel) 1 (by first | (with_reducible rfl) | omega) rfl ?_; clear hx) | (refine w_see M S HX.out _ _ rfl hx rfl (by decide +kernel) 2 (by first | (with_reducible rfl) | omega) rfl ?_; clear hx) | (refine w_seeA M S HY.out _ _ rfl hx rfl (by decide +kernel) (by first | (with_reducible rfl) | omega) (by kernel_rfl) ?_; clear hx; (try conv => arg 5; simp only [Act.put, List.setIfInBounds_toArray, setC, mtV_eq])) | (refine w_see M S HY.out _ _ rfl hx rfl (by decide +kernel) 0 (by first | (with_reducible rfl) | omega) rfl ?_; clear hx) | (refine w_see M S HY.out _ _ rfl hx rfl (by decide +kernel) 1 (by first | (with_reducible rfl) | omega) rfl ?_; clear hx) | (refine w_see M S HY.out _ _ rfl hx rfl (by decide +kernel) 2 (by first | (with_reducible rfl) | omega) rfl ?_; clear hx)) | ((with_reducible show Seg _ _ _ _); go_must (first | refine Seg.intro ⟨fun h => absurd rfl h, ?_⟩ | refine Seg.intro ⟨fun _ => (by repeat' (first | exact ixOk_nil M.kept | refine ixOk_cons rfl (by first | exact M.ok 0 _ rfl | exact M.ok 1 _ rfl | exact M.ok 2 _ rfl) ?_)), ?_⟩ | refine Seg.intro ⟨(by repeat' (first | (with_reducible exact needs_nil) | refine needs_at rfl (by first | (show Shape.ok Shape.nums _ = true; exact nums_bs _) | rfl) ?_)), (by repeat' (first | (with_reducible exact ats_nil) | refine ats_cons (by first | exact ev_tmp rfl | rfl) ?_)), ?_⟩)) | ((with_reducible show OnlyN _ _ _ _ _); refine OnlyN.intro (by kernel_rfl) ?_) | ((with_reducible refine tGuard ?_); refine w_strip rfl (by with_reducible rfl) ?_) | fail | ((with_reducible refine tLoad ?_); go_must (refine w_at _ _ rfl (by exact ev_tmp rfl) ?_; intro hx; (first | refine w_load M _ _ _ rfl (by first | exact at0) hx rfl (by decide +kernel) (by exact rfl) ?_ | refine w_loadR M _ _ _ rfl (by first | exact at0) hx rfl (by decide +kernel) (by kernel_rfl) ?_); clear hx)) | ((with_reducible refine tStore ?_); go_must (refine w_at2 _ _ _ rfl (by exact ev_tmp rfl) (by first | exact ev_tmp rfl | exact ev_const) ?_; intro hx hy; (first | refine w_store M _ _ _ _ rfl (by first | exact at0) hx rfl hy rfl rfl (by decide +kernel) (by first | decide | simp | (simp; omega)) ?_ | refine w_storeR M _ _ _ _ rfl (by first | exact at0) hx rfl _ hy rfl (by kernel_rfl) (by simp [Value.oneCell']) (by first | rfl | assumption) ?_); clear hx hy M; intro w1 M; (try simp only [setC] at M))) | ((with_reducible refine tBox _ ?_); (refine w_box M _ _ rfl rfl _ rfl _ rfl ?_; clear M; intro g w1 M))) <;> (try conv => arg 5; simp only [Act.put, List.setIfInBounds_toArray, setC]))
              go_roundw
              case rel => exact ⟨i + 1, by omega, by go_num, Lib.hid fun j y hj hy => by
                rcases Nat.lt_succ_iff_lt_or_eq.1 hj with hj | rfl
                · exact HI.out j y hj hy
                · have := HY.out; rw [hy] at this; cases this; simpa using hca, M⟩
              case measure => simp [intOf]; omega
          · obtain rfl : i = k := by omega
            have o1 := Lib.hid (og.out (by trivial) HI.out)
            go_wp2_with fail
            go_roundw
            case rel => exact ⟨i + 1, by omega, by go_num, Lib.hid fun j hj => by
              rcases Nat.lt_succ_iff_lt_or_eq.1 hj with hj | rfl
              · exact HK.out j hj
              · exact o1.out, M⟩
            case measure => simp [intOf]; omega
    · obtain rfl : k = l.length := by omega
      obtain rfl : R = true := HG.out HK.out
      go_wp2_with fail
      go_ret
      exact ⟨rfl, M.below⟩
set_option maxRecDepth 100000 in
set_option maxHeartbeats 4000000 in
theorem ref24Right_c (k e : Int) (l : List Mt) (s : List UInt8) (v : Value) (w : World) (S : SeesL w 2 mtV v l) (hl : l.length ≤ 1000000) (hm : ∀ x ∈ l, x.1.length ≤ 1000000000) :
    Calls Try.prog 64 #[.agg #[.int .i64 k, .int .i64 e, v, .string (mkS s)]] w fun r w' => r = .returned (.int .i64 (if rightT k e l s = true then 0 else 1)) ∧ Below w.heap.size w w' := by
  obtain ⟨p, cap, rfl, hc⟩ := S.form
  have M := Mem.start [] w
  have PC := fun w S => ref11Right_c l (.slice p l.length cap) w S hl hm
  unfold rightT
  obtain ⟨r, er⟩ : ∃ r, r = rightM l := ⟨_, rfl⟩
  rw [← er] at PC
  rw [← er]
  replace PC := Lib.hid PC
  clear er
  rcases (by omega : k < 0 ∨ (¬ k < 0 ∧ e < 1) ∨ (¬ k < 0 ∧ ¬ e < 1 ∧ (s.length : Int) < 1) ∨ (¬ k < 0 ∧ ¬ e < 1 ∧ ¬ (s.length : Int) < 1 ∧ (64 : Int) < (s.length : Int)) ∨ (¬ k < 0 ∧ ¬ e < 1 ∧ ¬ (s.length : Int) < 1 ∧ ¬ (64 : Int) < (s.length : Int))) with h1 | ⟨h1, h2⟩ | ⟨h1, h2, h3⟩ | ⟨h1, h2, h3, h4⟩ | ⟨h1, h2, h3, h4⟩
  all_goals cases r
  all_goals
    go_enter Try.func64, Try.ntmps64
    go_wp2_with ((first | ((with_reducible refine tBox (some 1) ?_); refine w_box M _ _ rfl rfl _ rfl (_) rfl ?_; clear M; intro gt w1 M) | ((with_reducible refine tGuard ?_); (with_reducible refine w_stripE ?_ ?_); (focus (refine ⟨_, rfl, ?_⟩; first | (with_reducible rfl) | exact decide_eq_false (by omega) | exact decide_eq_true (by omega)))) | ((with_reducible refine tGuard ?_); first | ((with_reducible refine w_skip1 ?_ ?_); (focus (refine ⟨_, rfl, ?_⟩; first | (with_reducible rfl) | exact decide_eq_false (by omega) | exact decide_eq_true (by omega)))) | ((with_reducible refine w_skip0 ?_ ?_); (focus (refine ⟨_, rfl, ?_⟩; first | (with_reducible rfl) | exact decide_eq_false (by omega) | exact decide_eq_true (by omega))))) | (go_at_call 96; go_must (refine (PC.out _ (S.now M)).mono ?_; rintro e w1 ⟨rfl, hb⟩; replace M := M.call hb; clear hb)) | ((with_reducible refine tGuard ?_); refine w_strip rfl (by with_reducible rfl) ?_) | fail | ((with_reducible refine tLoad ?_); go_must (refine w_at _ _ rfl (by exact ev_tmp rfl) ?_; intro hx; (first | refine w_load M _ _ _ rfl (by first | exact at0) hx rfl (by decide +kernel) (by exact rfl) ?_ | refine w_loadR M _ _ _ rfl (by first | exact at0) hx rfl (by decide +kernel) (by kernel_rfl) ?_); clear hx)) | ((with_reducible refine tStore ?_); go_must (refine w_at2 _ _ _ rfl (by exact ev_tmp rfl) (by first | exact ev_tmp rfl | exact ev_const) ?_; intro hx hy; (first | refine w_store M _ _ _ _ rfl (by first | exact at0) hx rfl hy rfl rfl (by decide +kernel) (by first | decide | simp | (simp; omega)) ?_ | refine w_storeR M _ _ _ _ rfl (by first | exact at0) hx rfl _ hy rfl (by kernel_rfl) (by simp [Value.oneCell']) (by first | rfl | assumption) ?_); clear hx hy M; intro w1 M; (try simp only [setC] at M))) | ((with_reducible refine tBox _ ?_); (refine w_box M _ _ rfl rfl _ rfl _ rfl ?_; clear M; intro g w1 M))) <;> (try conv => arg 5; simp only [Act.put, List.setIfInBounds_toArray, setC]))
    all_goals
      go_ret
      exact ⟨by first | rfl | (split <;> rename_i hq <;> first | rfl | (exfalso; simp at hq; omega) | (exfalso; simp at hq; done)), M.below⟩
set_option maxRecDepth 100000 in
set_option maxHeartbeats 4000000 in
theorem ref24Bytes_c (k e : Nat) (l : List Mt) (s : List UInt8) (v : Value) (w : World) (S : SeesL w 2 mtV v l) (hk : k < 9223372036854775808) (he : e < 9223372036854775808) (h : rightT k e l s = true) :
    Calls Try.prog 66 #[.agg #[.int .i64 k, .int .i64 e, v, .string (mkS s)]] w fun r w' => r = .returned (.string (mkS (tokB ⟨k, e, l, s⟩))) ∧ Below w.heap.size w w' := by
  obtain ⟨_, he1, hr, hs1, hs2⟩ := rightT_of h
  obtain ⟨hl1, hl4, hn8⟩ := rightM_of hr
  obtain ⟨p, cap, rfl, hc⟩ := S.form
  have M := Mem.start [] w
  have hB := tokB_eq ⟨k, e, l, s⟩
  obtain ⟨B, eB⟩ : ∃ B, B = tokB ⟨k, e, l, s⟩ := ⟨_, rfl⟩
  rw [← eB] at hB
  rw [← eB]
  have hn1 := numL_length_le k (by omega)
  have hn2 := numL_length_le e (by omega)
  have hn3 := numL_length_le l.length (by omega)
  have hn4 := right_mem hr
  have N1 := fun w => Num01_c k (k : Int) rfl w (by omega)
  have N2 := fun w => Num01_c e (e : Int) rfl w (by omega)
  have N3 := fun w => Num01_c l.length (l.length : Int) rfl w (by omega)
  have T1 := fun w => Text01_c s w (by omega)
  have hts : (textL s).length ≤ 74 := by unfold textL; have := numL_length_le s.length (by omega); simp; omega
  obtain ⟨n1, en1⟩ : ∃ x, x = numL k := ⟨_, rfl⟩
  obtain ⟨n2, en2⟩ : ∃ x, x = numL e := ⟨_, rfl⟩
  obtain ⟨n3, en3⟩ : ∃ x, x = numL l.length := ⟨_, rfl⟩
  obtain ⟨u1, eu1⟩ : ∃ x, x = textL s := ⟨_, rfl⟩
  rw [← en1] at N1 hn1
  rw [← en2] at N2 hn2
  rw [← en3] at N3 hn3
  rw [← eu1] at T1 hts
  obtain ⟨N, eN⟩ : ∃ N, N = n1 ++ (n2 ++ n3) := ⟨_, rfl⟩
  have hN : N.length ≤ 30 := by rw [eN]; simp only [List.length_append]; omega
  have hB' : B = N ++ l.flatMap mtB ++ u1 := by rw [hB, eN, en1, en2, en3, eu1]; simp only [List.append_assoc]
  replace hB' := Lib.hid fun _ : Unit => hB'
  have EN := Lib.hid fun _ : Unit => eN
  have HS := Lib.hid fun j x (h : l[j]? = some x) => flat_take_succ h
  replace N1 := Lib.hid N1
  replace N2 := Lib.hid N2
  replace N3 := Lib.hid N3
  replace T1 := Lib.hid T1
  replace hn4 := Lib.hid hn4
  clear eB eN en1 en2 en3 eu1 h hr hB
  have e1 := I64_nat k (by omega)
  have e2 := I64_nat e (by omega)
  have e3 := I64_nat l.length (by omega)
  go_enter Try.func66, Try.ntmps66
  go_wp2_with ((first | ((with_reducible refine tBox (some 1) ?_); refine w_box M _ _ rfl rfl _ rfl ([.int .i64 k, .int .i64 e, .slice p l.length cap, .string (mkS s)]) rfl ?_; clear M; intro gt w1 M) | ((with_reducible show Code.wp _ (Code.region 1 _ _) _ _ _); go_must (have MR := M; refine region_lowc [(0, false), (4, false), (9, false), (1, false), (2, false), (5, false), (6, false), (10, false), (11, false), (12, false), (3, true), (7, true), (8, false), (13, true), (14, false), (15, false)] [(6, .int), (10, .int), (16, .int), (8, .str), (12, .str), (13, .str), (18, .str)] [(1, _), (5, _), (10, _)] (IxOk MR [0]) 16 (by kernel_rfl) (by kernel_rfl) rfl (by kernel_rfl) (lows_cons (by first | exact stab_ix MR 0 0 rfl rfl (by decide) (by decide +kernel) rfl | exact stab_ixB MR 0 0 rfl rfl (by decide) (by decide +kernel) (by first | assumption | omega) | exact stab_ix32 MR 0 0 rfl rfl (by decide) (by decide +kernel) (by first | assumption | omega | (simp; omega)) | exact stab_ixH MR 0 rfl rfl (by decide) (by decide +kernel) (by first | assumption | exact lenI | exact lenS ‹_› | rfl) (by decide +kernel) | exact stab_ixW32 MR 0 rfl rfl (by decide) (by decide +kernel) (by first | assumption | exact lenI | exact lenS ‹_› | rfl) (by decide +kernel) | exact stab_ixR MR 0 rfl rfl (by decide) (by decide +kernel) (by kernel_rfl) | exact stab_ixW MR 0 rfl rfl (by decide) (by first | assumption | exact lenI | exact lenS ‹_› | rfl) (by decide) Try.underlying45 Try.underlying5 Try.underlying9 | exact stab_ixS MR 0 rfl rfl (by decide) (by first | rfl | simp | assumption) Try.underlying45 Try.underlying5 Try.underlying9) (lows_cons (by first | exact stab_ix MR 0 1 rfl rfl (by decide) (by decide +kernel) rfl | exact stab_ixB MR 0 1 rfl rfl (by decide) (by decide +kernel) (by first | assumption | omega) | exact stab_ix32 MR 0 1 rfl rfl (by decide) (by decide +kernel) (by first | assumption | omega | (simp; omega)) | exact stab_ixH MR 0 rfl rfl (by decide) (by decide +kernel) (by first | assumption | exact lenI | exact lenS ‹_› | rfl) (by decide +kernel) | exact stab_ixW32 MR 0 rfl rfl (by decide) (by decide +kernel) (by first | assumption | exact lenI | exact lenS ‹_› | rfl) (by decide +kernel) | exact stab_ixR MR 0 rfl rfl (by decide) (by decide +kernel) (by kernel_rfl) | exact stab_ixW MR 0 rfl rfl (by decide) (by first | assumption | exact lenI | exact lenS ‹_› | rfl) (by decide) Try.underlying45 Try.underlying5 Try.underlying9 | exact stab_ixS MR 0 rfl rfl (by decide) (by first | rfl | simp | assumption) Try.underlying45 Try.underlying5 Try.underlying9) (lows_cons (by first | exact stab_ix MR 0 2 rfl rfl (by decide) (by decide +kernel) rfl | exact stab_ixB MR 0 2 rfl rfl (by decide) (by decide +kernel) (by first | assumption | omega) | exact stab_ix32 MR 0 2 rfl rfl (by decide) (by decide +kernel) (by first | assumption | omega | (simp; omega)) | exact stab_ixH MR 0 rfl rfl (by decide) (by decide +kernel) (by first | assumption | exact lenI | exact lenS ‹_› | rfl) (by decide +kernel) | exact stab_ixW32 MR 0 rfl rfl (by decide) (by decide +kernel) (by first | assumption | exact lenI | exact lenS ‹_› | rfl) (by decide +kernel) | exact stab_ixR MR 0 rfl rfl (by decide) (by decide +kernel) (by kernel_rfl) | exact stab_ixW MR 0 rfl rfl (by decide) (by first | assumption | exact lenI | exact lenS ‹_› | rfl) (by decide) Try.underlying45 Try.underlying5 Try.underlying9 | exact stab_ixS MR 0 rfl rfl (by decide) (by first | rfl | simp | assumption) Try.underlying45 Try.underlying5 Try.underlying9) lows_nil))) (ixOk_self MR _) ?_; replace M := M.drew; simp only [planC, opAt, List.getElem?_toArray, List.getElem?_cons_zero, List.getElem?_cons_succ, Option.getD_some])) | (go_at_call 93; go_must ((first | (with_reducible refine (N1.out _).mono ?_) | (with_reducible refine (N2.out _).mono ?_) | (with_reducible refine (N3.out _).mono ?_)); rintro r w1 ⟨rfl, hb⟩; replace M := M.call hb; clear hb)) | ((with_reducible show Seg _ _ _ _); go_must (first | refine Seg.intro ⟨fun h => absurd rfl h, ?_⟩ | refine Seg.intro ⟨fun _ => (by repeat' (first | exact ixOk_nil M.kept | refine ixOk_cons rfl (by first | exact M.ok 0 _ rfl | exact M.ok 1 _ rfl | exact M.ok 2 _ rfl) ?_)), ?_⟩ | refine Seg.intro ⟨(by repeat' (first | (with_reducible exact needs_nil) | refine needs_at rfl (by first | (show Shape.ok Shape.nums _ = true; exact nums_bs _) | rfl) ?_)), (by repeat' (first | (with_reducible exact ats_nil) | refine ats_cons (by first | exact ev_tmp rfl | rfl) ?_)), ?_⟩)) | ((with_reducible show OnlyN _ _ _ _ _); refine OnlyN.intro (by kernel_rfl) ?_) | ((with_reducible refine tGuard ?_); first | refine w_strip rfl (by with_reducible rfl) ?_ | ((fail_if_success (refine w_lit false rfl (by with_reducible rfl) ?_)); (fail_if_success (refine w_lit true rfl (by with_reducible rfl) ?_)); refine w_case rfl ?_ ?_ <;> (intro hgd; rw [hgd]; try (exfalso; simp at hgd; omega)))) | fail | ((with_reducible refine tLoad ?_); go_must (refine w_at _ _ rfl (by exact ev_tmp rfl) ?_; intro hx; (first | refine w_load M _ _ _ rfl (by first | exact at0) hx rfl (by decide +kernel) (by exact rfl) ?_ | refine w_loadR M _ _ _ rfl (by first | exact at0) hx rfl (by decide +kernel) (by kernel_rfl) ?_); clear hx)) | ((with_reducible refine tStore ?_); go_must (refine w_at2 _ _ _ rfl (by exact ev_tmp rfl) (by first | exact ev_tmp rfl | exact ev_const) ?_; intro hx hy; (first | refine w_store M _ _ _ _ rfl (by first | exact at0) hx rfl hy rfl rfl (by decide +kernel) (by first | decide | simp | (simp; omega)) ?_ | refine w_storeR M _ _ _ _ rfl (by first | exact at0) hx rfl _ hy rfl (by kernel_rfl) (by simp [Value.oneCell']) (by first | rfl | assumption) ?_); clear hx hy M; intro w1 M; (try simp only [setC] at M))) | ((with_reducible refine tBox _ ?_); (refine w_box M _ _ rfl rfl _ rfl _ rfl ?_; clear M; intro g w1 M))) <;> (try conv => arg 5; simp only [Act.put, List.setIfInBounds_toArray, setC]))
  go_loopw [3, 4] (fun sv iv wr => ∃ (j : Nat) (q : List UInt8), j ≤ l.length ∧ sv = .string (mkS q) ∧ iv = .int .i64 j ∧ q.length ≤ 110 ∧ Hid (Unit → q = N ++ (l.take j).flatMap mtB) ∧ Mem [] w wr [.row gt [.int .i64 k, .int .i64 e, .slice p l.length cap, .string (mkS s)]]) (fun _ iv _ => l.length - (intOf iv).toNat)
  case atStart => exact ⟨0, _, by omega, rfl, rfl, by simp only [List.length_append]; omega, Lib.hid fun _ => by rw [EN.out ()]; simp, M⟩
  case round =>
    clear M
    obtain ⟨j, q, hj, rfl, rfl, hq, HQ, M⟩ := hrel
    have hnj := hn4.out j
    by_cases hlt : j < l.length
    · obtain ⟨g, so, rfl⟩ := S.addr (by omega)
      obtain ⟨⟨a, sh⟩, hx⟩ : ∃ x, l[j]? = some x := ⟨_, List.getElem?_eq_getElem hlt⟩
      have ha := hn8 (a, sh) (List.mem_of_getElem? hx)
      simp only at ha
      have EJ := HS.out j _ hx
      have HX := Lib.hid hx
      have hnj' := hn4.out (j + 1)
      have hta : (textL a).length ≤ 18 := by unfold textL; have := numL_length_le a.length (by omega); simp; omega
      have TC := fun w => Text01_c a w (by omega)
      obtain ⟨u, eu⟩ : ∃ u, u = textL a := ⟨_, rfl⟩
      rw [← eu] at TC hta
      have EQ : N ++ (l.take (j + 1)).flatMap mtB = q ++ (u ++ [shipB (a, sh)]) := by rw [EJ, HQ.out (), eu]; unfold mtB; simp only [List.append_assoc]
      have hQl : (q ++ (u ++ [shipB (a, sh)])).length ≤ 110 := by rw [← EQ, List.length_append]; omega
      simp only [List.length_append, List.length_singleton] at hQl
      replace EQ := Lib.hid fun _ : Unit => EQ
      replace TC := Lib.hid TC
      clear hx EJ eu hnj hnj'
      cases sh with
      | false =>
        go_wp2_with ((first | ((with_reducible refine tLoad ?_); refine w_at _ _ rfl (by exact ev_tmp rfl) ?_; intro hx; first | (refine w_seeA M S HX.out _ _ rfl hx rfl (by decide +kernel) (by first | (with_reducible rfl) | omega) (by kernel_rfl) ?_; clear hx; (try conv => arg 5; simp only [Act.put, List.setIfInBounds_toArray, setC, mtV_eq])) | (refine w_see M S HX.out _ _ rfl hx rfl (by decide +kernel) 0 (by first | (with_reducible rfl) | omega) rfl ?_; clear hx) | (refine w_see M S HX.out _ _ rfl hx rfl (by decide +kernel) 1 (by first | (with_reducible rfl) | omega) rfl ?_; clear hx) | (refine w_see M S HX.out _ _ rfl hx rfl (by decide +kernel) 2 (by first | (with_reducible rfl) | omega) rfl ?_; clear hx)) | (go_at_call 57; go_must (refine (TC.out _).mono ?_; rintro e w1 ⟨rfl, hb⟩; replace M := M.call hb; clear hb)) | ((with_reducible show wpList _ _ _ (Oper.mk _ (Op.buildSlice 45 1 _) _ _ _ _ :: _) _ _); go_must (refine w_buildSliceB (b := 0) M bytesT _ rfl rfl (by first | exact ev_tmp rfl | exact ev_const) ?_; clear M; intro g w1 M)) | ((with_reducible refine tGuard ?_); first | refine w_strip rfl (by with_reducible rfl) ?_ | ((fail_if_success (refine w_lit false rfl (by with_reducible rfl) ?_)); (fail_if_success (refine w_lit true rfl (by with_reducible rfl) ?_)); refine w_case rfl ?_ ?_ <;> (intro hgd; rw [hgd]; try (exfalso; simp at hgd; omega)))) | ((with_reducible refine tConv _ 45 9 ?_); go_must (first | refine w_stringW M _ _ _ _ _ rfl rfl (by first | exact at0 | exact at1) rfl (by first | assumption | exact lenI | exact lenS ‹_› | rfl) (by decide) Try.underlying45 Try.underlying5 Try.underlying9 ?_ | refine w_string M _ _ _ _ _ rfl rfl (by first | exact at0 | exact at1) (by first | rfl | (simp; done) | assumption) rfl Try.underlying45 Try.underlying5 Try.underlying9 ?_)) | ((with_reducible refine tLoad ?_); go_must (refine w_at _ _ rfl (by exact ev_tmp rfl) ?_; intro hx; (first | refine w_load M _ _ _ rfl (by first | exact at0 | exact at1) hx rfl (by decide +kernel) (by exact rfl) ?_ | refine w_loadB M _ _ _ rfl (by first | exact at0 | exact at1) hx rfl (by decide +kernel) (by first | assumption | omega | (simp; omega)) ?_ | refine w_loadH M _ _ _ rfl (by first | exact at0 | exact at1) hx rfl (by decide +kernel) (by first | assumption | exact lenI | exact lenS ‹_› | rfl) (by decide +kernel) ?_ | refine w_loadR M _ _ _ rfl (by first | exact at0 | exact at1) hx rfl (by decide +kernel) (by kernel_rfl) ?_); clear hx)) | ((with_reducible refine tStore ?_); go_must (refine w_at2 _ _ _ rfl (by exact ev_tmp rfl) (by first | exact ev_tmp rfl | exact ev_const) ?_; intro hx hy; (first | refine w_storeB M _ _ _ _ rfl (by first | exact at0 | exact at1) hx rfl hy (by decide +kernel) (by first | assumption | omega | (simp; omega)) ?_ | refine w_storeH M _ _ _ _ rfl (by first | exact at0 | exact at1) hx rfl hy (by first | assumption | exact lenI | exact lenS ‹_› | rfl) (by decide +kernel) (by first | assumption | exact lenI | exact lenS ‹_› | rfl) ?_ | refine w_store M _ _ _ _ rfl (by first | exact at0 | exact at1) hx rfl hy rfl rfl (by decide +kernel) (by first | decide | simp | (simp; omega)) ?_ | refine w_storeR M _ _ _ _ rfl (by first | exact at0 | exact at1) hx rfl _ hy rfl (by kernel_rfl) (by simp [Value.oneCell']) (by first | rfl | assumption) ?_); clear hx hy M; intro w1 M; (try simp only [setC] at M))) | ((with_reducible refine tBox _ ?_); (refine w_box M _ _ rfl rfl _ rfl _ rfl ?_; clear M; intro g w1 M))) <;> (try conv => arg 5; simp only [Act.put, List.setIfInBounds_toArray, setC]))
        go_roundw
        case rel => exact ⟨j + 1, _, by omega, rfl, by go_num, by simp only [List.length_append, List.length_cons, List.length_nil]; omega, Lib.hid fun _ => (EQ.out ()).symm, M.tail⟩
        case measure => simp [intOf]; omega
      | true =>
        go_wp2_with ((first | ((with_reducible refine tLoad ?_); refine w_at _ _ rfl (by exact ev_tmp rfl) ?_; intro hx; first | (refine w_seeA M S HX.out _ _ rfl hx rfl (by decide +kernel) (by first | (with_reducible rfl) | omega) (by kernel_rfl) ?_; clear hx; (try conv => arg 5; simp only [Act.put, List.setIfInBounds_toArray, setC, mtV_eq])) | (refine w_see M S HX.out _ _ rfl hx rfl (by decide +kernel) 0 (by first | (with_reducible rfl) | omega) rfl ?_; clear hx) | (refine w_see M S HX.out _ _ rfl hx rfl (by decide +kernel) 1 (by first | (with_reducible rfl) | omega) rfl ?_; clear hx) | (refine w_see M S HX.out _ _ rfl hx rfl (by decide +kernel) 2 (by first | (with_reducible rfl) | omega) rfl ?_; clear hx)) | (go_at_call 57; go_must (refine (TC.out _).mono ?_; rintro e w1 ⟨rfl, hb⟩; replace M := M.call hb; clear hb)) | ((with_reducible show wpList _ _ _ (Oper.mk _ (Op.buildSlice 45 1 _) _ _ _ _ :: _) _ _); go_must (refine w_buildSliceB (b := 1) M bytesT _ rfl rfl (by first | exact ev_tmp rfl | exact ev_const) ?_; clear M; intro g w1 M)) | ((with_reducible refine tGuard ?_); first | refine w_strip rfl (by with_reducible rfl) ?_ | ((fail_if_success (refine w_lit false rfl (by with_reducible rfl) ?_)); (fail_if_success (refine w_lit true rfl (by with_reducible rfl) ?_)); refine w_case rfl ?_ ?_ <;> (intro hgd; rw [hgd]; try (exfalso; simp at hgd; omega)))) | ((with_reducible refine tConv _ 45 9 ?_); go_must (first | refine w_stringW M _ _ _ _ _ rfl rfl (by first | exact at0 | exact at1) rfl (by first | assumption | exact lenI | exact lenS ‹_› | rfl) (by decide) Try.underlying45 Try.underlying5 Try.underlying9 ?_ | refine w_string M _ _ _ _ _ rfl rfl (by first | exact at0 | exact at1) (by first | rfl | (simp; done) | assumption) rfl Try.underlying45 Try.underlying5 Try.underlying9 ?_)) | ((with_reducible refine tLoad ?_); go_must (refine w_at _ _ rfl (by exact ev_tmp rfl) ?_; intro hx; (first | refine w_load M _ _ _ rfl (by first | exact at0 | exact at1) hx rfl (by decide +kernel) (by exact rfl) ?_ | refine w_loadB M _ _ _ rfl (by first | exact at0 | exact at1) hx rfl (by decide +kernel) (by first | assumption | omega | (simp; omega)) ?_ | refine w_loadH M _ _ _ rfl (by first | exact at0 | exact at1) hx rfl (by decide +kernel) (by first | assumption | exact lenI | exact lenS ‹_› | rfl) (by decide +kernel) ?_ | refine w_loadR M _ _ _ rfl (by first | exact at0 | exact at1) hx rfl (by decide +kernel) (by kernel_rfl) ?_); clear hx)) | ((with_reducible refine tStore ?_); go_must (refine w_at2 _ _ _ rfl (by exact ev_tmp rfl) (by first | exact ev_tmp rfl | exact ev_const) ?_; intro hx hy; (first | refine w_storeB M _ _ _ _ rfl (by first | exact at0 | exact at1) hx rfl hy (by decide +kernel) (by first | assumption | omega | (simp; omega)) ?_ | refine w_storeH M _ _ _ _ rfl (by first | exact at0 | exact at1) hx rfl hy (by first | assumption | exact lenI | exact lenS ‹_› | rfl) (by decide +kernel) (by first | assumption | exact lenI | exact lenS ‹_› | rfl) ?_ | refine w_store M _ _ _ _ rfl (by first | exact at0 | exact at1) hx rfl hy rfl rfl (by decide +kernel) (by first | decide | simp | (simp; omega)) ?_ | refine w_storeR M _ _ _ _ rfl (by first | exact at0 | exact at1) hx rfl _ hy rfl (by kernel_rfl) (by simp [Value.oneCell']) (by first | rfl | assumption) ?_); clear hx hy M; intro w1 M; (try simp only [setC] at M))) | ((with_reducible refine tBox _ ?_); (refine w_box M _ _ rfl rfl _ rfl _ rfl ?_; clear M; intro g w1 M))) <;> (try conv => arg 5; simp only [Act.put, List.setIfInBounds_toArray, setC]))
        go_roundw
        case rel => exact ⟨j + 1, _, by omega, rfl, by go_num, by simp only [List.length_append, List.length_cons, List.length_nil]; omega, Lib.hid fun _ => (EQ.out ()).symm, M.tail⟩
        case measure => simp [intOf]; omega
    · obtain rfl : j = l.length := by omega
      rw [List.take_of_length_le (Nat.le_refl _)] at HQ
      go_wp2_with ((first | (go_at_call 57; go_must (refine (T1.out _).mono ?_; rintro e w1 ⟨rfl, hb⟩; replace M := M.call hb; clear hb)) | ((with_reducible refine tGuard ?_); first | refine w_strip rfl (by with_reducible rfl) ?_ | ((fail_if_success (refine w_lit false rfl (by with_reducible rfl) ?_)); (fail_if_success (refine w_lit true rfl (by with_reducible rfl) ?_)); refine w_case rfl ?_ ?_ <;> (intro hgd; rw [hgd]; try (exfalso; simp at hgd; omega)))) | fail | ((with_reducible refine tLoad ?_); go_must (refine w_at _ _ rfl (by exact ev_tmp rfl) ?_; intro hx; (first | refine w_load M _ _ _ rfl (by first | exact at0) hx rfl (by decide +kernel) (by exact rfl) ?_ | refine w_loadR M _ _ _ rfl (by first | exact at0) hx rfl (by decide +kernel) (by kernel_rfl) ?_); clear hx)) | ((with_reducible refine tStore ?_); go_must (refine w_at2 _ _ _ rfl (by exact ev_tmp rfl) (by first | exact ev_tmp rfl | exact ev_const) ?_; intro hx hy; (first | refine w_store M _ _ _ _ rfl (by first | exact at0) hx rfl hy rfl rfl (by decide +kernel) (by first | decide | simp | (simp; omega)) ?_ | refine w_storeR M _ _ _ _ rfl (by first | exact at0) hx rfl _ hy rfl (by kernel_rfl) (by simp [Value.oneCell']) (by first | rfl | assumption) ?_); clear hx hy M; intro w1 M; (try simp only [setC] at M))) | ((with_reducible refine tBox _ ?_); (refine w_box M _ _ rfl rfl _ rfl _ rfl ?_; clear M; intro g w1 M))) <;> (try conv => arg 5; simp only [Act.put, List.setIfInBounds_toArray, setC]))
      go_ret
      exact ⟨by rw [hB'.out (), ← HQ.out ()]; rfl, M.below⟩
set_option maxRecDepth 100000 in
set_option maxHeartbeats 4000000 in
/-- A text, wrapped as a token's bytes, with the key's number 0. -/
theorem ref24Close_c (secret : List UInt8) (b : UInt32) (n : UInt64) (text : List UInt8) (w : World) (hsec : secret.length ≤ 1000000) (hx : text.length ≤ 8192) :
    Calls Try.prog 65 #[.string (mkS secret), .int .i64 0, .int .u32 (I32 b), .int .u64 (I64 n), .string (mkS text)] w fun r w' => r = .returned (.string (mkS (envB ⟨0, b, n, sealL (macL secret aboutT) b n text, tagL (macL secret aboutT) 0 b n aboutT (sealL (macL secret aboutT) b n text)⟩))) ∧ Below w.heap.size w w' := by
  have M := Mem.start [] w
  have hK := macL_len secret aboutT
  have KC : ∀ w, Calls Try.prog 85 #[.string (mkS secret), .string (mkS [116, 111, 107, 101, 110])] w fun e w' => e = .returned (.agg (bs (macL secret aboutT)).toArray) ∧ Below w.heap.size w w' := fun w => refTag_c secret aboutT w (by omega) (by decide)
  obtain ⟨K, eK⟩ : ∃ K, K = macL secret aboutT := ⟨_, rfl⟩
  rw [← eK] at hK KC
  rw [← eK]
  have CC : ∀ w, Calls Try.prog 19 #[.agg (bs K).toArray, .int .i64 0, .int .u32 (I32 b), .int .u64 (I64 n), .string (mkS [116, 111, 107, 101, 110]), .string (mkS text)] w fun r w' => r = .returned (.tuple #[.agg (envC 0 b n (sealL K b n text) (tagL K 0 b n aboutT (sealL K b n text))).toArray, .int .i64 0]) ∧ Below w.heap.size w w' := fun w => refClose_ok K 0 b n aboutT text w hK (by omega) (by omega) (by decide)
  have hsl : (sealL K b n text).length = text.length := by unfold sealL; rw [streamL_len]
  have ht : (tagL K 0 b n aboutT (sealL K b n text)).length = 32 := macL_len _ _
  obtain ⟨d, ed⟩ : ∃ d, d = sealL K b n text := ⟨_, rfl⟩
  rw [← ed] at CC hsl ht
  rw [← ed]
  obtain ⟨t, et⟩ : ∃ t, t = tagL K 0 b n aboutT d := ⟨_, rfl⟩
  rw [← et] at CC ht
  rw [← et]
  have BC : ∀ w, Calls Try.prog 23 #[.agg (envC 0 b n d t).toArray] w fun r w' => r = .returned (.tuple #[.string (mkS (headL 0 b n ++ (textL d ++ t))), .int .i64 0]) ∧ Below w.heap.size w w' := fun w => refBytes_ok 0 b n d t w ht (by unfold rightE; simp; omega)
  rw [envB_head 0 b n d t] at BC
  obtain ⟨E, eE⟩ : ∃ E, E = envB ⟨0, b, n, d, t⟩ := ⟨_, rfl⟩
  rw [← eE] at BC
  rw [← eE]
  replace KC := Lib.hid KC
  replace CC := Lib.hid CC
  replace BC := Lib.hid BC
  clear eK ed et eE hsl
  go_enter Try.func65, Try.ntmps65
  go_wp2_with ((first | (go_at_call 85; go_must (refine (KC.out _).mono ?_; rintro e w1 ⟨rfl, hb⟩; replace M := M.call hb; clear hb)) | (go_at_call 19; go_must (refine (CC.out _).mono ?_; rintro e w1 ⟨rfl, hb⟩; replace M := M.call hb; clear hb)) | (go_at_call 23; go_must (refine (BC.out _).mono ?_; rintro e w1 ⟨rfl, hb⟩; replace M := M.call hb; clear hb)) | ((with_reducible refine tAlloc (some 11) 29 ?_); refine w_alloc M _ rfl rfl (.agg (envC 0 0 0 [] zeroT).toArray) (envC 0 0 0 [] zeroT) (by kernel_rfl) rfl ?_; clear M; intro gx w1 M) | ((with_reducible refine tLoad ?_); refine w_at _ _ rfl (by exact ev_tmp rfl) ?_; intro hx; (first | refine w_loadE M _ _ _ rfl (by first | exact at0) hx rfl (by decide +kernel) (by decide +kernel) (by first | assumption | exact zeroT_len | exact macL_len _ _) ?_ | refine w_loadTag M _ _ _ rfl (by first | exact at0) hx rfl (by decide +kernel) (by decide +kernel) (by first | assumption | exact zeroT_len | exact macL_len _ _) ?_); clear hx) | ((with_reducible refine tStore ?_); refine w_at2 _ _ _ rfl (by first | exact ev_tmp rfl | exact ev_const) (by first | exact ev_tmp rfl | exact ev_const) ?_; intro hx hy; (first | refine w_storeE M _ _ _ _ rfl (by first | exact at0) hx rfl hy rfl (by decide +kernel) (by first | assumption | exact zeroT_len | exact macL_len _ _) (by first | assumption | exact zeroT_len | exact macL_len _ _) ?_ | refine w_storeE (k := 0) (b := 0) (n := 0) (d := []) (tg := zeroT) M _ _ _ _ rfl (by first | exact at0) hx rfl hy rfl (by decide +kernel) zeroT_len (by first | assumption | exact zeroT_len | exact macL_len _ _) ?_ | refine w_storeE (tg := zeroT) M _ _ _ _ rfl (by first | exact at0) hx rfl hy rfl (by decide +kernel) zeroT_len (by first | assumption | exact zeroT_len | exact macL_len _ _) ?_ | refine w_storeTag M _ _ _ _ rfl (by first | exact at0) hx rfl hy (by decide +kernel) (by first | assumption | exact zeroT_len | exact macL_len _ _) (by first | assumption | exact zeroT_len | exact macL_len _ _) ?_ | refine w_storeData M _ _ _ _ rfl (by first | exact at0) hx rfl hy (by decide +kernel) ?_ | refine w_storeNum M _ _ _ _ rfl (by first | exact at0) hx rfl hy (by decide +kernel) ?_); clear hx hy M; intro w1 M; (try simp only [setC] at M)) | ((with_reducible refine tConv _ 45 9 ?_); (first | refine w_stringTag M _ _ _ _ _ rfl rfl (by first | exact at0) rfl (by first | assumption | exact zeroT_len | exact macL_len _ _) Try.underlying45 Try.underlying5 Try.underlying9 ?_)) | ((with_reducible refine tGuard ?_); first | refine w_strip rfl (by with_reducible rfl) ?_ | ((fail_if_success (refine w_lit false rfl (by with_reducible rfl) ?_)); (fail_if_success (refine w_lit true rfl (by with_reducible rfl) ?_)); refine w_case rfl ?_ ?_ <;> (intro hgd; rw [hgd]; try (exfalso; simp at hgd; omega)))) | fail | ((with_reducible refine tLoad ?_); go_must (refine w_at _ _ rfl (by exact ev_tmp rfl) ?_; intro hx; (first | refine w_load M _ _ _ rfl (by first | exact at0 | exact at1) hx rfl (by decide +kernel) (by exact rfl) ?_ | refine w_loadR M _ _ _ rfl (by first | exact at0 | exact at1) hx rfl (by decide +kernel) (by kernel_rfl) ?_); clear hx)) | ((with_reducible refine tStore ?_); go_must (refine w_at2 _ _ _ rfl (by exact ev_tmp rfl) (by first | exact ev_tmp rfl | exact ev_const) ?_; intro hx hy; (first | refine w_store M _ _ _ _ rfl (by first | exact at0 | exact at1) hx rfl hy rfl rfl (by decide +kernel) (by first | decide | simp | (simp; omega)) ?_ | refine w_storeR M _ _ _ _ rfl (by first | exact at0 | exact at1) hx rfl _ hy rfl (by kernel_rfl) (by simp [Value.oneCell']) (by first | rfl | assumption) ?_); clear hx hy M; intro w1 M; (try simp only [setC] at M))) | ((with_reducible refine tBox _ ?_); (refine w_box M _ _ rfl rfl _ rfl _ rfl ?_; clear M; intro g w1 M))) <;> (try conv => arg 5; simp only [Act.put, List.setIfInBounds_toArray, setC]))
  go_ret
  exact ⟨rfl, M.below⟩
set_option maxRecDepth 100000 in
set_option maxHeartbeats 4000000 in
/-- What a token is wrapped to, and what bars it: here and there alike. -/
theorem wrap_same (secret : List UInt8) (b : UInt32) (n : UInt64) (k e : Int) (l : List Mt) (s : List UInt8) (v : Value) (hk : k ≤ 9223372036854775807) (he : e ≤ 9223372036854775807) (hsec : secret.length ≤ 1000000) (hl : l.length ≤ 1000000) (hm : ∀ x ∈ l, x.1.length ≤ 1000000000) :
    ∃ (B : List UInt8) (r : Int), r = (if rightT k e l s = true then 0 else 1) ∧
    (∀ w : World, SeesL w 2 mtV v l → Calls Try.prog 27 #[.string (mkS secret), .int .u32 (I32 b), .int .u64 (I64 n), .agg #[.int .i64 k, .int .i64 e, v, .string (mkS s)]] w fun x w' => x = .returned (.tuple #[.string (mkS B), .int .i64 r]) ∧ Below w.heap.size w w') ∧
    (∀ w : World, SeesL w 2 mtV v l → Calls Try.prog 28 #[.string (mkS secret), .int .u32 (I32 b), .int .u64 (I64 n), .agg #[.int .i64 k, .int .i64 e, v, .string (mkS s)]] w fun x w' => x = .returned (.tuple #[.string (mkS B), .int .i64 r]) ∧ Below w.heap.size w w') := by
  cases h : rightT k e l s with
  | false =>
    refine ⟨[], 1, by simp, fun w S => Wrap_no secret b n k e l s v w S hl hm h, fun w S => ?_⟩
    obtain ⟨p, cap, rfl, hc⟩ := S.form
    have M := Mem.start [] w
    have RC := fun w S => ref24Right_c k e l s (.slice p l.length cap) w S hl hm
    rw [h, if_neg (by decide)] at RC
    replace RC := Lib.hid RC
    clear h
    go_enter Try.func28, Try.ntmps28
    go_wp2_with ((first | ((with_reducible refine tBox (some 7) ?_); refine w_box M _ _ rfl rfl _ rfl ([.int .i64 k, .int .i64 e, .slice p l.length cap, .string (mkS s)]) rfl ?_; clear M; intro gt w1 M) | (go_at_call 64; go_must (refine (RC.out _ (S.now M)).mono ?_; rintro e w1 ⟨rfl, hb⟩; replace M := M.call hb; clear hb)) | ((with_reducible refine tGuard ?_); first | refine w_strip rfl (by with_reducible rfl) ?_ | ((fail_if_success (refine w_lit false rfl (by with_reducible rfl) ?_)); (fail_if_success (refine w_lit true rfl (by with_reducible rfl) ?_)); refine w_case rfl ?_ ?_ <;> (intro hgd; rw [hgd]; try (exfalso; simp at hgd; omega)))) | fail | ((with_reducible refine tLoad ?_); go_must (refine w_at _ _ rfl (by exact ev_tmp rfl) ?_; intro hx; (first | refine w_load M _ _ _ rfl (by first | exact at0) hx rfl (by decide +kernel) (by exact rfl) ?_ | refine w_loadR M _ _ _ rfl (by first | exact at0) hx rfl (by decide +kernel) (by kernel_rfl) ?_); clear hx)) | ((with_reducible refine tStore ?_); go_must (refine w_at2 _ _ _ rfl (by exact ev_tmp rfl) (by first | exact ev_tmp rfl | exact ev_const) ?_; intro hx hy; (first | refine w_store M _ _ _ _ rfl (by first | exact at0) hx rfl hy rfl rfl (by decide +kernel) (by first | decide | simp | (simp; omega)) ?_ | refine w_storeR M _ _ _ _ rfl (by first | exact at0) hx rfl _ hy rfl (by kernel_rfl) (by simp [Value.oneCell']) (by first | rfl | assumption) ?_); clear hx hy M; intro w1 M; (try simp only [setC] at M))) | ((with_reducible refine tBox _ ?_); (refine w_box M _ _ rfl rfl _ rfl _ rfl ?_; clear M; intro g w1 M))) <;> (try conv => arg 5; simp only [Act.put, List.setIfInBounds_toArray, setC]))
    go_ret2
    exact ⟨rfl, M.below⟩
  | true =>
    obtain ⟨hk0, he1, hr, hs1, hs2⟩ := rightT_of h
    obtain ⟨hl1, hl4, hn8⟩ := rightM_of hr
    obtain ⟨k, rfl⟩ : ∃ m : Nat, k = m := ⟨k.toNat, by omega⟩
    obtain ⟨e, rfl⟩ : ∃ m : Nat, e = m := ⟨e.toNat, by omega⟩
    refine ⟨envB (wrapE secret b n ⟨k, e, l, s⟩), 0, by simp, fun w S => Wrap_ok secret b n k e l s v w S hsec (by omega) (by omega) h, fun w S => ?_⟩
    obtain ⟨p, cap, rfl, hc⟩ := S.form
    have M := Mem.start [] w
    have RC := fun w S => ref24Right_c k e l s (.slice p l.length cap) w S hl hm
    rw [h, if_pos rfl] at RC
    have BC := fun w S => ref24Bytes_c k e l s (.slice p l.length cap) w S (by omega) (by omega) h
    have hBl := tokB_len (t := ⟨k, e, l, s⟩) (by simp only; omega) (by simp only; omega) hl4 hn8 hs2
    have CC := fun w => ref24Close_c secret b n (tokB ⟨k, e, l, s⟩) w hsec (by omega)
    obtain ⟨E, eE⟩ : ∃ E, E = envB (wrapE secret b n ⟨k, e, l, s⟩) := ⟨_, rfl⟩
    have CC' : ∀ w, Calls Try.prog 65 #[.string (mkS secret), .int .i64 0, .int .u32 (I32 b), .int .u64 (I64 n), .string (mkS (tokB ⟨k, e, l, s⟩))] w fun r w' => r = .returned (.string (mkS E)) ∧ Below w.heap.size w w' := by rw [eE]; exact CC
    rw [← eE]
    obtain ⟨B, eB⟩ : ∃ B, B = tokB ⟨k, e, l, s⟩ := ⟨_, rfl⟩
    rw [← eB] at BC CC'
    replace RC := Lib.hid RC
    replace BC := Lib.hid BC
    replace CC' := Lib.hid CC'
    clear h hr CC eB eE hBl
    go_enter Try.func28, Try.ntmps28
    go_wp2_with ((first | ((with_reducible refine tBox (some 7) ?_); refine w_box M _ _ rfl rfl _ rfl ([.int .i64 k, .int .i64 e, .slice p l.length cap, .string (mkS s)]) rfl ?_; clear M; intro gt w1 M) | (go_at_call 64; go_must (refine (RC.out _ (S.now M)).mono ?_; rintro e w1 ⟨rfl, hb⟩; replace M := M.call hb; clear hb)) | (go_at_call 66; go_must (refine (BC.out _ (S.now M)).mono ?_; rintro e w1 ⟨rfl, hb⟩; replace M := M.call hb; clear hb)) | (go_at_call 65; go_must (refine (CC'.out _).mono ?_; rintro e w1 ⟨rfl, hb⟩; replace M := M.call hb; clear hb)) | ((with_reducible refine tGuard ?_); first | refine w_strip rfl (by with_reducible rfl) ?_ | ((fail_if_success (refine w_lit false rfl (by with_reducible rfl) ?_)); (fail_if_success (refine w_lit true rfl (by with_reducible rfl) ?_)); refine w_case rfl ?_ ?_ <;> (intro hgd; rw [hgd]; try (exfalso; simp at hgd; omega)))) | fail | ((with_reducible refine tLoad ?_); go_must (refine w_at _ _ rfl (by exact ev_tmp rfl) ?_; intro hx; (first | refine w_load M _ _ _ rfl (by first | exact at0) hx rfl (by decide +kernel) (by exact rfl) ?_ | refine w_loadR M _ _ _ rfl (by first | exact at0) hx rfl (by decide +kernel) (by kernel_rfl) ?_); clear hx)) | ((with_reducible refine tStore ?_); go_must (refine w_at2 _ _ _ rfl (by exact ev_tmp rfl) (by first | exact ev_tmp rfl | exact ev_const) ?_; intro hx hy; (first | refine w_store M _ _ _ _ rfl (by first | exact at0) hx rfl hy rfl rfl (by decide +kernel) (by first | decide | simp | (simp; omega)) ?_ | refine w_storeR M _ _ _ _ rfl (by first | exact at0) hx rfl _ hy rfl (by kernel_rfl) (by simp [Value.oneCell']) (by first | rfl | assumption) ?_); clear hx hy M; intro w1 M; (try simp only [setC] at M))) | ((with_reducible refine tBox _ ?_); (refine w_box M _ _ rfl rfl _ rfl _ rfl ?_; clear M; intro g w1 M))) <;> (try conv => arg 5; simp only [Act.put, List.setIfInBounds_toArray, setC]))
    go_ret2
    exact ⟨rfl, M.below⟩
set_option maxRecDepth 100000 in
set_option maxHeartbeats 8000000 in
theorem TokenWraps_any (secret : List UInt8) (b : UInt32) (n : UInt64) (k e : Int) (l : List Mt) (s : List UInt8) (v : Value) (w : World) (hk : k ≤ 9223372036854775807) (he : e ≤ 9223372036854775807) (_hs : s.length ≤ maxLen) (S : SeesL w 2 mtV v l) (hm : ∀ x ∈ l, x.1.length ≤ maxLen) :
    Calls Try.prog 10 #[.string (mkS secret), .int .u32 (I32 b), .int .u64 (I64 n), .agg #[.int .i64 k, .int .i64 e, v, .string (mkS s)]] w fun r w' => r = .returned (.bool true) ∧ Below w.heap.size w w' := by
  obtain ⟨p, cap, rfl, hc⟩ := S.form
  have M := Mem.start [] w
  have hcl := sees_cap S
  have G1 := fun w S => Great24_c k e l s (.slice p l.length cap) w S (by omega) hm
  rcases (by omega : (300 : Int) < (secret.length : Int) ∨ ¬ (300 : Int) < (secret.length : Int)) with h0 | h0
  · clear G1
    go_enter Try.func10, Try.ntmps10
    go_wp2_with ((first | ((with_reducible refine tBox (some 7) ?_); refine w_box M _ _ rfl rfl _ rfl ([.int .i64 k, .int .i64 e, .slice p l.length cap, .string (mkS s)]) rfl ?_; clear M; intro gt w1 M) | ((with_reducible refine tGuard ?_); (with_reducible refine w_stripE ?_ ?_); (focus (refine ⟨_, rfl, ?_⟩; first | (with_reducible rfl) | exact decide_eq_false (by omega) | exact decide_eq_true (by omega)))) | ((with_reducible refine tGuard ?_); first | ((with_reducible refine w_skip1 ?_ ?_); (focus (refine ⟨_, rfl, ?_⟩; first | (with_reducible rfl) | exact decide_eq_false (by omega) | exact decide_eq_true (by omega)))) | ((with_reducible refine w_skip0 ?_ ?_); (focus (refine ⟨_, rfl, ?_⟩; first | (with_reducible rfl) | exact decide_eq_false (by omega) | exact decide_eq_true (by omega))))) | (go_at_call 25; go_must (refine (awake24_c _).mono ?_; rintro e w1 ⟨rfl, hb⟩; replace M := M.call hb; clear hb)) | ((with_reducible refine tGuard ?_); refine w_strip rfl (by with_reducible rfl) ?_) | fail | ((with_reducible refine tLoad ?_); go_must (refine w_at _ _ rfl (by exact ev_tmp rfl) ?_; intro hx; (first | refine w_load M _ _ _ rfl (by first | exact at0) hx rfl (by decide +kernel) (by exact rfl) ?_ | refine w_loadR M _ _ _ rfl (by first | exact at0) hx rfl (by decide +kernel) (by kernel_rfl) ?_); clear hx)) | ((with_reducible refine tStore ?_); go_must (refine w_at2 _ _ _ rfl (by exact ev_tmp rfl) (by first | exact ev_tmp rfl | exact ev_const) ?_; intro hx hy; (first | refine w_store M _ _ _ _ rfl (by first | exact at0) hx rfl hy rfl rfl (by decide +kernel) (by first | decide | simp | (simp; omega)) ?_ | refine w_storeR M _ _ _ _ rfl (by first | exact at0) hx rfl _ hy rfl (by kernel_rfl) (by simp [Value.oneCell']) (by first | rfl | assumption) ?_); clear hx hy M; intro w1 M; (try simp only [setC] at M))) | ((with_reducible refine tBox _ ?_); (refine w_box M _ _ rfl rfl _ rfl _ rfl ?_; clear M; intro g w1 M))) <;> (try conv => arg 5; simp only [Act.put, List.setIfInBounds_toArray, setC]))
    go_ret
    exact ⟨by first | rfl | simp, M.below⟩
  cases h1 : greatT l s with
  | true =>
    rw [h1] at G1
    replace G1 := Lib.hid G1
    clear h1
    go_enter Try.func10, Try.ntmps10
    go_wp2_with ((first | ((with_reducible refine tBox (some 7) ?_); refine w_box M _ _ rfl rfl _ rfl ([.int .i64 k, .int .i64 e, .slice p l.length cap, .string (mkS s)]) rfl ?_; clear M; intro gt w1 M) | ((with_reducible refine tGuard ?_); (with_reducible refine w_stripE ?_ ?_); (focus (refine ⟨_, rfl, ?_⟩; first | (with_reducible rfl) | exact decide_eq_false (by omega) | exact decide_eq_true (by omega)))) | ((with_reducible refine tGuard ?_); first | ((with_reducible refine w_skip1 ?_ ?_); (focus (refine ⟨_, rfl, ?_⟩; first | (with_reducible rfl) | exact decide_eq_false (by omega) | exact decide_eq_true (by omega)))) | ((with_reducible refine w_skip0 ?_ ?_); (focus (refine ⟨_, rfl, ?_⟩; first | (with_reducible rfl) | exact decide_eq_false (by omega) | exact decide_eq_true (by omega))))) | (go_at_call 25; go_must (refine (awake24_c _).mono ?_; rintro e w1 ⟨rfl, hb⟩; replace M := M.call hb; clear hb)) | (go_at_call 26; go_must (refine (G1.out _ (S.now M)).mono ?_; rintro e w1 ⟨rfl, hb⟩; replace M := M.call hb; clear hb)) | ((with_reducible refine tGuard ?_); refine w_strip rfl (by with_reducible rfl) ?_) | fail | ((with_reducible refine tLoad ?_); go_must (refine w_at _ _ rfl (by exact ev_tmp rfl) ?_; intro hx; (first | refine w_load M _ _ _ rfl (by first | exact at0) hx rfl (by decide +kernel) (by exact rfl) ?_ | refine w_loadR M _ _ _ rfl (by first | exact at0) hx rfl (by decide +kernel) (by kernel_rfl) ?_); clear hx)) | ((with_reducible refine tStore ?_); go_must (refine w_at2 _ _ _ rfl (by exact ev_tmp rfl) (by first | exact ev_tmp rfl | exact ev_const) ?_; intro hx hy; (first | refine w_store M _ _ _ _ rfl (by first | exact at0) hx rfl hy rfl rfl (by decide +kernel) (by first | decide | simp | (simp; omega)) ?_ | refine w_storeR M _ _ _ _ rfl (by first | exact at0) hx rfl _ hy rfl (by kernel_rfl) (by simp [Value.oneCell']) (by first | rfl | assumption) ?_); clear hx hy M; intro w1 M; (try simp only [setC] at M))) | ((with_reducible refine tBox _ ?_); (refine w_box M _ _ rfl rfl _ rfl _ rfl ?_; clear M; intro g w1 M))) <;> (try conv => arg 5; simp only [Act.put, List.setIfInBounds_toArray, setC]))
    go_ret
    exact ⟨by first | rfl | simp, M.below⟩
  | false =>
    obtain ⟨hl, hsl, hml⟩ := greatT_of h1
    rw [h1] at G1
    have hml' : ∀ x ∈ l, x.1.length ≤ 1000000000 := fun x hx => by have := hml x hx; omega
    obtain ⟨B, r, hr, WC, VC⟩ := wrap_same secret b n k e l s (.slice p l.length cap) hk he (by omega) (by omega) hml'
    have RC := fun w S => tokRight_c k e l s (.slice p l.length cap) w S (by omega) hml'
    rw [← hr] at RC
    have OC := fun w S => own_c k e l s (.slice p l.length cap) w S
    replace G1 := Lib.hid G1
    replace WC := Lib.hid WC
    replace VC := Lib.hid VC
    replace RC := Lib.hid RC
    replace OC := Lib.hid OC
    clear h1 hr hml hml'
    go_enter Try.func10, Try.ntmps10
    go_wp2_with ((first | ((with_reducible refine tBox (some 7) ?_); refine w_box M _ _ rfl rfl _ rfl ([.int .i64 k, .int .i64 e, .slice p l.length cap, .string (mkS s)]) rfl ?_; clear M; intro gt w1 M) | ((with_reducible refine tGuard ?_); (with_reducible refine w_stripE ?_ ?_); (focus (refine ⟨_, rfl, ?_⟩; first | (with_reducible rfl) | exact decide_eq_false (by omega) | exact decide_eq_true (by omega)))) | ((with_reducible refine tGuard ?_); first | ((with_reducible refine w_skip1 ?_ ?_); (focus (refine ⟨_, rfl, ?_⟩; first | (with_reducible rfl) | exact decide_eq_false (by omega) | exact decide_eq_true (by omega)))) | ((with_reducible refine w_skip0 ?_ ?_); (focus (refine ⟨_, rfl, ?_⟩; first | (with_reducible rfl) | exact decide_eq_false (by omega) | exact decide_eq_true (by omega))))) | (go_at_call 25; go_must (refine (awake24_c _).mono ?_; rintro e w1 ⟨rfl, hb⟩; replace M := M.call hb; clear hb)) | (go_at_call 26; go_must (refine (G1.out _ (S.now M)).mono ?_; rintro e w1 ⟨rfl, hb⟩; replace M := M.call hb; clear hb)) | (go_at_call 27; go_must (refine (WC.out _ (S.now M)).mono ?_; rintro e w1 ⟨rfl, hb⟩; replace M := M.call hb; clear hb)) | (go_at_call 28; go_must (refine (VC.out _ (S.now M)).mono ?_; rintro e w1 ⟨rfl, hb⟩; replace M := M.call hb; clear hb)) | (go_at_call 29; go_must (refine (OC.out _ (S.now M)).mono ?_; rintro e w1 ⟨rfl, hb⟩; replace M := M.call hb; clear hb)) | (go_at_call 30; go_must (refine (RC.out _ (S.now M)).mono ?_; rintro e w1 ⟨rfl, hb⟩; replace M := M.call hb; clear hb)) | ((with_reducible refine tGuard ?_); refine w_strip rfl (by with_reducible rfl) ?_) | fail | ((with_reducible refine tLoad ?_); go_must (refine w_at _ _ rfl (by exact ev_tmp rfl) ?_; intro hx; (first | refine w_load M _ _ _ rfl (by first | exact at0) hx rfl (by decide +kernel) (by exact rfl) ?_ | refine w_loadR M _ _ _ rfl (by first | exact at0) hx rfl (by decide +kernel) (by kernel_rfl) ?_); clear hx)) | ((with_reducible refine tStore ?_); go_must (refine w_at2 _ _ _ rfl (by exact ev_tmp rfl) (by first | exact ev_tmp rfl | exact ev_const) ?_; intro hx hy; (first | refine w_store M _ _ _ _ rfl (by first | exact at0) hx rfl hy rfl rfl (by decide +kernel) (by first | decide | simp | (simp; omega)) ?_ | refine w_storeR M _ _ _ _ rfl (by first | exact at0) hx rfl _ hy rfl (by kernel_rfl) (by simp [Value.oneCell']) (by first | rfl | assumption) ?_); clear hx hy M; intro w1 M; (try simp only [setC] at M))) | ((with_reducible refine tBox _ ?_); (refine w_box M _ _ rfl rfl _ rfl _ rfl ?_; clear M; intro g w1 M))) <;> (try conv => arg 5; simp only [Act.put, List.setIfInBounds_toArray, setC]))
    go_ret
    exact ⟨by first | rfl | simp, M.below⟩
end Go.Proofs.Ytjlkiopncclomaa

/- What the statements' frames lean on: an array of bytes that came in; a byte that came in. No conditions but those each lemma names. -/
namespace Go
namespace TL
open Go.RowKit
theorem wf_u8 {a : Int} (h : (Lit.int .u8 a).wf = true) : ∃ x : UInt8, a = I8 x := by
  have hb : IntKind.u8.min ≤ a ∧ a ≤ IntKind.u8.max := by simpa [Lit.wf] using h
  have h0 : IntKind.u8.min = 0 := by decide
  have h1 : IntKind.u8.max = 255 := by decide
  rw [h0, h1] at hb
  refine ⟨UInt8.ofNat a.toNat, ?_⟩
  rw [I8_eq, UInt8.toNat_ofNat']
  omega
theorem eq_of_cells {n : Nat} (cs : List Value) (h : ∀ i, i < n → ∃ x : UInt8, (cs.drop i).take 1 = [vb x]) (hl : cs.length = n) : ∃ l : List UInt8, l.length = n ∧ cs = l.map vb := by
  induction n generalizing cs with
  | zero => exact ⟨[], rfl, by simpa using hl⟩
  | succ n ih =>
    cases cs with
    | nil => simp at hl
    | cons c cs =>
      obtain ⟨x, hx⟩ := h 0 (by omega)
      simp only [List.drop_zero, List.take_succ_cons, List.take_zero, List.cons.injEq, and_true] at hx
      obtain ⟨l, h1, h2⟩ := ih cs (fun i hi => by simpa using h (i + 1) (by omega)) (by simpa using hl)
      exact ⟨x :: l, by simp [h1], by rw [hx, h2]; rfl⟩
theorem open_arr {P : Program} {w : World} {H : Type} {enc : TypeId × Value → H} {base : Nat} {spare : Bool} {held : _} {r : Reach} {b0 : Nat} {t e : TypeId} {n : Nat} {v : Value} {d : DataW H} {p : List MemPlace} (hu : P.underlying t = some (.array n e)) (he : P.underlying e = some (.int .u8)) (hc : P.cellsOf e = 1) (hct : P.cellsOf t = n)
    (hv : Value.okWide P w r b0 t v) (h : DataW.Trod enc P w base held spare t v d p) : ∃ l : List UInt8, l.length = n ∧ v = .agg (l.map vb).toArray := by
  simp only [Value.okWide, hu] at hv
  obtain ⟨cs, rfl, hsz, _⟩ := hv
  obtain ⟨fuel, hf⟩ := h
  obtain ⟨xs, m, _, _, _, hxl, hi⟩ := DataW.trod_array hu hf
  obtain ⟨l, h1, h2⟩ := eq_of_cells (n := n) cs.toList (fun i hin => by
    have h3 := hi i hin
    rw [hc, Nat.mul_one, List.getElem?_eq_getElem (by omega)] at h3
    obtain ⟨k, h4, _, h5⟩ := DataW.trod_int he h3
    obtain ⟨x, rfl⟩ := wf_u8 h5
    exact ⟨x, h4⟩) (by rw [Array.length_toList, hsz, hct])
  exact ⟨l, h1, by rw [← h2]⟩
end TL
end Go

/- What the statements' frames lean on where a slice of structs comes in: it is seen, element by element. No conditions but those each lemma names. -/
namespace Go
namespace TL
open Go.RowKit Go.ChangeShapes Go.WideShapes Go.Deep
theorem listOf {α : Type} {p : Nat → α → Prop} : ∀ n : Nat, (∀ i, i < n → ∃ x, p i x) → ∃ l : List α, l.length = n ∧ ∀ (i : Nat) (x : α), l[i]? = some x → p i x
  | 0, _ => ⟨[], rfl, fun i x h => by simp at h⟩
  | n + 1, h => by
    obtain ⟨l, h1, h2⟩ := listOf n fun i hi => h i (by omega)
    obtain ⟨x, hx⟩ := h n (by omega)
    refine ⟨l ++ [x], by simp [h1], fun i y hy => ?_⟩
    by_cases hi : i < n
    · rw [List.getElem?_append_left (by omega)] at hy; exact h2 i y hy
    · have hi' : i = n := by
        have := (List.getElem?_eq_some_iff.1 hy).1
        simp at this; omega
      subst hi'
      rw [List.getElem?_append_right (by omega), h1] at hy
      simp at hy; subst hy; exact hx
theorem lt_of_shape {w : World} {g : Nat} {x : TypeId × Nat} (h : w.shape? g = some x) : g < w.heap.size := by
  unfold World.shape? at h
  cases e : w.heap[g]? with
  | none => rw [e] at h; simp at h
  | some o => exact (Array.getElem?_eq_some_iff.1 e).1
section
variable {H : Type} {enc : TypeId × Value → H} {P : Program} {w : World} {base : Nat} {spare : Nat → Bool} {held : Bool}
/-- A slice's shape, told by its type. -/
theorem slice_shape {r : Reach} {b0 : Nat} {t e : TypeId} {v : Value} (ht : P.underlying t = some (.slice e)) (hv : Value.okWide P w r b0 t v) : v = .slice none 0 0 ∨ ∃ a len cap, v = .slice (some a) len cap ∧ a.spot = none ∧ a.block < w.heap.size := by
  unfold Value.okWide at hv
  rw [ht] at hv
  have hv : Cell.ok P w r b0 t v := by
    unfold Cell.okWide at hv
    rw [ht] at hv
    exact hv
  unfold Cell.ok at hv
  rw [ht] at hv
  split at hv <;> simp_all
  obtain ⟨_, _, h⟩ := hv
  unfold World.has at h
  obtain ⟨_, hs, row, cells, hsh, _⟩ := h
  exact ⟨hs, lt_of_shape hsh⟩
theorem open_sl {α : Type} {f : α → List Value} {size : Nat} {good : α → Prop} {r : Reach} {b0 : Nat} {t e : TypeId} {v : Value} {d : DataW H} {p : List MemPlace} (ht : P.underlying t = some (.slice e)) (hc : P.cellsOf e = size) (hpos : 0 < size) (hf : ∀ x, (f x).length = size)
    (hdec : ∀ n cs y, cs.length = size → DataW.trod enc P w base spare held n e cs = some y → ∃ x, cs = f x ∧ good x) (hv : Value.okWide P w r b0 t v) (h : DataW.Trod enc P w base spare held t v d p) : ∃ l : List α, SeesL w size f v l ∧ ∀ x ∈ l, good x := by
  obtain ⟨fuel, hh⟩ := h
  rcases slice_shape ht hv with rfl | ⟨⟨g, o, s⟩, len, cap, rfl, hs, hlt⟩
  · exact ⟨[], seesL_nil size f hf w, by simp⟩
  · simp only at hs hlt; subst hs
    rcases open_slice ht hh with ⟨h0, _⟩ | ⟨a, len', cap', m, n, D, Pl, hcs, hb, hl, hm, hmm, hx, hi⟩
    · simp [Value.cells] at h0
    · simp only [Value.cells, List.cons.injEq, and_true, Value.slice.injEq, Option.some.injEq] at hcs
      obtain ⟨rfl, rfl, rfl⟩ := hcs
      have hlm : len ≤ m := by rw [hmm]; split <;> omega
      obtain ⟨l, h1, h2⟩ := listOf (p := fun i x => good x ∧ ∀ j, j < size → w.cell? ⟨g, o + (i * size + j), none⟩ = (f x)[j]?) len fun i hil => by
        obtain ⟨cs, hcells, htrod⟩ := hi i (by omega)
        rw [hc] at hcells
        obtain ⟨_, hlen, hat⟩ := World.cells?_some hcells
        obtain ⟨x, rfl, hg⟩ := hdec n cs _ hlen htrod
        refine ⟨x, hg, fun j hj => ?_⟩
        rw [← hat j hj]
        congr 1
        unfold Addr.add
        by_cases hi0 : i * size = 0 <;> by_cases hj0 : j = 0 <;> simp [hi0, hj0]
        omega
      refine ⟨l, ⟨⟨by rw [flat_len hf], .inr ⟨g, o, cap, by rw [h1], hlt, by omega, hm, ?_⟩⟩, hf⟩, fun x hx => ?_⟩
      · intro j v hv
        have hjl : j < l.length * size := by have := (List.getElem?_eq_some_iff.1 hv).1; rwa [flat_len hf] at this
        have hk : j / size < l.length := Nat.div_lt_of_lt_mul (by rw [Nat.mul_comm]; exact hjl)
        obtain ⟨x, hx⟩ : ∃ x, l[j / size]? = some x := ⟨_, List.getElem?_eq_getElem hk⟩
        have hmod : j % size < size := Nat.mod_lt _ hpos
        have e : j / size * size + j % size = j := by rw [Nat.mul_comm]; exact Nat.div_add_mod j size
        have := (h2 _ x hx).2 (j % size) hmod
        rw [e] at this
        rw [this, ← flat_get hf l (j / size) x hx (j % size) hmod, e]
        exact hv
      · obtain ⟨k, hk⟩ := List.getElem?_of_mem hx
        exact (h2 k x hk).1
/-- A struct of two texts. -/
theorem dec_pr {e : TypeId} {f0 f1 : Field} (he : P.underlying e = some (.struct #[f0, f1])) (h0 : P.underlying f0.type = some .string) (h1 : P.underlying f1.type = some .string) (o0 : f0.offset = 0) (o1 : f1.offset = 1) (c0 : P.cellsOf f0.type = 1) (c1 : P.cellsOf f1.type = 1) :
    ∀ n cs y, cs.length = 2 → DataW.trod enc P w base spare held n e cs = some y → ∃ x : List UInt8 × List UInt8, cs = prV x ∧ (x.1.length ≤ maxLen ∧ x.2.length ≤ maxLen) := by
  intro n cs y hl h
  obtain ⟨xs, m, _, _, _, hxl, hg⟩ := DataW.trod_struct he h
  match cs, hl with
  | [a, b], _ =>
    match xs, hxl with
    | [x0, x1], _ =>
      have g0 := hg 0 f0 rfl
      have g1 := hg 1 f1 rfl
      rw [o0, c0] at g0
      rw [o1, c1] at g1
      obtain ⟨s, hs, _, hsl⟩ := DataW.trod_string h0 g0
      obtain ⟨u, hu, _, hul⟩ := DataW.trod_string h1 g1
      simp at hs hu
      obtain ⟨ls, rfl⟩ := mkS_of s
      obtain ⟨lu, rfl⟩ := mkS_of u
      rw [mkS_size] at hsl hul
      exact ⟨(ls, lu), by rw [hs, hu]; rfl, hsl, hul⟩
end
end TL
end Go

/- What the frames of layer 24's statements lean on: a token that comes in. No conditions but those each lemma names. -/
namespace Go
namespace TL
open Go.RowKit Go.ChangeShapes Go.WideShapes Go.Deep
section
variable {H : Type} {enc : TypeId × Value → H} {P : Program} {w : World} {base : Nat} {spare : Nat → Bool} {held : Bool}
/-- A struct of a text and a bool. -/
theorem dec_mt {e : TypeId} {f0 f1 : Field} (he : P.underlying e = some (.struct #[f0, f1])) (h0 : P.underlying f0.type = some .string) (h1 : P.underlying f1.type = some .bool) (o0 : f0.offset = 0) (o1 : f1.offset = 1) (c0 : P.cellsOf f0.type = 1) (c1 : P.cellsOf f1.type = 1) :
    ∀ n cs y, cs.length = 2 → DataW.trod enc P w base spare held n e cs = some y → ∃ x : Mt, cs = mtV x ∧ x.1.length ≤ maxLen := by
  intro n cs y hl h
  obtain ⟨xs, m, _, _, _, hxl, hg⟩ := DataW.trod_struct he h
  match cs, hl with
  | [a, b], _ =>
    match xs, hxl with
    | [x0, x1], _ =>
      have g0 := hg 0 f0 rfl
      have g1 := hg 1 f1 rfl
      rw [o0, c0] at g0
      rw [o1, c1] at g1
      obtain ⟨s, hs, _, hsl⟩ := DataW.trod_string h0 g0
      obtain ⟨u, hu, _⟩ := DataW.trod_bool h1 g1
      simp at hs hu
      obtain ⟨ls, rfl⟩ := mkS_of s
      rw [mkS_size] at hsl
      exact ⟨(ls, u), by rw [hs, hu]; rfl, hsl⟩
theorem wf_i64 {a : Int} (h : (Lit.int .i64 a).wf = true) : -9223372036854775808 ≤ a ∧ a ≤ 9223372036854775807 := by
  have hb : IntKind.i64.min ≤ a ∧ a ≤ IntKind.i64.max := by simpa [Lit.wf] using h
  have h0 : IntKind.i64.min = -9223372036854775808 := by decide
  have h1 : IntKind.i64.max = 9223372036854775807 := by decide
  rw [h0, h1] at hb
  exact hb
/-- A token that comes in: two ints, a slice of mounts, a text. -/
theorem open_tk {r : Reach} {b0 : Nat} {t e : TypeId} {v : Value} {d : DataW H} {p : List MemPlace} {f0 f1 f2 f3 : Field} (ht : P.underlying t = some (.struct #[f0, f1, f2, f3])) (h0 : P.underlying f0.type = some (.int .i64)) (h1 : P.underlying f1.type = some (.int .i64)) (h2 : P.underlying f2.type = some (.slice e)) (h3 : P.underlying f3.type = some .string)
    (o0 : f0.offset = 0) (o1 : f1.offset = 1) (o2 : f2.offset = 2) (o3 : f3.offset = 3) (c0 : P.cellsOf f0.type = 1) (c1 : P.cellsOf f1.type = 1) (c2 : P.cellsOf f2.type = 1) (c3 : P.cellsOf f3.type = 1) (hct : P.cellsOf t = 4) (hts : P.cellTypes P.depth t = some [f0.type, f1.type, f2.type, f3.type]) (hce : P.cellsOf e = 2)
    (hdec : ∀ n cs y, cs.length = 2 → DataW.trod enc P w base spare held n e cs = some y → ∃ x : Mt, cs = mtV x ∧ x.1.length ≤ maxLen)
    (hv : Value.okWide P w r b0 t v) (h : DataW.Trod enc P w base spare held t v d p) :
    ∃ (i j : Int) (l : List Mt) (s : List UInt8) (z : Value), v = .agg #[.int .i64 i, .int .i64 j, z, .string (mkS s)] ∧ (-9223372036854775808 ≤ i ∧ i ≤ 9223372036854775807) ∧ (-9223372036854775808 ≤ j ∧ j ≤ 9223372036854775807) ∧ s.length ≤ maxLen ∧ SeesL w 2 mtV z l ∧ ∀ x ∈ l, x.1.length ≤ maxLen := by
  simp only [Value.okWide, ht] at hv
  obtain ⟨cs, rfl, hsz, ts, hts', _, hc⟩ := hv
  rw [hts] at hts'
  cases hts'
  obtain ⟨fuel, hf⟩ := h
  obtain ⟨xs, m, _, _, _, hxl, hg⟩ := DataW.trod_struct ht hf
  rw [hct] at hsz
  obtain ⟨cl⟩ := cs
  match cl, hsz with
  | [a, b, c, q], _ =>
    match xs, hxl with
    | [x0, x1, x2, x3], _ =>
      have g0 := hg 0 f0 rfl
      have g1 := hg 1 f1 rfl
      have g2 := hg 2 f2 rfl
      have g3 := hg 3 f3 rfl
      rw [o0, c0] at g0
      rw [o1, c1] at g1
      rw [o2, c2] at g2
      rw [o3, c3] at g3
      obtain ⟨i, hi, _, wi⟩ := DataW.trod_int h0 g0
      obtain ⟨j, hj, _, wj⟩ := DataW.trod_int h1 g1
      obtain ⟨s, hs, _, hsl⟩ := DataW.trod_string h3 g3
      have g2 : DataW.trod enc P w base spare held m f2.type [c] = some x2 := g2
      have ha : a = .int .i64 i := by simpa [Value.cells] using hi
      have hb : b = .int .i64 j := by simpa [Value.cells] using hj
      have hq : q = .string s := by simpa [Value.cells] using hs
      subst ha; subst hb; subst hq
      obtain ⟨ls, rfl⟩ := mkS_of s
      rw [mkS_size] at hsl
      obtain ⟨u, hu, hcell⟩ := hc 2 c rfl
      have hu' : f2.type = u := by simpa using hu
      subst hu'
      have hval : Value.okWide P w r b0 f2.type c := by unfold Value.okWide; rw [h2]; exact hcell
      have htr : DataW.Trod enc P w base spare held f2.type c x2.1 x2.2 := by
        rcases slice_shape h2 hval with rfl | ⟨_, _, _, rfl, _⟩ <;> exact ⟨m, g2⟩
      obtain ⟨l, S, hl⟩ := open_sl (f := mtV) h2 hce (by decide) mtV_len hdec hval htr
      exact ⟨i, j, l, ls, c, rfl, wf_i64 wi, wf_i64 wj, hsl, S, hl⟩
end
end TL
end Go
