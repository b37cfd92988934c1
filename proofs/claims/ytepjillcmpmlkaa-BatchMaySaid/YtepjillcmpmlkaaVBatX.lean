/- The walks of layer 12's law BatchMay. No conditions but the bounds of lengths that every machine has. -/
import Derived.Test.YtepjillcmpmlkaaZh
import Derived.Test.YtepjillcmpmlkaaVBatN
namespace Go.Proofs.Ytepjillcmpmlkaa
open Go.RowKit Go.TL
set_option maxRecDepth 100000 in
set_option maxHeartbeats 8000000 in
theorem BatchMay_any (l : List Mt) (ops : List Opr) (u v : Value) (w : World) (U : SeesL w 2 mtV u l) (hu : ∀ x ∈ l, x.1.length ≤ maxLen) (S : SeesL w 3 opV v ops) (hv : ∀ x ∈ ops, x.2.1.length ≤ maxLen ∧ x.2.2.length ≤ maxLen) :
    Calls Try.prog 3 #[u, v] w fun e w' => e = .returned (.bool true) ∧ Below w.heap.size w w' := by
  have M := Mem.start [] w
  have G := Great_c l u w U hu
  have G' := GreatOps_c ops v w S hv
  by_cases hg : greatM l = true
  · rw [hg] at G
    replace G := Lib.hid G
    clear hu hv G'
    go_enter Try.func3, Try.ntmps3
    go_wp2_with (first | ((with_reducible show wpList _ _ _ (Oper.mk _ _ _ _ _ (some _) :: _) _ _); (with_reducible refine w_stripE ?_ ?_); (focus (refine ⟨_, rfl, ?_⟩; first | (with_reducible rfl) | (simp only [decide_eq_false_iff_not, decide_eq_true_eq]; omega)))) | ((with_reducible show wpList _ _ _ (Oper.mk _ _ _ _ _ (some _) :: _) _ _); first | ((with_reducible refine w_skip1 ?_ ?_); (focus (refine ⟨_, rfl, ?_⟩; first | (with_reducible rfl) | (simp only [decide_eq_false_iff_not, decide_eq_true_eq]; omega))); (try conv => arg 5; simp only [Act.put, List.setIfInBounds_toArray, List.set_cons_succ, List.set_cons_zero])) | ((with_reducible refine w_skip0 ?_ ?_); (focus (refine ⟨_, rfl, ?_⟩; first | (with_reducible rfl) | (simp only [decide_eq_false_iff_not, decide_eq_true_eq]; omega))); (try conv => arg 5; simp only [Act.put, List.setIfInBounds_toArray, List.set_cons_succ, List.set_cons_zero]))) | (go_at_call 11; go_must (refine (G.out).mono ?_; rintro e w1 ⟨rfl, rfl⟩)) | (go_at_call 13; go_must (refine (wakes12_c _).mono ?_; rintro e w1 ⟨rfl, hb⟩; replace M := M.call hb; clear hb)))
    go_ret
    exact ⟨rfl, M.below⟩
  rw [Bool.not_eq_true] at hg
  rw [hg] at G
  obtain ⟨hl, hs⟩ := greatM_small hg
  replace G := Lib.hid G
  by_cases hg' : greatO ops = true
  · rw [hg'] at G'
    replace G' := Lib.hid G'
    clear hu hv hg hs
    go_enter Try.func3, Try.ntmps3
    go_wp2_with (first | ((with_reducible show wpList _ _ _ (Oper.mk _ _ _ _ _ (some _) :: _) _ _); (with_reducible refine w_stripE ?_ ?_); (focus (refine ⟨_, rfl, ?_⟩; first | (with_reducible rfl) | (simp only [decide_eq_false_iff_not, decide_eq_true_eq]; omega)))) | ((with_reducible show wpList _ _ _ (Oper.mk _ _ _ _ _ (some _) :: _) _ _); first | ((with_reducible refine w_skip1 ?_ ?_); (focus (refine ⟨_, rfl, ?_⟩; first | (with_reducible rfl) | (simp only [decide_eq_false_iff_not, decide_eq_true_eq]; omega))); (try conv => arg 5; simp only [Act.put, List.setIfInBounds_toArray, List.set_cons_succ, List.set_cons_zero])) | ((with_reducible refine w_skip0 ?_ ?_); (focus (refine ⟨_, rfl, ?_⟩; first | (with_reducible rfl) | (simp only [decide_eq_false_iff_not, decide_eq_true_eq]; omega))); (try conv => arg 5; simp only [Act.put, List.setIfInBounds_toArray, List.set_cons_succ, List.set_cons_zero]))) | (go_at_call 11; go_must (refine (G.out).mono ?_; rintro e w1 ⟨rfl, rfl⟩)) | (go_at_call 12; go_must (refine (G'.out).mono ?_; rintro e w1 ⟨rfl, rfl⟩)) | (go_at_call 13; go_must (refine (wakes12_c _).mono ?_; rintro e w1 ⟨rfl, hb⟩; replace M := M.call hb; clear hb)))
    go_ret
    exact ⟨rfl, M.below⟩
  rw [Bool.not_eq_true] at hg'
  rw [hg'] at G'
  obtain ⟨hl', hs'⟩ := greatO_small hg'
  replace G' := Lib.hid G'
  clear hu hv hg hg' hs
  have Y := fun w U S => bMay_c l ops u v w U S (by omega) (by omega) (fun x hx => by have := hs' x hx; omega)
  have Y' := fun w U S => rMay_c l ops u v w U S (by omega) (by omega) (fun x hx => by have := hs' x hx; omega)
  obtain ⟨n, en⟩ : ∃ n : Nat, n = mayO l ops := ⟨_, rfl⟩
  rw [← en] at Y Y'
  replace Y := Lib.hid Y
  replace Y' := Lib.hid Y'
  clear en hs'
  go_enter Try.func3, Try.ntmps3
  go_wp2_with (first | ((with_reducible show wpList _ _ _ (Oper.mk _ _ _ _ _ (some _) :: _) _ _); (with_reducible refine w_stripE ?_ ?_); (focus (refine ⟨_, rfl, ?_⟩; first | (with_reducible rfl) | (simp only [decide_eq_false_iff_not, decide_eq_true_eq]; omega)))) | ((with_reducible show wpList _ _ _ (Oper.mk _ _ _ _ _ (some _) :: _) _ _); first | ((with_reducible refine w_skip1 ?_ ?_); (focus (refine ⟨_, rfl, ?_⟩; first | (with_reducible rfl) | (simp only [decide_eq_false_iff_not, decide_eq_true_eq]; omega))); (try conv => arg 5; simp only [Act.put, List.setIfInBounds_toArray, List.set_cons_succ, List.set_cons_zero])) | ((with_reducible refine w_skip0 ?_ ?_); (focus (refine ⟨_, rfl, ?_⟩; first | (with_reducible rfl) | (simp only [decide_eq_false_iff_not, decide_eq_true_eq]; omega))); (try conv => arg 5; simp only [Act.put, List.setIfInBounds_toArray, List.set_cons_succ, List.set_cons_zero]))) | (go_at_call 11; go_must (refine (G.out).mono ?_; rintro e w1 ⟨rfl, rfl⟩)) | (go_at_call 12; go_must (refine (G'.out).mono ?_; rintro e w1 ⟨rfl, rfl⟩)) | (go_at_call 13; go_must (refine (wakes12_c _).mono ?_; rintro e w1 ⟨rfl, hb⟩; replace M := M.call hb; clear hb)) | (go_at_call 14; go_must (refine (Y.out _ (U.now M) (S.now M)).mono ?_; rintro e w1 ⟨rfl, hb⟩; replace M := M.call hb; clear hb)) | (go_at_call 15; go_must (refine (Y'.out _ (U.now M) (S.now M)).mono ?_; rintro e w1 ⟨rfl, hb⟩; replace M := M.call hb; clear hb)))
  go_ret
  exact ⟨rfl, M.below⟩
end Go.Proofs.Ytepjillcmpmlkaa
