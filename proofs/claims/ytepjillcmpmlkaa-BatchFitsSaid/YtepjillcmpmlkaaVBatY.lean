/- The walks of layer 12's law BatchFits. No conditions but the bounds of lengths that every machine has. -/
import Derived.Test.YtepjillcmpmlkaaZh
namespace Go.Proofs.Ytepjillcmpmlkaa
open Go.RowKit Go.TL
set_option maxRecDepth 100000 in
set_option maxHeartbeats 8000000 in
theorem BatchFits_any (l : List Mt) (ops : List Opr) (i e : Int) (u v : Value) (w : World) (U : SeesL w 2 mtV u l) (hu : ∀ x ∈ l, x.1.length ≤ maxLen) (S : SeesL w 3 opV v ops) (hv : ∀ x ∈ ops, x.2.1.length ≤ maxLen ∧ x.2.2.length ≤ maxLen) :
    Calls Try.prog 7 #[u, v, .int .i64 i, .int .i64 e] w fun e w' => e = .returned (.bool true) ∧ Below w.heap.size w w' := by
  have M := Mem.start [] w
  have G := Great_c l u w U hu
  have G' := GreatOps_c ops v w S hv
  by_cases hg : greatM l = true
  · rw [hg] at G
    replace G := Lib.hid G
    clear hu hv G'
    go_enter Try.func7, Try.ntmps7
    go_wp2_with (first | ((with_reducible show wpList _ _ _ (Oper.mk _ _ _ _ _ (some _) :: _) _ _); (with_reducible refine w_stripE ?_ ?_); (focus (refine ⟨_, rfl, ?_⟩; first | (with_reducible rfl) | (simp only [decide_eq_false_iff_not, decide_eq_true_eq]; omega)))) | ((with_reducible show wpList _ _ _ (Oper.mk _ _ _ _ _ (some _) :: _) _ _); first | ((with_reducible refine w_skip1 ?_ ?_); (focus (refine ⟨_, rfl, ?_⟩; first | (with_reducible rfl) | (simp only [decide_eq_false_iff_not, decide_eq_true_eq]; omega))); (try conv => arg 5; simp only [Act.put, List.setIfInBounds_toArray, List.set_cons_succ, List.set_cons_zero])) | ((with_reducible refine w_skip0 ?_ ?_); (focus (refine ⟨_, rfl, ?_⟩; first | (with_reducible rfl) | (simp only [decide_eq_false_iff_not, decide_eq_true_eq]; omega))); (try conv => arg 5; simp only [Act.put, List.setIfInBounds_toArray, List.set_cons_succ, List.set_cons_zero]))) | (go_at_call 11; go_must (refine (G.out).mono ?_; rintro e w1 ⟨rfl, rfl⟩)) | (go_at_call 13; go_must (refine (wakes12_c _).mono ?_; rintro e w1 ⟨rfl, hb⟩; replace M := M.call hb; clear hb)))
    go_ret
    exact ⟨rfl, M.below⟩
  rw [Bool.not_eq_true] at hg
  rw [hg] at G
  obtain ⟨hl, hs⟩ := greatM_small hg
  replace G := Lib.hid G
  by_cases hg' : greatO ops = true
  · rw [hg'] at G'
    replace G' := Lib.hid G'
    clear hu hv hg hs
    go_enter Try.func7, Try.ntmps7
    go_wp2_with (first | ((with_reducible show wpList _ _ _ (Oper.mk _ _ _ _ _ (some _) :: _) _ _); (with_reducible refine w_stripE ?_ ?_); (focus (refine ⟨_, rfl, ?_⟩; first | (with_reducible rfl) | (simp only [decide_eq_false_iff_not, decide_eq_true_eq]; omega)))) | ((with_reducible show wpList _ _ _ (Oper.mk _ _ _ _ _ (some _) :: _) _ _); first | ((with_reducible refine w_skip1 ?_ ?_); (focus (refine ⟨_, rfl, ?_⟩; first | (with_reducible rfl) | (simp only [decide_eq_false_iff_not, decide_eq_true_eq]; omega))); (try conv => arg 5; simp only [Act.put, List.setIfInBounds_toArray, List.set_cons_succ, List.set_cons_zero])) | ((with_reducible refine w_skip0 ?_ ?_); (focus (refine ⟨_, rfl, ?_⟩; first | (with_reducible rfl) | (simp only [decide_eq_false_iff_not, decide_eq_true_eq]; omega))); (try conv => arg 5; simp only [Act.put, List.setIfInBounds_toArray, List.set_cons_succ, List.set_cons_zero]))) | (go_at_call 11; go_must (refine (G.out).mono ?_; rintro e w1 ⟨rfl, rfl⟩)) | (go_at_call 12; go_must (refine (G'.out).mono ?_; rintro e w1 ⟨rfl, rfl⟩)) | (go_at_call 13; go_must (refine (wakes12_c _).mono ?_; rintro e w1 ⟨rfl, hb⟩; replace M := M.call hb; clear hb)))
    go_ret
    exact ⟨rfl, M.below⟩
  rw [Bool.not_eq_true] at hg'
  rw [hg'] at G'
  obtain ⟨hl', hs'⟩ := greatO_small hg'
  replace G' := Lib.hid G'
  clear hu hv hg hg' hs
  obtain ⟨qv, cap, rfl, hc⟩ := S.form
  have Y := fun w U S => bMay_c l ops u (.slice qv ops.length cap) w U S (by omega) (by omega) (fun x hx => by have := hs' x hx; omega)
  have R := fun w S => bRight_c i e ops (.slice qv ops.length cap) w S (by omega) (fun x hx => by have := hs' x hx; omega)
  have K1 := @may_right l i e ops
  have K2 := @right_may l i e ops
  have K3 := @right_ok i e ops
  obtain ⟨n, en⟩ : ∃ n : Nat, n = mayO l ops := ⟨_, rfl⟩
  obtain ⟨m, em⟩ : ∃ n : Nat, n = rightB i e ops := ⟨_, rfl⟩
  rw [← en] at Y K1 K2
  rw [← em] at R K1 K2 K3
  replace Y := Lib.hid Y
  replace R := Lib.hid R
  clear en em hs'
  have N : (i < 1 ∧ ¬ 1 ≤ i) ∨ (1 ≤ i ∧ 4611686018427387904 < i ∧ ¬ i ≤ 4611686018427387904) ∨ (1 ≤ i ∧ i ≤ 4611686018427387904 ∧ e < 1 ∧ ¬ 1 ≤ e) ∨ (1 ≤ i ∧ i ≤ 4611686018427387904 ∧ 1 ≤ e) := by omega
  by_cases hm : m = 0
  · obtain ⟨h1, h2, h3, _⟩ := K3 hm
    subst hm
    have K2 := K2 rfl
    clear N K1 K3
    rcases K2 with rfl | rfl | ⟨rfl, h0⟩
    · go_enter Try.func7, Try.ntmps7
      go_wp2_with (first | ((with_reducible show wpList _ _ _ (Oper.mk _ _ _ _ _ (some _) :: _) _ _); (with_reducible refine w_stripE ?_ ?_); (focus (refine ⟨_, rfl, ?_⟩; first | (with_reducible rfl) | (simp only [decide_eq_false_iff_not, decide_eq_true_eq]; omega)))) | ((with_reducible show wpList _ _ _ (Oper.mk _ _ _ _ _ (some _) :: _) _ _); first | ((with_reducible refine w_skip1 ?_ ?_); (focus (refine ⟨_, rfl, ?_⟩; first | (with_reducible rfl) | (simp only [decide_eq_false_iff_not, decide_eq_true_eq]; omega))); (try conv => arg 5; simp only [Act.put, List.setIfInBounds_toArray, List.set_cons_succ, List.set_cons_zero])) | ((with_reducible refine w_skip0 ?_ ?_); (focus (refine ⟨_, rfl, ?_⟩; first | (with_reducible rfl) | (simp only [decide_eq_false_iff_not, decide_eq_true_eq]; omega))); (try conv => arg 5; simp only [Act.put, List.setIfInBounds_toArray, List.set_cons_succ, List.set_cons_zero]))) | (go_at_call 11; go_must (refine (G.out).mono ?_; rintro e w1 ⟨rfl, rfl⟩)) | (go_at_call 12; go_must (refine (G'.out).mono ?_; rintro e w1 ⟨rfl, rfl⟩)) | (go_at_call 13; go_must (refine (wakes12_c _).mono ?_; rintro e w1 ⟨rfl, hb⟩; replace M := M.call hb; clear hb)) | (go_at_call 14; go_must (refine (Y.out _ (U.now M) (S.now M)).mono ?_; rintro e w1 ⟨rfl, hb⟩; replace M := M.call hb; clear hb)) | (go_at_call 21; go_must (refine (R.out _ (S.now M)).mono ?_; rintro e w1 ⟨rfl, hb⟩; replace M := M.call hb; clear hb)))
      go_ret
      exact ⟨rfl, M.below⟩
    · go_enter Try.func7, Try.ntmps7
      go_wp2_with (first | ((with_reducible show wpList _ _ _ (Oper.mk _ _ _ _ _ (some _) :: _) _ _); (with_reducible refine w_stripE ?_ ?_); (focus (refine ⟨_, rfl, ?_⟩; first | (with_reducible rfl) | (simp only [decide_eq_false_iff_not, decide_eq_true_eq]; omega)))) | ((with_reducible show wpList _ _ _ (Oper.mk _ _ _ _ _ (some _) :: _) _ _); first | ((with_reducible refine w_skip1 ?_ ?_); (focus (refine ⟨_, rfl, ?_⟩; first | (with_reducible rfl) | (simp only [decide_eq_false_iff_not, decide_eq_true_eq]; omega))); (try conv => arg 5; simp only [Act.put, List.setIfInBounds_toArray, List.set_cons_succ, List.set_cons_zero])) | ((with_reducible refine w_skip0 ?_ ?_); (focus (refine ⟨_, rfl, ?_⟩; first | (with_reducible rfl) | (simp only [decide_eq_false_iff_not, decide_eq_true_eq]; omega))); (try conv => arg 5; simp only [Act.put, List.setIfInBounds_toArray, List.set_cons_succ, List.set_cons_zero]))) | (go_at_call 11; go_must (refine (G.out).mono ?_; rintro e w1 ⟨rfl, rfl⟩)) | (go_at_call 12; go_must (refine (G'.out).mono ?_; rintro e w1 ⟨rfl, rfl⟩)) | (go_at_call 13; go_must (refine (wakes12_c _).mono ?_; rintro e w1 ⟨rfl, hb⟩; replace M := M.call hb; clear hb)) | (go_at_call 14; go_must (refine (Y.out _ (U.now M) (S.now M)).mono ?_; rintro e w1 ⟨rfl, hb⟩; replace M := M.call hb; clear hb)) | (go_at_call 21; go_must (refine (R.out _ (S.now M)).mono ?_; rintro e w1 ⟨rfl, hb⟩; replace M := M.call hb; clear hb)))
      go_ret
      exact ⟨rfl, M.below⟩
    · have hz : ((ops.length : Int) == 0) = true := by rw [beq_iff_eq]; omega
      clear h0
      go_enter Try.func7, Try.ntmps7
      go_wp2_with (first | ((with_reducible show wpList _ _ _ (Oper.mk _ _ _ _ _ (some _) :: _) _ _); (with_reducible refine w_stripE ?_ ?_); (focus (refine ⟨_, rfl, ?_⟩; first | (with_reducible rfl) | (simp only [decide_eq_false_iff_not, decide_eq_true_eq]; omega)))) | ((with_reducible show wpList _ _ _ (Oper.mk _ _ _ _ _ (some _) :: _) _ _); first | ((with_reducible refine w_skip1 ?_ ?_); (focus (refine ⟨_, rfl, ?_⟩; first | (with_reducible rfl) | (simp only [decide_eq_false_iff_not, decide_eq_true_eq]; omega))); (try conv => arg 5; simp only [Act.put, List.setIfInBounds_toArray, List.set_cons_succ, List.set_cons_zero])) | ((with_reducible refine w_skip0 ?_ ?_); (focus (refine ⟨_, rfl, ?_⟩; first | (with_reducible rfl) | (simp only [decide_eq_false_iff_not, decide_eq_true_eq]; omega))); (try conv => arg 5; simp only [Act.put, List.setIfInBounds_toArray, List.set_cons_succ, List.set_cons_zero]))) | (go_at_call 11; go_must (refine (G.out).mono ?_; rintro e w1 ⟨rfl, rfl⟩)) | (go_at_call 12; go_must (refine (G'.out).mono ?_; rintro e w1 ⟨rfl, rfl⟩)) | (go_at_call 13; go_must (refine (wakes12_c _).mono ?_; rintro e w1 ⟨rfl, hb⟩; replace M := M.call hb; clear hb)) | (go_at_call 14; go_must (refine (Y.out _ (U.now M) (S.now M)).mono ?_; rintro e w1 ⟨rfl, hb⟩; replace M := M.call hb; clear hb)) | (go_at_call 21; go_must (refine (R.out _ (S.now M)).mono ?_; rintro e w1 ⟨rfl, hb⟩; replace M := M.call hb; clear hb)))
      go_ret
      exact ⟨rfl, M.below⟩
  · have hz : ((m : Int) == 0) = false := by simp; exact hm
    have hz' : ((m : Int) != 0) = true := by simp; exact hm
    by_cases hn : n = 0
    · subst hn
      have K1 := K1 rfl
      have hN : ¬ (1 ≤ i ∧ i ≤ 4611686018427387904 ∧ 1 ≤ e) := fun h => hm (K1.2 h)
      clear K1 K2 K3 hm
      rcases N with ⟨h1, h2⟩ | ⟨h1, h2, h3⟩ | ⟨h1, h2, h3, h4⟩ | h
      · clear hN
        go_enter Try.func7, Try.ntmps7
        go_wp2_with (first | ((with_reducible show wpList _ _ _ (Oper.mk _ _ _ _ _ (some _) :: _) _ _); (with_reducible refine w_stripE ?_ ?_); (focus (refine ⟨_, rfl, ?_⟩; first | (with_reducible rfl) | (simp only [decide_eq_false_iff_not, decide_eq_true_eq]; omega)))) | ((with_reducible show wpList _ _ _ (Oper.mk _ _ _ _ _ (some _) :: _) _ _); first | ((with_reducible refine w_skip1 ?_ ?_); (focus (refine ⟨_, rfl, ?_⟩; first | (with_reducible rfl) | (simp only [decide_eq_false_iff_not, decide_eq_true_eq]; omega))); (try conv => arg 5; simp only [Act.put, List.setIfInBounds_toArray, List.set_cons_succ, List.set_cons_zero])) | ((with_reducible refine w_skip0 ?_ ?_); (focus (refine ⟨_, rfl, ?_⟩; first | (with_reducible rfl) | (simp only [decide_eq_false_iff_not, decide_eq_true_eq]; omega))); (try conv => arg 5; simp only [Act.put, List.setIfInBounds_toArray, List.set_cons_succ, List.set_cons_zero]))) | (go_at_call 11; go_must (refine (G.out).mono ?_; rintro e w1 ⟨rfl, rfl⟩)) | (go_at_call 12; go_must (refine (G'.out).mono ?_; rintro e w1 ⟨rfl, rfl⟩)) | (go_at_call 13; go_must (refine (wakes12_c _).mono ?_; rintro e w1 ⟨rfl, hb⟩; replace M := M.call hb; clear hb)) | (go_at_call 14; go_must (refine (Y.out _ (U.now M) (S.now M)).mono ?_; rintro e w1 ⟨rfl, hb⟩; replace M := M.call hb; clear hb)) | (go_at_call 21; go_must (refine (R.out _ (S.now M)).mono ?_; rintro e w1 ⟨rfl, hb⟩; replace M := M.call hb; clear hb)))
        go_ret
        exact ⟨rfl, M.below⟩
      · clear hN
        go_enter Try.func7, Try.ntmps7
        go_wp2_with (first | ((with_reducible show wpList _ _ _ (Oper.mk _ _ _ _ _ (some _) :: _) _ _); (with_reducible refine w_stripE ?_ ?_); (focus (refine ⟨_, rfl, ?_⟩; first | (with_reducible rfl) | (simp only [decide_eq_false_iff_not, decide_eq_true_eq]; omega)))) | ((with_reducible show wpList _ _ _ (Oper.mk _ _ _ _ _ (some _) :: _) _ _); first | ((with_reducible refine w_skip1 ?_ ?_); (focus (refine ⟨_, rfl, ?_⟩; first | (with_reducible rfl) | (simp only [decide_eq_false_iff_not, decide_eq_true_eq]; omega))); (try conv => arg 5; simp only [Act.put, List.setIfInBounds_toArray, List.set_cons_succ, List.set_cons_zero])) | ((with_reducible refine w_skip0 ?_ ?_); (focus (refine ⟨_, rfl, ?_⟩; first | (with_reducible rfl) | (simp only [decide_eq_false_iff_not, decide_eq_true_eq]; omega))); (try conv => arg 5; simp only [Act.put, List.setIfInBounds_toArray, List.set_cons_succ, List.set_cons_zero]))) | (go_at_call 11; go_must (refine (G.out).mono ?_; rintro e w1 ⟨rfl, rfl⟩)) | (go_at_call 12; go_must (refine (G'.out).mono ?_; rintro e w1 ⟨rfl, rfl⟩)) | (go_at_call 13; go_must (refine (wakes12_c _).mono ?_; rintro e w1 ⟨rfl, hb⟩; replace M := M.call hb; clear hb)) | (go_at_call 14; go_must (refine (Y.out _ (U.now M) (S.now M)).mono ?_; rintro e w1 ⟨rfl, hb⟩; replace M := M.call hb; clear hb)) | (go_at_call 21; go_must (refine (R.out _ (S.now M)).mono ?_; rintro e w1 ⟨rfl, hb⟩; replace M := M.call hb; clear hb)))
        go_ret
        exact ⟨rfl, M.below⟩
      · clear hN
        go_enter Try.func7, Try.ntmps7
        go_wp2_with (first | ((with_reducible show wpList _ _ _ (Oper.mk _ _ _ _ _ (some _) :: _) _ _); (with_reducible refine w_stripE ?_ ?_); (focus (refine ⟨_, rfl, ?_⟩; first | (with_reducible rfl) | (simp only [decide_eq_false_iff_not, decide_eq_true_eq]; omega)))) | ((with_reducible show wpList _ _ _ (Oper.mk _ _ _ _ _ (some _) :: _) _ _); first | ((with_reducible refine w_skip1 ?_ ?_); (focus (refine ⟨_, rfl, ?_⟩; first | (with_reducible rfl) | (simp only [decide_eq_false_iff_not, decide_eq_true_eq]; omega))); (try conv => arg 5; simp only [Act.put, List.setIfInBounds_toArray, List.set_cons_succ, List.set_cons_zero])) | ((with_reducible refine w_skip0 ?_ ?_); (focus (refine ⟨_, rfl, ?_⟩; first | (with_reducible rfl) | (simp only [decide_eq_false_iff_not, decide_eq_true_eq]; omega))); (try conv => arg 5; simp only [Act.put, List.setIfInBounds_toArray, List.set_cons_succ, List.set_cons_zero]))) | (go_at_call 11; go_must (refine (G.out).mono ?_; rintro e w1 ⟨rfl, rfl⟩)) | (go_at_call 12; go_must (refine (G'.out).mono ?_; rintro e w1 ⟨rfl, rfl⟩)) | (go_at_call 13; go_must (refine (wakes12_c _).mono ?_; rintro e w1 ⟨rfl, hb⟩; replace M := M.call hb; clear hb)) | (go_at_call 14; go_must (refine (Y.out _ (U.now M) (S.now M)).mono ?_; rintro e w1 ⟨rfl, hb⟩; replace M := M.call hb; clear hb)) | (go_at_call 21; go_must (refine (R.out _ (S.now M)).mono ?_; rintro e w1 ⟨rfl, hb⟩; replace M := M.call hb; clear hb)))
        go_ret
        exact ⟨rfl, M.below⟩
      · exact absurd h hN
    · have hy : ((n : Int) == 0) = false := by simp; exact hn
      have hy' : ((n : Int) != 0) = true := by simp; exact hn
      clear K1 K2 K3 hm hn
      rcases N with ⟨h1, h2⟩ | ⟨h1, h2, h3⟩ | ⟨h1, h2, h3, h4⟩ | ⟨h1, h2, h3⟩
      · go_enter Try.func7, Try.ntmps7
        go_wp2_with (first | ((with_reducible show wpList _ _ _ (Oper.mk _ _ _ _ _ (some _) :: _) _ _); (with_reducible refine w_stripE ?_ ?_); (focus (refine ⟨_, rfl, ?_⟩; first | (with_reducible rfl) | (simp only [decide_eq_false_iff_not, decide_eq_true_eq]; omega)))) | ((with_reducible show wpList _ _ _ (Oper.mk _ _ _ _ _ (some _) :: _) _ _); first | ((with_reducible refine w_skip1 ?_ ?_); (focus (refine ⟨_, rfl, ?_⟩; first | (with_reducible rfl) | (simp only [decide_eq_false_iff_not, decide_eq_true_eq]; omega))); (try conv => arg 5; simp only [Act.put, List.setIfInBounds_toArray, List.set_cons_succ, List.set_cons_zero])) | ((with_reducible refine w_skip0 ?_ ?_); (focus (refine ⟨_, rfl, ?_⟩; first | (with_reducible rfl) | (simp only [decide_eq_false_iff_not, decide_eq_true_eq]; omega))); (try conv => arg 5; simp only [Act.put, List.setIfInBounds_toArray, List.set_cons_succ, List.set_cons_zero]))) | (go_at_call 11; go_must (refine (G.out).mono ?_; rintro e w1 ⟨rfl, rfl⟩)) | (go_at_call 12; go_must (refine (G'.out).mono ?_; rintro e w1 ⟨rfl, rfl⟩)) | (go_at_call 13; go_must (refine (wakes12_c _).mono ?_; rintro e w1 ⟨rfl, hb⟩; replace M := M.call hb; clear hb)) | (go_at_call 14; go_must (refine (Y.out _ (U.now M) (S.now M)).mono ?_; rintro e w1 ⟨rfl, hb⟩; replace M := M.call hb; clear hb)) | (go_at_call 21; go_must (refine (R.out _ (S.now M)).mono ?_; rintro e w1 ⟨rfl, hb⟩; replace M := M.call hb; clear hb)))
        go_ret
        exact ⟨rfl, M.below⟩
      · go_enter Try.func7, Try.ntmps7
        go_wp2_with (first | ((with_reducible show wpList _ _ _ (Oper.mk _ _ _ _ _ (some _) :: _) _ _); (with_reducible refine w_stripE ?_ ?_); (focus (refine ⟨_, rfl, ?_⟩; first | (with_reducible rfl) | (simp only [decide_eq_false_iff_not, decide_eq_true_eq]; omega)))) | ((with_reducible show wpList _ _ _ (Oper.mk _ _ _ _ _ (some _) :: _) _ _); first | ((with_reducible refine w_skip1 ?_ ?_); (focus (refine ⟨_, rfl, ?_⟩; first | (with_reducible rfl) | (simp only [decide_eq_false_iff_not, decide_eq_true_eq]; omega))); (try conv => arg 5; simp only [Act.put, List.setIfInBounds_toArray, List.set_cons_succ, List.set_cons_zero])) | ((with_reducible refine w_skip0 ?_ ?_); (focus (refine ⟨_, rfl, ?_⟩; first | (with_reducible rfl) | (simp only [decide_eq_false_iff_not, decide_eq_true_eq]; omega))); (try conv => arg 5; simp only [Act.put, List.setIfInBounds_toArray, List.set_cons_succ, List.set_cons_zero]))) | (go_at_call 11; go_must (refine (G.out).mono ?_; rintro e w1 ⟨rfl, rfl⟩)) | (go_at_call 12; go_must (refine (G'.out).mono ?_; rintro e w1 ⟨rfl, rfl⟩)) | (go_at_call 13; go_must (refine (wakes12_c _).mono ?_; rintro e w1 ⟨rfl, hb⟩; replace M := M.call hb; clear hb)) | (go_at_call 14; go_must (refine (Y.out _ (U.now M) (S.now M)).mono ?_; rintro e w1 ⟨rfl, hb⟩; replace M := M.call hb; clear hb)) | (go_at_call 21; go_must (refine (R.out _ (S.now M)).mono ?_; rintro e w1 ⟨rfl, hb⟩; replace M := M.call hb; clear hb)))
        go_ret
        exact ⟨rfl, M.below⟩
      · go_enter Try.func7, Try.ntmps7
        go_wp2_with (first | ((with_reducible show wpList _ _ _ (Oper.mk _ _ _ _ _ (some _) :: _) _ _); (with_reducible refine w_stripE ?_ ?_); (focus (refine ⟨_, rfl, ?_⟩; first | (with_reducible rfl) | (simp only [decide_eq_false_iff_not, decide_eq_true_eq]; omega)))) | ((with_reducible show wpList _ _ _ (Oper.mk _ _ _ _ _ (some _) :: _) _ _); first | ((with_reducible refine w_skip1 ?_ ?_); (focus (refine ⟨_, rfl, ?_⟩; first | (with_reducible rfl) | (simp only [decide_eq_false_iff_not, decide_eq_true_eq]; omega))); (try conv => arg 5; simp only [Act.put, List.setIfInBounds_toArray, List.set_cons_succ, List.set_cons_zero])) | ((with_reducible refine w_skip0 ?_ ?_); (focus (refine ⟨_, rfl, ?_⟩; first | (with_reducible rfl) | (simp only [decide_eq_false_iff_not, decide_eq_true_eq]; omega))); (try conv => arg 5; simp only [Act.put, List.setIfInBounds_toArray, List.set_cons_succ, List.set_cons_zero]))) | (go_at_call 11; go_must (refine (G.out).mono ?_; rintro e w1 ⟨rfl, rfl⟩)) | (go_at_call 12; go_must (refine (G'.out).mono ?_; rintro e w1 ⟨rfl, rfl⟩)) | (go_at_call 13; go_must (refine (wakes12_c _).mono ?_; rintro e w1 ⟨rfl, hb⟩; replace M := M.call hb; clear hb)) | (go_at_call 14; go_must (refine (Y.out _ (U.now M) (S.now M)).mono ?_; rintro e w1 ⟨rfl, hb⟩; replace M := M.call hb; clear hb)) | (go_at_call 21; go_must (refine (R.out _ (S.now M)).mono ?_; rintro e w1 ⟨rfl, hb⟩; replace M := M.call hb; clear hb)))
        go_ret
        exact ⟨rfl, M.below⟩
      · go_enter Try.func7, Try.ntmps7
        go_wp2_with (first | ((with_reducible show wpList _ _ _ (Oper.mk _ _ _ _ _ (some _) :: _) _ _); (with_reducible refine w_stripE ?_ ?_); (focus (refine ⟨_, rfl, ?_⟩; first | (with_reducible rfl) | (simp only [decide_eq_false_iff_not, decide_eq_true_eq]; omega)))) | ((with_reducible show wpList _ _ _ (Oper.mk _ _ _ _ _ (some _) :: _) _ _); first | ((with_reducible refine w_skip1 ?_ ?_); (focus (refine ⟨_, rfl, ?_⟩; first | (with_reducible rfl) | (simp only [decide_eq_false_iff_not, decide_eq_true_eq]; omega))); (try conv => arg 5; simp only [Act.put, List.setIfInBounds_toArray, List.set_cons_succ, List.set_cons_zero])) | ((with_reducible refine w_skip0 ?_ ?_); (focus (refine ⟨_, rfl, ?_⟩; first | (with_reducible rfl) | (simp only [decide_eq_false_iff_not, decide_eq_true_eq]; omega))); (try conv => arg 5; simp only [Act.put, List.setIfInBounds_toArray, List.set_cons_succ, List.set_cons_zero]))) | (go_at_call 11; go_must (refine (G.out).mono ?_; rintro e w1 ⟨rfl, rfl⟩)) | (go_at_call 12; go_must (refine (G'.out).mono ?_; rintro e w1 ⟨rfl, rfl⟩)) | (go_at_call 13; go_must (refine (wakes12_c _).mono ?_; rintro e w1 ⟨rfl, hb⟩; replace M := M.call hb; clear hb)) | (go_at_call 14; go_must (refine (Y.out _ (U.now M) (S.now M)).mono ?_; rintro e w1 ⟨rfl, hb⟩; replace M := M.call hb; clear hb)) | (go_at_call 21; go_must (refine (R.out _ (S.now M)).mono ?_; rintro e w1 ⟨rfl, hb⟩; replace M := M.call hb; clear hb)))
        go_ret
        exact ⟨rfl, M.below⟩
end Go.Proofs.Ytepjillcmpmlkaa
