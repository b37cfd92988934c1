/- Texts of this seat, put together: BatQ, MsgS, MsgY, MsgX, MsgO, MsgA0, MsgG0, LinkL, LinkB, LinkC, LinkD. Each begins with a remark that says what is proved in it, and under which conditions. -/
import Derived.Test.YtidadhbaomieiaaGreatZc
import Derived.Test.YtidadhbaomieiaaGreatZd
import Derived.Test.YtidadhbaomieiaaGreatZe
import Derived.Test.YtidadhbaomieiaaGreatZf
/- The walks of batch.Same (with slices.Equal at operations) and of the reference's Same. Conditions: lengths. -/
namespace Go
namespace TL
/-- Are two batches the same? -/
def sameB (i e j f : Int) (l m : List Opr) : Bool := i == j && (e == f && l == m)
theorem sameB_i {i e j f : Int} {l m : List Opr} (h : i ≠ j) : sameB i e j f l m = false := by unfold sameB; rw [beq_eq_false_iff_ne.2 h]; rfl
theorem sameB_e {i e j f : Int} {l m : List Opr} (h : e ≠ f) : sameB i e j f l m = false := by unfold sameB; rw [beq_eq_false_iff_ne.2 h, Bool.false_and, Bool.and_false]
theorem sameB_l {i e : Int} {l m : List Opr} : sameB i e i e l m = (l == m) := by unfold sameB; rw [beq_self_eq_true, beq_self_eq_true, Bool.true_and, Bool.true_and]
theorem eqO_ne {l m : List Opr} (k : Nat) (x y : Opr) (h1 : l[k]? = some x) (h2 : m[k]? = some y) (h : x ≠ y) : (l == m) = false := by
  rw [beq_eq_false_iff_ne]; rintro rfl; rw [h1] at h2; cases h2; exact h rfl
theorem eqO_eq {l m : List Opr} (h0 : l.length = m.length) (h : ∀ (k : Nat), k < l.length → l[k]? = m[k]?) : (l == m) = true := by
  rw [beq_iff_eq]
  apply List.ext_getElem?
  intro k
  by_cases hk : k < l.length
  · exact h k hk
  · rw [List.getElem?_eq_none (by omega), List.getElem?_eq_none (by omega)]
theorem eqO_len {l m : List Opr} (h : l.length ≠ m.length) : (l == m) = false := by
  rw [beq_eq_false_iff_ne]; rintro rfl; exact h rfl
theorem opV_ne {q q' : UInt8} {a b c d : List UInt8} (h : (q, a, b) ≠ (q', c, d)) : ¬ (I8 q = I8 q' ∧ a = c ∧ b = d) := by
  rintro ⟨h1, rfl, rfl⟩
  rw [I8_eq, I8_eq] at h1
  have : q = q' := UInt8.toNat_inj.1 (by omega)
  subst this; exact h rfl
end TL
end Go
namespace Go.Proofs.YtidadhbaomieiaaGreat
open Go.RowKit Go.TL
set_option maxRecDepth 100000 in
set_option maxHeartbeats 4000000 in
theorem EqualO_c (l m : List Opr) (v u : Value) (w : World) (S : SeesL w 3 opV v l) (T : SeesL w 3 opV u m) (hl : l.length ≤ 1000000) (_hm : m.length ≤ 1000000) :
    Calls Tryz.prog 93 #[v, u] w fun e w' => e = .returned (.bool (l == m)) ∧ Below w.heap.size w w' := by
  obtain ⟨p, cap, rfl, hc⟩ := S.form
  obtain ⟨q, cap', rfl, hc'⟩ := T.form
  have hne := @eqO_ne l m
  have heq := @eqO_eq l m
  have hln := @eqO_len l m
  obtain ⟨R, eR⟩ : ∃ R, R = (l == m) := ⟨_, rfl⟩
  rw [← eR] at hne heq hln ⊢
  replace hne := Lib.hid hne
  replace heq := Lib.hid heq
  replace hln := Lib.hid hln
  clear eR
  have M := Mem.start [] w
  by_cases hn : l.length = m.length
  · have hq : ((l.length : Int) != (m.length : Int)) = false := by simp; omega
    go_enter Tryz.func93, Tryz.ntmps93
    replace hn := Lib.hid hn
    go_wp2_with fail
    go_loopw [13] (fun iv wr => ∃ k : Nat, k ≤ l.length ∧ iv = .int .i64 k ∧ Hid (∀ (j : Nat), j < k → l[j]? = m[j]?) ∧ Mem [] w wr []) (fun iv _ => l.length - (intOf iv).toNat)
    case atStart => exact ⟨0, by omega, rfl, Lib.hid (by omega), M⟩
    case round =>
      clear M
      obtain ⟨k, hk, rfl, HK, M⟩ := hrel
      by_cases hlt : k < l.length
      · obtain ⟨g, so, rfl⟩ := S.addr (by omega)
        obtain ⟨g', so', rfl⟩ := T.addr (by have := hn.out; omega)
        have hkm : k < m.length := by have := hn.out; omega
        obtain ⟨⟨qa, a, b⟩, hx⟩ : ∃ x, l[k]? = some x := ⟨_, List.getElem?_eq_getElem hlt⟩
        obtain ⟨⟨qc, c, d⟩, hy⟩ : ∃ x, m[k]? = some x := ⟨_, List.getElem?_eq_getElem hkm⟩
        have HX := Lib.hid hx; clear hx
        have HY := Lib.hid hy; clear hy
        by_cases hab : (qa, a, b) = (qc, c, d)
        · simp only [Prod.mk.injEq] at hab
          obtain ⟨rfl, rfl, rfl⟩ := hab
          go_wp2_with ((first | ((with_reducible refine tLoad ?_); refine w_at _ _ rfl (by exact ev_tmp rfl) ?_; intro hx; first | (refine w_seeA M S HX.out _ _ rfl hx rfl (by decide +kernel) (by first | (with_reducible rfl) | omega) (by kernel_rfl) ?_; clear hx; (try conv => arg 5; simp only [Act.put, List.setIfInBounds_toArray, setC, opV_eq])) | (refine w_see M S HX.out _ _ rfl hx rfl (by decide +kernel) 0 (by first | (with_reducible rfl) | omega) rfl ?_; clear hx) | (refine w_see M S HX.out _ _ rfl hx rfl (by decide +kernel) 1 (by first | (with_reducible rfl) | omega) rfl ?_; clear hx) | (refine w_see M S HX.out _ _ rfl hx rfl (by decide +kernel) 2 (by first | (with_reducible rfl) | omega) rfl ?_; clear hx) | (refine w_seeA M T HY.out _ _ rfl hx rfl (by decide +kernel) (by first | (with_reducible rfl) | omega) (by kernel_rfl) ?_; clear hx; (try conv => arg 5; simp only [Act.put, List.setIfInBounds_toArray, setC, opV_eq])) | (refine w_see M T HY.out _ _ rfl hx rfl (by decide +kernel) 0 (by first | (with_reducible rfl) | omega) rfl ?_; clear hx) | (refine w_see M T HY.out _ _ rfl hx rfl (by decide +kernel) 1 (by first | (with_reducible rfl) | omega) rfl ?_; clear hx) | (refine w_see M T HY.out _ _ rfl hx rfl (by decide +kernel) 2 (by first | (with_reducible rfl) | omega) rfl ?_; clear hx)) | ((with_reducible show Code.wp _ (Code.region 6 _ _) _ _ _); go_must (refine region_det [(0, false), (1, false), (2, false), (4, false), (5, false), (6, false), (3, false), (7, false), (8, false)] [(19, .cells), (23, .cells)] (by kernel_rfl) (by kernel_rfl) rfl (by kernel_rfl) ?_; replace M := M.drew; simp only [reord, opAt, List.map_cons, List.map_nil, List.getElem?_toArray, List.getElem?_cons_zero, List.getElem?_cons_succ, Option.getD_some])) | ((with_reducible show Seg _ _ _ _); go_must (first | refine Seg.intro ⟨fun h => absurd rfl h, ?_⟩ | refine Seg.intro ⟨fun _ => ixA, ?_⟩ | refine Seg.intro ⟨ndA, atA, ?_⟩)) | ((with_reducible show OnlyN _ _ _ _ _); refine OnlyN.intro (by kernel_rfl) ?_) | ((with_reducible refine tGuard ?_); refine gdS ?_) | fail | ((with_reducible refine tLoad ?_); go_must (refine ldS ?_)) | ((with_reducible refine tStore ?_); go_must (refine stS ?_; clear M; intro w1 M; (try simp only [setC] at M))) | ((with_reducible refine tBox _ ?_); (refine bxA M ?_; clear M; intro g w1 M))) <;> (try conv => arg 5; simp only [Act.put, List.setIfInBounds_toArray, setC]))
          go_roundw
          case rel => exact ⟨k + 1, by omega, by go_num, Lib.hid fun j hj => by
            rcases Nat.lt_succ_iff_lt_or_eq.1 hj with hj | rfl
            · exact HK.out j hj
            · exact HX.out.trans HY.out.symm, M⟩
          case measure => simp [intOf]; omega
        · have e0 : R = false := hne.out k _ _ HX.out HY.out hab
          subst e0
          have hab := Lib.hid (opV_ne hab)
          go_wp2_with ((first | ((with_reducible refine tLoad ?_); refine w_at _ _ rfl (by exact ev_tmp rfl) ?_; intro hx; first | (refine w_seeA M S HX.out _ _ rfl hx rfl (by decide +kernel) (by first | (with_reducible rfl) | omega) (by kernel_rfl) ?_; clear hx; (try conv => arg 5; simp only [Act.put, List.setIfInBounds_toArray, setC, opV_eq])) | (refine w_see M S HX.out _ _ rfl hx rfl (by decide +kernel) 0 (by first | (with_reducible rfl) | omega) rfl ?_; clear hx) | (refine w_see M S HX.out _ _ rfl hx rfl (by decide +kernel) 1 (by first | (with_reducible rfl) | omega) rfl ?_; clear hx) | (refine w_see M S HX.out _ _ rfl hx rfl (by decide +kernel) 2 (by first | (with_reducible rfl) | omega) rfl ?_; clear hx) | (refine w_seeA M T HY.out _ _ rfl hx rfl (by decide +kernel) (by first | (with_reducible rfl) | omega) (by kernel_rfl) ?_; clear hx; (try conv => arg 5; simp only [Act.put, List.setIfInBounds_toArray, setC, opV_eq])) | (refine w_see M T HY.out _ _ rfl hx rfl (by decide +kernel) 0 (by first | (with_reducible rfl) | omega) rfl ?_; clear hx) | (refine w_see M T HY.out _ _ rfl hx rfl (by decide +kernel) 1 (by first | (with_reducible rfl) | omega) rfl ?_; clear hx) | (refine w_see M T HY.out _ _ rfl hx rfl (by decide +kernel) 2 (by first | (with_reducible rfl) | omega) rfl ?_; clear hx)) | ((with_reducible show Code.wp _ (Code.region 6 _ _) _ _ _); go_must (refine region_det [(0, false), (1, false), (2, false), (4, false), (5, false), (6, false), (3, false), (7, false), (8, false)] [(19, .cells), (23, .cells)] (by kernel_rfl) (by kernel_rfl) rfl (by kernel_rfl) ?_; replace M := M.drew; simp only [reord, opAt, List.map_cons, List.map_nil, List.getElem?_toArray, List.getElem?_cons_zero, List.getElem?_cons_succ, Option.getD_some])) | ((with_reducible show Seg _ _ _ _); go_must (first | refine Seg.intro ⟨fun h => absurd rfl h, ?_⟩ | refine Seg.intro ⟨fun _ => ixA, ?_⟩ | refine Seg.intro ⟨ndA, atA, ?_⟩)) | ((with_reducible show OnlyN _ _ _ _ _); refine OnlyN.intro (by kernel_rfl) ?_) | ((with_reducible refine tGuard ?_); refine gdS ?_) | fail | ((with_reducible refine tLoad ?_); go_must (refine ldS ?_)) | ((with_reducible refine tStore ?_); go_must (refine stS ?_; clear M; intro w1 M; (try simp only [setC] at M))) | ((with_reducible refine tBox _ ?_); (refine bxA M ?_; clear M; intro g w1 M))) <;> (try conv => arg 5; simp only [Act.put, List.setIfInBounds_toArray, setC]))
          all_goals (first | exact absurd ⟨‹I8 qa = I8 qc›, ‹a = c›, ‹b = d›⟩ hab.out | (go_ret; exact ⟨rfl, M.below⟩))
      · obtain rfl : k = l.length := by omega
        have e0 : R = true := heq.out hn.out HK.out
        subst e0
        have hkm : ¬ l.length < m.length := by have := hn.out; omega
        go_wp2_with ((first | ((with_reducible refine tGuard ?_); refine gdS ?_) | fail | ((with_reducible refine tLoad ?_); go_must (refine ldS ?_)) | ((with_reducible refine tStore ?_); go_must (refine stS ?_; clear M; intro w1 M; (try simp only [setC] at M))) | ((with_reducible refine tBox _ ?_); (refine bxA M ?_; clear M; intro g w1 M))) <;> (try conv => arg 5; simp only [Act.put, List.setIfInBounds_toArray, setC]))
        go_ret
        exact ⟨rfl, M.below⟩
  · have e0 : R = false := hln.out hn
    subst e0
    have hq : ((l.length : Int) != (m.length : Int)) = true := by simp; omega
    go_enter Tryz.func93, Tryz.ntmps93
    go_wp2_with fail
    go_ret
    exact ⟨rfl, M.below⟩
set_option maxRecDepth 100000 in
set_option maxHeartbeats 4000000 in
theorem bSame_c (i e j f : Int) (l m : List Opr) (v u : Value) (w : World) (S : SeesL w 3 opV v l) (T : SeesL w 3 opV u m) (hl : l.length ≤ 1000000) (_hm : m.length ≤ 1000000) :
    Calls Tryz.prog 54 #[.agg #[.int .i64 i, .int .i64 e, v], .agg #[.int .i64 j, .int .i64 f, u]] w fun r w' => r = .returned (.bool (sameB i e j f l m)) ∧ Below w.heap.size w w' := by
  obtain ⟨p, cap, rfl, hc⟩ := S.form
  obtain ⟨q, cap', rfl, hc'⟩ := T.form
  have M := Mem.start [] w
  by_cases hij : i = j
  · subst hij
    by_cases hef : e = f
    · subst hef
      rw [sameB_l]
      have E := fun w S T => EqualO_c l m (.slice p l.length cap) (.slice q m.length cap') w S T hl _hm
      obtain ⟨R, eR⟩ : ∃ R, R = (l == m) := ⟨_, rfl⟩
      rw [← eR] at E ⊢
      replace E := Lib.hid E
      clear eR
      go_enter Tryz.func54, Tryz.ntmps54
      go_wp2_with ((first | ((with_reducible refine tBox (some 2) ?_); refine w_box M _ _ rfl rfl _ rfl ([.int .i64 i, .int .i64 e, .slice p l.length cap]) rfl ?_; clear M; intro ga w1 M) | ((with_reducible refine tBox (some 3) ?_); refine w_box M _ _ rfl rfl _ rfl ([.int .i64 i, .int .i64 e, .slice q m.length cap']) rfl ?_; clear M; intro gb w1 M) | ((with_reducible refine tGuard ?_); (with_reducible refine w_stripE ?_ ?_); (focus (refine ⟨_, rfl, ?_⟩; first | (with_reducible rfl) | exact decide_eq_false (by omega) | exact decide_eq_true (by omega)))) | ((with_reducible refine tGuard ?_); first | ((with_reducible refine w_skip1 ?_ ?_); (focus (refine ⟨_, rfl, ?_⟩; first | (with_reducible rfl) | exact decide_eq_false (by omega) | exact decide_eq_true (by omega)))) | ((with_reducible refine w_skip0 ?_ ?_); (focus (refine ⟨_, rfl, ?_⟩; first | (with_reducible rfl) | exact decide_eq_false (by omega) | exact decide_eq_true (by omega))))) | (go_at_call 93; go_must (refine (E.out _ (S.now M) (T.now M)).mono ?_; rintro e w1 ⟨rfl, hb⟩; replace M := M.call hb; clear hb)) | ((with_reducible refine tGuard ?_); refine gdS ?_) | fail | ((with_reducible refine tLoad ?_); go_must (refine ldS ?_)) | ((with_reducible refine tStore ?_); go_must (refine stS ?_; clear M; intro w1 M; (try simp only [setC] at M))) | ((with_reducible refine tBox _ ?_); (refine bxA M ?_; clear M; intro g w1 M))) <;> (try conv => arg 5; simp only [Act.put, List.setIfInBounds_toArray, setC]))
      go_ret
      exact ⟨rfl, M.below⟩
    · rw [sameB_e hef]
      have h1 : (e == f) = false := beq_eq_false_iff_ne.2 hef
      have h2 : (e != f) = true := by simpa using hef
      clear hef
      go_enter Tryz.func54, Tryz.ntmps54
      go_wp2_with ((first | ((with_reducible refine tBox (some 2) ?_); refine w_box M _ _ rfl rfl _ rfl ([.int .i64 i, .int .i64 e, .slice p l.length cap]) rfl ?_; clear M; intro ga w1 M) | ((with_reducible refine tBox (some 3) ?_); refine w_box M _ _ rfl rfl _ rfl ([.int .i64 i, .int .i64 f, .slice q m.length cap']) rfl ?_; clear M; intro gb w1 M) | ((with_reducible refine tGuard ?_); (with_reducible refine w_stripE ?_ ?_); (focus (refine ⟨_, rfl, ?_⟩; first | (with_reducible rfl) | exact decide_eq_false (by omega) | exact decide_eq_true (by omega)))) | ((with_reducible refine tGuard ?_); first | ((with_reducible refine w_skip1 ?_ ?_); (focus (refine ⟨_, rfl, ?_⟩; first | (with_reducible rfl) | exact decide_eq_false (by omega) | exact decide_eq_true (by omega)))) | ((with_reducible refine w_skip0 ?_ ?_); (focus (refine ⟨_, rfl, ?_⟩; first | (with_reducible rfl) | exact decide_eq_false (by omega) | exact decide_eq_true (by omega))))) | ((with_reducible refine tGuard ?_); refine gdS ?_) | fail | ((with_reducible refine tLoad ?_); go_must (refine ldS ?_)) | ((with_reducible refine tStore ?_); go_must (refine stS ?_; clear M; intro w1 M; (try simp only [setC] at M))) | ((with_reducible refine tBox _ ?_); (refine bxA M ?_; clear M; intro g w1 M))) <;> (try conv => arg 5; simp only [Act.put, List.setIfInBounds_toArray, setC]))
      go_ret
      exact ⟨rfl, M.below⟩
  · rw [sameB_i hij]
    have h1 : (i == j) = false := beq_eq_false_iff_ne.2 hij
    have h2 : (i != j) = true := by simpa using hij
    clear hij
    go_enter Tryz.func54, Tryz.ntmps54
    go_wp2_with ((first | ((with_reducible refine tBox (some 2) ?_); refine w_box M _ _ rfl rfl _ rfl ([.int .i64 i, .int .i64 e, .slice p l.length cap]) rfl ?_; clear M; intro ga w1 M) | ((with_reducible refine tBox (some 3) ?_); refine w_box M _ _ rfl rfl _ rfl ([.int .i64 j, .int .i64 f, .slice q m.length cap']) rfl ?_; clear M; intro gb w1 M) | ((with_reducible refine tGuard ?_); (with_reducible refine w_stripE ?_ ?_); (focus (refine ⟨_, rfl, ?_⟩; first | (with_reducible rfl) | exact decide_eq_false (by omega) | exact decide_eq_true (by omega)))) | ((with_reducible refine tGuard ?_); first | ((with_reducible refine w_skip1 ?_ ?_); (focus (refine ⟨_, rfl, ?_⟩; first | (with_reducible rfl) | exact decide_eq_false (by omega) | exact decide_eq_true (by omega)))) | ((with_reducible refine w_skip0 ?_ ?_); (focus (refine ⟨_, rfl, ?_⟩; first | (with_reducible rfl) | exact decide_eq_false (by omega) | exact decide_eq_true (by omega))))) | ((with_reducible refine tGuard ?_); refine gdS ?_) | fail | ((with_reducible refine tLoad ?_); go_must (refine ldS ?_)) | ((with_reducible refine tStore ?_); go_must (refine stS ?_; clear M; intro w1 M; (try simp only [setC] at M))) | ((with_reducible refine tBox _ ?_); (refine bxA M ?_; clear M; intro g w1 M))) <;> (try conv => arg 5; simp only [Act.put, List.setIfInBounds_toArray, setC]))
    go_ret
    exact ⟨rfl, M.below⟩
set_option maxRecDepth 100000 in
set_option maxHeartbeats 4000000 in
theorem rSame_c (i e j f : Int) (l m : List Opr) (v u : Value) (w : World) (S : SeesL w 3 opV v l) (T : SeesL w 3 opV u m) (hl : l.length ≤ 1000000) (_hm : m.length ≤ 1000000) :
    Calls Tryz.prog 66 #[.agg #[.int .i64 i, .int .i64 e, v], .agg #[.int .i64 j, .int .i64 f, u]] w fun r w' => r = .returned (.bool (sameB i e j f l m)) ∧ Below w.heap.size w w' := by
  obtain ⟨p, cap, rfl, hc⟩ := S.form
  obtain ⟨q, cap', rfl, hc'⟩ := T.form
  have M := Mem.start [] w
  by_cases hij : i = j
  · subst hij
    by_cases hef : e = f
    · subst hef
      rw [sameB_l]
      have hne := @eqO_ne l m
      have heq := @eqO_eq l m
      have hln := @eqO_len l m
      obtain ⟨R, eR⟩ : ∃ R, R = (l == m) := ⟨_, rfl⟩
      rw [← eR] at hne heq hln ⊢
      replace hne := Lib.hid hne
      replace heq := Lib.hid heq
      replace hln := Lib.hid hln
      clear eR
      by_cases hn : l.length = m.length
      · have hq : ((l.length : Int) != (m.length : Int)) = false := by simp; omega
        go_enter Tryz.func66, Tryz.ntmps66
        replace hn := Lib.hid hn
        go_wp2_with ((first | ((with_reducible refine tBox (some 2) ?_); refine w_box M _ _ rfl rfl _ rfl ([.int .i64 i, .int .i64 e, .slice p l.length cap]) rfl ?_; clear M; intro ga w1 M) | ((with_reducible refine tBox (some 3) ?_); refine w_box M _ _ rfl rfl _ rfl ([.int .i64 i, .int .i64 e, .slice q m.length cap']) rfl ?_; clear M; intro gb w1 M) | ((with_reducible refine tGuard ?_); (with_reducible refine w_stripE ?_ ?_); (focus (refine ⟨_, rfl, ?_⟩; first | (with_reducible rfl) | exact decide_eq_false (by omega) | exact decide_eq_true (by omega)))) | ((with_reducible refine tGuard ?_); first | ((with_reducible refine w_skip1 ?_ ?_); (focus (refine ⟨_, rfl, ?_⟩; first | (with_reducible rfl) | exact decide_eq_false (by omega) | exact decide_eq_true (by omega)))) | ((with_reducible refine w_skip0 ?_ ?_); (focus (refine ⟨_, rfl, ?_⟩; first | (with_reducible rfl) | exact decide_eq_false (by omega) | exact decide_eq_true (by omega))))) | ((with_reducible refine tGuard ?_); refine gdS ?_) | fail | ((with_reducible refine tLoad ?_); go_must (refine ldS ?_)) | ((with_reducible refine tStore ?_); go_must (refine stS ?_; clear M; intro w1 M; (try simp only [setC] at M))) | ((with_reducible refine tBox _ ?_); (refine bxA M ?_; clear M; intro g w1 M))) <;> (try conv => arg 5; simp only [Act.put, List.setIfInBounds_toArray, setC]))
        go_loopw [5] (fun iv wr => ∃ k : Nat, k ≤ l.length ∧ iv = .int .i64 k ∧ Hid (∀ (j : Nat), j < k → l[j]? = m[j]?) ∧ Mem [] w wr [.row gb [.int .i64 i, .int .i64 e, .slice q m.length cap'], .row ga [.int .i64 i, .int .i64 e, .slice p l.length cap]]) (fun iv _ => l.length - (intOf iv).toNat)
        case atStart => exact ⟨0, by omega, rfl, Lib.hid (by omega), M⟩
        case round =>
          clear M
          obtain ⟨k, hk, rfl, HK, M⟩ := hrel
          by_cases hlt : k < l.length
          · obtain ⟨g, so, rfl⟩ := S.addr (by omega)
            obtain ⟨g', so', rfl⟩ := T.addr (by have := hn.out; omega)
            have hkm : k < m.length := by have := hn.out; omega
            obtain ⟨⟨qa, a, b⟩, hx⟩ : ∃ x, l[k]? = some x := ⟨_, List.getElem?_eq_getElem hlt⟩
            obtain ⟨⟨qc, c, d⟩, hy⟩ : ∃ x, m[k]? = some x := ⟨_, List.getElem?_eq_getElem hkm⟩
            have HX := Lib.hid hx; clear hx
            have HY := Lib.hid hy; clear hy
            by_cases hab : (qa, a, b) = (qc, c, d)
            · simp only [Prod.mk.injEq] at hab
              obtain ⟨rfl, rfl, rfl⟩ := hab
              go_wp2_with ((first | ((with_reducible refine tLoad ?_); refine w_at _ _ rfl (by exact ev_tmp rfl) ?_; intro hx; first | (refine w_seeA M S HX.out _ _ rfl hx rfl (by decide +kernel) (by first | (with_reducible rfl) | omega) (by kernel_rfl) ?_; clear hx; (try conv => arg 5; simp only [Act.put, List.setIfInBounds_toArray, setC, opV_eq])) | (refine w_see M S HX.out _ _ rfl hx rfl (by decide +kernel) 0 (by first | (with_reducible rfl) | omega) rfl ?_; clear hx) | (refine w_see M S HX.out _ _ rfl hx rfl (by decide +kernel) 1 (by first | (with_reducible rfl) | omega) rfl ?_; clear hx) | (refine w_see M S HX.out _ _ rfl hx rfl (by decide +kernel) 2 (by first | (with_reducible rfl) | omega) rfl ?_; clear hx) | (refine w_seeA M T HY.out _ _ rfl hx rfl (by decide +kernel) (by first | (with_reducible rfl) | omega) (by kernel_rfl) ?_; clear hx; (try conv => arg 5; simp only [Act.put, List.setIfInBounds_toArray, setC, opV_eq])) | (refine w_see M T HY.out _ _ rfl hx rfl (by decide +kernel) 0 (by first | (with_reducible rfl) | omega) rfl ?_; clear hx) | (refine w_see M T HY.out _ _ rfl hx rfl (by decide +kernel) 1 (by first | (with_reducible rfl) | omega) rfl ?_; clear hx) | (refine w_see M T HY.out _ _ rfl hx rfl (by decide +kernel) 2 (by first | (with_reducible rfl) | omega) rfl ?_; clear hx)) | ((with_reducible show Code.wp _ (Code.region 6 _ _) _ _ _); go_must (refine region_det [(0, false), (2, false), (5, false), (7, false), (1, false), (3, false), (4, false), (6, false), (8, false), (9, false), (10, false)] [(38, .cells), (43, .cells)] (by kernel_rfl) (by kernel_rfl) rfl (by kernel_rfl) ?_; replace M := M.drew; simp only [reord, opAt, List.map_cons, List.map_nil, List.getElem?_toArray, List.getElem?_cons_zero, List.getElem?_cons_succ, Option.getD_some])) | ((with_reducible show Seg _ _ _ _); go_must (first | refine Seg.intro ⟨fun h => absurd rfl h, ?_⟩ | refine Seg.intro ⟨fun _ => ixA, ?_⟩ | refine Seg.intro ⟨ndA, atA, ?_⟩)) | ((with_reducible show OnlyN _ _ _ _ _); refine OnlyN.intro (by kernel_rfl) ?_) | ((with_reducible refine tGuard ?_); refine gdS ?_) | fail | ((with_reducible refine tLoad ?_); go_must (refine ldS ?_)) | ((with_reducible refine tStore ?_); go_must (refine stS ?_; clear M; intro w1 M; (try simp only [setC] at M))) | ((with_reducible refine tBox _ ?_); (refine bxA M ?_; clear M; intro g w1 M))) <;> (try conv => arg 5; simp only [Act.put, List.setIfInBounds_toArray, setC]))
              go_roundw
              case rel => exact ⟨k + 1, by omega, by go_num, Lib.hid fun j hj => by
                rcases Nat.lt_succ_iff_lt_or_eq.1 hj with hj | rfl
                · exact HK.out j hj
                · exact HX.out.trans HY.out.symm, M⟩
              case measure => simp [intOf]; omega
            · have e0 : R = false := hne.out k _ _ HX.out HY.out hab
              subst e0
              have hab := Lib.hid (opV_ne hab)
              go_wp2_with ((first | ((with_reducible refine tLoad ?_); refine w_at _ _ rfl (by exact ev_tmp rfl) ?_; intro hx; first | (refine w_seeA M S HX.out _ _ rfl hx rfl (by decide +kernel) (by first | (with_reducible rfl) | omega) (by kernel_rfl) ?_; clear hx; (try conv => arg 5; simp only [Act.put, List.setIfInBounds_toArray, setC, opV_eq])) | (refine w_see M S HX.out _ _ rfl hx rfl (by decide +kernel) 0 (by first | (with_reducible rfl) | omega) rfl ?_; clear hx) | (refine w_see M S HX.out _ _ rfl hx rfl (by decide +kernel) 1 (by first | (with_reducible rfl) | omega) rfl ?_; clear hx) | (refine w_see M S HX.out _ _ rfl hx rfl (by decide +kernel) 2 (by first | (with_reducible rfl) | omega) rfl ?_; clear hx) | (refine w_seeA M T HY.out _ _ rfl hx rfl (by decide +kernel) (by first | (with_reducible rfl) | omega) (by kernel_rfl) ?_; clear hx; (try conv => arg 5; simp only [Act.put, List.setIfInBounds_toArray, setC, opV_eq])) | (refine w_see M T HY.out _ _ rfl hx rfl (by decide +kernel) 0 (by first | (with_reducible rfl) | omega) rfl ?_; clear hx) | (refine w_see M T HY.out _ _ rfl hx rfl (by decide +kernel) 1 (by first | (with_reducible rfl) | omega) rfl ?_; clear hx) | (refine w_see M T HY.out _ _ rfl hx rfl (by decide +kernel) 2 (by first | (with_reducible rfl) | omega) rfl ?_; clear hx)) | ((with_reducible show Code.wp _ (Code.region 6 _ _) _ _ _); go_must (refine region_det [(0, false), (2, false), (5, false), (7, false), (1, false), (3, false), (4, false), (6, false), (8, false), (9, false), (10, false)] [(38, .cells), (43, .cells)] (by kernel_rfl) (by kernel_rfl) rfl (by kernel_rfl) ?_; replace M := M.drew; simp only [reord, opAt, List.map_cons, List.map_nil, List.getElem?_toArray, List.getElem?_cons_zero, List.getElem?_cons_succ, Option.getD_some])) | ((with_reducible show Seg _ _ _ _); go_must (first | refine Seg.intro ⟨fun h => absurd rfl h, ?_⟩ | refine Seg.intro ⟨fun _ => ixA, ?_⟩ | refine Seg.intro ⟨ndA, atA, ?_⟩)) | ((with_reducible show OnlyN _ _ _ _ _); refine OnlyN.intro (by kernel_rfl) ?_) | ((with_reducible refine tGuard ?_); refine gdS ?_) | fail | ((with_reducible refine tLoad ?_); go_must (refine ldS ?_)) | ((with_reducible refine tStore ?_); go_must (refine stS ?_; clear M; intro w1 M; (try simp only [setC] at M))) | ((with_reducible refine tBox _ ?_); (refine bxA M ?_; clear M; intro g w1 M))) <;> (try conv => arg 5; simp only [Act.put, List.setIfInBounds_toArray, setC]))
              all_goals (first | exact absurd ⟨‹I8 qa = I8 qc›, ‹a = c›, ‹b = d›⟩ hab.out | (go_ret; exact ⟨rfl, M.below⟩))
          · obtain rfl : k = l.length := by omega
            have e0 : R = true := heq.out hn.out HK.out
            subst e0
            have hkm : ¬ l.length < m.length := by have := hn.out; omega
            go_wp2_with ((first | ((with_reducible refine tGuard ?_); refine gdS ?_) | fail | ((with_reducible refine tLoad ?_); go_must (refine ldS ?_)) | ((with_reducible refine tStore ?_); go_must (refine stS ?_; clear M; intro w1 M; (try simp only [setC] at M))) | ((with_reducible refine tBox _ ?_); (refine bxA M ?_; clear M; intro g w1 M))) <;> (try conv => arg 5; simp only [Act.put, List.setIfInBounds_toArray, setC]))
            go_ret
            exact ⟨rfl, M.below⟩
      · have e0 : R = false := hln.out hn
        subst e0
        have hq : ((l.length : Int) != (m.length : Int)) = true := by simp; omega
        go_enter Tryz.func66, Tryz.ntmps66
        go_wp2_with ((first | ((with_reducible refine tBox (some 2) ?_); refine w_box M _ _ rfl rfl _ rfl ([.int .i64 i, .int .i64 e, .slice p l.length cap]) rfl ?_; clear M; intro ga w1 M) | ((with_reducible refine tBox (some 3) ?_); refine w_box M _ _ rfl rfl _ rfl ([.int .i64 i, .int .i64 e, .slice q m.length cap']) rfl ?_; clear M; intro gb w1 M) | ((with_reducible refine tGuard ?_); (with_reducible refine w_stripE ?_ ?_); (focus (refine ⟨_, rfl, ?_⟩; first | (with_reducible rfl) | exact decide_eq_false (by omega) | exact decide_eq_true (by omega)))) | ((with_reducible refine tGuard ?_); first | ((with_reducible refine w_skip1 ?_ ?_); (focus (refine ⟨_, rfl, ?_⟩; first | (with_reducible rfl) | exact decide_eq_false (by omega) | exact decide_eq_true (by omega)))) | ((with_reducible refine w_skip0 ?_ ?_); (focus (refine ⟨_, rfl, ?_⟩; first | (with_reducible rfl) | exact decide_eq_false (by omega) | exact decide_eq_true (by omega))))) | ((with_reducible refine tGuard ?_); refine gdS ?_) | fail | ((with_reducible refine tLoad ?_); go_must (refine ldS ?_)) | ((with_reducible refine tStore ?_); go_must (refine stS ?_; clear M; intro w1 M; (try simp only [setC] at M))) | ((with_reducible refine tBox _ ?_); (refine bxA M ?_; clear M; intro g w1 M))) <;> (try conv => arg 5; simp only [Act.put, List.setIfInBounds_toArray, setC]))
        go_ret
        exact ⟨rfl, M.below⟩
    · rw [sameB_e hef]
      have h1 : (e == f) = false := beq_eq_false_iff_ne.2 hef
      have h2 : (e != f) = true := by simpa using hef
      clear hef
      go_enter Tryz.func66, Tryz.ntmps66
      go_wp2_with ((first | ((with_reducible refine tBox (some 2) ?_); refine w_box M _ _ rfl rfl _ rfl ([.int .i64 i, .int .i64 e, .slice p l.length cap]) rfl ?_; clear M; intro ga w1 M) | ((with_reducible refine tBox (some 3) ?_); refine w_box M _ _ rfl rfl _ rfl ([.int .i64 i, .int .i64 f, .slice q m.length cap']) rfl ?_; clear M; intro gb w1 M) | ((with_reducible refine tGuard ?_); (with_reducible refine w_stripE ?_ ?_); (focus (refine ⟨_, rfl, ?_⟩; first | (with_reducible rfl) | exact decide_eq_false (by omega) | exact decide_eq_true (by omega)))) | ((with_reducible refine tGuard ?_); first | ((with_reducible refine w_skip1 ?_ ?_); (focus (refine ⟨_, rfl, ?_⟩; first | (with_reducible rfl) | exact decide_eq_false (by omega) | exact decide_eq_true (by omega)))) | ((with_reducible refine w_skip0 ?_ ?_); (focus (refine ⟨_, rfl, ?_⟩; first | (with_reducible rfl) | exact decide_eq_false (by omega) | exact decide_eq_true (by omega))))) | ((with_reducible refine tGuard ?_); refine gdS ?_) | fail | ((with_reducible refine tLoad ?_); go_must (refine ldS ?_)) | ((with_reducible refine tStore ?_); go_must (refine stS ?_; clear M; intro w1 M; (try simp only [setC] at M))) | ((with_reducible refine tBox _ ?_); (refine bxA M ?_; clear M; intro g w1 M))) <;> (try conv => arg 5; simp only [Act.put, List.setIfInBounds_toArray, setC]))
      go_ret
      exact ⟨rfl, M.below⟩
  · rw [sameB_i hij]
    have h1 : (i == j) = false := beq_eq_false_iff_ne.2 hij
    have h2 : (i != j) = true := by simpa using hij
    clear hij
    go_enter Tryz.func66, Tryz.ntmps66
    go_wp2_with ((first | ((with_reducible refine tBox (some 2) ?_); refine w_box M _ _ rfl rfl _ rfl ([.int .i64 i, .int .i64 e, .slice p l.length cap]) rfl ?_; clear M; intro ga w1 M) | ((with_reducible refine tBox (some 3) ?_); refine w_box M _ _ rfl rfl _ rfl ([.int .i64 j, .int .i64 f, .slice q m.length cap']) rfl ?_; clear M; intro gb w1 M) | ((with_reducible refine tGuard ?_); (with_reducible refine w_stripE ?_ ?_); (focus (refine ⟨_, rfl, ?_⟩; first | (with_reducible rfl) | exact decide_eq_false (by omega) | exact decide_eq_true (by omega)))) | ((with_reducible refine tGuard ?_); first | ((with_reducible refine w_skip1 ?_ ?_); (focus (refine ⟨_, rfl, ?_⟩; first | (with_reducible rfl) | exact decide_eq_false (by omega) | exact decide_eq_true (by omega)))) | ((with_reducible refine w_skip0 ?_ ?_); (focus (refine ⟨_, rfl, ?_⟩; first | (with_reducible rfl) | exact decide_eq_false (by omega) | exact decide_eq_true (by omega))))) | ((with_reducible refine tGuard ?_); refine gdS ?_) | fail | ((with_reducible refine tLoad ?_); go_must (refine ldS ?_)) | ((with_reducible refine tStore ?_); go_must (refine stS ?_; clear M; intro w1 M; (try simp only [setC] at M))) | ((with_reducible refine tBox _ ?_); (refine bxA M ?_; clear M; intro g w1 M))) <;> (try conv => arg 5; simp only [Act.put, List.setIfInBounds_toArray, setC]))
    go_ret
    exact ⟨rfl, M.below⟩
end Go.Proofs.YtidadhbaomieiaaGreat

/- The walk of msg.Same. Conditions: lengths. -/
namespace Go
namespace TL
open Go.RowKit
/-- A message's cells, as the walk reads them. -/
structure MsgCells (C : List Value) (k : UInt8) (e a o bi be : Int) (ov : Value) (p : Int) (r : List UInt8) (v i : Int) (lf rt : List UInt8) (pv : Value) : Prop where
  k : C[0]? = some (.int .u8 (I8 k))
  e : C[1]? = some (.int .i64 e)
  a : C[2]? = some (.int .i64 a)
  o : C[3]? = some (.int .i64 o)
  p : C[7]? = some (.int .i64 p)
  v : C[40]? = some (.int .i64 v)
  i : C[41]? = some (.int .i64 i)
  pv : C[106]? = some pv
  bat : ∃ pre post, C = pre ++ ([.int .i64 bi, .int .i64 be, ov] ++ post) ∧ pre.length = 4
  r : ∃ pre post, C = pre ++ (bs r ++ post) ∧ pre.length = 8 ∧ r.length = 32
  lf : ∃ pre post, C = pre ++ (bs lf ++ post) ∧ pre.length = 42 ∧ lf.length = 32
  rt : ∃ pre post, C = pre ++ (bs rt ++ post) ∧ pre.length = 74 ∧ rt.length = 32
  len : C.length = 107
  one : ∀ x ∈ C, x.oneCell' = true
theorem msg_cells {m : Ms} (h : m.fit) : MsgCells (msgC m) m.k m.e m.a m.o m.bi m.be m.ov m.p m.r m.v m.i m.lf m.rt m.pv :=
  ⟨msgC_at h .k, msgC_at h .e, msgC_at h .a, msgC_at h .o, msgC_at h .p, msgC_at h .v, msgC_at h .i, msgC_at h .pv, ⟨_, _, by unfold msgC; exact (show _ = [.int .u8 (I8 m.k), .int .i64 m.e, .int .i64 m.a, .int .i64 m.o] ++ ([.int .i64 m.bi, .int .i64 m.be, m.ov] ++ ([.int .i64 m.p] ++ (bs m.r ++ ([.int .i64 m.v, .int .i64 m.i] ++ (bs m.lf ++ (bs m.rt ++ [m.pv])))))) from rfl), rfl⟩,
    ⟨_, _, msgC_get m .r, Hf.pre_len h .r, Hf.len h .r⟩, ⟨_, _, msgC_get m .lf, Hf.pre_len h .lf, Hf.len h .lf⟩, ⟨_, _, msgC_get m .rt, Hf.pre_len h .rt, Hf.len h .rt⟩, msgC_len h, msgC_one h⟩
theorem sameB_iff {i e j f : Int} {l m : List Opr} : sameB i e j f l m = true ↔ i = j ∧ e = f ∧ l = m := by
  unfold sameB
  simp only [Bool.and_eq_true, beq_iff_eq]
theorem msg_first (k k' : UInt8) (e a o bi be e' a' o' bi' be' p v i p' v' i' : Int) (ops ops' : List Opr) (r lf rt r' lf' rt' : List UInt8) (prs prs' : List (List UInt8 × List UInt8)) : (I8 k ≠ I8 k') ∨ (k = k' ∧ e ≠ e') ∨ (k = k' ∧ e = e' ∧ a ≠ a') ∨ (k = k' ∧ e = e' ∧ a = a' ∧ o ≠ o') ∨ (k = k' ∧ e = e' ∧ a = a' ∧ o = o' ∧ sameB bi be bi' be' ops ops' = false) ∨ (k = k' ∧ e = e' ∧ a = a' ∧ o = o' ∧ (bi = bi' ∧ be = be' ∧ ops = ops') ∧ p ≠ p') ∨ (k = k' ∧ e = e' ∧ a = a' ∧ o = o' ∧ (bi = bi' ∧ be = be' ∧ ops = ops') ∧ p = p' ∧ r ≠ r') ∨ (k = k' ∧ e = e' ∧ a = a' ∧ o = o' ∧ (bi = bi' ∧ be = be' ∧ ops = ops') ∧ p = p' ∧ r = r' ∧ v ≠ v') ∨ (k = k' ∧ e = e' ∧ a = a' ∧ o = o' ∧ (bi = bi' ∧ be = be' ∧ ops = ops') ∧ p = p' ∧ r = r' ∧ v = v' ∧ i ≠ i') ∨ (k = k' ∧ e = e' ∧ a = a' ∧ o = o' ∧ (bi = bi' ∧ be = be' ∧ ops = ops') ∧ p = p' ∧ r = r' ∧ v = v' ∧ i = i' ∧ lf ≠ lf') ∨ (k = k' ∧ e = e' ∧ a = a' ∧ o = o' ∧ (bi = bi' ∧ be = be' ∧ ops = ops') ∧ p = p' ∧ r = r' ∧ v = v' ∧ i = i' ∧ lf = lf' ∧ rt ≠ rt') ∨ (k = k' ∧ e = e' ∧ a = a' ∧ o = o' ∧ (bi = bi' ∧ be = be' ∧ ops = ops') ∧ p = p' ∧ r = r' ∧ v = v' ∧ i = i' ∧ lf = lf' ∧ rt = rt' ∧ prs ≠ prs') ∨ (k = k' ∧ e = e' ∧ a = a' ∧ o = o' ∧ (bi = bi' ∧ be = be' ∧ ops = ops') ∧ p = p' ∧ r = r' ∧ v = v' ∧ i = i' ∧ lf = lf' ∧ rt = rt' ∧ prs = prs') := by
  by_cases hk : k = k'
  rotate_left
  · exact Or.inl (fun h => hk (I8_inj.1 h))
  by_cases he : e = e'
  rotate_left
  · exact Or.inr (Or.inl ⟨hk, he⟩)
  by_cases ha : a = a'
  rotate_left
  · exact Or.inr (Or.inr (Or.inl ⟨hk, he, ha⟩))
  by_cases ho : o = o'
  rotate_left
  · exact Or.inr (Or.inr (Or.inr (Or.inl ⟨hk, he, ha, ho⟩)))
  cases hb : sameB bi be bi' be' ops ops'
  · exact Or.inr (Or.inr (Or.inr (Or.inr (Or.inl ⟨hk, he, ha, ho, rfl⟩))))
  obtain hbat := sameB_iff.1 hb
  by_cases hp : p = p'
  rotate_left
  · exact Or.inr (Or.inr (Or.inr (Or.inr (Or.inr (Or.inl ⟨hk, he, ha, ho, hbat, hp⟩)))))
  by_cases hr : r = r'
  rotate_left
  · exact Or.inr (Or.inr (Or.inr (Or.inr (Or.inr (Or.inr (Or.inl ⟨hk, he, ha, ho, hbat, hp, hr⟩))))))
  by_cases hv : v = v'
  rotate_left
  · exact Or.inr (Or.inr (Or.inr (Or.inr (Or.inr (Or.inr (Or.inr (Or.inl ⟨hk, he, ha, ho, hbat, hp, hr, hv⟩)))))))
  by_cases hi : i = i'
  rotate_left
  · exact Or.inr (Or.inr (Or.inr (Or.inr (Or.inr (Or.inr (Or.inr (Or.inr (Or.inl ⟨hk, he, ha, ho, hbat, hp, hr, hv, hi⟩))))))))
  by_cases hlf : lf = lf'
  rotate_left
  · exact Or.inr (Or.inr (Or.inr (Or.inr (Or.inr (Or.inr (Or.inr (Or.inr (Or.inr (Or.inl ⟨hk, he, ha, ho, hbat, hp, hr, hv, hi, hlf⟩)))))))))
  by_cases hrt : rt = rt'
  rotate_left
  · exact Or.inr (Or.inr (Or.inr (Or.inr (Or.inr (Or.inr (Or.inr (Or.inr (Or.inr (Or.inr (Or.inl ⟨hk, he, ha, ho, hbat, hp, hr, hv, hi, hlf, hrt⟩))))))))))
  by_cases hprs : prs = prs'
  rotate_left
  · exact Or.inr (Or.inr (Or.inr (Or.inr (Or.inr (Or.inr (Or.inr (Or.inr (Or.inr (Or.inr (Or.inr (Or.inl ⟨hk, he, ha, ho, hbat, hp, hr, hv, hi, hlf, hrt, hprs⟩)))))))))))
  exact Or.inr (Or.inr (Or.inr (Or.inr (Or.inr (Or.inr (Or.inr (Or.inr (Or.inr (Or.inr (Or.inr (Or.inr (⟨hk, he, ha, ho, hbat, hp, hr, hv, hi, hlf, hrt, hprs⟩))))))))))))
theorem ref_first (k k' : UInt8) (e a o bi be e' a' o' bi' be' p v i p' v' i' : Int) (ops ops' : List Opr) (r lf rt r' lf' rt' : List UInt8) (_prs _prs' : List (List UInt8 × List UInt8)) : (I8 k ≠ I8 k') ∨ (k = k' ∧ e ≠ e') ∨ (k = k' ∧ e = e' ∧ a ≠ a') ∨ (k = k' ∧ e = e' ∧ a = a' ∧ o ≠ o') ∨ (k = k' ∧ e = e' ∧ a = a' ∧ o = o' ∧ sameB bi be bi' be' ops ops' = false) ∨ (k = k' ∧ e = e' ∧ a = a' ∧ o = o' ∧ (bi = bi' ∧ be = be' ∧ ops = ops') ∧ p ≠ p') ∨ (k = k' ∧ e = e' ∧ a = a' ∧ o = o' ∧ (bi = bi' ∧ be = be' ∧ ops = ops') ∧ p = p' ∧ r ≠ r') ∨ (k = k' ∧ e = e' ∧ a = a' ∧ o = o' ∧ (bi = bi' ∧ be = be' ∧ ops = ops') ∧ p = p' ∧ r = r' ∧ v ≠ v') ∨ (k = k' ∧ e = e' ∧ a = a' ∧ o = o' ∧ (bi = bi' ∧ be = be' ∧ ops = ops') ∧ p = p' ∧ r = r' ∧ v = v' ∧ i ≠ i') ∨ (k = k' ∧ e = e' ∧ a = a' ∧ o = o' ∧ (bi = bi' ∧ be = be' ∧ ops = ops') ∧ p = p' ∧ r = r' ∧ v = v' ∧ i = i' ∧ lf ≠ lf') ∨ (k = k' ∧ e = e' ∧ a = a' ∧ o = o' ∧ (bi = bi' ∧ be = be' ∧ ops = ops') ∧ p = p' ∧ r = r' ∧ v = v' ∧ i = i' ∧ lf = lf' ∧ rt ≠ rt') ∨ (k = k' ∧ e = e' ∧ a = a' ∧ o = o' ∧ (bi = bi' ∧ be = be' ∧ ops = ops') ∧ p = p' ∧ r = r' ∧ v = v' ∧ i = i' ∧ lf = lf' ∧ rt = rt') := by
  by_cases hk : k = k'
  rotate_left
  · exact Or.inl (fun h => hk (I8_inj.1 h))
  by_cases he : e = e'
  rotate_left
  · exact Or.inr (Or.inl ⟨hk, he⟩)
  by_cases ha : a = a'
  rotate_left
  · exact Or.inr (Or.inr (Or.inl ⟨hk, he, ha⟩))
  by_cases ho : o = o'
  rotate_left
  · exact Or.inr (Or.inr (Or.inr (Or.inl ⟨hk, he, ha, ho⟩)))
  cases hb : sameB bi be bi' be' ops ops'
  · exact Or.inr (Or.inr (Or.inr (Or.inr (Or.inl ⟨hk, he, ha, ho, rfl⟩))))
  obtain hbat := sameB_iff.1 hb
  by_cases hp : p = p'
  rotate_left
  · exact Or.inr (Or.inr (Or.inr (Or.inr (Or.inr (Or.inl ⟨hk, he, ha, ho, hbat, hp⟩)))))
  by_cases hr : r = r'
  rotate_left
  · exact Or.inr (Or.inr (Or.inr (Or.inr (Or.inr (Or.inr (Or.inl ⟨hk, he, ha, ho, hbat, hp, hr⟩))))))
  by_cases hv : v = v'
  rotate_left
  · exact Or.inr (Or.inr (Or.inr (Or.inr (Or.inr (Or.inr (Or.inr (Or.inl ⟨hk, he, ha, ho, hbat, hp, hr, hv⟩)))))))
  by_cases hi : i = i'
  rotate_left
  · exact Or.inr (Or.inr (Or.inr (Or.inr (Or.inr (Or.inr (Or.inr (Or.inr (Or.inl ⟨hk, he, ha, ho, hbat, hp, hr, hv, hi⟩))))))))
  by_cases hlf : lf = lf'
  rotate_left
  · exact Or.inr (Or.inr (Or.inr (Or.inr (Or.inr (Or.inr (Or.inr (Or.inr (Or.inr (Or.inl ⟨hk, he, ha, ho, hbat, hp, hr, hv, hi, hlf⟩)))))))))
  by_cases hrt : rt = rt'
  rotate_left
  · exact Or.inr (Or.inr (Or.inr (Or.inr (Or.inr (Or.inr (Or.inr (Or.inr (Or.inr (Or.inr (Or.inl ⟨hk, he, ha, ho, hbat, hp, hr, hv, hi, hlf, hrt⟩))))))))))
  exact Or.inr (Or.inr (Or.inr (Or.inr (Or.inr (Or.inr (Or.inr (Or.inr (Or.inr (Or.inr (Or.inr (⟨hk, he, ha, ho, hbat, hp, hr, hv, hi, hlf, hrt⟩)))))))))))
end TL
end Go
namespace Go.Proofs.YtidadhbaomieiaaGreat
open Go.RowKit Go.TL
set_option maxRecDepth 100000 in
set_option maxHeartbeats 16000000 in
theorem Same_c (L1 L2 : Lm) (ov pv ov' pv' : Value) (w : World) (hL : L1.fit) (hL' : L2.fit) (S : SeesL w 3 opV ov L1.ops) (T : SeesL w 2 prV pv L1.prs) (S' : SeesL w 3 opV ov' L2.ops) (T' : SeesL w 2 prV pv' L2.prs)
    (h1 : L1.ops.length ≤ 1000000) (h2 : L1.prs.length ≤ 1000000) (h3 : L2.ops.length ≤ 1000000) (h4 : L2.prs.length ≤ 1000000) :
    Calls Tryz.prog 28 #[.agg (msgC (L1.ms ov pv)).toArray, .agg (msgC (L2.ms ov' pv')).toArray] w fun r w' => r = .returned (.bool (decide (L1 = L2))) ∧ Below w.heap.size w w' := by
  have M := Mem.start [] w
  obtain ⟨k, e, a, o, bi, be, ops, p, r, v, i, lf, rt, prs⟩ := L1
  obtain ⟨k', e', a', o', bi', be', ops', p', r', v', i', lf', rt', prs'⟩ := L2
  dsimp only at S T S' T' h1 h2 h3 h4
  obtain ⟨op, oc, rfl, _⟩ := S.form
  obtain ⟨pp, pc, rfl, _⟩ := T.form
  obtain ⟨op', oc', rfl, _⟩ := S'.form
  obtain ⟨pp', pc', rfl, _⟩ := T'.form
  have X1 := msg_cells (Lm.ms_fit hL (ov := .slice op ops.length oc) (pv := .slice pp prs.length pc) rfl rfl)
  have X2 := msg_cells (Lm.ms_fit hL' (ov := .slice op' ops'.length oc') (pv := .slice pp' prs'.length pc') rfl rfl)
  simp only [Lm.ms] at X1 X2 ⊢
  obtain ⟨C1, e1⟩ : ∃ C, C = msgC ⟨k, e, a, o, bi, be, .slice op ops.length oc, p, r, v, i, lf, rt, .slice pp prs.length pc⟩ := ⟨_, rfl⟩
  obtain ⟨C2, e2⟩ : ∃ C, C = msgC ⟨k', e', a', o', bi', be', .slice op' ops'.length oc', p', r', v', i', lf', rt', .slice pp' prs'.length pc'⟩ := ⟨_, rfl⟩
  rw [← e1] at X1
  rw [← e2] at X2
  rw [← e1, ← e2]
  clear e1 e2 hL hL'
  obtain ⟨N1k, N1e, N1a, N1o, N1p, N1v, N1i, N1pv, ⟨_, _, b1⟩, ⟨_, _, r1⟩, ⟨_, _, l1⟩, ⟨_, _, t1⟩, c1, _⟩ := X1
  obtain ⟨N2k, N2e, N2a, N2o, N2p, N2v, N2i, N2pv, ⟨_, _, b2⟩, ⟨_, _, r2⟩, ⟨_, _, l2⟩, ⟨_, _, t2⟩, c2, _⟩ := X2
  replace N1k := Lib.hid N1k
  replace N1e := Lib.hid N1e
  replace N1a := Lib.hid N1a
  replace N1o := Lib.hid N1o
  replace N1p := Lib.hid N1p
  replace N1v := Lib.hid N1v
  replace N1i := Lib.hid N1i
  replace N1pv := Lib.hid N1pv
  have B1 := Lib.hid b1
  have H1r := Lib.hid r1
  have H1lf := Lib.hid l1
  have H1rt := Lib.hid t1
  have hr1 := r1.2.2
  have hl1 := l1.2.2
  have ht1 := t1.2.2
  clear b1 r1 l1 t1 c1
  replace N2k := Lib.hid N2k
  replace N2e := Lib.hid N2e
  replace N2a := Lib.hid N2a
  replace N2o := Lib.hid N2o
  replace N2p := Lib.hid N2p
  replace N2v := Lib.hid N2v
  replace N2i := Lib.hid N2i
  replace N2pv := Lib.hid N2pv
  have B2 := Lib.hid b2
  have H2r := Lib.hid r2
  have H2lf := Lib.hid l2
  have H2rt := Lib.hid t2
  have hr2 := r2.2.2
  have hl2 := l2.2.2
  have ht2 := t2.2.2
  clear b2 r2 l2 t2 c2
  have BS := fun w S S' => bSame_c bi be bi' be' ops ops' (.slice op ops.length oc) (.slice op' ops'.length oc') w S S' h1 h3
  have PS := fun w T T' => EqualP_c prs prs' (.slice pp prs.length pc) (.slice pp' prs'.length pc') w T T' h2 h4
  have RF : ¬ ((Lm.mk k e a o bi be ops p r v i lf rt prs) = (Lm.mk k' e' a' o' bi' be' ops' p' r' v' i' lf' rt' prs')) → decide ((Lm.mk k e a o bi be ops p r v i lf rt prs) = (Lm.mk k' e' a' o' bi' be' ops' p' r' v' i' lf' rt' prs')) = false := fun h => decide_eq_false h
  have RT : ((Lm.mk k e a o bi be ops p r v i lf rt prs) = (Lm.mk k' e' a' o' bi' be' ops' p' r' v' i' lf' rt' prs')) → decide ((Lm.mk k e a o bi be ops p r v i lf rt prs) = (Lm.mk k' e' a' o' bi' be' ops' p' r' v' i' lf' rt' prs')) = true := fun h => decide_eq_true h
  obtain ⟨R, eR⟩ : ∃ R, R = decide ((Lm.mk k e a o bi be ops p r v i lf rt prs) = (Lm.mk k' e' a' o' bi' be' ops' p' r' v' i' lf' rt' prs')) := ⟨_, rfl⟩
  rw [← eR] at RF RT ⊢
  replace RF := Lib.hid RF
  replace RT := Lib.hid RT
  clear eR
  rcases msg_first k k' e a o bi be e' a' o' bi' be' p v i p' v' i' ops ops' r lf rt r' lf' rt' prs prs' with hc | ⟨rfl, hc⟩ | ⟨rfl, rfl, hc⟩ | ⟨rfl, rfl, rfl, hc⟩ | ⟨rfl, rfl, rfl, rfl, hc⟩ | ⟨rfl, rfl, rfl, rfl, ⟨rfl, rfl, rfl⟩, hc⟩ | ⟨rfl, rfl, rfl, rfl, ⟨rfl, rfl, rfl⟩, rfl, hc⟩ | ⟨rfl, rfl, rfl, rfl, ⟨rfl, rfl, rfl⟩, rfl, rfl, hc⟩ | ⟨rfl, rfl, rfl, rfl, ⟨rfl, rfl, rfl⟩, rfl, rfl, rfl, hc⟩ | ⟨rfl, rfl, rfl, rfl, ⟨rfl, rfl, rfl⟩, rfl, rfl, rfl, rfl, hc⟩ | ⟨rfl, rfl, rfl, rfl, ⟨rfl, rfl, rfl⟩, rfl, rfl, rfl, rfl, rfl, hc⟩ | ⟨rfl, rfl, rfl, rfl, ⟨rfl, rfl, rfl⟩, rfl, rfl, rfl, rfl, rfl, rfl, hc⟩ | ⟨rfl, rfl, rfl, rfl, ⟨rfl, rfl, rfl⟩, rfl, rfl, rfl, rfl, rfl, rfl, rfl⟩
  all_goals
    first
      | (have e0 : R = false := RF.out (fun h => by injection h; first | exact hc (by assumption) | exact hc (congrArg I8 (by assumption)) | (subst_vars; rw [sameB_iff.2 ⟨rfl, rfl, rfl⟩] at hc; cases hc)))
      | (have e0 : R = true := RT.out rfl)
    subst e0
    (try rw [sameB_iff.2 ⟨rfl, rfl, rfl⟩] at BS)
    (try rw [hc] at BS)
    (try have hc' := beq_eq_false_iff_ne.2 hc)
    (try rw [beq_self_eq_true] at PS)
    (try rw [hc'] at PS)
    (try clear hc)
    replace BS := Lib.hid BS
    replace PS := Lib.hid PS
    go_enter Tryz.func28, Tryz.ntmps28
    simp only [List.append_eq, List.cons_append, List.nil_append]
    go_wp2_with ((first | ((with_reducible refine tBox (some 2) ?_); refine w_box M _ _ rfl rfl _ rfl (C1) rfl ?_; clear M; intro ga w1 M) | ((with_reducible refine tBox (some 3) ?_); refine w_box M _ _ rfl rfl _ rfl (C2) rfl ?_; clear M; intro gb w1 M) | ((with_reducible refine tGuard ?_); (with_reducible refine w_stripE ?_ ?_); (focus (refine ⟨_, rfl, ?_⟩; first | (with_reducible rfl) | exact decide_eq_false (by omega) | exact decide_eq_true (by omega)))) | ((with_reducible refine tGuard ?_); first | ((with_reducible refine w_skip1 ?_ ?_); (focus (refine ⟨_, rfl, ?_⟩; first | (with_reducible rfl) | exact decide_eq_false (by omega) | exact decide_eq_true (by omega)))) | ((with_reducible refine w_skip0 ?_ ?_); (focus (refine ⟨_, rfl, ?_⟩; first | (with_reducible rfl) | exact decide_eq_false (by omega) | exact decide_eq_true (by omega))))) | ((with_reducible refine tLoad ?_); go_must (refine w_at _ _ rfl (by exact ev_tmp rfl) ?_; intro hx; (first | refine w_load M 0 _ _ rfl rfl hx rfl (by decide +kernel) (by with_reducible first | exact N2k.out | exact N2e.out | exact N2a.out | exact N2o.out | exact N2p.out | exact N2v.out | exact N2i.out | exact N2pv.out) ?_ | refine w_loadA M 0 _ _ rfl rfl hx rfl (by decide +kernel) _ _ _ H2r.out.1 H2r.out.2.1 (by rw [bs_length, H2r.out.2.2]; kernel_rfl) ?_ | refine w_loadA M 0 _ _ rfl rfl hx rfl (by decide +kernel) _ _ _ H2lf.out.1 H2lf.out.2.1 (by rw [bs_length, H2lf.out.2.2]; kernel_rfl) ?_ | refine w_loadA M 0 _ _ rfl rfl hx rfl (by decide +kernel) _ _ _ H2rt.out.1 H2rt.out.2.1 (by rw [bs_length, H2rt.out.2.2]; kernel_rfl) ?_ | refine w_loadA M 0 _ _ rfl rfl hx rfl (by decide +kernel) _ _ _ B2.out.1 B2.out.2 (by kernel_rfl) ?_ | refine w_load M 1 _ _ rfl rfl hx rfl (by decide +kernel) (by with_reducible first | exact N1k.out | exact N1e.out | exact N1a.out | exact N1o.out | exact N1p.out | exact N1v.out | exact N1i.out | exact N1pv.out) ?_ | refine w_loadA M 1 _ _ rfl rfl hx rfl (by decide +kernel) _ _ _ H1r.out.1 H1r.out.2.1 (by rw [bs_length, H1r.out.2.2]; kernel_rfl) ?_ | refine w_loadA M 1 _ _ rfl rfl hx rfl (by decide +kernel) _ _ _ H1lf.out.1 H1lf.out.2.1 (by rw [bs_length, H1lf.out.2.2]; kernel_rfl) ?_ | refine w_loadA M 1 _ _ rfl rfl hx rfl (by decide +kernel) _ _ _ H1rt.out.1 H1rt.out.2.1 (by rw [bs_length, H1rt.out.2.2]; kernel_rfl) ?_ | refine w_loadA M 1 _ _ rfl rfl hx rfl (by decide +kernel) _ _ _ B1.out.1 B1.out.2 (by kernel_rfl) ?_); clear hx)) | (go_at_call 54; go_must (refine (BS.out _ (S.now M) (S'.now M)).mono ?_; rintro e w1 ⟨rfl, hb⟩; replace M := M.call hb; clear hb)) | (go_at_call 55; go_must (refine (PS.out _ (T.now M) (T'.now M)).mono ?_; rintro e w1 ⟨rfl, hb⟩; replace M := M.call hb; clear hb)) | ((with_reducible refine tGuard ?_); refine gdS ?_) | fail | ((with_reducible refine tLoad ?_); go_must (refine ldS ?_)) | ((with_reducible refine tStore ?_); go_must (refine stS ?_; clear M; intro w1 M; (try simp only [setC] at M))) | ((with_reducible refine tBox _ ?_); (refine bxA M ?_; clear M; intro g w1 M))) <;> (try conv => arg 5; simp only [Act.put, List.setIfInBounds_toArray, setC]))
    go_ret
    exact ⟨by first | rfl | simp, M.below⟩
end Go.Proofs.YtidadhbaomieiaaGreat

/- The walk of msg.Bytes. Conditions: lengths; the numbers are int's. -/
namespace Go
namespace TL
open Go.RowKit
theorem runF_fit : ∀ (l : List Fld) (L : Lm) (x : InS), L.fit → x.fit → (runF l L x).2.1.fit
  | [], _, _, h, _ => h
  | f :: l, L, x, h, hx => by
    obtain ⟨h1, h2⟩ := Fld.get_fit h hx f
    rw [runF]
    split
    · exact runF_fit l _ _ h1 h2
    · exact h1
theorem readB_ops (s : List UInt8) : (readB s).1.2.2.length ≤ 4 := by
  obtain ⟨⟨⟨i, e, d⟩, r⟩, h⟩ : ∃ R, R = readB s := ⟨_, rfl⟩
  rw [← h]
  by_cases hr : r = 0
  · subst hr
    obtain ⟨_, h2, _⟩ := read_batonly h.symm
    exact (right_ok h2).2.2.2.1
  · have := readB_zero (s := s) (by rw [← h]; exact hr)
    rw [← h] at this
    simp only [Prod.mk.injEq] at this
    obtain ⟨_, _, rfl⟩ := this
    exact Nat.zero_le _
theorem Fld.get_ops {L : Lm} {x : InS} (h : L.ops.length ≤ 1000) (f : Fld) : (f.get L x).2.1.ops.length ≤ 1000 := by
  cases f with
  | num q =>
    have : (q.sl L ((x.most q.most).1 : Int)).ops = L.ops := by cases q <;> rfl
    show (q.sl L ((x.most q.most).1 : Int)).ops.length ≤ _
    rw [this]; exact h
  | hash q =>
    simp only [Fld.get]
    generalize hashS (q.gl L) x 32 = z
    have : (q.sl L z.2).ops = L.ops := by cases q <;> rfl
    rw [this]; exact h
  | bat =>
    simp only [Fld.get]
    generalize x.text 512 = z
    have h4 := readB_ops z.1
    generalize readB z.1 = y at h4 ⊢
    split
    · exact Nat.le_trans h4 (by omega)
    · exact h
  | prs => exact h
theorem runF_ops : ∀ (l : List Fld) (L : Lm) (x : InS), L.ops.length ≤ 1000 → (runF l L x).2.1.ops.length ≤ 1000
  | [], _, _, h => h
  | f :: l, L, x, h => by
    have h1 := Fld.get_ops (x := x) h f
    rw [runF]
    split
    · exact runF_ops l _ _ h1
    · exact h1
theorem runF_prs : ∀ (l : List Fld) (L : Lm) (x : InS), (runF l L x).2.1.prs.length ≤ L.prs.length + 48 * l.length
  | [], _, _ => Nat.le_add_right _ _
  | f :: l, L, x => by
    have h1 := Fld.get_prs (L := L) (x := x) f
    rw [runF, List.length_cons]
    split
    · have := runF_prs l (f.get L x).2.1 (f.get L x).2.2; omega
    · simp only; omega
/-- What is read is of the right form. -/
theorem readM_form (s : List UInt8) (hs : s.length ≤ 1000000) : (readM s).1.fit ∧ (readM s).1.ops.length ≤ 1000 ∧ (readM s).1.prs.length ≤ 1000 := by
  have hst : (inStart s).fit := by unfold inStart InS.fit; simp; omega
  have hz : zeroL.fit ∧ zeroL.ops.length ≤ 1000 ∧ zeroL.prs.length ≤ 1000 := ⟨zeroL_fit, Nat.zero_le _, Nat.zero_le _⟩
  unfold readM
  simp only
  have hy := InS.byte_fit hst
  generalize (inStart s).byte = y at hy ⊢
  split
  · split
    · have h1 := runF_fit (fdsL (UInt8.ofNat y.1)) (kindL (UInt8.ofNat y.1)) y.2 (kindL_fit _) hy
      have h2 := runF_ops (fdsL (UInt8.ofNat y.1)) (kindL (UInt8.ofNat y.1)) y.2 (Nat.zero_le _)
      have h3 := runF_prs (fdsL (UInt8.ofNat y.1)) (kindL (UInt8.ofNat y.1)) y.2
      have h4 := fds_len (UInt8.ofNat y.1)
      have h5 : (kindL (UInt8.ofNat y.1)).prs.length = 0 := rfl
      generalize runF (fdsL (UInt8.ofNat y.1)) (kindL (UInt8.ofNat y.1)) y.2 = t at h1 h2 h3 ⊢
      split
      · split
        · exact ⟨h1, h2, by show t.2.1.prs.length ≤ 1000; omega⟩
        · exact hz
      · exact hz
    · exact hz
  · exact hz
theorem bytesM_kind {L : Lm} (h : isK L.k = false) : bytesM L = ([], 10) := by unfold bytesM; rw [if_neg (by rw [h]; decide)]
theorem bytesM_bad {L : Lm} (h : isK L.k = true) {j : Nat} {f : Fld} (hf : (fdsL L.k)[j]? = some f) (ho : f.ok L = false) : bytesM L = ([], 1) := by
  unfold bytesM
  rw [if_pos h, if_neg]
  rintro ⟨h1, _⟩
  rw [List.all_eq_true] at h1
  have := h1 f (List.mem_of_getElem? hf)
  rw [ho] at this; cases this
theorem bytesM_no {L : Lm} (h : isK L.k = true) (hn : readM (L.k :: (fdsL L.k).flatMap (fun f => f.put L)) ≠ (L, 0)) : bytesM L = ([], 1) := by
  unfold bytesM; rw [if_pos h, if_neg (fun h => hn h.2)]
theorem bytesM_yes {L : Lm} (h : isK L.k = true) (ho : ∀ (j : Nat) (f : Fld), (fdsL L.k)[j]? = some f → f.ok L = true) (hn : readM (L.k :: (fdsL L.k).flatMap (fun f => f.put L)) = (L, 0)) : bytesM L = (L.k :: (fdsL L.k).flatMap (fun f => f.put L), 0) := by
  unfold bytesM; rw [if_pos h, if_pos ⟨List.all_eq_true.2 fun f hf => by obtain ⟨j, hj⟩ := List.mem_iff_getElem?.1 hf; exact ho j f hj, hn⟩]
theorem puts_len {L : Lm} (hr : L.rng) (hL : L.fit) : ∀ l : List Fld, (l.flatMap (fun f => f.put L)).length ≤ l.length * 100100
  | [] => by simp
  | f :: l => by
    have h1 := f.put_len hr hL
    have h2 := puts_len hr hL l
    simp only [List.flatMap_cons, List.length_append, List.length_cons]; omega
end TL
end Go
namespace Go
namespace TL
theorem ms_fit2 {Lr : Lm} (h : Lr.fit) {F : List Nat} {w0 w : World} {ov pv : Value} {R : List Chunk} (M : Mem F w0 w (.sl 3 ov Lr.ops.length (Lr.ops.flatMap opV) :: .sl 2 pv Lr.prs.length (Lr.prs.flatMap prV) :: R)) : (Lr.ms ov pv).fit := by
  obtain ⟨op, oc, rfl⟩ := sl_form (M.ok 0 _ rfl)
  obtain ⟨pp, pc, rfl⟩ := sl_form (M.ok 1 _ rfl)
  exact Lm.ms_fit h rfl rfl
end TL
end Go
namespace Go.Proofs.YtidadhbaomieiaaGreat
open Go.RowKit Go.TL
set_option maxRecDepth 100000 in
set_option maxHeartbeats 16000000 in
theorem Bytes_c (L : Lm) (ov pv : Value) (w : World) (hL : L.fit) (hr : L.rng) (S : SeesL w 3 opV ov L.ops) (T : SeesL w 2 prV pv L.prs) :
    Calls Tryz.prog 51 #[.agg (msgC (L.ms ov pv)).toArray] w fun e w' => e = .returned (.tuple #[.string (mkS (bytesM L).1), .int .i64 (bytesM L).2]) ∧ Below w.heap.size w w' := by
  have M := Mem.start [] w
  have hmf : (L.ms ov pv).fit := by
    obtain ⟨op, oc, rfl, _⟩ := S.form
    obtain ⟨pp, pc, rfl, _⟩ := T.form
    exact Lm.ms_fit hL rfl rfl
  have HK : (msgC (L.ms ov pv))[0]? = some (.int .u8 (I8 L.k)) := rfl
  replace HK := Lib.hid HK
  have FC := fun w => fields_c L.k w
  unfold Fields at FC
  cases hk : isK L.k with
  | false =>
    rw [bytesM_kind hk]
    rw [hk] at FC
    replace FC := Lib.hid FC
    clear hk
    go_enter Tryz.func51, Tryz.ntmps51
    go_wp2_with ((first | ((with_reducible refine tBox (some 1) ?_); refine w_box M _ _ rfl rfl _ rfl (msgC (L.ms ov pv)) rfl ?_; clear M; intro gm w1 M) | (go_at_call 90; go_must (have hgm := (M.ok 0 _ rfl).1; refine (FC.out _).mono ?_; rintro e w5 ⟨b1, b2, b3, p, c, rfl, hbl, BX, SF, hso⟩; replace M := M.call hbl; clear hbl)) | ((with_reducible show wpList _ _ _ (Oper.mk _ (Op.load 5 _) _ _ _ _ :: _) _ _); refine w_at _ _ rfl (by exact ev_tmp rfl) ?_; intro hx; (first | refine w_load M 0 _ _ rfl rfl hx rfl (by decide +kernel) HK.out ?_ | refine w_load M 1 _ _ rfl rfl hx rfl (by decide +kernel) HK.out ?_); clear hx) | ((with_reducible refine tGuard ?_); refine gdS ?_) | fail | ((with_reducible refine tLoad ?_); go_must (refine ldS ?_)) | ((with_reducible refine tStore ?_); go_must (refine stS ?_; clear M; intro w1 M; (try simp only [setC] at M))) | ((with_reducible refine tBox _ ?_); (refine bxA M ?_; clear M; intro g w1 M))) <;> (try conv => arg 5; simp only [Act.put, List.setIfInBounds_toArray, setC]))
    go_ret2
    exact ⟨rfl, M.below⟩
  | true =>
    have BB := fun j f => @bytesM_bad L hk j f
    have BN := bytesM_no hk
    have BY := bytesM_yes hk
    have PL := puts_len hr hL
    have hn6 := fds_len L.k
    rw [hk] at FC
    obtain ⟨A, eA⟩ : ∃ A, A = bytesM L := ⟨_, rfl⟩
    obtain ⟨l, el⟩ : ∃ l, l = fdsL L.k := ⟨_, rfl⟩
    rw [← eA] at BB BN BY
    rw [← eA]
    rw [← el] at BB BN BY FC hn6
    replace FC := Lib.hid FC
    replace BB := Lib.hid BB
    clear eA el hk
    go_enter Tryz.func51, Tryz.ntmps51
    go_wp2_with ((first | ((with_reducible refine tBox (some 1) ?_); refine w_box M _ _ rfl rfl _ rfl (msgC (L.ms ov pv)) rfl ?_; clear M; intro gm w1 M) | (go_at_call 90; go_must (have hgm := (M.ok 0 _ rfl).1; refine (FC.out _).mono ?_; rintro e w5 ⟨b1, b2, b3, p, c, rfl, hbl, BX, SF, hso⟩; have MO := M.call hbl; clear hbl M; have M := MO.again0)) | ((with_reducible show wpList _ _ _ (Oper.mk _ (Op.load 5 _) _ _ _ _ :: _) _ _); refine w_at _ _ rfl (by exact ev_tmp rfl) ?_; intro hx; (first | refine w_load M 0 _ _ rfl rfl hx rfl (by decide +kernel) HK.out ?_ | refine w_load M 1 _ _ rfl rfl hx rfl (by decide +kernel) HK.out ?_); clear hx) | ((with_reducible refine tAlloc (some 6) 155 ?_); refine w_alloc M _ rfl rfl (.agg #[.slice none 0 0]) ([.slice none 0 0]) (by kernel_rfl) rfl ?_; clear M; intro go w1 M) | (go_at_call 91; go_must (replace M := M.outNew; refine (Out_Byte_c _ _ [] L.k _ (by simp) (M.ok 0 _ rfl)).mono ?_; rintro e w2 ⟨rfl, v1, U⟩; replace M := M.upd 0 rfl U; clear U; simp only [setC, List.nil_append] at M)) | ((with_reducible refine tGuard ?_); refine gdS ?_) | fail | ((with_reducible refine tLoad ?_); go_must (refine ldS ?_)) | ((with_reducible refine tStore ?_); go_must (refine stS ?_; clear M; intro w1 M; (try simp only [setC] at M))) | ((with_reducible refine tBox _ ?_); (refine bxA M ?_; clear M; intro g w1 M))) <;> (try conv => arg 5; simp only [Act.put, List.setIfInBounds_toArray, setC]))
    obtain ⟨n, hgm, BX, hso⟩ : ∃ n, gm < n ∧ Boxes b1 b2 b3 n w5 ∧ ∀ g, (Value.slice p l.length c).ownBlock = some g → n ≤ g := ⟨_, hgm, BX, hso⟩
    have hgw : w.heap.size ≤ gm := (MO.own 0 _ rfl gm (by simp [Chunk.fp])).resolve_left (by simp)
    have S5 := S.now MO
    have T5 := T.now MO
    have hF : ∀ b, b ≠ gm → b ∉ [Chunk.row gm (msgC (L.ms ov pv))].flatMap Chunk.fp := fun b hb h => by
      simp [Chunk.fp] at h
      exact hb h
    have TR : ∀ (w' : World) (K : List Chunk), Mem ([Chunk.row gm (msgC (L.ms ov pv))].flatMap Chunk.fp) w5 w' K → Below w.heap.size w w' := fun w' K U => (MO.turn0 U).below
    obtain ⟨F, eF⟩ : ∃ F, F = [Chunk.row gm (msgC (L.ms ov pv))].flatMap Chunk.fp := ⟨_, rfl⟩
    rw [← eF] at M hF TR
    clear eF MO FC
    have hS : ∀ k, ov.ownBlock = some k → k ∉ F := fun k h => hF k (by have := S.old k h; omega)
    have hT : ∀ k, pv.ownBlock = some k → k ∉ F := fun k h => hF k (by have := T.old k h; omega)
    have hFn : ∀ b, n ≤ b → b ∉ F := fun b h => hF b (by omega)
    have hFo : ∀ g, (Value.slice p l.length c).ownBlock = some g → g ∉ F := fun g h => hFn g (hso g h)
    have GG := fun (f : Fld) (v : Value) (y : List UInt8) (hy : y.length ≤ 700000) (w : World) M => put_all BX hFn hL hr go gm S5 T5 hS hT [] f v y hy w M
    replace GG := Lib.hid GG
    replace TR := Lib.hid TR
    have hTK : ∀ (j : Nat) (f : Fld), l[j]? = some f → (l.take (j + 1)).flatMap (fun f => f.put L) = (l.take j).flatMap (fun f => f.put L) ++ f.put L := fun j f h => by
      obtain ⟨hj, rfl⟩ := List.getElem?_eq_some_iff.1 h
      rw [List.take_succ_eq_append_getElem hj, List.flatMap_append, List.flatMap_cons, List.flatMap_nil, List.append_nil]
    replace hTK := Lib.hid hTK
    clear hgm BX hso hgw hF hFn
    go_loopw [25] (fun iv wr => ∃ (j : Nat) (v1 : Value), j ≤ l.length ∧ iv = .int .i64 j ∧ Hid (∀ (i : Nat) (f : Fld), i < j → l[i]? = some f → f.ok L = true) ∧ Mem F w5 wr [outC go v1 (L.k :: (l.take j).flatMap (fun f => f.put L)), Chunk.row gm (msgC (L.ms ov pv))]) (fun iv _ => l.length - (intOf iv).toNat)
    case atStart => exact ⟨0, _, by omega, rfl, Lib.hid (by omega), M⟩
    case round =>
      clear M
      obtain ⟨j, v0, hj, rfl, HO, M⟩ := hrel
      by_cases hlt : j < l.length
      · obtain ⟨ga, so, rfl⟩ := SF.addr (by omega)
        obtain ⟨f, hx⟩ : ∃ f, l[j]? = some f := ⟨_, List.getElem?_eq_getElem hlt⟩
        have SF' := SF.nowF M hFo
        have HX := Lib.hid hx
        have hT1 := hTK.out j f hx
        have hB1 := BB.out j f hx
        clear hx
        have hkt2 : decide ((j : Int) < (l.length : Int)) = true := decide_eq_true (by omega)
        have hlen : (L.k :: (l.take j).flatMap (fun f => f.put L)).length ≤ 700000 := by
          have h1 := PL (l.take j)
          have h2 : (l.take j).length ≤ 6 := by rw [List.length_take]; omega
          have h3 : (l.take j).length * 100100 ≤ 600600 := by omega
          rw [List.length_cons]; omega
        obtain ⟨y, ey⟩ : ∃ y, y = L.k :: (l.take j).flatMap (fun f => f.put L) := ⟨_, rfl⟩
        have HY : L.k :: (l.take (j + 1)).flatMap (fun f => f.put L) = y ++ f.put L := by rw [hT1, ey]; rfl
        rw [← ey] at M hlen
        have G := fun w M => GG.out f v0 y hlen w M
        obtain ⟨q, eq⟩ : ∃ q, q = f.put L := ⟨_, rfl⟩
        rw [← eq] at G HY
        replace HY := Lib.hid HY
        clear ey eq hT1
        cases hb : f.ok L with
        | false =>
          have e0 := hB1 hb
          subst e0
          rw [hb] at G
          replace G := Lib.hid G
          clear hB1 hb BN BY
          cases f
          all_goals
            simp only [putN, putA] at G
            go_wp2_with ((first | ((with_reducible show wpList _ _ _ (Oper.mk _ (Op.load 175 _) _ _ _ _ :: _) _ _); go_must (refine w_at _ _ rfl (by exact ev_tmp rfl) ?_; intro hx; refine w_seeNA SF' HX.out _ _ rfl hx rfl (by decide +kernel) (by first | (with_reducible rfl) | omega) (by kernel_rfl) ?_; clear hx; (try conv => arg 5; simp only [Act.put, List.setIfInBounds_toArray, setC, fdV_num, fdV_hash, fdV_bat, fdV_prs]))) | ((with_reducible refine tAlloc (some 8) 175 ?_); refine w_alloc M _ rfl rfl (.agg #[.nilFunc, .nilFunc]) ([.nilFunc, .nilFunc]) (by kernel_rfl) rfl ?_; clear M; intro gz w1 M) | ((with_reducible show wpList _ _ _ (Oper.mk _ (Op.store 175 _ _) _ _ _ _ :: _) _ _); go_must (refine w_at2 _ _ _ rfl (by exact ev_tmp rfl) (by first | exact ev_tmp rfl | exact ev_const) ?_; intro hx hy; refine w_storeR M 0 _ _ _ rfl rfl hx rfl _ hy rfl (by kernel_rfl) (by simp [Value.oneCell']) rfl ?_; clear hx hy M; intro w1 M; (try simp only [setC] at M))) | ((first | go_at_call 164 | go_at_call 166 | go_at_call 133 | go_at_call 135); go_must (replace M := M.tail; refine (G.out _ M).mono ?_; rintro e w6 ⟨v', l', rfl, hl', N⟩; clear M; have M := N; clear N)) | ((with_reducible refine tGuard ?_); refine gdS ?_) | fail | ((with_reducible refine tLoad ?_); go_must (refine ldS ?_)) | ((with_reducible refine tStore ?_); go_must (refine stS ?_; clear M; intro w1 M; (try simp only [setC] at M))) | ((with_reducible refine tBox _ ?_); (refine bxA M ?_; clear M; intro g w1 M))) <;> (try conv => arg 5; simp only [Act.put, List.setIfInBounds_toArray, setC]))
            go_ret2
            exact ⟨rfl, TR.out _ _ M⟩
        | true =>
          rw [hb] at G
          have HB := Lib.hid hb
          replace G := Lib.hid G
          clear hB1 hb
          cases f
          all_goals
            simp only [putN, putA] at G
            go_wp2_with ((first | ((with_reducible show wpList _ _ _ (Oper.mk _ (Op.load 175 _) _ _ _ _ :: _) _ _); go_must (refine w_at _ _ rfl (by exact ev_tmp rfl) ?_; intro hx; refine w_seeNA SF' HX.out _ _ rfl hx rfl (by decide +kernel) (by first | (with_reducible rfl) | omega) (by kernel_rfl) ?_; clear hx; (try conv => arg 5; simp only [Act.put, List.setIfInBounds_toArray, setC, fdV_num, fdV_hash, fdV_bat, fdV_prs]))) | ((with_reducible refine tAlloc (some 8) 175 ?_); refine w_alloc M _ rfl rfl (.agg #[.nilFunc, .nilFunc]) ([.nilFunc, .nilFunc]) (by kernel_rfl) rfl ?_; clear M; intro gz w1 M) | ((with_reducible show wpList _ _ _ (Oper.mk _ (Op.store 175 _ _) _ _ _ _ :: _) _ _); go_must (refine w_at2 _ _ _ rfl (by exact ev_tmp rfl) (by first | exact ev_tmp rfl | exact ev_const) ?_; intro hx hy; refine w_storeR M 0 _ _ _ rfl rfl hx rfl _ hy rfl (by kernel_rfl) (by simp [Value.oneCell']) rfl ?_; clear hx hy M; intro w1 M; (try simp only [setC] at M))) | ((first | go_at_call 164 | go_at_call 166 | go_at_call 133 | go_at_call 135); go_must (replace M := M.tail; refine (G.out _ M).mono ?_; rintro e w6 ⟨v', l', rfl, hl', N⟩; clear M; have M := N; clear N)) | ((with_reducible refine tGuard ?_); refine gdS ?_) | fail | ((with_reducible refine tLoad ?_); go_must (refine ldS ?_)) | ((with_reducible refine tStore ?_); go_must (refine stS ?_; clear M; intro w1 M; (try simp only [setC] at M))) | ((with_reducible refine tBox _ ?_); (refine bxA M ?_; clear M; intro g w1 M))) <;> (try conv => arg 5; simp only [Act.put, List.setIfInBounds_toArray, setC]))
            go_roundw
            case rel => exact ⟨j + 1, v', by omega, by go_num, Lib.hid fun i f hi hf => by
              rcases Nat.lt_succ_iff_lt_or_eq.1 hi with hi | rfl
              · exact HO.out i f hi hf
              · have e := HX.out.symm.trans hf
                injection e with e
                rw [← e]; exact HB.out, by rw [HY.out, ← hl' (by first | exact rfl | trivial)]; exact M⟩
            case measure => simp [intOf]; omega
      · obtain rfl : j = l.length := by omega
        rw [List.take_length] at M
        have hlen : (L.k :: l.flatMap (fun f => f.put L)).length ≤ 700000 := by
          have h1 := PL l
          have h3 : l.length * 100100 ≤ 600600 := by omega
          rw [List.length_cons]; omega
        have BY' := BY fun j f h => HO.out j f (List.getElem?_eq_some_iff.1 h).1 h
        clear BY BB GG hTK HO
        obtain ⟨y, ey⟩ : ∃ y, y = L.k :: l.flatMap (fun f => f.put L) := ⟨_, rfl⟩
        rw [← ey] at M BY' BN hlen
        clear ey
        have RC := fun w => Read_c y w (by omega)
        obtain ⟨hRf, hRo, hRp⟩ := readM_form y (by omega)
        obtain ⟨⟨Lr, er⟩, eR⟩ : ∃ R, R = readM y := ⟨_, rfl⟩
        rw [← eR] at RC hRf hRo hRp BY' BN
        unfold GivesM at RC
        simp only at RC hRf hRo hRp
        replace RC := Lib.hid RC
        clear eR
        have SC := fun w ro rp (S1 : SeesL w 3 opV ro Lr.ops) (T1 : SeesL w 2 prV rp Lr.prs) S2 T2 => Same_c Lr L ro rp ov pv w hRf hL S1 T1 S2 T2 (by omega) (by omega) (by have := hr.o1; omega) (by have := hr.p1; omega)
        by_cases he : er = 0
        · subst he
          by_cases hs : Lr = L
          · have e0 := BY' (by rw [hs])
            subst e0
            rw [decide_eq_true hs] at SC
            replace SC := Lib.hid SC
            clear BY' BN hs
            go_wp2_with ((first | ((with_reducible refine tGuard ?_); (with_reducible refine w_stripE ?_ ?_); (focus (refine ⟨_, rfl, ?_⟩; first | (with_reducible rfl) | exact decide_eq_false (by omega) | exact decide_eq_true (by omega)))) | ((with_reducible refine tGuard ?_); first | ((with_reducible refine w_skip1 ?_ ?_); (focus (refine ⟨_, rfl, ?_⟩; first | (with_reducible rfl) | exact decide_eq_false (by omega) | exact decide_eq_true (by omega)))) | ((with_reducible refine w_skip0 ?_ ?_); (focus (refine ⟨_, rfl, ?_⟩; first | (with_reducible rfl) | exact decide_eq_false (by omega) | exact decide_eq_true (by omega))))) | (go_at_call 81; go_must (refine (Out_String_c _ _ _ _ (M.ok 0 _ rfl)).mono ?_; rintro e w1 ⟨rfl, rfl⟩)) | (go_at_call 53; go_must (refine (RC.out _).mono ?_; rintro e w7 ⟨rov, rpv, rfl, N⟩; replace M := M.join N; clear N; simp only [List.cons_append, List.nil_append] at M; have hrf := ms_fit2 hRf M)) | ((with_reducible refine tAlloc (some 10) 67 ?_); refine w_alloc M _ rfl rfl (.agg (msgC zeroM).toArray) (msgC zeroM) (by kernel_rfl) rfl ?_; clear M; intro gb w1 M) | ((with_reducible show wpList _ _ _ (Oper.mk _ (Op.load 67 _) _ _ _ _ :: _) _ _); refine w_at _ _ rfl (by exact ev_tmp rfl) ?_; intro hx; (first | refine w_loadMs M 0 _ _ rfl rfl hx rfl (by decide +kernel) (by kernel_rfl) hrf ?_ | refine w_loadMs M 4 _ _ rfl rfl hx rfl (by decide +kernel) (by kernel_rfl) hmf ?_); clear hx) | (go_at_call 28; go_must (refine (SC.out _ rov rpv (SeesL.own M 1 rfl rfl opV_len) (SeesL.own M 2 rfl rfl prV_len) (S5.nowF M hS) (T5.nowF M hT)).mono ?_; rintro e w1 ⟨rfl, hb⟩; replace M := M.call hb; clear hb)) | ((with_reducible refine tStore ?_); refine w_at2 _ _ _ rfl (by exact ev_tmp rfl) (by first | exact ev_tmp rfl | exact ev_const) ?_; intro hx hy; refine w_storeMs (m := Lr.ms rov rpv) M 0 _ _ _ rfl rfl hx rfl hy rfl (by kernel_rfl) hrf zeroM_fit ?_; clear hx hy M; intro w1 M; (try simp only [setC] at M)) | ((with_reducible refine tGuard ?_); refine gdS ?_) | fail | ((with_reducible refine tLoad ?_); go_must (refine ldS ?_)) | ((with_reducible refine tStore ?_); go_must (refine stS ?_; clear M; intro w1 M; (try simp only [setC] at M))) | ((with_reducible refine tBox _ ?_); (refine bxA M ?_; clear M; intro g w1 M))) <;> (try conv => arg 5; simp only [Act.put, List.setIfInBounds_toArray, setC]))
            go_ret2
            exact ⟨rfl, TR.out _ _ M⟩
          · have e0 := BN (by intro h; injection h with h; exact hs h)
            subst e0
            rw [decide_eq_false hs] at SC
            replace SC := Lib.hid SC
            clear BY' BN hs
            go_wp2_with ((first | ((with_reducible refine tGuard ?_); (with_reducible refine w_stripE ?_ ?_); (focus (refine ⟨_, rfl, ?_⟩; first | (with_reducible rfl) | exact decide_eq_false (by omega) | exact decide_eq_true (by omega)))) | ((with_reducible refine tGuard ?_); first | ((with_reducible refine w_skip1 ?_ ?_); (focus (refine ⟨_, rfl, ?_⟩; first | (with_reducible rfl) | exact decide_eq_false (by omega) | exact decide_eq_true (by omega)))) | ((with_reducible refine w_skip0 ?_ ?_); (focus (refine ⟨_, rfl, ?_⟩; first | (with_reducible rfl) | exact decide_eq_false (by omega) | exact decide_eq_true (by omega))))) | (go_at_call 81; go_must (refine (Out_String_c _ _ _ _ (M.ok 0 _ rfl)).mono ?_; rintro e w1 ⟨rfl, rfl⟩)) | (go_at_call 53; go_must (refine (RC.out _).mono ?_; rintro e w7 ⟨rov, rpv, rfl, N⟩; replace M := M.join N; clear N; simp only [List.cons_append, List.nil_append] at M; have hrf := ms_fit2 hRf M)) | ((with_reducible refine tAlloc (some 10) 67 ?_); refine w_alloc M _ rfl rfl (.agg (msgC zeroM).toArray) (msgC zeroM) (by kernel_rfl) rfl ?_; clear M; intro gb w1 M) | ((with_reducible show wpList _ _ _ (Oper.mk _ (Op.load 67 _) _ _ _ _ :: _) _ _); refine w_at _ _ rfl (by exact ev_tmp rfl) ?_; intro hx; (first | refine w_loadMs M 0 _ _ rfl rfl hx rfl (by decide +kernel) (by kernel_rfl) hrf ?_ | refine w_loadMs M 4 _ _ rfl rfl hx rfl (by decide +kernel) (by kernel_rfl) hmf ?_); clear hx) | (go_at_call 28; go_must (refine (SC.out _ rov rpv (SeesL.own M 1 rfl rfl opV_len) (SeesL.own M 2 rfl rfl prV_len) (S5.nowF M hS) (T5.nowF M hT)).mono ?_; rintro e w1 ⟨rfl, hb⟩; replace M := M.call hb; clear hb)) | ((with_reducible refine tStore ?_); refine w_at2 _ _ _ rfl (by exact ev_tmp rfl) (by first | exact ev_tmp rfl | exact ev_const) ?_; intro hx hy; refine w_storeMs (m := Lr.ms rov rpv) M 0 _ _ _ rfl rfl hx rfl hy rfl (by kernel_rfl) hrf zeroM_fit ?_; clear hx hy M; intro w1 M; (try simp only [setC] at M)) | ((with_reducible refine tGuard ?_); refine gdS ?_) | fail | ((with_reducible refine tLoad ?_); go_must (refine ldS ?_)) | ((with_reducible refine tStore ?_); go_must (refine stS ?_; clear M; intro w1 M; (try simp only [setC] at M))) | ((with_reducible refine tBox _ ?_); (refine bxA M ?_; clear M; intro g w1 M))) <;> (try conv => arg 5; simp only [Act.put, List.setIfInBounds_toArray, setC]))
            go_ret2
            exact ⟨rfl, TR.out _ _ M⟩
        · have e0 := BN (by intro h; injection h with _ h; exact he h)
          subst e0
          have hz : ((er : Int) == 0) = false := by simp; exact he
          have hz' : ((er : Int) != 0) = true := by simp; exact he
          clear BY' BN he SC
          go_wp2_with ((first | ((with_reducible refine tGuard ?_); (with_reducible refine w_stripE ?_ ?_); (focus (refine ⟨_, rfl, ?_⟩; first | (with_reducible rfl) | exact decide_eq_false (by omega) | exact decide_eq_true (by omega)))) | ((with_reducible refine tGuard ?_); first | ((with_reducible refine w_skip1 ?_ ?_); (focus (refine ⟨_, rfl, ?_⟩; first | (with_reducible rfl) | exact decide_eq_false (by omega) | exact decide_eq_true (by omega)))) | ((with_reducible refine w_skip0 ?_ ?_); (focus (refine ⟨_, rfl, ?_⟩; first | (with_reducible rfl) | exact decide_eq_false (by omega) | exact decide_eq_true (by omega))))) | (go_at_call 81; go_must (refine (Out_String_c _ _ _ _ (M.ok 0 _ rfl)).mono ?_; rintro e w1 ⟨rfl, rfl⟩)) | (go_at_call 53; go_must (refine (RC.out _).mono ?_; rintro e w7 ⟨rov, rpv, rfl, N⟩; replace M := M.join N; clear N; simp only [List.cons_append, List.nil_append] at M; have hrf := ms_fit2 hRf M)) | ((with_reducible refine tAlloc (some 10) 67 ?_); refine w_alloc M _ rfl rfl (.agg (msgC zeroM).toArray) (msgC zeroM) (by kernel_rfl) rfl ?_; clear M; intro gb w1 M) | ((with_reducible show wpList _ _ _ (Oper.mk _ (Op.load 67 _) _ _ _ _ :: _) _ _); refine w_at _ _ rfl (by exact ev_tmp rfl) ?_; intro hx; (first | refine w_loadMs M 0 _ _ rfl rfl hx rfl (by decide +kernel) (by kernel_rfl) hrf ?_ | refine w_loadMs M 4 _ _ rfl rfl hx rfl (by decide +kernel) (by kernel_rfl) hmf ?_); clear hx) | ((with_reducible refine tStore ?_); refine w_at2 _ _ _ rfl (by exact ev_tmp rfl) (by first | exact ev_tmp rfl | exact ev_const) ?_; intro hx hy; refine w_storeMs (m := Lr.ms rov rpv) M 0 _ _ _ rfl rfl hx rfl hy rfl (by kernel_rfl) hrf zeroM_fit ?_; clear hx hy M; intro w1 M; (try simp only [setC] at M)) | ((with_reducible refine tGuard ?_); refine gdS ?_) | fail | ((with_reducible refine tLoad ?_); go_must (refine ldS ?_)) | ((with_reducible refine tStore ?_); go_must (refine stS ?_; clear M; intro w1 M; (try simp only [setC] at M))) | ((with_reducible refine tBox _ ?_); (refine bxA M ?_; clear M; intro g w1 M))) <;> (try conv => arg 5; simp only [Act.put, List.setIfInBounds_toArray, setC]))
          go_ret2
          exact ⟨rfl, TR.out _ _ M⟩
end Go.Proofs.YtidadhbaomieiaaGreat

/- Plain theory of layer 18 (msg): a message's bytes, read, are the message; cut they end too early; what is read has just its bytes. No program in this text. No conditions but those each lemma names. -/
namespace Go
namespace TL
open Go.RowKit
/-! ### Fields, one beside the other -/
/-- Two messages are alike in a field. -/
def Fld.eqv (A B : Lm) : Fld → Prop
  | .num q => q.gl A = q.gl B
  | .hash q => q.gl A = q.gl B
  | .bat => A.bi = B.bi ∧ A.be = B.be ∧ A.ops = B.ops
  | .prs => A.prs = B.prs
/-- A field is taken over from another message. -/
def Fld.cp (L : Lm) (A : Lm) : Fld → Lm
  | .num q => q.sl A (q.gl L)
  | .hash q => q.sl A (q.gl L)
  | .bat => { A with bi := L.bi, be := L.be, ops := L.ops }
  | .prs => { A with prs := L.prs }
theorem Fld.eqv_refl (A : Lm) (f : Fld) : f.eqv A A := by cases f <;> first | rfl | exact ⟨rfl, rfl, rfl⟩
theorem Fld.eqv_symm {A B : Lm} {f : Fld} (h : f.eqv A B) : f.eqv B A := by
  cases f with
  | num q => exact Eq.symm h
  | hash q => exact Eq.symm h
  | bat => exact ⟨h.1.symm, h.2.1.symm, h.2.2.symm⟩
  | prs => exact Eq.symm h
theorem Fld.eqv_trans {A B C : Lm} {f : Fld} (h : f.eqv A B) (h' : f.eqv B C) : f.eqv A C := by
  cases f with
  | num q => exact Eq.trans h h'
  | hash q => exact Eq.trans h h'
  | bat => exact ⟨h.1.trans h'.1, h.2.1.trans h'.2.1, h.2.2.trans h'.2.2⟩
  | prs => exact Eq.trans h h'
theorem Fld.put_eqv {A B : Lm} {f : Fld} (h : f.eqv A B) : f.put A = f.put B := by
  cases f with
  | num q => simp only [Fld.put]; rw [show q.gl A = q.gl B from h]
  | hash q => simp only [Fld.put]; rw [show q.gl A = q.gl B from h]
  | bat => obtain ⟨h1, h2, h3⟩ := h; simp only [Fld.put]; rw [h1, h2, h3]
  | prs => simp only [Fld.put]; rw [show A.prs = B.prs from h]
theorem Fld.ok_eqv {A B : Lm} {f : Fld} (h : f.eqv A B) : f.ok A = f.ok B := by
  cases f with
  | num q => simp only [Fld.ok]; rw [show q.gl A = q.gl B from h]
  | hash q => rfl
  | bat => obtain ⟨h1, h2, h3⟩ := h; simp only [Fld.ok]; rw [h1, h2, h3]
  | prs => simp only [Fld.ok]; rw [show A.prs = B.prs from h]
theorem Fld.cp_eqv {A B X : Lm} {f : Fld} (h : f.eqv A B) : f.cp A X = f.cp B X := by
  cases f with
  | num q => simp only [Fld.cp]; rw [show q.gl A = q.gl B from h]
  | hash q => simp only [Fld.cp]; rw [show q.gl A = q.gl B from h]
  | bat => obtain ⟨h1, h2, h3⟩ := h; simp only [Fld.cp]; rw [h1, h2, h3]
  | prs => simp only [Fld.cp]; rw [show A.prs = B.prs from h]
theorem Mf.gl_sl (A : Lm) (z : Int) (q : Mf) : q.gl (q.sl A z) = z := by cases q <;> rfl
theorem Hf.gl_sl (A : Lm) (z : List UInt8) (q : Hf) : q.gl (q.sl A z) = z := by cases q <;> rfl
/-- What one field's taking over leaves alone. -/
theorem Fld.cp_other {f g : Fld} (h : f ≠ g) (L A : Lm) : f.eqv (g.cp L A) A := by
  cases g with
  | num q' =>
    cases f with
    | num q => cases q <;> cases q' <;> first | rfl | exact absurd rfl h
    | hash q => cases q <;> cases q' <;> rfl
    | bat => cases q' <;> exact ⟨rfl, rfl, rfl⟩
    | prs => cases q' <;> rfl
  | hash q' =>
    cases f with
    | num q => cases q <;> cases q' <;> rfl
    | hash q => cases q <;> cases q' <;> first | rfl | exact absurd rfl h
    | bat => cases q' <;> exact ⟨rfl, rfl, rfl⟩
    | prs => cases q' <;> rfl
  | bat =>
    cases f with
    | num q => cases q <;> rfl
    | hash q => cases q <;> rfl
    | bat => exact absurd rfl h
    | prs => rfl
  | prs =>
    cases f with
    | num q => cases q <;> rfl
    | hash q => cases q <;> rfl
    | bat => exact ⟨rfl, rfl, rfl⟩
    | prs => exact absurd rfl h
theorem Fld.cp_own (f : Fld) (L A : Lm) : f.eqv (f.cp L A) L := by
  cases f with
  | num q => exact q.gl_sl A _
  | hash q => exact q.gl_sl A _
  | bat => exact ⟨rfl, rfl, rfl⟩
  | prs => rfl
/-- What is read is taken over. -/
theorem Fld.get_cp (f : Fld) (A : Lm) (x : InS) : (f.get A x).2.1 = f.cp (f.get A x).2.1 A := by
  cases f with
  | num q =>
    show q.sl A ((x.most q.most).1 : Int) = q.sl A (q.gl (q.sl A ((x.most q.most).1 : Int)))
    rw [Mf.gl_sl]
  | hash q =>
    simp only [Fld.get, Fld.cp]
    generalize hashS (q.gl A) x 32 = z
    rw [Hf.gl_sl]
  | bat =>
    simp only [Fld.get]
    generalize x.text 512 = z
    generalize readB z.1 = y
    split
    · rfl
    · rfl
  | prs => rfl
theorem Fld.get_other {f g : Fld} (h : f ≠ g) (A : Lm) (x : InS) : f.eqv (g.get A x).2.1 A := by
  rw [g.get_cp]; exact Fld.cp_other h _ _
theorem runF_other : ∀ {l : List Fld} {f : Fld}, f ∉ l → ∀ (A : Lm) (x : InS), f.eqv (runF l A x).2.1 A
  | [], f, _, A, _ => f.eqv_refl A
  | g :: l, f, h, A, x => by
    have hg : f ≠ g := fun e => h (e ▸ List.mem_cons_self)
    have h1 := Fld.get_other hg A x
    rw [runF]
    split
    · exact Fld.eqv_trans (runF_other (fun hm => h (List.mem_cons_of_mem _ hm)) _ _) h1
    · exact h1
/-- All of them taken over. -/
def cpAll (l : List Fld) (L A : Lm) : Lm := l.foldl (fun B f => f.cp L B) A
theorem cpAll_cons (f : Fld) (l : List Fld) (L A : Lm) : cpAll (f :: l) L A = cpAll l L (f.cp L A) := rfl
theorem runF_cp : ∀ {l : List Fld}, l.Nodup → ∀ {A : Lm} {x : InS} {L : Lm} {y : InS}, runF l A x = (0, L, y) → L = cpAll l L A
  | [], _, A, x, L, y, h => by
    simp only [runF, Prod.mk.injEq] at h
    exact h.2.1.symm
  | f :: l, hd, A, x, L, y, h => by
    obtain ⟨hf, hd⟩ := List.nodup_cons.1 hd
    rw [runF] at h
    split at h
    · have e := runF_cp hd h
      have h1 := runF_other hf (f.get A x).2.1 (f.get A x).2.2
      rw [h] at h1
      rw [cpAll_cons, ← Fld.cp_eqv (Fld.eqv_symm h1), ← f.get_cp]
      exact e
    · rename_i hs
      simp only [Prod.mk.injEq] at h
      exact absurd h.1 hs
/-! ### Read back -/
theorem byte_at (b : UInt8) (r : List UInt8) (k : Nat) : InS.byte ⟨b :: r, k, 0⟩ = (b.toNat, ⟨r, k + 1, 0⟩) := rfl
theorem hashS_first (h0 : List UInt8) (x : InS) : ∀ n, n ≤ h0.length → x.err = 0 → n ≤ x.rest.length → hashS h0 x n = (⟨x.rest.drop n, x.read + n, 0⟩, x.rest.take n ++ h0.drop n)
  | 0, _, he, _ => by
    obtain ⟨r, k, e⟩ := x
    simp only at he; subst he
    simp [hashS]
  | n + 1, h1, he, h2 => by
    rw [hashS_succ, hashS_first h0 x n (by omega) he (by omega)]
    have hd : x.rest.drop n = x.rest[n] :: x.rest.drop (n + 1) := List.drop_eq_getElem_cons (by omega)
    simp only [hd, byte_at, UInt8.ofNat_toNat, Prod.mk.injEq]
    refine ⟨by rw [Nat.add_assoc], ?_⟩
    rw [List.set_append_right _ _ (by rw [List.length_take]; omega), List.length_take, Nat.min_eq_left (by omega), Nat.sub_self, List.take_succ_eq_append_getElem (by omega), List.append_assoc]
    congr 1
    rw [List.drop_eq_getElem_cons (by omega : n < h0.length)]
    rfl
theorem InS.byte_err {x : InS} (h : x.err ≠ 0) : x.byte = (0, x) := by unfold InS.byte; rw [if_neg h]
theorem hashS_err (h0 : List UInt8) {x : InS} (h : x.err ≠ 0) : ∀ n, (hashS h0 x n).1 = x
  | 0 => rfl
  | n + 1 => by rw [hashS_succ, hashS_err h0 h n, InS.byte_err h]
theorem hashS_add (h0 : List UInt8) (x : InS) (n : Nat) : ∀ m, (hashS h0 x (n + m)).1 = (hashS (hashS h0 x n).2 (hashS h0 x n).1 m).1
  | 0 => rfl
  | m + 1 => by rw [← Nat.add_assoc, hashS_succ, hashS_succ, hashS_add h0 x n m]
theorem hashS_short (h0 : List UInt8) {x : InS} (hx : x.err = 0) {n : Nat} (hn : n ≤ h0.length) (h : x.rest.length < n) : (hashS h0 x n).1.err = 7 := by
  have e := hashS_first h0 x x.rest.length (by omega) hx (Nat.le_refl _)
  obtain ⟨m, rfl⟩ : ∃ m, n = x.rest.length + 1 + m := ⟨n - (x.rest.length + 1), by omega⟩
  rw [hashS_add, hashS_succ, e]
  simp only [List.drop_length]
  have hb : InS.byte ⟨[], x.read + x.rest.length, 0⟩ = (0, ⟨[], x.read + x.rest.length, 7⟩) := rfl
  rw [hb]
  rw [hashS_err _ (by simp)]
theorem prS_cons (x : InS) : ∀ n, prS x (n + 1) = (((x.text 33).1, ((x.text 33).2.text 32).1) :: (prS ((x.text 33).2.text 32).2 n).1, (prS ((x.text 33).2.text 32).2 n).2)
  | 0 => rfl
  | n + 1 => by rw [prS_succ, prS_cons x n, prS_succ]; rfl
theorem prS_err {x : InS} (h : x.err ≠ 0) : ∀ n, (prS x n).2 = x
  | 0 => rfl
  | n + 1 => by
    rw [prS_succ, prS_err h n, InS.text_err h]
    simp only
    rw [InS.text_err h]
theorem prS_back : ∀ (l : List (List UInt8 × List UInt8)) (r : List UInt8) (k : Nat), l.all okP = true → ∃ k', prS ⟨l.flatMap prBm ++ r, k, 0⟩ l.length = (l, ⟨r, k', 0⟩)
  | [], r, k, _ => ⟨k, by simp [prS]⟩
  | (a, b) :: l, r, k, h => by
    rw [List.all_cons, Bool.and_eq_true] at h
    obtain ⟨h1, h2⟩ := h
    simp only [okP, Bool.and_eq_true, decide_eq_true_eq] at h1
    obtain ⟨ha, hb⟩ := h1
    have e : ((a, b) :: l).flatMap prBm ++ r = textL a ++ (textL b ++ (l.flatMap prBm ++ r)) := by simp only [List.flatMap_cons, prBm, List.append_assoc]
    rw [e, List.length_cons, prS_cons, text_text ha (by omega)]
    simp only
    rw [text_text hb (by omega)]
    simp only
    obtain ⟨k', hk⟩ := prS_back l r (k + (textL a).length + (textL b).length) h2
    rw [hk]
    exact ⟨k', rfl⟩
theorem prS_cut : ∀ (l : List (List UInt8 × List UInt8)) (r : List UInt8) (k j : Nat), l.all okP = true → j < (l.flatMap prBm).length → (prS ⟨(l.flatMap prBm ++ r).take j, k, 0⟩ l.length).2.err = 7
  | [], r, k, j, _, h => by simp at h
  | (a, b) :: l, r, k, j, h, hj => by
    rw [List.all_cons, Bool.and_eq_true] at h
    obtain ⟨h1, h2⟩ := h
    simp only [okP, Bool.and_eq_true, decide_eq_true_eq] at h1
    obtain ⟨ha, hb⟩ := h1
    have e : ((a, b) :: l).flatMap prBm ++ r = textL a ++ (textL b ++ (l.flatMap prBm ++ r)) := by simp only [List.flatMap_cons, prBm, List.append_assoc]
    have hj' : j < (textL a).length + ((textL b).length + (l.flatMap prBm).length) := by
      simpa only [List.flatMap_cons, prBm, List.length_append, Nat.add_assoc] using hj
    rw [e, List.length_cons, prS_cons]
    have c1 := text_cut (m := 33) (k := k) (j := j) (t := a) (r := textL b ++ (l.flatMap prBm ++ r)) ha (by omega)
    simp only
    split at c1
    · rw [InS.text_err (x := (InS.text _ 33).2) (by rw [c1]; decide)]
      rw [prS_err (by rw [c1]; decide)]; exact c1
    · rw [c1]
      simp only
      have c2 := text_cut (m := 32) (k := k + (textL a).length) (j := j - (textL a).length) (t := b) (r := l.flatMap prBm ++ r) hb (by omega)
      split at c2
      · rw [prS_err (by rw [c2]; decide)]; exact c2
      · rw [c2]
        exact prS_cut l r _ _ h2 (by omega)
theorem hash_back {h0 h r : List UInt8} {k : Nat} (hh : h.length = 32) (h0l : h0.length = 32) : hashS h0 ⟨h ++ r, k, 0⟩ 32 = (⟨r, k + 32, 0⟩, h) := by
  rw [hashS_first h0 _ 32 (by omega) rfl (by simp only [List.length_append]; omega)]
  have e1 : (h ++ r).drop 32 = r := by rw [← hh, List.drop_left]
  have e2 : (h ++ r).take 32 = h := by rw [← hh, List.take_left]
  simp only [e1, e2]
  rw [List.drop_of_length_le (by omega), List.append_nil]
theorem bytes_bat {i e : Int} {ops : List Opr} (h : (bytesB i e ops).2 = 0) : rightB i e ops = 0 ∧ (bytesB i e ops).1 = batB i.toNat e.toNat ops := by
  by_cases hr : rightB i e ops = 0
  · exact ⟨hr, by rw [bytesB_ok hr]⟩
  · rw [bytesB_no hr] at h; exact absurd h hr
theorem Fld.bat_get {A : Lm} {x y : InS} {s : List UInt8} (h : x.text 512 = (s, y)) : Fld.bat.get A x = if y.err = 0 then ((readB s).2, { A with bi := (readB s).1.1, be := (readB s).1.2.1, ops := (readB s).1.2.2 }, y) else (y.err, A, y) := by
  simp only [Fld.get, h]
/-- A field's bytes, read, are the field. -/
theorem Fld.get_back {L : Lm} (hL : L.fit) (hr : L.rng) (f : Fld) (ho : f.ok L = true) {A : Lm} (hA : A.fit) (hp : f = .prs → A.prs = []) (r : List UInt8) (k : Nat) : ∃ k', f.get A ⟨f.put L ++ r, k, 0⟩ = (0, f.cp L A, ⟨r, k', 0⟩) := by
  cases f with
  | num q =>
    simp only [Fld.ok, decide_eq_true_eq] at ho
    have hn := (hr.num q).2
    simp only [Fld.get, Fld.put, Fld.cp]
    rw [most_num (by omega) (by omega)]
    simp only
    rw [show ((q.gl L).toNat : Int) = q.gl L by omega]
    exact ⟨_, rfl⟩
  | hash q =>
    have h1 := q.gl_len hL
    have h2 := q.gl_len hA
    simp only [Fld.get, Fld.put, Fld.cp]
    rw [hash_back h1 h2]
    exact ⟨_, rfl⟩
  | bat =>
    simp only [Fld.ok, Bool.and_eq_true, beq_iff_eq, decide_eq_true_eq] at ho
    obtain ⟨h1, h2⟩ := ho
    obtain ⟨h3, h4⟩ := bytes_bat h1
    obtain ⟨g1, g2, g3, g4, _⟩ := right_ok h3
    rw [Fld.bat_get (show InS.text ⟨Fld.bat.put L ++ r, k, 0⟩ 512 = _ from text_text h2 (by omega)), if_pos rfl]
    simp only [Fld.cp]
    have hb := hr.be
    have e := read_bat (i := L.bi.toNat) (e := L.be.toNat) (ops := L.ops) (by rw [show ((L.bi.toNat : Nat) : Int) = L.bi by omega, show ((L.be.toNat : Nat) : Int) = L.be by omega]; exact h3) (by omega) []
    rw [List.append_nil, if_pos rfl] at e
    rw [h4, e]
    simp only
    rw [show ((L.bi.toNat : Nat) : Int) = L.bi by omega, show ((L.be.toNat : Nat) : Int) = L.be by omega]
    exact ⟨_, rfl⟩
  | prs =>
    simp only [Fld.ok, Bool.and_eq_true, decide_eq_true_eq] at ho
    obtain ⟨h1, h2⟩ := ho
    simp only [Fld.get, Fld.put, Fld.cp]
    rw [hp rfl, List.append_assoc, most_num h1 (by omega)]
    simp only
    obtain ⟨k', e⟩ := prS_back L.prs r (k + (numL L.prs.length).length) h2
    rw [e]
    exact ⟨_, rfl⟩
/-- Cut, they end too early. -/
theorem Fld.get_cut {L : Lm} (hL : L.fit) (hr : L.rng) (f : Fld) (ho : f.ok L = true) {A : Lm} (hA : A.fit) (hp : f = .prs → A.prs = []) (r : List UInt8) (k j : Nat) (hj : j < (f.put L).length) : Fld.say (f.get A ⟨(f.put L ++ r).take j, k, 0⟩) = 7 := by
  have say7 : ∀ t : Nat × Lm × InS, t.2.2.err = 7 → Fld.say t = 7 := fun t h => by unfold Fld.say; rw [if_neg (by rw [h]; decide), h]
  cases f with
  | num q =>
    simp only [Fld.ok, decide_eq_true_eq] at ho
    have hn := (hr.num q).2
    refine say7 _ ?_
    simp only [Fld.get, Fld.put] at hj ⊢
    rw [most_cut (by omega) (by omega), if_pos hj]
  | hash q =>
    have h1 := q.gl_len hL
    have h2 := q.gl_len hA
    refine say7 _ ?_
    simp only [Fld.get, Fld.put] at hj ⊢
    exact hashS_short _ rfl (by omega) (by simp only [List.length_take]; omega)
  | bat =>
    simp only [Fld.ok, Bool.and_eq_true, beq_iff_eq, decide_eq_true_eq] at ho
    obtain ⟨h1, h2⟩ := ho
    have c := text_cut (m := 512) (k := k) (j := j) (t := (bytesB L.bi L.be L.ops).1) (r := r) h2 (by omega)
    rw [if_pos (show j < (textL (bytesB L.bi L.be L.ops).1).length from hj)] at c
    obtain ⟨⟨s, y⟩, e⟩ : ∃ R, R = InS.text ⟨(textL (bytesB L.bi L.be L.ops).1 ++ r).take j, k, 0⟩ 512 := ⟨_, rfl⟩
    rw [← e] at c
    simp only at c
    rw [Fld.bat_get (show InS.text ⟨(Fld.bat.put L ++ r).take j, k, 0⟩ 512 = (s, y) from e.symm), if_neg (by rw [c]; decide)]
    exact say7 _ c
  | prs =>
    simp only [Fld.ok, Bool.and_eq_true, decide_eq_true_eq] at ho
    obtain ⟨h1, h2⟩ := ho
    have c := most_cut (m := 48) (n := L.prs.length) (k := k) (j := j) (r := L.prs.flatMap prBm ++ r) h1 (by omega)
    refine say7 _ ?_
    simp only [Fld.get, Fld.put] at hj ⊢
    rw [List.append_assoc]
    rw [List.length_append] at hj
    by_cases hj1 : j < (numL L.prs.length).length
    · rw [if_pos hj1] at c
      rw [c]
      exact congrArg InS.err (prS_err (by simp) _)
    · rw [if_neg hj1] at c
      rw [c]
      exact prS_cut L.prs r _ _ h2 (by omega)
theorem Fld.say_zero {t : Nat × Lm × InS} (h : Fld.say t = 0) : t.1 = 0 ∧ t.2.2.err = 0 := by
  unfold Fld.say at h
  split at h
  · rename_i h0; exact ⟨h, h0⟩
  · rename_i h0; exact absurd h h0
theorem Fld.say_ok {f : Fld} {A A' : Lm} {x y : InS} (h : f.get A x = (0, A', y)) (hy : y.err = 0) : Fld.say (f.get A x) = 0 := by rw [h]; unfold Fld.say; rw [if_pos hy]
theorem Fld.cp_fit {L A : Lm} (hL : L.fit) (hA : A.fit) (f : Fld) : (f.cp L A).fit := by
  cases f with
  | num q => exact q.sl_fit hA _
  | hash q => exact q.sl_fit hA (q.gl_len hL)
  | bat => exact hA
  | prs => exact hA
/-- The fields' bytes, read, are the fields. -/
theorem runF_back {L : Lm} (hL : L.fit) (hr : L.rng) (r : List UInt8) : ∀ (l : List Fld), l.Nodup → (∀ f ∈ l, f.ok L = true) → ∀ (A : Lm) (k : Nat), A.fit → (.prs ∈ l → A.prs = []) → ∃ k', runF l A ⟨l.flatMap (fun f => f.put L) ++ r, k, 0⟩ = (0, cpAll l L A, ⟨r, k', 0⟩)
  | [], _, _, A, k, _, _ => ⟨k, by simp [runF, cpAll]⟩
  | f :: l, hd, ho, A, k, hA, hp => by
    obtain ⟨hf, hd⟩ := List.nodup_cons.1 hd
    obtain ⟨k1, e1⟩ := f.get_back hL hr (ho f List.mem_cons_self) hA (fun e => hp (e ▸ List.mem_cons_self)) (l.flatMap (fun f => f.put L) ++ r) k
    rw [List.flatMap_cons, List.append_assoc, runF, if_pos (Fld.say_ok e1 rfl), e1, cpAll_cons]
    refine runF_back hL hr r l hd (fun g hg => ho g (List.mem_cons_of_mem _ hg)) _ _ (f.cp_fit hL hA) fun hm => ?_
    have hne : Fld.prs ≠ f := fun e => hf (e ▸ hm)
    exact (Fld.cp_other hne L A : (f.cp L A).prs = A.prs).trans (hp (List.mem_cons_of_mem _ hm))
/-- Cut, they end too early. -/
theorem runF_cut {L : Lm} (hL : L.fit) (hr : L.rng) (r : List UInt8) : ∀ (l : List Fld), l.Nodup → (∀ f ∈ l, f.ok L = true) → ∀ (A : Lm) (k j : Nat), A.fit → (.prs ∈ l → A.prs = []) → j < (l.flatMap (fun f => f.put L)).length → (runF l A ⟨(l.flatMap (fun f => f.put L) ++ r).take j, k, 0⟩).1 = 7
  | [], _, _, A, k, j, _, _, h => by simp at h
  | f :: l, hd, ho, A, k, j, hA, hp, hj => by
    obtain ⟨hf, hd⟩ := List.nodup_cons.1 hd
    have hpf : f = .prs → A.prs = [] := fun e => hp (e ▸ List.mem_cons_self)
    rw [List.flatMap_cons, List.append_assoc]
    rw [List.flatMap_cons, List.length_append] at hj
    by_cases h1 : j < (f.put L).length
    · have e := f.get_cut hL hr (ho f List.mem_cons_self) hA hpf (l.flatMap (fun f => f.put L) ++ r) k j h1
      rw [runF, if_neg (by rw [e]; decide)]
      exact e
    · obtain ⟨k1, e1⟩ := f.get_back hL hr (ho f List.mem_cons_self) hA hpf ((l.flatMap (fun f => f.put L) ++ r).take (j - (f.put L).length)) k
      rw [List.take_append, List.take_of_length_le (by omega : (f.put L).length ≤ j), runF, if_pos (Fld.say_ok e1 rfl), e1]
      refine runF_cut hL hr r l hd (fun g hg => ho g (List.mem_cons_of_mem _ hg)) _ _ _ (f.cp_fit hL hA) (fun hm => ?_) (by omega)
      have hne : Fld.prs ≠ f := fun e => hf (e ▸ hm)
      exact (Fld.cp_other hne L A : (f.cp L A).prs = A.prs).trans (hp (List.mem_cons_of_mem _ hm))
theorem fds_nodup (k : UInt8) : (fdsL k).Nodup := by
  unfold fdsL
  repeat' split
  all_goals simp
/-- A message with the fields of its kind alone. -/
def onlyL (L : Lm) : Lm := cpAll (fdsL L.k) L (kindL L.k)
def bytesL (L : Lm) : List UInt8 := L.k :: (fdsL L.k).flatMap (fun f => f.put L)
def okL (L : Lm) : Bool := (fdsL L.k).all fun f => f.ok L
theorem okL_of {L : Lm} (h : okL L = true) : ∀ f ∈ fdsL L.k, f.ok L = true := List.all_eq_true.1 h
/-- A message's bytes, read, are the message's own fields; nothing may be behind them. -/
theorem readM_back {L : Lm} (hL : L.fit) (hr : L.rng) (hk : isK L.k = true) (ho : okL L = true) (r : List UInt8) : readM (bytesL L ++ r) = if r = [] then (onlyL L, 0) else (zeroL, 8) := by
  have hb : (inStart (bytesL L ++ r)).byte = (L.k.toNat, ⟨(fdsL L.k).flatMap (fun f => f.put L) ++ r, 0 + 1, 0⟩) := rfl
  obtain ⟨k', e⟩ := runF_back hL hr r (fdsL L.k) (fds_nodup _) (okL_of ho) (kindL L.k) (0 + 1) (kindL_fit _) (fun _ => rfl)
  rw [readM_run hb rfl hk 0 _ _ e, if_pos rfl]
  by_cases h : r = []
  · rw [if_pos h, if_pos (by unfold InS.fin; rw [if_pos rfl, h]; rfl)]; rfl
  · have hf : (InS.mk r k' 0).fin = 8 := by unfold InS.fin; rw [if_pos rfl, if_neg (by simpa using h)]
    rw [if_neg h, if_neg (by rw [hf]; decide), hf]
theorem readM_cut {L : Lm} (hL : L.fit) (hr : L.rng) (hk : isK L.k = true) (ho : okL L = true) {j : Nat} (hj : j < (bytesL L).length) : readM ((bytesL L).take j) = (zeroL, 7) := by
  cases j with
  | zero => rw [List.take_zero]; exact readM_err (kb := 0) (y := ⟨[], 0, 7⟩) rfl (by simp)
  | succ j =>
    have hj' : j < ((fdsL L.k).flatMap (fun f => f.put L)).length := by unfold bytesL at hj; rw [List.length_cons] at hj; omega
    have hb : (inStart ((bytesL L).take (j + 1))).byte = (L.k.toNat, ⟨((fdsL L.k).flatMap (fun f => f.put L)).take j, 0 + 1, 0⟩) := rfl
    have e := runF_cut hL hr [] (fdsL L.k) (fds_nodup _) (okL_of ho) (kindL L.k) (0 + 1) j (kindL_fit _) (fun _ => rfl) hj'
    rw [List.append_nil] at e
    obtain ⟨⟨a, b, c⟩, eR⟩ : ∃ R, R = runF (fdsL L.k) (kindL L.k) ⟨((fdsL L.k).flatMap (fun f => f.put L)).take j, 0 + 1, 0⟩ := ⟨_, rfl⟩
    rw [← eR] at e
    simp only at e
    subst e
    rw [readM_run hb rfl hk _ _ _ eR.symm, if_neg (by decide)]
theorem bytesM_eq {L : Lm} (hL : L.fit) (hr : L.rng) : bytesM L = if isK L.k = true then (if okL L = true ∧ onlyL L = L then (bytesL L, 0) else ([], 1)) else ([], 10) := by
  unfold bytesM
  by_cases hk : isK L.k = true
  · rw [if_pos hk, if_pos hk]
    by_cases ho : okL L = true
    · have e := readM_back hL hr hk ho []
      rw [List.append_nil, if_pos rfl] at e
      have hE : readM (L.k :: (fdsL L.k).flatMap (fun f => f.put L)) = (onlyL L, 0) := e
      by_cases hs : onlyL L = L
      · rw [if_pos ⟨ho, by rw [hE, hs]⟩, if_pos ⟨ho, hs⟩]; rfl
      · rw [if_neg (fun h => hs (by have := h.2; rw [hE] at this; injection this)), if_neg (fun h => hs h.2)]
    · rw [if_neg (fun h => ho h.1), if_neg (fun h => ho h.1)]
  · rw [if_neg hk, if_neg hk]
theorem runF_fit0 : ∀ (l : List Fld) (L : Lm) (x : InS), L.fit → x.fit → (runF l L x).2.1.fit
  | [], _, _, h, _ => h
  | f :: l, L, x, h, hx => by
    obtain ⟨h1, h2⟩ := Fld.get_fit h hx f
    rw [runF]
    split
    · exact runF_fit0 l _ _ h1 h2
    · exact h1
/-! ### What is read has just its bytes -/
theorem prS_only : ∀ (n : Nat) (x : InS), (prS x n).2.err = 0 → x.rest = (prS x n).1.flatMap prBm ++ (prS x n).2.rest ∧ (prS x n).1.all okP = true
  | 0, x, _ => by simp [prS]
  | n + 1, x, h => by
    rw [prS_cons] at h ⊢
    obtain ⟨⟨a, y⟩, e1⟩ : ∃ R, R = x.text 33 := ⟨_, rfl⟩
    rw [← e1] at h ⊢
    simp only at h ⊢
    obtain ⟨⟨b, z⟩, e2⟩ : ∃ R, R = y.text 32 := ⟨_, rfl⟩
    rw [← e2] at h ⊢
    simp only at h ⊢
    obtain ⟨h1, h2⟩ := prS_only n z h
    have hz : z.err = 0 := by
      by_cases hz : z.err = 0
      · exact hz
      · rw [prS_err hz] at h; exact absurd h hz
    have hy : y.err = 0 := text_err0 (m := 32) (by rw [← e2]; exact hz)
    have hx : x.err = 0 := text_err0 (m := 33) (by rw [← e1]; exact hy)
    have t1 := text_ok e1.symm hx hy
    have t2 := text_ok e2.symm hy hz
    constructor
    · rw [List.flatMap_cons, prBm, t1.1, t2.1]
      simp only
      rw [h1]
      simp only [List.append_assoc]
    · rw [List.all_cons, h2, Bool.and_true, okP, Bool.and_eq_true, decide_eq_true_eq, decide_eq_true_eq]
      exact ⟨t1.2, t2.2⟩
theorem Fld.get_only {f : Fld} {A : Lm} {x : InS} (hA : A.fit) (hx : x.err = 0) (hs : Fld.say (f.get A x) = 0) (hp : f = .prs → A.prs = []) :
    x.rest = f.put (f.get A x).2.1 ++ (f.get A x).2.2.rest ∧ f.ok (f.get A x).2.1 = true ∧ (f = .bat → (f.get A x).2.1.be ≤ 9223372036854775807) := by
  obtain ⟨h0, hy⟩ := Fld.say_zero hs
  cases f with
  | num q =>
    simp only [Fld.get] at hy ⊢
    obtain ⟨⟨n, y⟩, e⟩ : ∃ R, R = x.most q.most := ⟨_, rfl⟩
    rw [← e] at hy ⊢
    simp only at hy ⊢
    obtain ⟨h1, h2⟩ := most_ok e.symm hx hy
    refine ⟨?_, ?_, fun h => by cases h⟩
    · simp only [Fld.put]; rw [Mf.gl_sl, Int.toNat_natCast]; exact h1
    · simp only [Fld.ok]; rw [Mf.gl_sl]; exact decide_eq_true ⟨by omega, by omega⟩
  | hash q =>
    have h2 := q.gl_len hA
    simp only [Fld.get] at hy ⊢
    by_cases hl : 32 ≤ x.rest.length
    · have e := hashS_first (q.gl A) x 32 (by omega) hx hl
      rw [e]
      refine ⟨?_, rfl, fun h => by cases h⟩
      simp only [Fld.put]
      rw [Hf.gl_sl, List.drop_of_length_le (by omega : (q.gl A).length ≤ 32), List.append_nil]
      exact (List.take_append_drop 32 x.rest).symm
    · have e := hashS_short (q.gl A) hx (n := 32) (by omega) (by omega)
      rw [e] at hy; cases hy
  | bat =>
    obtain ⟨⟨s, y⟩, e⟩ : ∃ R, R = x.text 512 := ⟨_, rfl⟩
    rw [Fld.bat_get e.symm] at h0 hy ⊢
    by_cases hye : y.err = 0
    · rw [if_pos hye] at h0 hy ⊢
      simp only at h0 ⊢
      obtain ⟨h1, h2⟩ := text_ok e.symm hx hye
      obtain ⟨⟨⟨i, b, d⟩, r⟩, er⟩ : ∃ R, R = readB s := ⟨_, rfl⟩
      rw [← er] at h0 ⊢
      simp only at h0 ⊢
      subst h0
      obtain ⟨g1, g2, g3⟩ := read_batonly er.symm
      have hb : bytesB (i : Int) (b : Int) d = (batB i b d, 0) := by rw [bytesB_ok g2, Int.toNat_natCast, Int.toNat_natCast]
      refine ⟨?_, ?_, fun _ => by omega⟩
      · simp only [Fld.put]; rw [hb, h1, g1]
      · simp only [Fld.ok]; rw [hb]; simp only [Bool.and_eq_true, decide_eq_true_eq]; rw [← g1]; exact ⟨rfl, h2⟩
    · rw [if_neg hye] at hy; exact absurd hy hye
  | prs =>
    simp only [Fld.get] at hy ⊢
    obtain ⟨⟨n, y⟩, e⟩ : ∃ R, R = x.most 48 := ⟨_, rfl⟩
    rw [← e] at hy ⊢
    simp only at hy ⊢
    have hye : y.err = 0 := by
      by_cases hye : y.err = 0
      · exact hye
      · rw [prS_err hye] at hy; exact absurd hy hye
    obtain ⟨h1, h2⟩ := most_ok e.symm hx hye
    obtain ⟨h3, h4⟩ := prS_only n y hy
    have hl := prS_len y n
    rw [hp rfl]
    refine ⟨?_, ?_, fun h => by cases h⟩
    · simp only [Fld.put, List.nil_append]; rw [hl, h1, h3]; simp only [List.append_assoc]
    · simp only [Fld.ok, List.nil_append, Bool.and_eq_true, decide_eq_true_eq]; exact ⟨by rw [hl]; exact h2, h4⟩
theorem runF_only : ∀ (l : List Fld), l.Nodup → ∀ (A : Lm) (x : InS) (L : Lm) (y : InS), A.fit → x.fit → x.err = 0 → (.prs ∈ l → A.prs = []) → runF l A x = (0, L, y) →
    x.rest = l.flatMap (fun f => f.put L) ++ y.rest ∧ y.err = 0 ∧ (∀ f ∈ l, f.ok L = true) ∧ (.bat ∈ l → L.be ≤ 9223372036854775807)
  | [], _, A, x, L, y, _, _, hx, _, h => by
    simp only [runF, Prod.mk.injEq] at h
    obtain ⟨_, rfl, rfl⟩ := h
    exact ⟨rfl, hx, by simp, by simp⟩
  | f :: l, hd, A, x, L, y, hA, hxf, hx, hp, h => by
    obtain ⟨hf, hd⟩ := List.nodup_cons.1 hd
    rw [runF] at h
    split at h
    · rename_i hs
      obtain ⟨g1, g2, g3⟩ := f.get_only hA hx hs (fun e => hp (e ▸ List.mem_cons_self))
      obtain ⟨f1, f2⟩ := Fld.get_fit hA hxf f
      have hpr : .prs ∈ l → (f.get A x).2.1.prs = [] := fun hm => by
        have hne : Fld.prs ≠ f := fun e => hf (e ▸ hm)
        exact (Fld.get_other hne A x : (f.get A x).2.1.prs = A.prs).trans (hp (List.mem_cons_of_mem _ hm))
      obtain ⟨k1, k2, k3, k4⟩ := runF_only l hd _ _ L y f1 f2 (Fld.say_zero hs).2 hpr h
      have hq := runF_other hf (f.get A x).2.1 (f.get A x).2.2
      rw [h] at hq
      refine ⟨?_, k2, ?_, ?_⟩
      · rw [List.flatMap_cons, Fld.put_eqv hq, List.append_assoc, ← k1]; exact g1
      · intro g hg
        rcases List.mem_cons.1 hg with rfl | hg
        · rw [Fld.ok_eqv hq]; exact g2
        · exact k3 g hg
      · intro hm
        rcases List.mem_cons.1 hm with rfl | hm
        · have hq' : L.be = _ := hq.2.1
          rw [hq']; exact g3 rfl
        · exact k4 hm
    · rename_i hs
      simp only [Prod.mk.injEq] at h
      exact absurd h.1 hs
theorem Fld.cp_k (f : Fld) (B A : Lm) : (f.cp B A).k = A.k := by
  cases f with
  | num q => cases q <;> rfl
  | hash q => cases q <;> rfl
  | bat => rfl
  | prs => rfl
theorem Fld.get_k (f : Fld) (A : Lm) (x : InS) : (f.get A x).2.1.k = A.k := by
  rw [f.get_cp]; exact f.cp_k _ _
theorem runF_k : ∀ (l : List Fld) (A : Lm) (x : InS), (runF l A x).2.1.k = A.k
  | [], _, _ => rfl
  | f :: l, A, x => by
    rw [runF]
    split
    · rw [runF_k l, f.get_k]
    · exact f.get_k A x
theorem prB_len {x : List UInt8 × List UInt8} (h : okP x = true) : (prBm x).length ≤ 85 := by
  simp only [okP, Bool.and_eq_true, decide_eq_true_eq] at h
  have := numL_length_le x.1.length (by omega)
  have := numL_length_le x.2.length (by omega)
  unfold prBm textL
  simp only [List.length_append]; omega
theorem prsB_len : ∀ {l : List (List UInt8 × List UInt8)}, l.all okP = true → (l.flatMap prBm).length ≤ l.length * 85
  | [], _ => by simp
  | x :: l, h => by
    rw [List.all_cons, Bool.and_eq_true] at h
    have h1 := prB_len h.1
    have h2 := prsB_len h.2
    simp only [List.flatMap_cons, List.length_append, List.length_cons]; omega
theorem rng_of {L : Lm} {l : List Fld} {k : UInt8} (h1 : ∀ f ∈ l, f.ok L = true) (h2 : ∀ f, f ∉ l → f.eqv L (kindL k)) (h3 : .bat ∈ l → L.be ≤ 9223372036854775807) : L.rng := by
  have hb : L.be ≤ 9223372036854775807 ∧ L.ops.length ≤ 1000 ∧ ∀ x ∈ L.ops, x.2.1.length ≤ 100000 ∧ x.2.2.length ≤ 100000 := by
    by_cases hm : Fld.bat ∈ l
    · have ho := h1 _ hm
      simp only [Fld.ok, Bool.and_eq_true, beq_iff_eq, decide_eq_true_eq] at ho
      obtain ⟨g1, _⟩ := bytes_bat ho.1
      have g2 := right_ok g1
      exact ⟨h3 hm, by omega, fun x hx => by obtain ⟨_, k2, k3, _⟩ := right_fit g1 x hx; omega⟩
    · have hq : L.bi = 0 ∧ L.be = 0 ∧ L.ops = [] := h2 _ hm
      rw [hq.2.1, hq.2.2]
      exact ⟨by omega, by simp, by simp⟩
  have hp : L.prs.length ≤ 1000 ∧ (∀ x ∈ L.prs, x.1.length ≤ 100000 ∧ x.2.length ≤ 100000) ∧ (L.prs.flatMap prBm).length ≤ 100000 := by
    by_cases hm : Fld.prs ∈ l
    · have ho := h1 _ hm
      simp only [Fld.ok, Bool.and_eq_true, decide_eq_true_eq] at ho
      have := prsB_len ho.2
      refine ⟨by omega, fun x hx => ?_, by omega⟩
      have := List.all_eq_true.1 ho.2 x hx
      simp only [okP, Bool.and_eq_true, decide_eq_true_eq] at this
      omega
    · have hq : L.prs = [] := h2 _ hm
      rw [hq]
      exact ⟨by simp, by simp, by simp⟩
  refine ⟨fun q => ?_, hb.1, hb.2.1, hb.2.2, hp.1, hp.2.1, hp.2.2⟩
  by_cases hm : Fld.num q ∈ l
  · have ho := h1 _ hm
    simp only [Fld.ok, decide_eq_true_eq] at ho
    have := q.most_le
    omega
  · have hq : q.gl L = q.gl (kindL k) := h2 _ hm
    have : q.gl (kindL k) = 0 := by cases q <;> rfl
    omega
theorem fin_zero {y : InS} (h : y.fin = 0) (hy : y.err = 0) : y.rest = [] := by
  unfold InS.fin at h
  rw [if_pos hy] at h
  split at h
  · rename_i h0; exact List.length_eq_zero_iff.1 h0
  · cases h
/-- What is read has just its bytes, and is right. -/
theorem readM_only {s : List UInt8} (hs : s.length ≤ 1000000) {L : Lm} (h : readM s = (L, 0)) : s = bytesL L ∧ isK L.k = true ∧ okL L = true ∧ onlyL L = L ∧ L.fit ∧ L.rng := by
  have hst : (inStart s).fit := by unfold inStart InS.fit; simp; omega
  obtain ⟨kb, hkb⟩ := byte_some (inStart s)
  obtain ⟨y, ey⟩ : ∃ y, y = (inStart s).byte.2 := ⟨_, rfl⟩
  have hb : (inStart s).byte = (kb.toNat, y) := by rw [ey, ← hkb]
  have hfy : y.fit := by rw [ey]; exact InS.byte_fit hst
  by_cases hy : y.err = 0
  · cases hk : isK kb with
    | false => rw [readM_kind hb hy hk] at h; simp at h
    | true =>
      obtain ⟨⟨r, L', x⟩, er⟩ : ∃ R, R = runF (fdsL kb) (kindL kb) y := ⟨_, rfl⟩
      rw [readM_run hb hy hk r L' x er.symm] at h
      by_cases hr : r = 0
      · subst hr
        rw [if_pos rfl] at h
        by_cases hf : x.fin = 0
        · rw [if_pos hf] at h
          simp only [Prod.mk.injEq, and_true] at h
          subst h
          obtain ⟨h1, h2, h3, h4⟩ := runF_only (fdsL kb) (fds_nodup _) (kindL kb) y L' x (kindL_fit _) hfy hy (fun _ => rfl) er.symm
          have hk' : L'.k = kb := by have := runF_k (fdsL kb) (kindL kb) y; rw [← er] at this; exact this
          have hfit : L'.fit := by have := runF_fit0 (fdsL kb) (kindL kb) y (kindL_fit _) hfy; rw [← er] at this; exact this
          rw [fin_zero hf h2, List.append_nil] at h1
          have hrest : s = kb :: y.rest := by
            cases s with
            | nil => rw [show (inStart []).byte = (0, ⟨[], 0, 7⟩) from rfl] at hb; injection hb with _ hb; rw [← hb] at hy; cases hy
            | cons b s =>
              rw [show (inStart (b :: s)).byte = (b.toNat, ⟨s, 1, 0⟩) from rfl] at hb
              injection hb with hb1 hb2
              rw [← hb2, UInt8.toNat_inj.1 hb1]
          subst hk'
          refine ⟨by unfold bytesL; rw [← h1]; exact hrest, hk, List.all_eq_true.2 h3, (runF_cp (fds_nodup _) er.symm).symm, hfit, ?_⟩
          exact rng_of (l := fdsL L'.k) (k := L'.k) h3 (fun f hf => by have := runF_other hf (kindL L'.k) y; rw [← er] at this; exact this) h4
        · rw [if_neg hf] at h
          injection h with _ h
          exact absurd h hf
      · rw [if_neg hr] at h
        injection h with _ h
        exact absurd h hr
  · rw [readM_err hb hy] at h
    injection h with _ h
    exact absurd h hy
end TL
end Go

/- The walk of the laws' Great, of messages. Conditions: lengths. -/
namespace Go
namespace TL
open Go.RowKit
/-- How much there is in pairs, as statements count it. -/
def sumP : List (List UInt8 × List UInt8) → Nat
  | [] => 0
  | x :: l => min x.1.length 30001 + min x.2.length 30001 + sumP l
def sumO : List Opr → Nat
  | [] => 0
  | x :: l => min x.2.1.length 30001 + min x.2.2.length 30001 + sumO l
theorem sumP_app : ∀ (l m : List (List UInt8 × List UInt8)), sumP (l ++ m) = sumP l + sumP m
  | [], m => by simp [sumP]
  | x :: l, m => by rw [List.cons_append, sumP, sumP, sumP_app l m]; omega
theorem sumO_app : ∀ (l m : List Opr), sumO (l ++ m) = sumO l + sumO m
  | [], m => by simp [sumO]
  | x :: l, m => by rw [List.cons_append, sumO, sumO, sumO_app l m]; omega
theorem sumP_take {l : List (List UInt8 × List UInt8)} {k : Nat} {x : List UInt8 × List UInt8} (h : l[k]? = some x) : sumP (l.take (k + 1)) = sumP (l.take k) + (min x.1.length 30001 + min x.2.length 30001) := by
  obtain ⟨hk, rfl⟩ := List.getElem?_eq_some_iff.1 h
  rw [List.take_succ_eq_append_getElem hk, sumP_app]; simp [sumP]
theorem sumO_take {l : List Opr} {k : Nat} {x : Opr} (h : l[k]? = some x) : sumO (l.take (k + 1)) = sumO (l.take k) + (min x.2.1.length 30001 + min x.2.2.length 30001) := by
  obtain ⟨hk, rfl⟩ := List.getElem?_eq_some_iff.1 h
  rw [List.take_succ_eq_append_getElem hk, sumO_app]; simp [sumO]
theorem sumP_le : ∀ (l : List (List UInt8 × List UInt8)), sumP l ≤ l.length * 60002
  | [] => by simp [sumP]
  | x :: l => by have := sumP_le l; rw [sumP, List.length_cons]; omega
theorem sumO_le : ∀ (l : List Opr), sumO l ≤ l.length * 60002
  | [] => by simp [sumO]
  | x :: l => by have := sumO_le l; rw [sumO, List.length_cons]; omega
/-- Is a message more than statements go through? -/
def greatL (L : Lm) : Bool := decide (300 < L.prs.length) || (decide (300 < L.ops.length) || decide (30000 < sumP (L.prs.take 301) + sumO (L.ops.take 301)))
end TL
end Go
namespace Go.Proofs.YtidadhbaomieiaaGreat
open Go.RowKit Go.TL
set_option maxRecDepth 100000 in
set_option maxHeartbeats 16000000 in
theorem Great_c (L : Lm) (ov pv : Value) (w : World) (hL : L.fit) (S : SeesL w 3 opV ov L.ops) (T : SeesL w 2 prV pv L.prs) (ho : ∀ x ∈ L.ops, x.2.1.length ≤ maxLen ∧ x.2.2.length ≤ maxLen) (hp : ∀ x ∈ L.prs, x.1.length ≤ maxLen ∧ x.2.length ≤ maxLen) :
    Calls Tryz.prog 56 #[.agg (msgC (L.ms ov pv)).toArray] w fun e w' => e = .returned (.bool (greatL L)) ∧ Below w.heap.size w w' := by
  have M := Mem.start [] w
  obtain ⟨op, oc, rfl, _⟩ := S.form
  obtain ⟨pp, pc, rfl, _⟩ := T.form
  have X := msg_cells (Lm.ms_fit hL (ov := .slice op L.ops.length oc) (pv := .slice pp L.prs.length pc) rfl rfl)
  have HO : (msgC (L.ms (.slice op L.ops.length oc) (.slice pp L.prs.length pc)))[6]? = some (.slice op L.ops.length oc) := rfl
  have HP := X.pv
  have HO := Lib.hid HO
  replace HP := Lib.hid HP
  obtain ⟨C, eC⟩ : ∃ C, C = msgC (L.ms (.slice op L.ops.length oc) (.slice pp L.prs.length pc)) := ⟨_, rfl⟩
  rw [← eC] at HO HP ⊢
  clear X eC
  simp only [Lm.ms] at HO HP
  have G1 : 300 < L.prs.length → greatL L = true := fun h => by unfold greatL; rw [decide_eq_true h]; rfl
  have G2 : 300 < L.ops.length → greatL L = true := fun h => by unfold greatL; rw [decide_eq_true h]; simp
  have G3 : L.prs.length ≤ 300 → L.ops.length ≤ 300 → greatL L = decide (30000 < sumP (L.prs.take 301) + sumO (L.ops.take 301)) := fun h h' => by unfold greatL; rw [decide_eq_false (by omega), decide_eq_false (by omega)]; rfl
  obtain ⟨R, eR⟩ : ∃ R, R = greatL L := ⟨_, rfl⟩
  rw [← eR] at G1 G2 G3 ⊢
  clear eR
  obtain ⟨ops, eo⟩ : ∃ o, o = L.ops := ⟨_, rfl⟩
  obtain ⟨prs, ep⟩ : ∃ o, o = L.prs := ⟨_, rfl⟩
  rw [← eo] at S ho HO G2 G3
  rw [← ep] at T hp HP G1 G3
  clear eo ep hL
  replace G3 := Lib.hid G3
  go_enter Tryz.func56, Tryz.ntmps56
  go_wp2_with ((first | ((with_reducible refine tBox (some 1) ?_); refine w_box M _ _ rfl rfl _ rfl (C) rfl ?_; clear M; intro gm w1 M) | ((with_reducible refine tLoad ?_); go_must (refine w_at _ _ rfl (by exact ev_tmp rfl) ?_; intro hx; (first | refine w_load M 0 _ _ rfl rfl hx rfl (by decide +kernel) (by with_reducible first | exact HP.out | exact HO.out) ?_); clear hx)) | ((with_reducible refine tGuard ?_); refine gdS ?_) | fail | ((with_reducible refine tLoad ?_); go_must (refine ldS ?_)) | ((with_reducible refine tStore ?_); go_must (refine stS ?_; clear M; intro w1 M; (try simp only [setC] at M))) | ((with_reducible refine tBox _ ?_); (refine bxA M ?_; clear M; intro g w1 M))) <;> (try conv => arg 5; simp only [Act.put, List.setIfInBounds_toArray, setC]))
  go_loopw [3, 4] (fun nv iv wr => ∃ k : Nat, k ≤ prs.length ∧ k ≤ 301 ∧ iv = .int .i64 k ∧ nv = .int .i64 (sumP (prs.take k)) ∧ Mem [] w wr [.row gm C]) (fun _ iv _ => prs.length - (intOf iv).toNat)
  case atStart => exact ⟨0, by omega, by omega, rfl, rfl, M⟩
  case round =>
    clear M
    obtain ⟨k, hk, hk1, rfl, rfl, M⟩ := hrel
    by_cases hlt : k < prs.length ∧ k ≤ 300
    · obtain ⟨hlt, hk3⟩ := hlt
      obtain ⟨g, so, rfl⟩ := T.addr (by omega)
      obtain ⟨⟨a, b⟩, hx⟩ : ∃ x, prs[k]? = some x := ⟨_, List.getElem?_eq_getElem hlt⟩
      obtain ⟨ha, hb⟩ := hp (a, b) (List.mem_of_getElem? hx)
      unfold maxLen at ha hb
      simp only at ha hb
      have HS := sumP_take hx
      have hsl := sumP_le (prs.take k)
      rw [List.length_take] at hsl
      obtain ⟨s, es⟩ : ∃ s, s = sumP (prs.take k) := ⟨_, rfl⟩
      rw [← es] at HS hsl ⊢
      simp only at HS
      replace hsl : s ≤ 18060602 := by have : min k prs.length ≤ 301 := by omega
                                       omega
      have HX := Lib.hid hx
      replace HS := Lib.hid HS
      clear hx es
      have e1 := I64_nat (s + (min a.length 30001)) (by omega)
      have e2 := I64_nat (s + (min a.length 30001 + min b.length 30001)) (by omega)
      go_wp2_with ((first | ((with_reducible refine tGuard ?_); (with_reducible refine w_stripE ?_ ?_); (focus (refine ⟨_, rfl, ?_⟩; first | (with_reducible rfl) | exact decide_eq_false (by omega) | exact decide_eq_true (by omega)))) | ((with_reducible refine tGuard ?_); first | ((with_reducible refine w_skip1 ?_ ?_); (focus (refine ⟨_, rfl, ?_⟩; first | (with_reducible rfl) | exact decide_eq_false (by omega) | exact decide_eq_true (by omega)))) | ((with_reducible refine w_skip0 ?_ ?_); (focus (refine ⟨_, rfl, ?_⟩; first | (with_reducible rfl) | exact decide_eq_false (by omega) | exact decide_eq_true (by omega))))) | ((with_reducible show Code.wp _ (Code.region 5 _ _) _ _ _); go_must (have MR := M; refine region_fork (.rd 0 (.rd 1 (.rd 3 (.rd 10 (.rd 12 (.rd 2 (.rd 4 (.rd 5 (.rd 6 (.rd 7 (.rd 11 (.rd 13 (.rd 14 (.rd 15 (.rd 16 (.alt 8 (.rd 9 (.wr 17 (.rd 18 (.rd 19 .nil)))) (.wr 17 (.wr 8 (.rd 9 (.rd 18 (.rd 19 .nil))))))))))))))))))))) [(17, .int), (25, .int), (26, .int), (34, .int)] [(2, _), (6, _), (11, _), (15, _)] (IxOk MR [0]) 20 (by kernel_rfl) (by kernel_rfl) rfl (by kernel_rfl) (lows_cons (stab_ix MR 0 106 rfl rfl (by decide) (by decide +kernel) HP.out) (lows_cons (stab_see MR T HX.out 0 rfl (by decide +kernel) rfl) (lows_cons (stab_ix MR 0 106 rfl rfl (by decide) (by decide +kernel) HP.out) (lows_cons (stab_see MR T HX.out 1 rfl (by decide +kernel) rfl) lows_nil)))) (ixOk_self MR _) ?_; replace M := M.drew; simp only [planT, opAt, List.getElem?_toArray, List.getElem?_cons_zero, List.getElem?_cons_succ, Option.getD_some])) | ((with_reducible refine tLoad ?_); go_must (refine w_at _ _ rfl (by exact ev_tmp rfl) ?_; intro hx; (first | refine w_load M 0 _ _ rfl rfl hx rfl (by decide +kernel) (by with_reducible first | exact HP.out | exact HO.out) ?_ | refine w_see M T HX.out _ _ rfl hx rfl (by decide +kernel) 0 (by first | (with_reducible rfl) | omega) rfl ?_ | refine w_see M T HX.out _ _ rfl hx rfl (by decide +kernel) 1 (by first | (with_reducible rfl) | omega) rfl ?_); clear hx)) | (with_reducible refine Seg.alt ?_ ?_) | ((with_reducible show Seg _ _ _ _); go_must (first | refine Seg.intro ⟨fun h => absurd rfl h, ?_⟩ | refine Seg.intro ⟨fun _ => ixA, ?_⟩ | refine Seg.intro ⟨ndA, atA, ?_⟩)) | ((with_reducible show OnlyN _ _ _ _ _); refine OnlyN.intro (by kernel_rfl) ?_) | ((with_reducible refine tGuard ?_); refine gdS ?_) | fail | ((with_reducible refine tLoad ?_); go_must (refine ldS ?_)) | ((with_reducible refine tStore ?_); go_must (refine stS ?_; clear M; intro w1 M; (try simp only [setC] at M))) | ((with_reducible refine tBox _ ?_); (refine bxA M ?_; clear M; intro g w1 M))) <;> (try conv => arg 5; simp only [Act.put, List.setIfInBounds_toArray, setC]))
      all_goals
        refine ⟨⟨k + 1, by omega, by omega, by go_num, by rw [HS.out]; congr 1; omega, M⟩, ?_⟩
        simp [intOf]; omega
    · have hT : prs.take k = prs.take 301 := by
        by_cases h : k < prs.length
        · rw [show k = 301 by omega]
        · rw [List.take_of_length_le (by omega), List.take_of_length_le (by omega)]
      rw [hT]
      clear hT
      have hsp := sumP_le (prs.take 301)
      rw [List.length_take] at hsp
      obtain ⟨sp, esp⟩ : ∃ s, s = sumP (prs.take 301) := ⟨_, rfl⟩
      rw [← esp] at hsp ⊢
      replace hsp : sp ≤ 18060602 := by have : min 301 prs.length ≤ 301 := by omega
                                        omega
      have ESP := Lib.hid esp
      clear esp
      by_cases hkl : k < prs.length
      · have hk3 : ¬ k ≤ 300 := by omega
        clear hlt
        go_wp2_with ((first | ((with_reducible refine tGuard ?_); (with_reducible refine w_stripE ?_ ?_); (focus (refine ⟨_, rfl, ?_⟩; first | (with_reducible rfl) | exact decide_eq_false (by omega) | exact decide_eq_true (by omega)))) | ((with_reducible refine tGuard ?_); first | ((with_reducible refine w_skip1 ?_ ?_); (focus (refine ⟨_, rfl, ?_⟩; first | (with_reducible rfl) | exact decide_eq_false (by omega) | exact decide_eq_true (by omega)))) | ((with_reducible refine w_skip0 ?_ ?_); (focus (refine ⟨_, rfl, ?_⟩; first | (with_reducible rfl) | exact decide_eq_false (by omega) | exact decide_eq_true (by omega))))) | ((with_reducible refine tLoad ?_); go_must (refine w_at _ _ rfl (by exact ev_tmp rfl) ?_; intro hx; (first | refine w_load M 0 _ _ rfl rfl hx rfl (by decide +kernel) (by with_reducible first | exact HP.out | exact HO.out) ?_); clear hx)) | ((with_reducible refine tGuard ?_); refine gdS ?_) | fail | ((with_reducible refine tLoad ?_); go_must (refine ldS ?_)) | ((with_reducible refine tStore ?_); go_must (refine stS ?_; clear M; intro w1 M; (try simp only [setC] at M))) | ((with_reducible refine tBox _ ?_); (refine bxA M ?_; clear M; intro g w1 M))) <;> (try conv => arg 5; simp only [Act.put, List.setIfInBounds_toArray, setC]))
        go_loopw [3, 5] (fun nv iv wr => ∃ j : Nat, j ≤ ops.length ∧ j ≤ 301 ∧ iv = .int .i64 j ∧ nv = .int .i64 ((sp + sumO (ops.take j) : Nat) : Int) ∧ Mem [] w wr [.row gm C]) (fun _ iv _ => ops.length - (intOf iv).toNat)
        case atStart => exact ⟨0, by omega, by omega, rfl, rfl, M⟩
        case round =>
          clear M
          obtain ⟨j, hj, hj1, rfl, rfl, M⟩ := hrel
          by_cases hjl : j < ops.length ∧ j ≤ 300
          · obtain ⟨hjl, hj3⟩ := hjl
            obtain ⟨g, so, rfl⟩ := S.addr (by omega)
            obtain ⟨⟨q, a, b⟩, hx⟩ : ∃ x, ops[j]? = some x := ⟨_, List.getElem?_eq_getElem hjl⟩
            obtain ⟨ha, hb⟩ := ho (q, a, b) (List.mem_of_getElem? hx)
            unfold maxLen at ha hb
            simp only at ha hb
            have HS := sumO_take hx
            have hsl := sumO_le (ops.take j)
            rw [List.length_take] at hsl
            obtain ⟨s, es⟩ : ∃ s, s = sumO (ops.take j) := ⟨_, rfl⟩
            rw [← es] at HS hsl ⊢
            simp only at HS
            replace hsl : s ≤ 18060602 := by have : min j ops.length ≤ 301 := by omega
                                             omega
            have HX := Lib.hid hx
            replace HS := Lib.hid HS
            clear hx es
            have e1 := I64_nat (sp + s + (min a.length 30001)) (by omega)
            have e2 := I64_nat (sp + s + (min a.length 30001 + min b.length 30001)) (by omega)
            go_wp2_with ((first | ((with_reducible refine tGuard ?_); (with_reducible refine w_stripE ?_ ?_); (focus (refine ⟨_, rfl, ?_⟩; first | (with_reducible rfl) | exact decide_eq_false (by omega) | exact decide_eq_true (by omega)))) | ((with_reducible refine tGuard ?_); first | ((with_reducible refine w_skip1 ?_ ?_); (focus (refine ⟨_, rfl, ?_⟩; first | (with_reducible rfl) | exact decide_eq_false (by omega) | exact decide_eq_true (by omega)))) | ((with_reducible refine w_skip0 ?_ ?_); (focus (refine ⟨_, rfl, ?_⟩; first | (with_reducible rfl) | exact decide_eq_false (by omega) | exact decide_eq_true (by omega))))) | ((with_reducible show Code.wp _ (Code.region 9 _ _) _ _ _); go_must (have MR := M; refine region_fork (.rd 0 (.rd 1 (.rd 2 (.rd 4 (.rd 11 (.rd 12 (.rd 14 (.rd 3 (.rd 5 (.rd 6 (.rd 7 (.rd 8 (.rd 13 (.rd 15 (.rd 16 (.rd 17 (.rd 18 (.alt 9 (.rd 10 (.wr 19 (.rd 20 (.rd 21 .nil)))) (.wr 19 (.wr 9 (.rd 10 (.rd 20 (.rd 21 .nil))))))))))))))))))))))) [(48, .int), (57, .int), (58, .int), (67, .int)] [(3, _), (7, _), (13, _), (17, _)] (IxOk MR [0]) 22 (by kernel_rfl) (by kernel_rfl) rfl (by kernel_rfl) (lows_cons (stab_ix MR 0 6 rfl rfl (by decide) (by decide +kernel) HO.out) (lows_cons (stab_see MR S HX.out 1 rfl (by decide +kernel) rfl) (lows_cons (stab_ix MR 0 6 rfl rfl (by decide) (by decide +kernel) HO.out) (lows_cons (stab_see MR S HX.out 2 rfl (by decide +kernel) rfl) lows_nil)))) (ixOk_self MR _) ?_; replace M := M.drew; simp only [planT, opAt, List.getElem?_toArray, List.getElem?_cons_zero, List.getElem?_cons_succ, Option.getD_some])) | ((with_reducible refine tLoad ?_); go_must (refine w_at _ _ rfl (by exact ev_tmp rfl) ?_; intro hx; (first | refine w_load M 0 _ _ rfl rfl hx rfl (by decide +kernel) (by with_reducible first | exact HP.out | exact HO.out) ?_ | refine w_see M S HX.out _ _ rfl hx rfl (by decide +kernel) 1 (by first | (with_reducible rfl) | omega) rfl ?_ | refine w_see M S HX.out _ _ rfl hx rfl (by decide +kernel) 2 (by first | (with_reducible rfl) | omega) rfl ?_); clear hx)) | (with_reducible refine Seg.alt ?_ ?_) | ((with_reducible show Seg _ _ _ _); go_must (first | refine Seg.intro ⟨fun h => absurd rfl h, ?_⟩ | refine Seg.intro ⟨fun _ => ixA, ?_⟩ | refine Seg.intro ⟨ndA, atA, ?_⟩)) | ((with_reducible show OnlyN _ _ _ _ _); refine OnlyN.intro (by kernel_rfl) ?_) | ((with_reducible refine tGuard ?_); refine gdS ?_) | fail | ((with_reducible refine tLoad ?_); go_must (refine ldS ?_)) | ((with_reducible refine tStore ?_); go_must (refine stS ?_; clear M; intro w1 M; (try simp only [setC] at M))) | ((with_reducible refine tBox _ ?_); (refine bxA M ?_; clear M; intro g w1 M))) <;> (try conv => arg 5; simp only [Act.put, List.setIfInBounds_toArray, setC]))
            all_goals
              refine ⟨⟨j + 1, by omega, by omega, by go_num, by rw [HS.out]; congr 1; omega, M⟩, ?_⟩
              simp [intOf]; omega
          · have hT : ops.take j = ops.take 301 := by
              by_cases h : j < ops.length
              · rw [show j = 301 by omega]
              · rw [List.take_of_length_le (by omega), List.take_of_length_le (by omega)]
            rw [hT]
            clear hT
            obtain ⟨s, es⟩ : ∃ s, s = sumO (ops.take 301) := ⟨_, rfl⟩
            rw [← es]
            have ES := Lib.hid es
            clear es
            by_cases hjl2 : j < ops.length
            · have hj3 : ¬ j ≤ 300 := by omega
              clear hjl
              by_cases hp3 : 300 < prs.length
              · first | (exfalso; omega) | (have e0 := G1 hp3; subst e0; go_wp2_with ((first | ((with_reducible refine tGuard ?_); (with_reducible refine w_stripE ?_ ?_); (focus (refine ⟨_, rfl, ?_⟩; first | (with_reducible rfl) | exact decide_eq_false (by omega) | exact decide_eq_true (by omega)))) | ((with_reducible refine tGuard ?_); first | ((with_reducible refine w_skip1 ?_ ?_); (focus (refine ⟨_, rfl, ?_⟩; first | (with_reducible rfl) | exact decide_eq_false (by omega) | exact decide_eq_true (by omega)))) | ((with_reducible refine w_skip0 ?_ ?_); (focus (refine ⟨_, rfl, ?_⟩; first | (with_reducible rfl) | exact decide_eq_false (by omega) | exact decide_eq_true (by omega))))) | ((with_reducible refine tLoad ?_); go_must (refine w_at _ _ rfl (by exact ev_tmp rfl) ?_; intro hx; (first | refine w_load M 0 _ _ rfl rfl hx rfl (by decide +kernel) (by with_reducible first | exact HP.out | exact HO.out) ?_); clear hx)) | ((with_reducible refine tGuard ?_); refine gdS ?_) | fail | ((with_reducible refine tLoad ?_); go_must (refine ldS ?_)) | ((with_reducible refine tStore ?_); go_must (refine stS ?_; clear M; intro w1 M; (try simp only [setC] at M))) | ((with_reducible refine tBox _ ?_); (refine bxA M ?_; clear M; intro g w1 M))) <;> (try conv => arg 5; simp only [Act.put, List.setIfInBounds_toArray, setC])); go_ret; exact ⟨rfl, M.below⟩)
              · by_cases ho3 : 300 < ops.length
                · first | (exfalso; omega) | (have e0 := G2 ho3; subst e0; go_wp2_with ((first | ((with_reducible refine tGuard ?_); (with_reducible refine w_stripE ?_ ?_); (focus (refine ⟨_, rfl, ?_⟩; first | (with_reducible rfl) | exact decide_eq_false (by omega) | exact decide_eq_true (by omega)))) | ((with_reducible refine tGuard ?_); first | ((with_reducible refine w_skip1 ?_ ?_); (focus (refine ⟨_, rfl, ?_⟩; first | (with_reducible rfl) | exact decide_eq_false (by omega) | exact decide_eq_true (by omega)))) | ((with_reducible refine w_skip0 ?_ ?_); (focus (refine ⟨_, rfl, ?_⟩; first | (with_reducible rfl) | exact decide_eq_false (by omega) | exact decide_eq_true (by omega))))) | ((with_reducible refine tLoad ?_); go_must (refine w_at _ _ rfl (by exact ev_tmp rfl) ?_; intro hx; (first | refine w_load M 0 _ _ rfl rfl hx rfl (by decide +kernel) (by with_reducible first | exact HP.out | exact HO.out) ?_); clear hx)) | ((with_reducible refine tGuard ?_); refine gdS ?_) | fail | ((with_reducible refine tLoad ?_); go_must (refine ldS ?_)) | ((with_reducible refine tStore ?_); go_must (refine stS ?_; clear M; intro w1 M; (try simp only [setC] at M))) | ((with_reducible refine tBox _ ?_); (refine bxA M ?_; clear M; intro g w1 M))) <;> (try conv => arg 5; simp only [Act.put, List.setIfInBounds_toArray, setC])); go_ret; exact ⟨rfl, M.below⟩)
                · first | (exfalso; omega) | (have e0 := G3.out (by omega) (by omega); rw [← ESP.out, ← ES.out] at e0; subst e0; go_wp2_with ((first | ((with_reducible refine tGuard ?_); (with_reducible refine w_stripE ?_ ?_); (focus (refine ⟨_, rfl, ?_⟩; first | (with_reducible rfl) | exact decide_eq_false (by omega) | exact decide_eq_true (by omega)))) | ((with_reducible refine tGuard ?_); first | ((with_reducible refine w_skip1 ?_ ?_); (focus (refine ⟨_, rfl, ?_⟩; first | (with_reducible rfl) | exact decide_eq_false (by omega) | exact decide_eq_true (by omega)))) | ((with_reducible refine w_skip0 ?_ ?_); (focus (refine ⟨_, rfl, ?_⟩; first | (with_reducible rfl) | exact decide_eq_false (by omega) | exact decide_eq_true (by omega))))) | ((with_reducible refine tLoad ?_); go_must (refine w_at _ _ rfl (by exact ev_tmp rfl) ?_; intro hx; (first | refine w_load M 0 _ _ rfl rfl hx rfl (by decide +kernel) (by with_reducible first | exact HP.out | exact HO.out) ?_); clear hx)) | ((with_reducible refine tGuard ?_); refine gdS ?_) | fail | ((with_reducible refine tLoad ?_); go_must (refine ldS ?_)) | ((with_reducible refine tStore ?_); go_must (refine stS ?_; clear M; intro w1 M; (try simp only [setC] at M))) | ((with_reducible refine tBox _ ?_); (refine bxA M ?_; clear M; intro g w1 M))) <;> (try conv => arg 5; simp only [Act.put, List.setIfInBounds_toArray, setC])); go_ret; exact ⟨congrArg (fun b => Ending.returned (.bool b)) (by first | exact decide_eq_decide.2 (by omega) | (rw [decide_eq_false (show ¬ (300 : Int) < (prs.length : Int) by omega), decide_eq_false (show ¬ (300 : Int) < (ops.length : Int) by omega), Bool.false_or, Bool.false_or]; exact decide_eq_decide.2 (by omega))), M.below⟩)
            · clear hjl
              by_cases hp3 : 300 < prs.length
              · first | (exfalso; omega) | (have e0 := G1 hp3; subst e0; go_wp2_with ((first | ((with_reducible refine tGuard ?_); (with_reducible refine w_stripE ?_ ?_); (focus (refine ⟨_, rfl, ?_⟩; first | (with_reducible rfl) | exact decide_eq_false (by omega) | exact decide_eq_true (by omega)))) | ((with_reducible refine tGuard ?_); first | ((with_reducible refine w_skip1 ?_ ?_); (focus (refine ⟨_, rfl, ?_⟩; first | (with_reducible rfl) | exact decide_eq_false (by omega) | exact decide_eq_true (by omega)))) | ((with_reducible refine w_skip0 ?_ ?_); (focus (refine ⟨_, rfl, ?_⟩; first | (with_reducible rfl) | exact decide_eq_false (by omega) | exact decide_eq_true (by omega))))) | ((with_reducible refine tLoad ?_); go_must (refine w_at _ _ rfl (by exact ev_tmp rfl) ?_; intro hx; (first | refine w_load M 0 _ _ rfl rfl hx rfl (by decide +kernel) (by with_reducible first | exact HP.out | exact HO.out) ?_); clear hx)) | ((with_reducible refine tGuard ?_); refine gdS ?_) | fail | ((with_reducible refine tLoad ?_); go_must (refine ldS ?_)) | ((with_reducible refine tStore ?_); go_must (refine stS ?_; clear M; intro w1 M; (try simp only [setC] at M))) | ((with_reducible refine tBox _ ?_); (refine bxA M ?_; clear M; intro g w1 M))) <;> (try conv => arg 5; simp only [Act.put, List.setIfInBounds_toArray, setC])); go_ret; exact ⟨rfl, M.below⟩)
              · by_cases ho3 : 300 < ops.length
                · first | (exfalso; omega) | (have e0 := G2 ho3; subst e0; go_wp2_with ((first | ((with_reducible refine tGuard ?_); (with_reducible refine w_stripE ?_ ?_); (focus (refine ⟨_, rfl, ?_⟩; first | (with_reducible rfl) | exact decide_eq_false (by omega) | exact decide_eq_true (by omega)))) | ((with_reducible refine tGuard ?_); first | ((with_reducible refine w_skip1 ?_ ?_); (focus (refine ⟨_, rfl, ?_⟩; first | (with_reducible rfl) | exact decide_eq_false (by omega) | exact decide_eq_true (by omega)))) | ((with_reducible refine w_skip0 ?_ ?_); (focus (refine ⟨_, rfl, ?_⟩; first | (with_reducible rfl) | exact decide_eq_false (by omega) | exact decide_eq_true (by omega))))) | ((with_reducible refine tLoad ?_); go_must (refine w_at _ _ rfl (by exact ev_tmp rfl) ?_; intro hx; (first | refine w_load M 0 _ _ rfl rfl hx rfl (by decide +kernel) (by with_reducible first | exact HP.out | exact HO.out) ?_); clear hx)) | ((with_reducible refine tGuard ?_); refine gdS ?_) | fail | ((with_reducible refine tLoad ?_); go_must (refine ldS ?_)) | ((with_reducible refine tStore ?_); go_must (refine stS ?_; clear M; intro w1 M; (try simp only [setC] at M))) | ((with_reducible refine tBox _ ?_); (refine bxA M ?_; clear M; intro g w1 M))) <;> (try conv => arg 5; simp only [Act.put, List.setIfInBounds_toArray, setC])); go_ret; exact ⟨rfl, M.below⟩)
                · first | (exfalso; omega) | (have e0 := G3.out (by omega) (by omega); rw [← ESP.out, ← ES.out] at e0; subst e0; go_wp2_with ((first | ((with_reducible refine tGuard ?_); (with_reducible refine w_stripE ?_ ?_); (focus (refine ⟨_, rfl, ?_⟩; first | (with_reducible rfl) | exact decide_eq_false (by omega) | exact decide_eq_true (by omega)))) | ((with_reducible refine tGuard ?_); first | ((with_reducible refine w_skip1 ?_ ?_); (focus (refine ⟨_, rfl, ?_⟩; first | (with_reducible rfl) | exact decide_eq_false (by omega) | exact decide_eq_true (by omega)))) | ((with_reducible refine w_skip0 ?_ ?_); (focus (refine ⟨_, rfl, ?_⟩; first | (with_reducible rfl) | exact decide_eq_false (by omega) | exact decide_eq_true (by omega))))) | ((with_reducible refine tLoad ?_); go_must (refine w_at _ _ rfl (by exact ev_tmp rfl) ?_; intro hx; (first | refine w_load M 0 _ _ rfl rfl hx rfl (by decide +kernel) (by with_reducible first | exact HP.out | exact HO.out) ?_); clear hx)) | ((with_reducible refine tGuard ?_); refine gdS ?_) | fail | ((with_reducible refine tLoad ?_); go_must (refine ldS ?_)) | ((with_reducible refine tStore ?_); go_must (refine stS ?_; clear M; intro w1 M; (try simp only [setC] at M))) | ((with_reducible refine tBox _ ?_); (refine bxA M ?_; clear M; intro g w1 M))) <;> (try conv => arg 5; simp only [Act.put, List.setIfInBounds_toArray, setC])); go_ret; exact ⟨congrArg (fun b => Ending.returned (.bool b)) (by first | exact decide_eq_decide.2 (by omega) | (rw [decide_eq_false (show ¬ (300 : Int) < (prs.length : Int) by omega), decide_eq_false (show ¬ (300 : Int) < (ops.length : Int) by omega), Bool.false_or, Bool.false_or]; exact decide_eq_decide.2 (by omega))), M.below⟩)
      · clear hlt
        go_wp2_with ((first | ((with_reducible refine tGuard ?_); (with_reducible refine w_stripE ?_ ?_); (focus (refine ⟨_, rfl, ?_⟩; first | (with_reducible rfl) | exact decide_eq_false (by omega) | exact decide_eq_true (by omega)))) | ((with_reducible refine tGuard ?_); first | ((with_reducible refine w_skip1 ?_ ?_); (focus (refine ⟨_, rfl, ?_⟩; first | (with_reducible rfl) | exact decide_eq_false (by omega) | exact decide_eq_true (by omega)))) | ((with_reducible refine w_skip0 ?_ ?_); (focus (refine ⟨_, rfl, ?_⟩; first | (with_reducible rfl) | exact decide_eq_false (by omega) | exact decide_eq_true (by omega))))) | ((with_reducible refine tLoad ?_); go_must (refine w_at _ _ rfl (by exact ev_tmp rfl) ?_; intro hx; (first | refine w_load M 0 _ _ rfl rfl hx rfl (by decide +kernel) (by with_reducible first | exact HP.out | exact HO.out) ?_); clear hx)) | ((with_reducible refine tGuard ?_); refine gdS ?_) | fail | ((with_reducible refine tLoad ?_); go_must (refine ldS ?_)) | ((with_reducible refine tStore ?_); go_must (refine stS ?_; clear M; intro w1 M; (try simp only [setC] at M))) | ((with_reducible refine tBox _ ?_); (refine bxA M ?_; clear M; intro g w1 M))) <;> (try conv => arg 5; simp only [Act.put, List.setIfInBounds_toArray, setC]))
        go_loopw [3, 5] (fun nv iv wr => ∃ j : Nat, j ≤ ops.length ∧ j ≤ 301 ∧ iv = .int .i64 j ∧ nv = .int .i64 ((sp + sumO (ops.take j) : Nat) : Int) ∧ Mem [] w wr [.row gm C]) (fun _ iv _ => ops.length - (intOf iv).toNat)
        case atStart => exact ⟨0, by omega, by omega, rfl, rfl, M⟩
        case round =>
          clear M
          obtain ⟨j, hj, hj1, rfl, rfl, M⟩ := hrel
          by_cases hjl : j < ops.length ∧ j ≤ 300
          · obtain ⟨hjl, hj3⟩ := hjl
            obtain ⟨g, so, rfl⟩ := S.addr (by omega)
            obtain ⟨⟨q, a, b⟩, hx⟩ : ∃ x, ops[j]? = some x := ⟨_, List.getElem?_eq_getElem hjl⟩
            obtain ⟨ha, hb⟩ := ho (q, a, b) (List.mem_of_getElem? hx)
            unfold maxLen at ha hb
            simp only at ha hb
            have HS := sumO_take hx
            have hsl := sumO_le (ops.take j)
            rw [List.length_take] at hsl
            obtain ⟨s, es⟩ : ∃ s, s = sumO (ops.take j) := ⟨_, rfl⟩
            rw [← es] at HS hsl ⊢
            simp only at HS
            replace hsl : s ≤ 18060602 := by have : min j ops.length ≤ 301 := by omega
                                             omega
            have HX := Lib.hid hx
            replace HS := Lib.hid HS
            clear hx es
            have e1 := I64_nat (sp + s + (min a.length 30001)) (by omega)
            have e2 := I64_nat (sp + s + (min a.length 30001 + min b.length 30001)) (by omega)
            go_wp2_with ((first | ((with_reducible refine tGuard ?_); (with_reducible refine w_stripE ?_ ?_); (focus (refine ⟨_, rfl, ?_⟩; first | (with_reducible rfl) | exact decide_eq_false (by omega) | exact decide_eq_true (by omega)))) | ((with_reducible refine tGuard ?_); first | ((with_reducible refine w_skip1 ?_ ?_); (focus (refine ⟨_, rfl, ?_⟩; first | (with_reducible rfl) | exact decide_eq_false (by omega) | exact decide_eq_true (by omega)))) | ((with_reducible refine w_skip0 ?_ ?_); (focus (refine ⟨_, rfl, ?_⟩; first | (with_reducible rfl) | exact decide_eq_false (by omega) | exact decide_eq_true (by omega))))) | ((with_reducible show Code.wp _ (Code.region 9 _ _) _ _ _); go_must (have MR := M; refine region_fork (.rd 0 (.rd 1 (.rd 2 (.rd 4 (.rd 11 (.rd 12 (.rd 14 (.rd 3 (.rd 5 (.rd 6 (.rd 7 (.rd 8 (.rd 13 (.rd 15 (.rd 16 (.rd 17 (.rd 18 (.alt 9 (.rd 10 (.wr 19 (.rd 20 (.rd 21 .nil)))) (.wr 19 (.wr 9 (.rd 10 (.rd 20 (.rd 21 .nil))))))))))))))))))))))) [(48, .int), (57, .int), (58, .int), (67, .int)] [(3, _), (7, _), (13, _), (17, _)] (IxOk MR [0]) 22 (by kernel_rfl) (by kernel_rfl) rfl (by kernel_rfl) (lows_cons (stab_ix MR 0 6 rfl rfl (by decide) (by decide +kernel) HO.out) (lows_cons (stab_see MR S HX.out 1 rfl (by decide +kernel) rfl) (lows_cons (stab_ix MR 0 6 rfl rfl (by decide) (by decide +kernel) HO.out) (lows_cons (stab_see MR S HX.out 2 rfl (by decide +kernel) rfl) lows_nil)))) (ixOk_self MR _) ?_; replace M := M.drew; simp only [planT, opAt, List.getElem?_toArray, List.getElem?_cons_zero, List.getElem?_cons_succ, Option.getD_some])) | ((with_reducible refine tLoad ?_); go_must (refine w_at _ _ rfl (by exact ev_tmp rfl) ?_; intro hx; (first | refine w_load M 0 _ _ rfl rfl hx rfl (by decide +kernel) (by with_reducible first | exact HP.out | exact HO.out) ?_ | refine w_see M S HX.out _ _ rfl hx rfl (by decide +kernel) 1 (by first | (with_reducible rfl) | omega) rfl ?_ | refine w_see M S HX.out _ _ rfl hx rfl (by decide +kernel) 2 (by first | (with_reducible rfl) | omega) rfl ?_); clear hx)) | (with_reducible refine Seg.alt ?_ ?_) | ((with_reducible show Seg _ _ _ _); go_must (first | refine Seg.intro ⟨fun h => absurd rfl h, ?_⟩ | refine Seg.intro ⟨fun _ => ixA, ?_⟩ | refine Seg.intro ⟨ndA, atA, ?_⟩)) | ((with_reducible show OnlyN _ _ _ _ _); refine OnlyN.intro (by kernel_rfl) ?_) | ((with_reducible refine tGuard ?_); refine gdS ?_) | fail | ((with_reducible refine tLoad ?_); go_must (refine ldS ?_)) | ((with_reducible refine tStore ?_); go_must (refine stS ?_; clear M; intro w1 M; (try simp only [setC] at M))) | ((with_reducible refine tBox _ ?_); (refine bxA M ?_; clear M; intro g w1 M))) <;> (try conv => arg 5; simp only [Act.put, List.setIfInBounds_toArray, setC]))
            all_goals
              refine ⟨⟨j + 1, by omega, by omega, by go_num, by rw [HS.out]; congr 1; omega, M⟩, ?_⟩
              simp [intOf]; omega
          · have hT : ops.take j = ops.take 301 := by
              by_cases h : j < ops.length
              · rw [show j = 301 by omega]
              · rw [List.take_of_length_le (by omega), List.take_of_length_le (by omega)]
            rw [hT]
            clear hT
            obtain ⟨s, es⟩ : ∃ s, s = sumO (ops.take 301) := ⟨_, rfl⟩
            rw [← es]
            have ES := Lib.hid es
            clear es
            by_cases hjl2 : j < ops.length
            · have hj3 : ¬ j ≤ 300 := by omega
              clear hjl
              by_cases hp3 : 300 < prs.length
              · first | (exfalso; omega) | (have e0 := G1 hp3; subst e0; go_wp2_with ((first | ((with_reducible refine tGuard ?_); (with_reducible refine w_stripE ?_ ?_); (focus (refine ⟨_, rfl, ?_⟩; first | (with_reducible rfl) | exact decide_eq_false (by omega) | exact decide_eq_true (by omega)))) | ((with_reducible refine tGuard ?_); first | ((with_reducible refine w_skip1 ?_ ?_); (focus (refine ⟨_, rfl, ?_⟩; first | (with_reducible rfl) | exact decide_eq_false (by omega) | exact decide_eq_true (by omega)))) | ((with_reducible refine w_skip0 ?_ ?_); (focus (refine ⟨_, rfl, ?_⟩; first | (with_reducible rfl) | exact decide_eq_false (by omega) | exact decide_eq_true (by omega))))) | ((with_reducible refine tLoad ?_); go_must (refine w_at _ _ rfl (by exact ev_tmp rfl) ?_; intro hx; (first | refine w_load M 0 _ _ rfl rfl hx rfl (by decide +kernel) (by with_reducible first | exact HP.out | exact HO.out) ?_); clear hx)) | ((with_reducible refine tGuard ?_); refine gdS ?_) | fail | ((with_reducible refine tLoad ?_); go_must (refine ldS ?_)) | ((with_reducible refine tStore ?_); go_must (refine stS ?_; clear M; intro w1 M; (try simp only [setC] at M))) | ((with_reducible refine tBox _ ?_); (refine bxA M ?_; clear M; intro g w1 M))) <;> (try conv => arg 5; simp only [Act.put, List.setIfInBounds_toArray, setC])); go_ret; exact ⟨rfl, M.below⟩)
              · by_cases ho3 : 300 < ops.length
                · first | (exfalso; omega) | (have e0 := G2 ho3; subst e0; go_wp2_with ((first | ((with_reducible refine tGuard ?_); (with_reducible refine w_stripE ?_ ?_); (focus (refine ⟨_, rfl, ?_⟩; first | (with_reducible rfl) | exact decide_eq_false (by omega) | exact decide_eq_true (by omega)))) | ((with_reducible refine tGuard ?_); first | ((with_reducible refine w_skip1 ?_ ?_); (focus (refine ⟨_, rfl, ?_⟩; first | (with_reducible rfl) | exact decide_eq_false (by omega) | exact decide_eq_true (by omega)))) | ((with_reducible refine w_skip0 ?_ ?_); (focus (refine ⟨_, rfl, ?_⟩; first | (with_reducible rfl) | exact decide_eq_false (by omega) | exact decide_eq_true (by omega))))) | ((with_reducible refine tLoad ?_); go_must (refine w_at _ _ rfl (by exact ev_tmp rfl) ?_; intro hx; (first | refine w_load M 0 _ _ rfl rfl hx rfl (by decide +kernel) (by with_reducible first | exact HP.out | exact HO.out) ?_); clear hx)) | ((with_reducible refine tGuard ?_); refine gdS ?_) | fail | ((with_reducible refine tLoad ?_); go_must (refine ldS ?_)) | ((with_reducible refine tStore ?_); go_must (refine stS ?_; clear M; intro w1 M; (try simp only [setC] at M))) | ((with_reducible refine tBox _ ?_); (refine bxA M ?_; clear M; intro g w1 M))) <;> (try conv => arg 5; simp only [Act.put, List.setIfInBounds_toArray, setC])); go_ret; exact ⟨rfl, M.below⟩)
                · first | (exfalso; omega) | (have e0 := G3.out (by omega) (by omega); rw [← ESP.out, ← ES.out] at e0; subst e0; go_wp2_with ((first | ((with_reducible refine tGuard ?_); (with_reducible refine w_stripE ?_ ?_); (focus (refine ⟨_, rfl, ?_⟩; first | (with_reducible rfl) | exact decide_eq_false (by omega) | exact decide_eq_true (by omega)))) | ((with_reducible refine tGuard ?_); first | ((with_reducible refine w_skip1 ?_ ?_); (focus (refine ⟨_, rfl, ?_⟩; first | (with_reducible rfl) | exact decide_eq_false (by omega) | exact decide_eq_true (by omega)))) | ((with_reducible refine w_skip0 ?_ ?_); (focus (refine ⟨_, rfl, ?_⟩; first | (with_reducible rfl) | exact decide_eq_false (by omega) | exact decide_eq_true (by omega))))) | ((with_reducible refine tLoad ?_); go_must (refine w_at _ _ rfl (by exact ev_tmp rfl) ?_; intro hx; (first | refine w_load M 0 _ _ rfl rfl hx rfl (by decide +kernel) (by with_reducible first | exact HP.out | exact HO.out) ?_); clear hx)) | ((with_reducible refine tGuard ?_); refine gdS ?_) | fail | ((with_reducible refine tLoad ?_); go_must (refine ldS ?_)) | ((with_reducible refine tStore ?_); go_must (refine stS ?_; clear M; intro w1 M; (try simp only [setC] at M))) | ((with_reducible refine tBox _ ?_); (refine bxA M ?_; clear M; intro g w1 M))) <;> (try conv => arg 5; simp only [Act.put, List.setIfInBounds_toArray, setC])); go_ret; exact ⟨congrArg (fun b => Ending.returned (.bool b)) (by first | exact decide_eq_decide.2 (by omega) | (rw [decide_eq_false (show ¬ (300 : Int) < (prs.length : Int) by omega), decide_eq_false (show ¬ (300 : Int) < (ops.length : Int) by omega), Bool.false_or, Bool.false_or]; exact decide_eq_decide.2 (by omega))), M.below⟩)
            · clear hjl
              by_cases hp3 : 300 < prs.length
              · first | (exfalso; omega) | (have e0 := G1 hp3; subst e0; go_wp2_with ((first | ((with_reducible refine tGuard ?_); (with_reducible refine w_stripE ?_ ?_); (focus (refine ⟨_, rfl, ?_⟩; first | (with_reducible rfl) | exact decide_eq_false (by omega) | exact decide_eq_true (by omega)))) | ((with_reducible refine tGuard ?_); first | ((with_reducible refine w_skip1 ?_ ?_); (focus (refine ⟨_, rfl, ?_⟩; first | (with_reducible rfl) | exact decide_eq_false (by omega) | exact decide_eq_true (by omega)))) | ((with_reducible refine w_skip0 ?_ ?_); (focus (refine ⟨_, rfl, ?_⟩; first | (with_reducible rfl) | exact decide_eq_false (by omega) | exact decide_eq_true (by omega))))) | ((with_reducible refine tLoad ?_); go_must (refine w_at _ _ rfl (by exact ev_tmp rfl) ?_; intro hx; (first | refine w_load M 0 _ _ rfl rfl hx rfl (by decide +kernel) (by with_reducible first | exact HP.out | exact HO.out) ?_); clear hx)) | ((with_reducible refine tGuard ?_); refine gdS ?_) | fail | ((with_reducible refine tLoad ?_); go_must (refine ldS ?_)) | ((with_reducible refine tStore ?_); go_must (refine stS ?_; clear M; intro w1 M; (try simp only [setC] at M))) | ((with_reducible refine tBox _ ?_); (refine bxA M ?_; clear M; intro g w1 M))) <;> (try conv => arg 5; simp only [Act.put, List.setIfInBounds_toArray, setC])); go_ret; exact ⟨rfl, M.below⟩)
              · by_cases ho3 : 300 < ops.length
                · first | (exfalso; omega) | (have e0 := G2 ho3; subst e0; go_wp2_with ((first | ((with_reducible refine tGuard ?_); (with_reducible refine w_stripE ?_ ?_); (focus (refine ⟨_, rfl, ?_⟩; first | (with_reducible rfl) | exact decide_eq_false (by omega) | exact decide_eq_true (by omega)))) | ((with_reducible refine tGuard ?_); first | ((with_reducible refine w_skip1 ?_ ?_); (focus (refine ⟨_, rfl, ?_⟩; first | (with_reducible rfl) | exact decide_eq_false (by omega) | exact decide_eq_true (by omega)))) | ((with_reducible refine w_skip0 ?_ ?_); (focus (refine ⟨_, rfl, ?_⟩; first | (with_reducible rfl) | exact decide_eq_false (by omega) | exact decide_eq_true (by omega))))) | ((with_reducible refine tLoad ?_); go_must (refine w_at _ _ rfl (by exact ev_tmp rfl) ?_; intro hx; (first | refine w_load M 0 _ _ rfl rfl hx rfl (by decide +kernel) (by with_reducible first | exact HP.out | exact HO.out) ?_); clear hx)) | ((with_reducible refine tGuard ?_); refine gdS ?_) | fail | ((with_reducible refine tLoad ?_); go_must (refine ldS ?_)) | ((with_reducible refine tStore ?_); go_must (refine stS ?_; clear M; intro w1 M; (try simp only [setC] at M))) | ((with_reducible refine tBox _ ?_); (refine bxA M ?_; clear M; intro g w1 M))) <;> (try conv => arg 5; simp only [Act.put, List.setIfInBounds_toArray, setC])); go_ret; exact ⟨rfl, M.below⟩)
                · first | (exfalso; omega) | (have e0 := G3.out (by omega) (by omega); rw [← ESP.out, ← ES.out] at e0; subst e0; go_wp2_with ((first | ((with_reducible refine tGuard ?_); (with_reducible refine w_stripE ?_ ?_); (focus (refine ⟨_, rfl, ?_⟩; first | (with_reducible rfl) | exact decide_eq_false (by omega) | exact decide_eq_true (by omega)))) | ((with_reducible refine tGuard ?_); first | ((with_reducible refine w_skip1 ?_ ?_); (focus (refine ⟨_, rfl, ?_⟩; first | (with_reducible rfl) | exact decide_eq_false (by omega) | exact decide_eq_true (by omega)))) | ((with_reducible refine w_skip0 ?_ ?_); (focus (refine ⟨_, rfl, ?_⟩; first | (with_reducible rfl) | exact decide_eq_false (by omega) | exact decide_eq_true (by omega))))) | ((with_reducible refine tLoad ?_); go_must (refine w_at _ _ rfl (by exact ev_tmp rfl) ?_; intro hx; (first | refine w_load M 0 _ _ rfl rfl hx rfl (by decide +kernel) (by with_reducible first | exact HP.out | exact HO.out) ?_); clear hx)) | ((with_reducible refine tGuard ?_); refine gdS ?_) | fail | ((with_reducible refine tLoad ?_); go_must (refine ldS ?_)) | ((with_reducible refine tStore ?_); go_must (refine stS ?_; clear M; intro w1 M; (try simp only [setC] at M))) | ((with_reducible refine tBox _ ?_); (refine bxA M ?_; clear M; intro g w1 M))) <;> (try conv => arg 5; simp only [Act.put, List.setIfInBounds_toArray, setC])); go_ret; exact ⟨congrArg (fun b => Ending.returned (.bool b)) (by first | exact decide_eq_decide.2 (by omega) | (rw [decide_eq_false (show ¬ (300 : Int) < (prs.length : Int) by omega), decide_eq_false (show ¬ (300 : Int) < (ops.length : Int) by omega), Bool.false_or, Bool.false_or]; exact decide_eq_decide.2 (by omega))), M.below⟩)
end Go.Proofs.YtidadhbaomieiaaGreat

/- The walk of msg.Right; plain: the wake's message. Conditions: lengths; the numbers are int's. -/
namespace Go
namespace TL
open Go.RowKit
/-- The wake's message. -/
def wakeM : Lm := ⟨3, 1, 300, 1, 0, 0, [], 0, zeroH, 0, 0, zeroH, zeroH, []⟩
theorem wakeM_fit : wakeM.fit := ⟨zeroH_len, zeroH_len, zeroH_len⟩
theorem wakeM_rng : wakeM.rng := ⟨fun q => by cases q <;> decide, by decide, by simp [wakeM], by simp [wakeM], by simp [wakeM], by simp [wakeM], by simp [wakeM]⟩
theorem wakeM_only : onlyL wakeM = wakeM := rfl
theorem wakeM_ok : okL wakeM = true := by decide +kernel
theorem wakeM_bytes : bytesL wakeM = [3, 1, 172, 2, 1] := by
  have e1 : numL 1 = [1] := numL_small (by decide)
  have e2 : numL 300 = [172, 2] := by rw [numL_big (by decide), show 300 / 128 = 2 by decide, numL_small (by decide)]; rfl
  show (3 : UInt8) :: (numL 1 ++ (numL 300 ++ (numL 1 ++ []))) = _
  rw [e1, e2]; rfl
theorem wakeM_b : bytesM wakeM = ([3, 1, 172, 2, 1], 0) := by
  rw [bytesM_eq wakeM_fit wakeM_rng, if_pos (by decide), if_pos ⟨wakeM_ok, wakeM_only⟩, wakeM_bytes]
theorem wakeM_r : readM [3, 1, 172, 2, 1] = (wakeM, 0) := by
  have := readM_back wakeM_fit wakeM_rng (by decide) wakeM_ok []
  rwa [List.append_nil, if_pos rfl, wakeM_bytes, wakeM_only] at this
end TL
end Go
namespace Go.Proofs.YtidadhbaomieiaaGreat
open Go.RowKit Go.TL
set_option maxRecDepth 100000 in
set_option maxHeartbeats 4000000 in
theorem Right_c (L : Lm) (ov pv : Value) (w : World) (hL : L.fit) (hr : L.rng) (S : SeesL w 3 opV ov L.ops) (T : SeesL w 2 prV pv L.prs) :
    Calls Tryz.prog 33 #[.agg (msgC (L.ms ov pv)).toArray] w fun e w' => e = .returned (.int .i64 (bytesM L).2) ∧ Below w.heap.size w w' := by
  have M := Mem.start [] w
  have hmf : (L.ms ov pv).fit := by
    obtain ⟨op, oc, rfl, _⟩ := S.form
    obtain ⟨pp, pc, rfl, _⟩ := T.form
    exact Lm.ms_fit hL rfl rfl
  have BC := fun w S T => Bytes_c L ov pv w hL hr S T
  obtain ⟨⟨b, e⟩, eb⟩ : ∃ A, A = bytesM L := ⟨_, rfl⟩
  rw [← eb] at BC ⊢
  clear eb
  replace BC := Lib.hid BC
  go_enter Tryz.func33, Tryz.ntmps33
  go_wp2_with ((first | ((with_reducible refine tBox (some 1) ?_); refine w_box M _ _ rfl rfl _ rfl (msgC (L.ms ov pv)) rfl ?_; clear M; intro gm w1 M) | ((with_reducible refine tLoad ?_); refine w_at _ _ rfl (by exact ev_tmp rfl) ?_; intro hx; refine w_loadMs M 0 _ _ rfl rfl hx rfl (by decide +kernel) (by kernel_rfl) hmf ?_; clear hx) | (go_at_call 51; go_must (refine (BC.out _ (S.now M) (T.now M)).mono ?_; rintro e w1 ⟨rfl, hb⟩; replace M := M.call hb; clear hb)) | ((with_reducible refine tGuard ?_); refine gdS ?_) | fail | ((with_reducible refine tLoad ?_); go_must (refine ldS ?_)) | ((with_reducible refine tStore ?_); go_must (refine stS ?_; clear M; intro w1 M; (try simp only [setC] at M))) | ((with_reducible refine tBox _ ?_); (refine bxA M ?_; clear M; intro g w1 M))) <;> (try conv => arg 5; simp only [Act.put, List.setIfInBounds_toArray, setC]))
  go_ret
  exact ⟨rfl, M.below⟩
end Go.Proofs.YtidadhbaomieiaaGreat

/- Plain: a message that is not great is within its bounds. No program in this text. -/
namespace Go
namespace TL
theorem sumP_mem : ∀ {l : List (List UInt8 × List UInt8)}, sumP l ≤ 30000 → ∀ x ∈ l, x.1.length ≤ 30000 ∧ x.2.length ≤ 30000
  | [], _, x, h => by cases h
  | y :: l, h, x, hx => by
    rw [sumP] at h
    rcases List.mem_cons.1 hx with rfl | hx
    · omega
    · exact sumP_mem (by omega) x hx
theorem sumO_mem : ∀ {l : List Opr}, sumO l ≤ 30000 → ∀ x ∈ l, x.2.1.length ≤ 30000 ∧ x.2.2.length ≤ 30000
  | [], _, x, h => by cases h
  | y :: l, h, x, hx => by
    rw [sumO] at h
    rcases List.mem_cons.1 hx with rfl | hx
    · omega
    · exact sumO_mem (by omega) x hx
theorem prsB_sum : ∀ {l : List (List UInt8 × List UInt8)}, sumP l ≤ 30000 → (l.flatMap prBm).length ≤ l.length * 20 + sumP l
  | [], _ => by simp
  | x :: l, h => by
    rw [sumP] at h
    have h1 := prsB_sum (l := l) (by omega)
    have h2 := numL_length_le x.1.length (by omega)
    have h3 := numL_length_le x.2.length (by omega)
    simp only [List.flatMap_cons, List.length_append, List.length_cons, prBm, textL, sumP]; omega
theorem great_rng {L : Lm} (hn : ∀ q : Mf, -9223372036854775808 ≤ q.gl L ∧ q.gl L ≤ 9223372036854775807) (hb : L.be ≤ 9223372036854775807) (h : greatL L = false) : L.rng := by
  unfold greatL at h
  simp only [Bool.or_eq_false_iff, decide_eq_false_iff_not] at h
  obtain ⟨h1, h2, h3⟩ := h
  rw [List.take_of_length_le (by omega), List.take_of_length_le (by omega)] at h3
  have hp : sumP L.prs ≤ 30000 := by omega
  have ho : sumO L.ops ≤ 30000 := by omega
  have := prsB_sum hp
  exact ⟨hn, hb, by omega, fun x hx => by have := sumO_mem ho x hx; omega, by omega, fun x hx => by have := sumP_mem hp x hx; omega, by omega⟩
theorem bytesL_len {L : Lm} (hr : L.rng) (hL : L.fit) : (bytesL L).length ≤ 700000 := by
  have h1 := puts_len hr hL (fdsL L.k)
  have h2 := fds_len L.k
  unfold bytesL
  rw [List.length_cons]
  have h3 : (fdsL L.k).length * 100100 ≤ 600600 := by omega
  omega
/-- What a message's bytes are: none, and why, or they are read back. -/
theorem bytesM_cases {L : Lm} (hL : L.fit) (hr : L.rng) : (∃ e, e ≠ 0 ∧ bytesM L = ([], e)) ∨ (isK L.k = true ∧ okL L = true ∧ onlyL L = L ∧ bytesM L = (bytesL L, 0)) := by
  rw [bytesM_eq hL hr]
  by_cases hk : isK L.k = true
  · rw [if_pos hk]
    by_cases ho : okL L = true ∧ onlyL L = L
    · rw [if_pos ho]; exact .inr ⟨hk, ho.1, ho.2, rfl⟩
    · rw [if_neg ho]; exact .inl ⟨1, by decide, rfl⟩
  · rw [if_neg hk]; exact .inl ⟨10, by decide, rfl⟩
end TL
end Go

/- Plain: a right message's bytes are few. No program in this text. Conditions: lengths. -/
namespace Go
namespace TL
theorem textL_short {l : List UInt8} {k : Nat} (h : l.length ≤ k) (hk : k ≤ 100000) : (textL l).length ≤ k + 10 := by
  unfold textL
  have := numL_length_le l.length (by omega)
  rw [List.length_append]; omega
theorem prB_short : ∀ {l : List (List UInt8 × List UInt8)}, l.all okP = true → (l.flatMap prBm).length ≤ l.length * 85
  | [], _ => by simp
  | x :: l, h => by
    rw [List.all_cons, Bool.and_eq_true] at h
    have h1 := prB_short h.2
    have h2 : x.1.length ≤ 33 ∧ x.2.length ≤ 32 := by have := h.1; unfold okP at this; simpa using this
    have a1 := textL_short h2.1 (by omega)
    have a2 := textL_short h2.2 (by omega)
    simp only [List.flatMap_cons, List.length_append, List.length_cons, prBm]; omega
def Fld.cap : Fld → Nat
  | .num _ => 10
  | .hash _ => 32
  | .bat => 522
  | .prs => 4090
theorem put_short {L : Lm} (hL : L.fit) (hr : L.rng) (f : Fld) (h : f.ok L = true) : (f.put L).length ≤ f.cap := by
  cases f with
  | num q =>
    have := hr.num q
    have hx : (q.gl L).toNat < 18446744073709551616 := by omega
    have := numL_length_le _ hx
    show (numL (q.gl L).toNat).length ≤ 10
    omega
  | hash q =>
    have := q.gl_len hL
    show (q.gl L).length ≤ 32
    omega
  | bat =>
    simp only [Fld.ok, Bool.and_eq_true, decide_eq_true_eq] at h
    have := textL_short h.2 (by omega)
    show (textL _).length ≤ 522
    omega
  | prs =>
    simp only [Fld.ok, Bool.and_eq_true, decide_eq_true_eq] at h
    have h1 := prB_short h.2
    have h2 := numL_length_le L.prs.length (by omega)
    have h3 := h.1
    show (numL L.prs.length ++ L.prs.flatMap prBm).length ≤ 4090
    rw [List.length_append]; omega
theorem puts_short {L : Lm} (hL : L.fit) (hr : L.rng) : ∀ l : List Fld, (∀ f ∈ l, f.ok L = true) → (l.flatMap (fun f => f.put L)).length ≤ (l.map Fld.cap).sum
  | [], _ => by simp
  | f :: l, h => by
    have h1 := put_short hL hr f (h f (by simp))
    have h2 := puts_short hL hr l fun g hg => h g (by simp [hg])
    simp only [List.flatMap_cons, List.length_append, List.map_cons, List.sum_cons]; omega
/-- A right message's bytes are few. -/
theorem bytesL_short {L : Lm} (hL : L.fit) (hr : L.rng) (hk : isK L.k = true) (ho : okL L = true) : (bytesL L).length ≤ 8192 := by
  have h := puts_short hL hr (fdsL L.k) (okL_of ho)
  have hs : ((fdsL L.k).map Fld.cap).sum ≤ 8000 := by
    rcases kinds hk with e | e | e | e | e | e | e <;> (rw [e]; decide)
  unfold bytesL
  rw [List.length_cons]; omega
end TL
end Go

/- The walks of a link's Send and Count. Conditions: lengths, and the bounds of its numbers. -/
namespace Go
namespace TL
open Go.RowKit
/-- What came in is none of the pieces that the walk has made. -/
theorem fresh_apart {α : Type} {w0 w : World} {L : List Chunk} (M : Mem [] w0 w L) {i : Nat} {c : Chunk} (hi : L[i]? = some c) {size : Nat} {f : α → List Value} {v : Value} {l : List α} (S : SeesL w0 size f v l) : ∀ k, v.ownBlock = some k → k ∉ c.fp := by
  intro k hk hc
  have h1 := M.own i c hi k hc
  rcases S.sees.2 with ⟨rfl, _⟩ | ⟨g, so, cap, rfl, hlt, _⟩
  · simp [Value.ownBlock] at hk
  · simp [Value.ownBlock] at hk; subst hk
    rcases h1 with h1 | h1
    · simp at h1
    · omega
end TL
end Go
namespace Go.Proofs.YtidadhbaomieiaaGreat
open Go.RowKit Go.TL
section
variable {g : Nat} {K : LinkS} {c : Chunk} {w : World}
set_option maxRecDepth 100000 in
set_option maxHeartbeats 4000000 in
theorem LinkCount_c (h : c.ok w) (I : IsLink g K c) : Calls Tryz.prog 26 #[.pointer (some ⟨g, 0, none⟩)] w fun e w' => e = .returned (.tuple #[.int .u32 (I32 K.out.b), .int .u64 (I64 K.out.n)]) ∧ Below w.heap.size w w' := by
  obtain ⟨go, gi, Co, Ci, JO, II, rfl⟩ := I
  have RR : (Chunk.row g (linkRow K.me K.o go gi)).ok w := h.2.1.1 0 _ rfl
  have RO : Co.ok w := h.2.1.1 1 _ rfl
  have M := Mem.start [] w
  have nR : g ∉ ([] : List Nat) := by simp
  have CC := Count_c RO JO
  replace CC := Lib.hid CC
  go_enter Tryz.func26, Tryz.ntmps26
  go_wp2_with ((first | (go_at_call 50; go_must (refine (linkNone_no RR).mono ?_; rintro e w1 ⟨rfl, rfl⟩)) | (go_at_call 19; go_must (refine (CC.out).mono ?_; rintro e w1 ⟨rfl, hb⟩; replace M := M.call hb; clear hb)) | ((with_reducible refine tLoad ?_); refine w_at _ _ rfl (by exact ev_tmp rfl) ?_; intro hx; (first | refine w_rowF M RR nR _ _ rfl hx rfl (by decide +kernel) (by exact rfl) ?_); clear hx) | ((with_reducible refine tGuard ?_); first | refine gdS ?_ | (refine gdC ?_ ?_ <;> (intro hgd; rw [hgd]; try (exfalso; simp at hgd; omega)))) | fail | ((with_reducible refine tLoad ?_); go_must (refine ldS ?_)) | ((with_reducible refine tStore ?_); go_must (refine stS ?_; clear M; intro w1 M; (try simp only [setC] at M))) | ((with_reducible refine tBox _ ?_); (refine bxA M ?_; clear M; intro g w1 M))) <;> (try conv => arg 5; simp only [Act.put, List.setIfInBounds_toArray, setC]))
  go_ret2
  exact ⟨rfl, M.below⟩
set_option maxRecDepth 100000 in
set_option maxHeartbeats 4000000 in
/-- What is not right is not sent. -/
theorem Send_bad (L : Lm) (ov pv : Value) (h : c.ok w) (I : IsLink g K c) (hL : L.fit) (hr : L.rng) (S : SeesL w 3 opV ov L.ops) (T : SeesL w 2 prV pv L.prs) {e : Nat} (he : e ≠ 0) (hb : bytesM L = ([], e)) :
    Calls Tryz.prog 24 #[.pointer (some ⟨g, 0, none⟩), .agg (msgC (L.ms ov pv)).toArray] w fun r w' => r = .returned (.tuple #[.agg #[.int .i64 0, .int .i64 0, .string (mkS [])], .int .i64 e]) ∧ Below w.heap.size w w' := by
  obtain ⟨go, gi, Co, Ci, JO, II, rfl⟩ := I
  have RR : (Chunk.row g (linkRow K.me K.o go gi)).ok w := h.2.1.1 0 _ rfl
  have M := Mem.start [] w
  have hmf : (L.ms ov pv).fit := by
    obtain ⟨op, oc, rfl, _⟩ := S.form
    obtain ⟨pp, pc, rfl, _⟩ := T.form
    exact Lm.ms_fit hL rfl rfl
  have BC := fun w S T => Bytes_c L ov pv w hL hr S T
  rw [hb] at BC
  simp only at BC
  replace BC := Lib.hid BC
  have hz1 : ((e : Int) != 0) = true := by simp; exact he
  have hz2 : ((e : Int) == 0) = false := by simp; exact he
  have NN := linkNone_no RR
  clear hb he h
  go_enter Tryz.func24, Tryz.ntmps24
  go_wp2_with ((first | ((with_reducible refine tBox (some 3) ?_); refine w_box M _ _ rfl rfl _ rfl (msgC (L.ms ov pv)) rfl ?_; clear M; intro gm w1 M) | ((with_reducible refine tAlloc (some 4) 58 ?_); refine w_alloc M _ rfl rfl (.agg #[.int .i64 0, .int .i64 0, .string (mkS [])]) ([.int .i64 0, .int .i64 0, .string (mkS [])]) (by kernel_rfl) rfl ?_; clear M; intro gp w1 M) | (go_at_call 50; go_must (refine (linkNone_no (M.staysF RR (by simp))).mono ?_; rintro e w1 ⟨rfl, rfl⟩)) | ((with_reducible show wpList _ _ _ (Oper.mk _ (Op.load 67 _) _ _ _ _ :: _) _ _); refine w_at _ _ rfl (by exact ev_tmp rfl) ?_; intro hx; refine w_loadMs M 1 _ _ rfl rfl hx rfl (by decide +kernel) (by kernel_rfl) hmf ?_; clear hx) | (go_at_call 51; go_must (refine (BC.out _ (S.now M) (T.now M)).mono ?_; rintro e w1 ⟨rfl, hb⟩; replace M := M.call hb; clear hb)) | ((with_reducible refine tGuard ?_); refine gdS ?_) | fail | ((with_reducible refine tLoad ?_); go_must (refine ldS ?_)) | ((with_reducible refine tStore ?_); go_must (refine stS ?_; clear M; intro w1 M; (try simp only [setC] at M))) | ((with_reducible refine tBox _ ?_); (refine bxA M ?_; clear M; intro g w1 M))) <;> (try conv => arg 5; simp only [Act.put, List.setIfInBounds_toArray, setC]))
  exact bodyPost_ret (results_two rfl _ _ gp 0 [.int .i64 0, .int .i64 0, .string (mkS [])] _ (.int .i64 e) rfl rfl (M.ok 0 _ at0).2.1 Tryz.underlying58 rfl (by kernel_rfl)) rfl ⟨rfl, M.below⟩
set_option maxRecDepth 100000 in
set_option maxHeartbeats 4000000 in
/-- What is right is sent. -/
theorem Send_ok (L : Lm) (ov pv : Value) (a b : UInt8) (h : c.ok w) (I : IsLink g K c) (he : EndOf K.me K.o a b) (hm : K.out.m.length ≤ 1000000) (hc : K.out.c ≤ 1048576) (hn : K.out.n.toNat < 9223372036854775808) (hL : L.fit) (hr : L.rng) (S : SeesL w 3 opV ov L.ops) (T : SeesL w 2 prV pv L.prs) (nS : ∀ k, ov.ownBlock = some k → k ∉ c.fp) (nT : ∀ k, pv.ownBlock = some k → k ∉ c.fp) (hk : isK L.k = true) (ho : okL L = true) (hb : bytesM L = (bytesL L, 0)) :
    Calls Tryz.prog 24 #[.pointer (some ⟨g, 0, none⟩), .agg (msgC (L.ms ov pv)).toArray] w fun r w' => r = .returned (.tuple #[.agg #[.int .i64 K.me, .int .i64 K.o, .string (mkS (envB (K.out.env (aboutK a b) (bytesL L))))], .int .i64 0]) ∧ ∃ c', IsLink g { K with out := { K.out with n := K.out.n + 1 } } c' ∧ Upd w c w' c' := by
  have hsh := bytesL_short hL hr hk ho
  obtain ⟨go, gi, Co, Ci, JO, II, rfl⟩ := I
  have ia : I8 a = K.me ∧ I8 b = K.o := by rcases he with ⟨h1, h2, rfl, rfl⟩ | ⟨h1, h2, rfl, rfl⟩ <;> (rw [h1, h2]; decide)
  have AC := fun w => about_c a b w
  rw [ia.1, ia.2] at AC
  have M : Mem (grp [.row g (linkRow K.me K.o go gi), Co, Ci]).fp w w [.row g (linkRow K.me K.o go gi), Co, Ci] := Mem.startG h
  have N0 : ∀ w' Co' x y, IsRing go { K.out with n := K.out.n + 1 } Co' → Mem (grp [.row g (linkRow K.me K.o go gi), Co, Ci]).fp w w' [x, y, .row g (linkRow K.me K.o go gi), Co', Ci] → ∃ c', IsLink g { K with out := { K.out with n := K.out.n + 1 } } c' ∧ Upd w (grp [.row g (linkRow K.me K.o go gi), Co, Ci]) w' c' := fun w' Co' x y JO' M => ⟨_, ⟨go, gi, Co', Ci, JO', II, rfl⟩, M.tail.tail.updG [] rfl⟩
  obtain ⟨F, eF⟩ : ∃ F, F = (grp [.row g (linkRow K.me K.o go gi), Co, Ci]).fp := ⟨_, rfl⟩
  rw [← eF] at M N0 nS nT
  have hmf : (L.ms ov pv).fit := by
    obtain ⟨op, oc, rfl, _⟩ := S.form
    obtain ⟨pp, pc, rfl, _⟩ := T.form
    exact Lm.ms_fit hL rfl rfl
  have BC := fun w S T => Bytes_c L ov pv w hL hr S T
  rw [hb] at BC
  have WC := fun (w : World) (h : Co.ok w) => Wrap_ok (aboutK a b) (bytesL L) h JO hm hc hn hsh (by rw [aboutK_len]; omega)
  obtain ⟨B, eB⟩ : ∃ B, B = envB (K.out.env (aboutK a b) (bytesL L)) := ⟨_, rfl⟩
  rw [← eB] at WC ⊢
  obtain ⟨t, et⟩ : ∃ t, t = bytesL L := ⟨_, rfl⟩
  rw [← et] at WC BC
  obtain ⟨ab, eab⟩ : ∃ x, x = aboutK a b := ⟨_, rfl⟩
  rw [← eab] at WC AC
  simp only [show ((0 : Nat) : Int) = 0 from rfl] at BC
  replace BC := Lib.hid BC
  replace WC := Lib.hid WC
  replace AC := Lib.hid AC
  replace N0 := Lib.hid N0
  clear eF eB et eab ia hb hk ho hn hc hsh he h
  go_enter Tryz.func24, Tryz.ntmps24
  go_wp2_with ((first | ((with_reducible refine tBox (some 3) ?_); refine w_box M _ _ rfl rfl _ rfl (msgC (L.ms ov pv)) rfl ?_; clear M; intro gm w1 M) | ((with_reducible refine tAlloc (some 4) 58 ?_); refine w_alloc M _ rfl rfl (.agg #[.int .i64 0, .int .i64 0, .string (mkS [])]) ([.int .i64 0, .int .i64 0, .string (mkS [])]) (by kernel_rfl) rfl ?_; clear M; intro gp w1 M) | (go_at_call 50; go_must (refine (linkNone_no (M.ok 2 _ at2)).mono ?_; rintro e w1 ⟨rfl, rfl⟩)) | ((with_reducible show Code.wp _ (Code.region 6 _ _) _ _ _); go_must (have MR := M; refine region_lowc [(0, false), (1, false), (2, false), (4, false), (5, false), (6, false), (8, false), (9, false), (10, false), (13, false), (3, false), (7, false), (11, false), (12, true), (14, true), (15, false), (16, false), (17, false), (18, false), (19, false)] [(22, .ptr), (26, .ptr), (30, .ptr)] [(3, _), (7, _), (11, _)] (IxOk MR [2]) 20 (by kernel_rfl) (by kernel_rfl) rfl (by kernel_rfl) (lowA MR 2 2 (lowA MR 2 0 (lowA MR 2 1 lows_nil))) (ixOk_self MR _) ?_; replace M := M.drew; simp only [planC, opAt, List.getElem?_toArray, List.getElem?_cons_zero, List.getElem?_cons_succ, Option.getD_some])) | ((with_reducible show Code.wp _ (Code.region 9 _ _) _ _ _); go_must (have MR := M; refine region_lowc [(0, false), (1, false), (2, false), (4, false), (5, false), (6, false), (8, false), (3, false), (7, false), (9, true), (10, true), (11, false)] [(43, .ptr), (47, .ptr)] [(3, _), (7, _)] (IxOk MR [2]) 12 (by kernel_rfl) (by kernel_rfl) rfl (by kernel_rfl) (lowA MR 2 0 (lowA MR 2 1 lows_nil)) (ixOk_self MR _) ?_; replace M := M.drew; simp only [planC, opAt, List.getElem?_toArray, List.getElem?_cons_zero, List.getElem?_cons_succ, Option.getD_some])) | ((with_reducible show wpList _ _ _ (Oper.mk _ (Op.load 67 _) _ _ _ _ :: _) _ _); refine w_at _ _ rfl (by exact ev_tmp rfl) ?_; intro hx; refine w_loadMs M 1 _ _ rfl rfl hx rfl (by decide +kernel) (by kernel_rfl) hmf ?_; clear hx) | (go_at_call 51; go_must (refine (BC.out _ (S.kept M.kept nS) (T.kept M.kept nT)).mono ?_; rintro e w1 ⟨rfl, hb⟩; replace M := M.call hb; clear hb)) | (go_at_call 52; go_must (refine (AC.out _).mono ?_; rintro e w1 ⟨rfl, hb⟩; replace M := M.call hb; clear hb)) | (go_at_call 14; go_must (refine (WC.out _ (M.ok 3 _ at3)).mono ?_; rintro e w1 ⟨rfl, Co1, IO1, U⟩; replace M := M.upd 3 at3 U; clear U; simp only [setC] at M)) | ((with_reducible show Seg _ _ _ _); go_must (first | refine Seg.intro ⟨fun h => absurd rfl h, ?_⟩ | refine Seg.intro ⟨fun _ => ixA, ?_⟩ | refine Seg.intro ⟨ndA, atA, ?_⟩)) | ((with_reducible show OnlyN _ _ _ _ _); refine OnlyN.intro (by kernel_rfl) ?_) | ((with_reducible refine tGuard ?_); refine gdS ?_) | fail | ((with_reducible refine tLoad ?_); go_must (refine ldS ?_)) | ((with_reducible refine tStore ?_); go_must (refine stS ?_; clear M; intro w1 M; (try simp only [setC] at M))) | ((with_reducible refine tBox _ ?_); (refine bxA M ?_; clear M; intro g w1 M))) <;> (try conv => arg 5; simp only [Act.put, List.setIfInBounds_toArray, setC]))
  exact bodyPost_ret (results_two rfl _ _ gp 0 [.int .i64 K.me, .int .i64 K.o, .string (mkS B)] _ (.int .i64 0) rfl rfl (M.ok 0 _ at0).2.1 Tryz.underlying58 rfl (by kernel_rfl)) rfl ⟨rfl, N0.out _ _ _ _ IO1 M⟩
end
end Go.Proofs.YtidadhbaomieiaaGreat

/- The walks of a link's Come. Conditions: lengths, and the bounds of its numbers. -/
namespace Go.Proofs.YtidadhbaomieiaaGreat
open Go.RowKit Go.TL
theorem link_out {F : List Nat} {w0 w : World} {a b x y r p q : Chunk} (M : Mem F w0 w [a, b, x, y, r, p, q]) : Mem F w0 w [a, b, grp [r, p, q]] := by
  have M1 : Mem F w0 w [r, p, q, a, b] := M.sel [4, 5, 6, 0, 1] _ (by decide) rfl
  exact (M1.shut [r, p, q] [a, b] rfl).sel [1, 2, 0] _ (by decide) rfl
section
variable {g : Nat} {K : LinkS} {c : Chunk} {w : World}
set_option maxRecDepth 100000 in
set_option maxHeartbeats 4000000 in
/-- What is not for this end, or not from the other one. -/
theorem Come_arg (fr to : Int) (data : List UInt8) (h : c.ok w) (I : IsLink g K c) (hne : to ≠ K.me ∨ fr ≠ K.o) :
    Calls Tryz.prog 25 #[.pointer (some ⟨g, 0, none⟩), .agg #[.int .i64 fr, .int .i64 to, .string (mkS data)]] w fun e w' => e = .returned (.tuple #[.agg (msgC zeroM).toArray, .int .i64 1]) ∧ Below w.heap.size w w' := by
  obtain ⟨go, gi, Co, Ci, JO, II, rfl⟩ := I
  obtain ⟨me, o, out, inn⟩ := K
  simp only at hne
  have RR : (Chunk.row g (linkRow me o go gi)).ok w := h.2.1.1 0 _ rfl
  have M := Mem.start [] w
  have nR : g ∉ ([] : List Nat) := by simp
  clear h JO II
  have hcs : (¬ to = me) ∨ (to = me ∧ ¬ fr = o) := by
    by_cases e : to = me
    · exact .inr ⟨e, fun e2 => by rcases hne with h | h <;> exact h (by assumption)⟩
    · exact .inl e
  clear hne
  rcases hcs with h1 | ⟨rfl, h2⟩
  · have h1' : (to == me) = false := by simpa using h1
    go_enter Tryz.func25, Tryz.ntmps25
    go_wp2_with ((first | ((with_reducible refine tGuard ?_); (with_reducible refine w_stripE ?_ ?_); (focus (refine ⟨_, rfl, ?_⟩; first | (with_reducible rfl) | exact decide_eq_false (by omega) | exact decide_eq_true (by omega)))) | ((with_reducible refine tGuard ?_); first | ((with_reducible refine w_skip1 ?_ ?_); (focus (refine ⟨_, rfl, ?_⟩; first | (with_reducible rfl) | exact decide_eq_false (by omega) | exact decide_eq_true (by omega)))) | ((with_reducible refine w_skip0 ?_ ?_); (focus (refine ⟨_, rfl, ?_⟩; first | (with_reducible rfl) | exact decide_eq_false (by omega) | exact decide_eq_true (by omega))))) | ((with_reducible refine tBox (some 3) ?_); refine w_box M _ _ rfl rfl _ rfl ([.int .i64 fr, .int .i64 to, .string (mkS data)]) rfl ?_; clear M; intro gp w1 M) | ((with_reducible refine tAlloc (some 4) 67 ?_); refine w_alloc M _ rfl rfl (.agg (msgC zeroM).toArray) (msgC zeroM) (by kernel_rfl) rfl ?_; clear M; intro gm w1 M) | ((with_reducible show Code.wp _ (Code.region 3 _ _) _ _ _); go_must (refine region_det [(0, false), (2, false), (3, false), (4, false), (1, false), (5, false), (6, false), (7, false), (8, false), (10, false), (11, false), (12, false), (9, false), (13, false), (14, false), (15, false), (16, false)] [(15, .ptr), (14, .int), (18, .int), (23, .ptr), (22, .int), (26, .int)] (by kernel_rfl) (by kernel_rfl) rfl (by kernel_rfl) ?_; replace M := M.drew; simp only [reord, opAt, List.map_cons, List.map_nil, List.getElem?_toArray, List.getElem?_cons_zero, List.getElem?_cons_succ, Option.getD_some])) | (go_at_call 50; go_must (refine (linkNone_no (M.staysF RR (by simp))).mono ?_; rintro e w1 ⟨rfl, rfl⟩)) | ((with_reducible show wpList _ _ _ (Oper.mk _ (Op.store 67 _ _) _ _ _ _ :: _) _ _); refine w_at2 _ _ _ rfl (by exact ev_tmp rfl) (by first | exact ev_tmp rfl | exact ev_const) ?_; intro hx hy; refine w_storeMs (m := zeroM) M 0 _ _ _ rfl rfl hx rfl hy rfl (by kernel_rfl) zeroM_fit zeroM_fit ?_; clear hx hy M; intro w1 M; (try simp only [setC] at M)) | ((with_reducible refine tLoad ?_); refine w_at _ _ rfl (by exact ev_tmp rfl) ?_; intro hx; (first | refine w_rowF M RR nR _ _ rfl hx rfl (by decide +kernel) (by exact rfl) ?_); clear hx) | ((with_reducible show Seg _ _ _ _); go_must (first | refine Seg.intro ⟨fun h => absurd rfl h, ?_⟩ | refine Seg.intro ⟨fun _ => ixA, ?_⟩ | refine Seg.intro ⟨ndA, atA, ?_⟩)) | ((with_reducible show OnlyN _ _ _ _ _); refine OnlyN.intro (by kernel_rfl) ?_) | ((with_reducible refine tGuard ?_); first | refine gdS ?_ | (refine gdC ?_ ?_ <;> (intro hgd; rw [hgd]; try (exfalso; simp at hgd; omega)))) | fail | ((with_reducible refine tLoad ?_); go_must (refine ldS ?_)) | ((with_reducible refine tStore ?_); go_must (refine stS ?_; clear M; intro w1 M; (try simp only [setC] at M))) | ((with_reducible refine tBox _ ?_); (refine bxA M ?_; clear M; intro g w1 M))) <;> (try conv => arg 5; simp only [Act.put, List.setIfInBounds_toArray, setC]))
    exact bodyPost_ret (results_two rfl _ _ gm 0 (msgC zeroM) _ (.int .i64 1) rfl rfl (M.ok 0 _ at0).2.1 Tryz.underlying67 rfl (by rw [zeroM_len]; kernel_rfl)) rfl ⟨rfl, M.below⟩
  · have h2' : (fr == o) = false := by simpa using h2
    go_enter Tryz.func25, Tryz.ntmps25
    go_wp2_with ((first | ((with_reducible refine tGuard ?_); (with_reducible refine w_stripE ?_ ?_); (focus (refine ⟨_, rfl, ?_⟩; first | (with_reducible rfl) | exact decide_eq_false (by omega) | exact decide_eq_true (by omega)))) | ((with_reducible refine tGuard ?_); first | ((with_reducible refine w_skip1 ?_ ?_); (focus (refine ⟨_, rfl, ?_⟩; first | (with_reducible rfl) | exact decide_eq_false (by omega) | exact decide_eq_true (by omega)))) | ((with_reducible refine w_skip0 ?_ ?_); (focus (refine ⟨_, rfl, ?_⟩; first | (with_reducible rfl) | exact decide_eq_false (by omega) | exact decide_eq_true (by omega))))) | ((with_reducible refine tBox (some 3) ?_); refine w_box M _ _ rfl rfl _ rfl ([.int .i64 fr, .int .i64 to, .string (mkS data)]) rfl ?_; clear M; intro gp w1 M) | ((with_reducible refine tAlloc (some 4) 67 ?_); refine w_alloc M _ rfl rfl (.agg (msgC zeroM).toArray) (msgC zeroM) (by kernel_rfl) rfl ?_; clear M; intro gm w1 M) | ((with_reducible show Code.wp _ (Code.region 3 _ _) _ _ _); go_must (refine region_det [(0, false), (2, false), (3, false), (4, false), (1, false), (5, false), (6, false), (7, false), (8, false), (10, false), (11, false), (12, false), (9, false), (13, false), (14, false), (15, false), (16, false)] [(15, .ptr), (14, .int), (18, .int), (23, .ptr), (22, .int), (26, .int)] (by kernel_rfl) (by kernel_rfl) rfl (by kernel_rfl) ?_; replace M := M.drew; simp only [reord, opAt, List.map_cons, List.map_nil, List.getElem?_toArray, List.getElem?_cons_zero, List.getElem?_cons_succ, Option.getD_some])) | (go_at_call 50; go_must (refine (linkNone_no (M.staysF RR (by simp))).mono ?_; rintro e w1 ⟨rfl, rfl⟩)) | ((with_reducible show wpList _ _ _ (Oper.mk _ (Op.store 67 _ _) _ _ _ _ :: _) _ _); refine w_at2 _ _ _ rfl (by exact ev_tmp rfl) (by first | exact ev_tmp rfl | exact ev_const) ?_; intro hx hy; refine w_storeMs (m := zeroM) M 0 _ _ _ rfl rfl hx rfl hy rfl (by kernel_rfl) zeroM_fit zeroM_fit ?_; clear hx hy M; intro w1 M; (try simp only [setC] at M)) | ((with_reducible refine tLoad ?_); refine w_at _ _ rfl (by exact ev_tmp rfl) ?_; intro hx; (first | refine w_rowF M RR nR _ _ rfl hx rfl (by decide +kernel) (by exact rfl) ?_); clear hx) | ((with_reducible show Seg _ _ _ _); go_must (first | refine Seg.intro ⟨fun h => absurd rfl h, ?_⟩ | refine Seg.intro ⟨fun _ => ixA, ?_⟩ | refine Seg.intro ⟨ndA, atA, ?_⟩)) | ((with_reducible show OnlyN _ _ _ _ _); refine OnlyN.intro (by kernel_rfl) ?_) | ((with_reducible refine tGuard ?_); first | refine gdS ?_ | (refine gdC ?_ ?_ <;> (intro hgd; rw [hgd]; try (exfalso; simp at hgd; omega)))) | fail | ((with_reducible refine tLoad ?_); go_must (refine ldS ?_)) | ((with_reducible refine tStore ?_); go_must (refine stS ?_; clear M; intro w1 M; (try simp only [setC] at M))) | ((with_reducible refine tBox _ ?_); (refine bxA M ?_; clear M; intro g w1 M))) <;> (try conv => arg 5; simp only [Act.put, List.setIfInBounds_toArray, setC]))
    exact bodyPost_ret (results_two rfl _ _ gm 0 (msgC zeroM) _ (.int .i64 1) rfl rfl (M.ok 0 _ at0).2.1 Tryz.underlying67 rfl (by rw [zeroM_len]; kernel_rfl)) rfl ⟨rfl, M.below⟩
set_option maxRecDepth 100000 in
set_option maxHeartbeats 4000000 in
/-- What its tag, or anything else, bars. -/
theorem Come_bad (data : List UInt8) (a b : UInt8) (h : c.ok w) (I : IsLink g K c) (he : EndOf K.me K.o a b) (hm : K.inn.m.length ≤ 1000000) (hd : data.length ≤ 1000000) (hz : (openL K.inn.m K.inn.c data (aboutK b a)).2 ≠ 0) :
    Calls Tryz.prog 25 #[.pointer (some ⟨g, 0, none⟩), .agg #[.int .i64 K.o, .int .i64 K.me, .string (mkS data)]] w fun e w' => e = .returned (.tuple #[.agg (msgC zeroM).toArray, .int .i64 (openL K.inn.m K.inn.c data (aboutK b a)).2]) ∧ ∃ c', IsLink g K c' ∧ Upd w c w' c' := by
  obtain ⟨go, gi, Co, Ci, JO, II, rfl⟩ := I
  obtain ⟨me, o, out, inn⟩ := K
  simp only at he hm hz JO II ⊢
  have ia : I8 a = me ∧ I8 b = o := by rcases he with ⟨h1, h2, rfl, rfl⟩ | ⟨h1, h2, rfl, rfl⟩ <;> (rw [h1, h2]; decide)
  have AC := fun w => about_c b a w
  rw [ia.1, ia.2] at AC
  have M : Mem (grp [.row g (linkRow me o go gi), Co, Ci]).fp w w [.row g (linkRow me o go gi), Co, Ci] := Mem.startG h
  have OC := fun (w : World) (h : Ci.ok w) => RingOpen_c data (aboutK b a) h II hm hd (by rw [aboutK_len]; omega)
  have N0 : ∀ w' Ci' x y, IsRing gi inn Ci' → Mem (grp [.row g (linkRow me o go gi), Co, Ci]).fp w w' [x, y, .row g (linkRow me o go gi), Co, Ci'] → ∃ c', IsLink g ⟨me, o, out, inn⟩ c' ∧ Upd w (grp [.row g (linkRow me o go gi), Co, Ci]) w' c' := fun w' Ci' x y II' M => ⟨_, ⟨go, gi, Co, Ci', JO, II', rfl⟩, M.tail.tail.updG [] rfl⟩
  obtain ⟨F, eF⟩ : ∃ F, F = (grp [.row g (linkRow me o go gi), Co, Ci]).fp := ⟨_, rfl⟩
  rw [← eF] at M N0
  obtain ⟨⟨t, e⟩, eo⟩ : ∃ x, x = openL inn.m inn.c data (aboutK b a) := ⟨_, rfl⟩
  rw [← eo] at OC hz ⊢
  simp only at OC hz ⊢
  obtain ⟨ab, eab⟩ : ∃ x, x = aboutK b a := ⟨_, rfl⟩
  rw [← eab] at OC AC
  have hz1 : ((e : Int) != 0) = true := by simp; exact hz
  have hz2 : ((e : Int) == 0) = false := by simp; exact hz
  replace OC := Lib.hid OC
  replace AC := Lib.hid AC
  replace N0 := Lib.hid N0
  clear eF eo eab ia hz he h
  go_enter Tryz.func25, Tryz.ntmps25
  go_wp2_with ((first | ((with_reducible refine tGuard ?_); (with_reducible refine w_stripE ?_ ?_); (focus (refine ⟨_, rfl, ?_⟩; first | (with_reducible rfl) | exact decide_eq_false (by omega) | exact decide_eq_true (by omega)))) | ((with_reducible refine tGuard ?_); first | ((with_reducible refine w_skip1 ?_ ?_); (focus (refine ⟨_, rfl, ?_⟩; first | (with_reducible rfl) | exact decide_eq_false (by omega) | exact decide_eq_true (by omega)))) | ((with_reducible refine w_skip0 ?_ ?_); (focus (refine ⟨_, rfl, ?_⟩; first | (with_reducible rfl) | exact decide_eq_false (by omega) | exact decide_eq_true (by omega))))) | ((with_reducible refine tBox (some 3) ?_); refine w_box M _ _ rfl rfl _ rfl ([.int .i64 o, .int .i64 me, .string (mkS data)]) rfl ?_; clear M; intro gp w1 M) | ((with_reducible refine tAlloc (some 4) 67 ?_); refine w_alloc M _ rfl rfl (.agg (msgC zeroM).toArray) (msgC zeroM) (by kernel_rfl) rfl ?_; clear M; intro gm w1 M) | ((with_reducible show Code.wp _ (Code.region 3 _ _) _ _ _); go_must (refine region_det [(0, false), (2, false), (3, false), (4, false), (1, false), (5, false), (6, false), (7, false), (8, false), (10, false), (11, false), (12, false), (9, false), (13, false), (14, false), (15, false), (16, false)] [(15, .ptr), (14, .int), (18, .int), (23, .ptr), (22, .int), (26, .int)] (by kernel_rfl) (by kernel_rfl) rfl (by kernel_rfl) ?_; replace M := M.drew; simp only [reord, opAt, List.map_cons, List.map_nil, List.getElem?_toArray, List.getElem?_cons_zero, List.getElem?_cons_succ, Option.getD_some])) | ((with_reducible show Code.wp _ (Code.region 5 _ _) _ _ _); go_must (have MR := M; refine region_lowc [(0, false), (1, false), (2, false), (4, false), (6, false), (7, false), (8, false), (10, false), (11, false), (12, false), (3, false), (5, false), (9, false), (13, false), (14, true), (15, true), (16, false), (17, false), (18, false), (19, false), (20, false)] [(31, .ptr), (37, .ptr), (41, .ptr)] [(3, _), (5, _), (9, _), (13, _)] (IxOk MR [2, 1]) 21 (by kernel_rfl) (by kernel_rfl) rfl (by kernel_rfl) (lowA MR 2 3 (lowA MR 1 2 (lowA MR 2 1 (lowA MR 2 0 lows_nil)))) (ixOk_self MR _) ?_; replace M := M.drew; simp only [planC, opAt, List.getElem?_toArray, List.getElem?_cons_zero, List.getElem?_cons_succ, Option.getD_some])) | (go_at_call 50; go_must (refine (linkNone_no (M.ok 2 _ at2)).mono ?_; rintro e w1 ⟨rfl, rfl⟩)) | (go_at_call 52; go_must (refine (AC.out _).mono ?_; rintro e w1 ⟨rfl, hb⟩; replace M := M.call hb; clear hb)) | (go_at_call 15; go_must (refine (OC.out _ (M.ok 4 _ at4)).mono ?_; rintro e w1 ⟨rfl, Ci1, II1, U⟩; replace M := M.upd 4 at4 U; clear U; simp only [setC] at M)) | ((with_reducible show wpList _ _ _ (Oper.mk _ (Op.store 67 _ _) _ _ _ _ :: _) _ _); refine w_at2 _ _ _ rfl (by exact ev_tmp rfl) (by first | exact ev_tmp rfl | exact ev_const) ?_; intro hx hy; refine w_storeMs (m := zeroM) M 0 _ _ _ rfl rfl hx rfl hy rfl (by kernel_rfl) zeroM_fit zeroM_fit ?_; clear hx hy M; intro w1 M; (try simp only [setC] at M)) | ((with_reducible show Seg _ _ _ _); go_must (first | refine Seg.intro ⟨fun h => absurd rfl h, ?_⟩ | refine Seg.intro ⟨fun _ => ixA, ?_⟩ | refine Seg.intro ⟨ndA, atA, ?_⟩)) | ((with_reducible show OnlyN _ _ _ _ _); refine OnlyN.intro (by kernel_rfl) ?_) | ((with_reducible refine tGuard ?_); first | refine gdS ?_ | (refine gdC ?_ ?_ <;> (intro hgd; rw [hgd]; try (exfalso; simp at hgd; omega)))) | fail | ((with_reducible refine tLoad ?_); go_must (refine ldS ?_)) | ((with_reducible refine tStore ?_); go_must (refine stS ?_; clear M; intro w1 M; (try simp only [setC] at M))) | ((with_reducible refine tBox _ ?_); (refine bxA M ?_; clear M; intro g w1 M))) <;> (try conv => arg 5; simp only [Act.put, List.setIfInBounds_toArray, setC]))
  exact bodyPost_ret (results_two rfl _ _ gm 0 (msgC zeroM) _ (.int .i64 e) rfl rfl (M.ok 0 _ at0).2.1 Tryz.underlying67 rfl (by rw [zeroM_len]; kernel_rfl)) rfl ⟨rfl, N0.out _ _ _ _ II1 M⟩
set_option maxRecDepth 100000 in
set_option maxHeartbeats 4000000 in
/-- What is opened is read. -/
theorem Come_ok (data : List UInt8) (a b : UInt8) (h : c.ok w) (I : IsLink g K c) (he : EndOf K.me K.o a b) (hm : K.inn.m.length ≤ 1000000) (hd : data.length ≤ 1000000) (hz : (openL K.inn.m K.inn.c data (aboutK b a)).2 = 0) :
    Calls Tryz.prog 25 #[.pointer (some ⟨g, 0, none⟩), .agg #[.int .i64 K.o, .int .i64 K.me, .string (mkS data)]] w fun e w' => ∃ ov pv c', e = .returned (.tuple #[.agg (msgC ((readM (openL K.inn.m K.inn.c data (aboutK b a)).1).1.ms ov pv)).toArray, .int .i64 (readM (openL K.inn.m K.inn.c data (aboutK b a)).1).2]) ∧ IsLink g K c' ∧ Mem c.fp w w' [.sl 3 ov (readM (openL K.inn.m K.inn.c data (aboutK b a)).1).1.ops.length ((readM (openL K.inn.m K.inn.c data (aboutK b a)).1).1.ops.flatMap opV), .sl 2 pv (readM (openL K.inn.m K.inn.c data (aboutK b a)).1).1.prs.length ((readM (openL K.inn.m K.inn.c data (aboutK b a)).1).1.prs.flatMap prV), c'] := by
  obtain ⟨go, gi, Co, Ci, JO, II, rfl⟩ := I
  obtain ⟨me, o, out, inn⟩ := K
  simp only at he hm hz JO II ⊢
  have ia : I8 a = me ∧ I8 b = o := by rcases he with ⟨h1, h2, rfl, rfl⟩ | ⟨h1, h2, rfl, rfl⟩ <;> (rw [h1, h2]; decide)
  have AC := fun w => about_c b a w
  rw [ia.1, ia.2] at AC
  have M : Mem (grp [.row g (linkRow me o go gi), Co, Ci]).fp w w [.row g (linkRow me o go gi), Co, Ci] := Mem.startG h
  have OC := fun (w : World) (h : Ci.ok w) => RingOpen_c data (aboutK b a) h II hm hd (by rw [aboutK_len]; omega)
  have hl := openL_len inn.m inn.c data (aboutK b a)
  obtain ⟨F, eF⟩ : ∃ F, F = (grp [.row g (linkRow me o go gi), Co, Ci]).fp := ⟨_, rfl⟩
  rw [← eF] at M ⊢
  obtain ⟨⟨t, e⟩, eo⟩ : ∃ x, x = openL inn.m inn.c data (aboutK b a) := ⟨_, rfl⟩
  rw [← eo] at OC hz hl ⊢
  simp only at OC hz hl ⊢
  rw [hz, show ((0 : Nat) : Int) = 0 from rfl] at OC
  have RC := fun w => Read_c t w (by omega)
  have hrf := (readM_form t (by omega)).1
  obtain ⟨ab, eab⟩ : ∃ x, x = aboutK b a := ⟨_, rfl⟩
  rw [← eab] at OC AC
  unfold GivesM at RC
  obtain ⟨⟨R, re⟩, er⟩ : ∃ x, x = readM t := ⟨_, rfl⟩
  rw [← er] at RC hrf ⊢
  simp only at RC hrf ⊢
  replace OC := Lib.hid OC
  replace AC := Lib.hid AC
  replace RC := Lib.hid RC
  clear eF eo eab ia hz he h er
  go_enter Tryz.func25, Tryz.ntmps25
  go_wp2_with ((first | ((with_reducible refine tGuard ?_); (with_reducible refine w_stripE ?_ ?_); (focus (refine ⟨_, rfl, ?_⟩; first | (with_reducible rfl) | exact decide_eq_false (by omega) | exact decide_eq_true (by omega)))) | ((with_reducible refine tGuard ?_); first | ((with_reducible refine w_skip1 ?_ ?_); (focus (refine ⟨_, rfl, ?_⟩; first | (with_reducible rfl) | exact decide_eq_false (by omega) | exact decide_eq_true (by omega)))) | ((with_reducible refine w_skip0 ?_ ?_); (focus (refine ⟨_, rfl, ?_⟩; first | (with_reducible rfl) | exact decide_eq_false (by omega) | exact decide_eq_true (by omega))))) | ((with_reducible refine tBox (some 3) ?_); refine w_box M _ _ rfl rfl _ rfl ([.int .i64 o, .int .i64 me, .string (mkS data)]) rfl ?_; clear M; intro gp w1 M) | ((with_reducible refine tAlloc (some 4) 67 ?_); refine w_alloc M _ rfl rfl (.agg (msgC zeroM).toArray) (msgC zeroM) (by kernel_rfl) rfl ?_; clear M; intro gm w1 M) | ((with_reducible show Code.wp _ (Code.region 3 _ _) _ _ _); go_must (refine region_det [(0, false), (2, false), (3, false), (4, false), (1, false), (5, false), (6, false), (7, false), (8, false), (10, false), (11, false), (12, false), (9, false), (13, false), (14, false), (15, false), (16, false)] [(15, .ptr), (14, .int), (18, .int), (23, .ptr), (22, .int), (26, .int)] (by kernel_rfl) (by kernel_rfl) rfl (by kernel_rfl) ?_; replace M := M.drew; simp only [reord, opAt, List.map_cons, List.map_nil, List.getElem?_toArray, List.getElem?_cons_zero, List.getElem?_cons_succ, Option.getD_some])) | ((with_reducible show Code.wp _ (Code.region 5 _ _) _ _ _); go_must (have MR := M; refine region_lowc [(0, false), (1, false), (2, false), (4, false), (6, false), (7, false), (8, false), (10, false), (11, false), (12, false), (3, false), (5, false), (9, false), (13, false), (14, true), (15, true), (16, false), (17, false), (18, false), (19, false), (20, false)] [(31, .ptr), (37, .ptr), (41, .ptr)] [(3, _), (5, _), (9, _), (13, _)] (IxOk MR [2, 1]) 21 (by kernel_rfl) (by kernel_rfl) rfl (by kernel_rfl) (lowA MR 2 3 (lowA MR 1 2 (lowA MR 2 1 (lowA MR 2 0 lows_nil)))) (ixOk_self MR _) ?_; replace M := M.drew; simp only [planC, opAt, List.getElem?_toArray, List.getElem?_cons_zero, List.getElem?_cons_succ, Option.getD_some])) | (go_at_call 50; go_must (refine (linkNone_no (M.ok 2 _ at2)).mono ?_; rintro e w1 ⟨rfl, rfl⟩)) | (go_at_call 52; go_must (refine (AC.out _).mono ?_; rintro e w1 ⟨rfl, hb⟩; replace M := M.call hb; clear hb)) | (go_at_call 15; go_must (refine (OC.out _ (M.ok 4 _ at4)).mono ?_; rintro e w1 ⟨rfl, Ci1, II1, U⟩; replace M := M.upd 4 at4 U; clear U; simp only [setC] at M)) | (go_at_call 53; go_must (refine (RC.out _).mono ?_; rintro e w7 ⟨rov, rpv, rfl, N⟩; replace M := M.join N; clear N; simp only [List.cons_append, List.nil_append] at M; have hmf := ms_fit2 hrf M)) | ((with_reducible show wpList _ _ _ (Oper.mk _ (Op.store 67 _ _) _ _ _ _ :: _) _ _); refine w_at2 _ _ _ rfl (by exact ev_tmp rfl) (by first | exact ev_tmp rfl | exact ev_const) ?_; intro hx hy; refine w_storeMs (m := R.ms rov rpv) M 2 _ _ _ rfl rfl hx rfl hy rfl (by kernel_rfl) hmf zeroM_fit ?_; clear hx hy M; intro w1 M; (try simp only [setC] at M)) | ((with_reducible show Seg _ _ _ _); go_must (first | refine Seg.intro ⟨fun h => absurd rfl h, ?_⟩ | refine Seg.intro ⟨fun _ => ixA, ?_⟩ | refine Seg.intro ⟨ndA, atA, ?_⟩)) | ((with_reducible show OnlyN _ _ _ _ _); refine OnlyN.intro (by kernel_rfl) ?_) | ((with_reducible refine tGuard ?_); first | refine gdS ?_ | (refine gdC ?_ ?_ <;> (intro hgd; rw [hgd]; try (exfalso; simp at hgd; omega)))) | fail | ((with_reducible refine tLoad ?_); go_must (refine ldS ?_)) | ((with_reducible refine tStore ?_); go_must (refine stS ?_; clear M; intro w1 M; (try simp only [setC] at M))) | ((with_reducible refine tBox _ ?_); (refine bxA M ?_; clear M; intro g w1 M))) <;> (try conv => arg 5; simp only [Act.put, List.setIfInBounds_toArray, setC]))
  exact bodyPost_ret (results_two rfl _ _ gm 0 (msgC (R.ms rov rpv)) _ (.int .i64 re) rfl rfl (M.ok 2 _ at2).2.1 Tryz.underlying67 rfl (by rw [msgC_len hmf]; kernel_rfl)) rfl ⟨_, _, _, rfl, ⟨go, gi, Co, Ci1, JO, II1, rfl⟩, link_out M⟩
end
end Go.Proofs.YtidadhbaomieiaaGreat

/- The walk of layer 19's wake. Conditions: none. -/
namespace Go
namespace TL
open Go.RowKit
def helloM : Lm := ⟨1, 3, 0, 0, 0, 0, [], 0, zeroH, 0, 0, zeroH, zeroH, []⟩
theorem helloM_fit : helloM.fit := ⟨zeroH_len, zeroH_len, zeroH_len⟩
theorem helloM_rng : helloM.rng := ⟨fun q => by cases q <;> decide, by decide, by simp [helloM], by simp [helloM], by simp [helloM], by simp [helloM], by simp [helloM]⟩
theorem helloM_only : onlyL helloM = helloM := rfl
theorem helloM_ok : okL helloM = true := by decide +kernel
theorem helloM_b : bytesM helloM = (bytesL helloM, 0) := by rw [bytesM_eq helloM_fit helloM_rng, if_pos (by decide), if_pos ⟨helloM_ok, helloM_only⟩]
/-- A right message's bytes are read as it. -/
theorem read_right {L : Lm} (hL : L.fit) (hr : L.rng) (hk : isK L.k = true) (ho : okL L = true) (hn : onlyL L = L) : readM (bytesL L) = (L, 0) := by
  have := readM_back hL hr hk ho []
  rwa [List.append_nil, if_pos rfl, hn] at this
/-- What was sent is opened at the other end. -/
theorem link_open (seed : List UInt8) (a b : UInt8) (boot : UInt32) (n : UInt64) (text : List UInt8) (ht : text.length ≤ 8192) : openL (masterK seed a b) 0 (envB (RingS.env ⟨masterK seed a b, 0, boot, n⟩ (aboutK a b) text)) (aboutK a b) = (text, 0) :=
  openL_ok (R := ⟨masterK seed a b, 0, boot, n⟩) (aboutK a b) text (Nat.zero_le _) ht (Nat.le_refl _)
theorem link_len (seed : List UInt8) (a b : UInt8) (boot : UInt32) (n : UInt64) (text : List UInt8) (ht : text.length ≤ 8192) : (envB (RingS.env ⟨masterK seed a b, 0, boot, n⟩ (aboutK a b) text)).length ≤ 8600 :=
  envB_length (RingS.env_right (R := ⟨masterK seed a b, 0, boot, n⟩) (aboutK a b) text (Nat.zero_le _) ht)
theorem swapH {F : List Nat} {w0 w : World} {c d : Chunk} {L : List Chunk} (M : Mem F w0 w (c :: d :: L)) : Mem F w0 w (d :: c :: L) :=
  M.pick _ (fun i => if i = 0 then 1 else if i = 1 then 0 else i) (fun i j _ _ h => by (try dsimp only at h); split at h <;> split at h <;> (try split at h) <;> (try split at h) <;> omega) (fun i c' h => by
    match i, h with
    | 0, h => simpa using h
    | 1, h => simpa using h
    | i + 2, h => simpa using h)
theorem turn1 {F : List Nat} {w0 w w' : World} {c : Chunk} {K' L : List Chunk} (M : Mem F w0 w (c :: L)) (U : Mem c.fp w w' K') : Mem F w0 w' (K' ++ L) := Mem.turn (K := [c]) M (by simpa using U)
end TL
end Go
namespace Go.Proofs.YtidadhbaomieiaaGreat
open Go.RowKit Go.TL
set_option maxRecDepth 100000 in
set_option maxHeartbeats 8000000 in
theorem awake19_c (w : World) : Calls Tryz.prog 27 #[] w fun e w' => e = .returned (.bool true) ∧ Below w.heap.size w w' := by
  have M := Mem.start [] w
  have NA : ∀ w, Calls Tryz.prog 23 #[.int .i64 0, .string (mkS [115]), .int .u32 1] w fun e w' => ∃ g C, e = .returned (.tuple #[.pointer (some ⟨g, 0, none⟩), .int .i64 0]) ∧ IsLink g (linkOf [115] 0 1 0 1 1 0) C ∧ Mem [] w w' [C] := fun w => LinkNew_ok [115] 0 1 0 1 1 w (by decide) (by unfold EndOf; decide)
  have NB : ∀ w, Calls Tryz.prog 23 #[.int .i64 1, .string (mkS [115]), .int .u32 1] w fun e w' => ∃ g C, e = .returned (.tuple #[.pointer (some ⟨g, 0, none⟩), .int .i64 0]) ∧ IsLink g (linkOf [115] 1 0 1 0 1 0) C ∧ Mem [] w w' [C] := fun w => LinkNew_ok [115] 1 0 1 0 1 w (by decide) (by unfold EndOf; decide)
  have hsh := bytesL_short helloM_fit helloM_rng (by decide) helloM_ok
  have SC : ∀ (C : Array Value) (g : Nat) (c : Chunk) (w : World) (h : c.ok w) (I : IsLink g (linkOf [115] 0 1 0 1 1 0) c), C = (msgC (helloM.ms (.slice none 0 0) (.slice none 0 0))).toArray → Calls Tryz.prog 24 #[.pointer (some ⟨g, 0, none⟩), .agg C] w fun r w' => r = .returned (.tuple #[.agg #[.int .i64 0, .int .i64 1, .string (mkS (envB (RingS.env ⟨masterK [115] 0 1, 0, 1, 0⟩ (aboutK 0 1) (bytesL helloM))))], .int .i64 0]) ∧ ∃ c', True ∧ Upd w c w' c' := fun C g c w h I hC => by
    rw [hC]
    refine (Send_ok helloM (.slice none 0 0) (.slice none 0 0) 0 1 h I (.inl ⟨rfl, rfl, rfl, rfl⟩) (by show (masterK [115] 0 1).length ≤ _; rw [masterK_len]; decide) (by show 0 ≤ 1048576; decide) (by show (0 : UInt64).toNat < _; decide) helloM_fit helloM_rng (seesL_nil _ _ opV_len _) (seesL_nil _ _ prV_len _) (by simp [Value.ownBlock]) (by simp [Value.ownBlock]) (by decide) helloM_ok helloM_b).mono ?_
    rintro e w' ⟨rfl, c', _, U⟩
    exact ⟨rfl, c', trivial, U⟩
  have hop := link_open [115] 0 1 1 0 (bytesL helloM) hsh
  have hln := link_len [115] 0 1 1 0 (bytesL helloM) hsh
  have CC := fun (g : Nat) (c : Chunk) (w : World) (h : c.ok w) (I : IsLink g (linkOf [115] 1 0 1 0 1 0) c) => Come_ok (envB (RingS.env ⟨masterK [115] 0 1, 0, 1, 0⟩ (aboutK 0 1) (bytesL helloM))) 1 0 h I (.inr ⟨rfl, rfl, rfl, rfl⟩) (by show (masterK [115] 0 1).length ≤ _; rw [masterK_len]; decide) (by omega) (by show (openL (masterK [115] 0 1) 0 _ (aboutK 0 1)).2 = 0; rw [hop])
  have hop2 : openL (linkOf [115] 1 0 1 0 1 0).inn.m (linkOf [115] 1 0 1 0 1 0).inn.c (envB (RingS.env ⟨masterK [115] 0 1, 0, 1, 0⟩ (aboutK 0 1) (bytesL helloM))) (aboutK 0 1) = (bytesL helloM, 0) := hop
  rw [hop2, read_right helloM_fit helloM_rng (by decide) helloM_ok helloM_only] at CC
  simp only at CC
  obtain ⟨D, eD⟩ : ∃ D, D = envB (RingS.env ⟨masterK [115] 0 1, 0, 1, 0⟩ (aboutK 0 1) (bytesL helloM)) := ⟨_, rfl⟩
  rw [← eD] at SC CC
  have CC' : ∀ (g : Nat) (c : Chunk) (w : World), c.ok w → IsLink g (linkOf [115] 1 0 1 0 1 0) c → Calls Tryz.prog 25 #[.pointer (some ⟨g, 0, none⟩), .agg #[.int .i64 0, .int .i64 1, .string (mkS D)]] w fun e w' => ∃ ov pv c', e = .returned (.tuple #[.agg (msgC (helloM.ms ov pv)).toArray, .int .i64 0]) ∧ IsLink g (linkOf [115] 1 0 1 0 1 0) c' ∧ Mem c.fp w w' [.sl 3 ov helloM.ops.length (helloM.ops.flatMap opV), .sl 2 pv helloM.prs.length (helloM.prs.flatMap prV), c'] := CC
  have hwf := helloM_fit
  have hwk : helloM.k = 1 := rfl
  have hwe : helloM.e = 3 := rfl
  obtain ⟨W, eW⟩ : ∃ W, W = helloM := ⟨_, rfl⟩
  rw [← eW] at CC' hwf hwk hwe
  obtain ⟨KA, eA⟩ : ∃ K, K = linkOf [115] 0 1 0 1 1 0 := ⟨_, rfl⟩
  obtain ⟨KB, eB⟩ : ∃ K, K = linkOf [115] 1 0 1 0 1 0 := ⟨_, rfl⟩
  rw [← eA] at NA SC
  rw [← eB] at NB CC'
  have H0 : ∀ ov pv, (msgC (W.ms ov pv))[0]? = some (.int .u8 1) := fun ov pv => by show some (Value.int .u8 (I8 W.k)) = _; rw [hwk]; rfl
  have H1 : ∀ ov pv, (msgC (W.ms ov pv))[1]? = some (.int .i64 3) := fun ov pv => by show some (Value.int .i64 W.e) = _; rw [hwe]
  replace NA := Lib.hid NA
  replace NB := Lib.hid NB
  replace SC := Lib.hid SC
  replace CC' := Lib.hid CC'
  replace H0 := Lib.hid H0
  replace H1 := Lib.hid H1
  clear CC eW hwk hwe eD hop hop2 hln hsh eA eB
  go_enter Tryz.func27, Tryz.ntmps27
  go_wp2_with ((first | ((with_reducible refine tGuard ?_); (with_reducible refine w_stripE ?_ ?_); (focus (refine ⟨_, rfl, ?_⟩; first | (with_reducible rfl) | exact decide_eq_false (by omega) | exact decide_eq_true (by omega)))) | ((with_reducible refine tGuard ?_); first | ((with_reducible refine w_skip1 ?_ ?_); (focus (refine ⟨_, rfl, ?_⟩; first | (with_reducible rfl) | exact decide_eq_false (by omega) | exact decide_eq_true (by omega)))) | ((with_reducible refine w_skip0 ?_ ?_); (focus (refine ⟨_, rfl, ?_⟩; first | (with_reducible rfl) | exact decide_eq_false (by omega) | exact decide_eq_true (by omega))))) | (go_at_call 23; go_must (first | (with_reducible refine (NA.out _).mono ?_; rintro e w1 ⟨ga, ca, rfl, IA, MJ⟩) | (with_reducible refine (NB.out _).mono ?_; rintro e w1 ⟨gb, cb, rfl, IB, MJ⟩)); replace M := M.join MJ; clear MJ; simp only [List.cons_append, List.nil_append] at M) | (go_at_call 24; go_must (refine (SC.out _ _ _ _ (M.ok 1 _ at1) IA rfl).mono ?_; rintro e w1 ⟨rfl, ca1, _, U⟩; replace M := M.upd 1 at1 U; clear U; simp only [setC] at M)) | ((with_reducible refine tAlloc (some 5) 58 ?_); refine w_alloc M _ rfl rfl (.agg #[.int .i64 0, .int .i64 0, .string (mkS [])]) ([.int .i64 0, .int .i64 0, .string (mkS [])]) (by kernel_rfl) rfl ?_; clear M; intro gp w1 M) | (go_at_call 25; go_must (replace M := swapH M; refine (CC'.out _ _ _ (M.ok 0 _ at0) IB).mono ?_; rintro e w1 ⟨rov, rpv, cb1, rfl, IB1, U⟩; replace M := turn1 M U; clear U; simp only [List.cons_append, List.nil_append] at M; have hrf := ms_fit2 hwf M)) | ((with_reducible refine tAlloc (some 7) 67 ?_); refine w_alloc M _ rfl rfl (.agg (msgC zeroM).toArray) (msgC zeroM) (by kernel_rfl) rfl ?_; clear M; intro gm w1 M) | ((with_reducible show wpList _ _ _ (Oper.mk _ (Op.store 67 _ _) _ _ _ _ :: _) _ _); refine w_at2 _ _ _ rfl (by exact ev_tmp rfl) (by first | exact ev_tmp rfl | exact ev_const) ?_; intro hx hy; refine w_storeMs (m := W.ms rov rpv) M 0 _ _ _ rfl rfl hx rfl hy rfl (by kernel_rfl) hrf zeroM_fit ?_; clear hx hy M; intro w1 M; (try simp only [setC] at M)) | ((with_reducible refine tLoad ?_); refine w_at _ _ rfl (by exact ev_tmp rfl) ?_; intro hx; (first | refine w_load M 0 _ _ rfl rfl hx rfl (by decide +kernel) (by with_reducible first | exact H0.out _ _ | exact H1.out _ _) ?_); clear hx) | ((with_reducible refine tGuard ?_); first | refine gdS ?_ | (refine gdC ?_ ?_ <;> (intro hgd; rw [hgd]; try (exfalso; simp at hgd; omega)))) | fail | ((with_reducible refine tLoad ?_); go_must (refine ldS ?_)) | ((with_reducible refine tStore ?_); go_must (refine stS ?_; clear M; intro w1 M; (try simp only [setC] at M))) | ((with_reducible refine tBox _ ?_); (refine bxA M ?_; clear M; intro g w1 M))) <;> (try conv => arg 5; simp only [Act.put, List.setIfInBounds_toArray, setC]))
  go_ret
  exact ⟨by first | rfl | simp, M.below⟩
end Go.Proofs.YtidadhbaomieiaaGreat
