/- Texts of this seat, put together: BatQ, MsgS, BigR, RefP, RefW, RefPr, W32, RefT, RefL. Each begins with a remark that says what is proved in it, and under which conditions. -/
import Derived.Test.YtidadhbaomieiaaGreatY
import Derived.Deep.Cut
import Derived.Test.YtidadhbaomieiaaGreatZa
import Derived.Test.YtidadhbaomieiaaGreatZb
import Derived.Test.YtidadhbaomieiaaGreatZd
import Derived.Test.YtidadhbaomieiaaGreatZf
set_option maxRecDepth 100000
set_option maxHeartbeats 16000000
namespace Go
namespace TL
def sameB (i e j f : Int) (l m : List Opr) : Bool := i == j && (e == f && l == m)
theorem sameB_i {i e j f : Int} {l m : List Opr} (h : i ≠ j) : sameB i e j f l m = false := by unfold sameB; rw [beq_eq_false_iff_ne.2 h]; rfl
theorem sameB_e {i e j f : Int} {l m : List Opr} (h : e ≠ f) : sameB i e j f l m = false := by unfold sameB; rw [beq_eq_false_iff_ne.2 h, Bool.false_and, Bool.and_false]
theorem sameB_l {i e : Int} {l m : List Opr} : sameB i e i e l m = (l == m) := by unfold sameB; rw [beq_self_eq_true, beq_self_eq_true, Bool.true_and, Bool.true_and]
theorem eqO_ne {l m : List Opr} (k : Nat) (x y : Opr) (h1 : l[k]? = some x) (h2 : m[k]? = some y) (h : x ≠ y) : (l == m) = false := by
 rw [beq_eq_false_iff_ne]; rintro rfl; rw [h1] at h2; cases h2; exact h rfl
theorem eqO_eq {l m : List Opr} (h0 : l.length = m.length) (h : ∀ (k : Nat), k < l.length → l[k]? = m[k]?) : (l == m) = true := by
 rw [beq_iff_eq]
 apply List.ext_getElem?
 intro k
 by_cases hk : k < l.length
 ·exact h k hk
 ·rw [List.getElem?_eq_none yF, List.getElem?_eq_none yF]
theorem eqO_len {l m : List Opr} (h : l.length ≠ m.length) : (l == m) = false := by
 rw [beq_eq_false_iff_ne]; rintro rfl; exact h rfl
theorem opV_ne {q q' : UInt8} {a b c d : List UInt8} (h : (q, a, b) ≠ (q', c, d)) : ¬ (I8 q = I8 q' ∧ a = c ∧ b = d) := by
 rintro ⟨h1, rfl, rfl⟩
 rw [I8_eq, I8_eq] at h1
 have : q = q' := UInt8.toNat_inj.1 yF
 subst this; exact h rfl
end TL
end Go
namespace Go.Proofs.YtidadhbaomieiaaGreat
open Go.RowKit Go.TL
theorem EqualO_c (l m : List Opr) (v u : Value) (w : World) (S : SeesL w 3 opV v l) (T : SeesL w 3 opV u m) (hl : l.length ≤ 1000000) (_hm : m.length ≤ 1000000) :
  Calls Tryz.prog 93 #[v, u] w fun e w' => e = .returned (.bool (l == m)) ∧ Below w.heap.size w w' := by
 obtain ⟨p, cap, rfl, hc⟩ := S.form
 obtain ⟨q, cap', rfl, hc'⟩ := T.form
 have hne := @eqO_ne l m
 have heq := @eqO_eq l m
 have hln := @eqO_len l m
 obtain ⟨R, eR⟩ : ∃ R, R = (l == m) := ⟨_, rfl⟩
 rw [← eR] at hne heq hln ⊢
 replace hne := Lib.hid hne
 replace heq := Lib.hid heq
 replace hln := Lib.hid hln
 clear eR
 have M := Mem.start [] w
 by_cases hn : l.length = m.length
 ·have hq : ((l.length : Int) != (m.length : Int)) = false := by simp; omega
  go_enter Tryz.func93, Tryz.ntmps93
  replace hn := Lib.hid hn
  go_wp2_with fail
  go_loopw [13] (fun iv wr => ∃ k : Nat, k ≤ l.length ∧ iv = .int .i64 k ∧ Hid (∀ (j : Nat), j < k → l[j]? = m[j]?) ∧ Mem [] w wr []) (fun iv _ => l.length - (intOf iv).toNat)
  case atStart => exact ⟨0, by omega, rfl, Lib.hid yF, M⟩
  case round =>
   clear M
   obtain ⟨k, hk, rfl, HK, M⟩ := hrel
   by_cases hlt : k < l.length
   ·obtain ⟨g, so, rfl⟩ := S.addr yF
    obtain ⟨g', so', rfl⟩ := T.addr (by have := hn.out; omega)
    have hkm : k < m.length := by have := hn.out; omega
    obtain ⟨⟨qa, a, b⟩, hx⟩ : ∃ x, l[k]? = some x := ⟨_, List.getElem?_eq_getElem hlt⟩
    obtain ⟨⟨qc, c, d⟩, hy⟩ : ∃ x, m[k]? = some x := ⟨_, List.getElem?_eq_getElem hkm⟩
    have HX := Lib.hid hx; clear hx
    have HY := Lib.hid hy; clear hy
    by_cases hab : (qa, a, b) = (qc, c, d)
    ·simp only [Prod.mk.injEq] at hab
     obtain ⟨rfl, rfl, rfl⟩ := hab
     go_wp2_with ((first | ((with_reducible refine tLoad ?_); refine w_at _ _ rfl yI ?_; intro hx; first | (refine qBD M S HX.out _ _ rfl hx rfl yB yG yD ?_; clear hx; (try conv => arg 5; simp only [Act.put, List.setIfInBounds_toArray, setC, qBR])) | (refine w_see M S HX.out _ _ rfl hx rfl yB 0 yG rfl ?_; clear hx) | (refine w_see M S HX.out _ _ rfl hx rfl yB 1 yG rfl ?_; clear hx) | (refine w_see M S HX.out _ _ rfl hx rfl yB 2 yG rfl ?_; clear hx) | (refine qBD M T HY.out _ _ rfl hx rfl yB yG yD ?_; clear hx; (try conv => arg 5; simp only [Act.put, List.setIfInBounds_toArray, setC, qBR])) | (refine w_see M T HY.out _ _ rfl hx rfl yB 0 yG rfl ?_; clear hx) | (refine w_see M T HY.out _ _ rfl hx rfl yB 1 yG rfl ?_; clear hx) | (refine w_see M T HY.out _ _ rfl hx rfl yB 2 yG rfl ?_; clear hx)) | ((with_reducible show Code.wp _ (Code.region 6 _ _) _ _ _); (refine qAF [(0, false), (1, false), (2, false), (4, false), (5, false), (6, false), (3, false), (7, false), (8, false)] [(19, .cells), (23, .cells)] yD yD rfl yD ?_; replace M := M.drew; simp only [reord, opAt, List.map_cons, List.map_nil, gE])) | ((with_reducible refine tM rfl ?_); refine mS ?_; try (clear M; (first | intro g w1 M | intro w1 M); try simp only [setC] at M)) | ((with_reducible first | show Seg _ _ _ _ | show OnlyN _ _ _ _ _); refine rA ?_)) <;> (try conv => arg 5; simp only [apS, setC]))
     go_roundw
     case rel => exact ⟨k + 1, by omega, by go_num, Lib.hid fun j hj => by
      rcases Nat.lt_succ_iff_lt_or_eq.1 hj with hj | rfl
      ·exact HK.out j hj
      ·exact HX.out.trans HY.out.symm, M⟩
     case measure => simp [intOf]; omega
    ·have e0 : R = false := hne.out k _ _ HX.out HY.out hab
     subst e0
     have hab := Lib.hid (opV_ne hab)
     go_wp2_with ((first | ((with_reducible refine tLoad ?_); refine w_at _ _ rfl yI ?_; intro hx; first | (refine qBD M S HX.out _ _ rfl hx rfl yB yG yD ?_; clear hx; (try conv => arg 5; simp only [Act.put, List.setIfInBounds_toArray, setC, qBR])) | (refine w_see M S HX.out _ _ rfl hx rfl yB 0 yG rfl ?_; clear hx) | (refine w_see M S HX.out _ _ rfl hx rfl yB 1 yG rfl ?_; clear hx) | (refine w_see M S HX.out _ _ rfl hx rfl yB 2 yG rfl ?_; clear hx) | (refine qBD M T HY.out _ _ rfl hx rfl yB yG yD ?_; clear hx; (try conv => arg 5; simp only [Act.put, List.setIfInBounds_toArray, setC, qBR])) | (refine w_see M T HY.out _ _ rfl hx rfl yB 0 yG rfl ?_; clear hx) | (refine w_see M T HY.out _ _ rfl hx rfl yB 1 yG rfl ?_; clear hx) | (refine w_see M T HY.out _ _ rfl hx rfl yB 2 yG rfl ?_; clear hx)) | ((with_reducible show Code.wp _ (Code.region 6 _ _) _ _ _); (refine qAF [(0, false), (1, false), (2, false), (4, false), (5, false), (6, false), (3, false), (7, false), (8, false)] [(19, .cells), (23, .cells)] yD yD rfl yD ?_; replace M := M.drew; simp only [reord, opAt, List.map_cons, List.map_nil, gE])) | ((with_reducible refine tM rfl ?_); refine mS ?_; try (clear M; (first | intro g w1 M | intro w1 M); try simp only [setC] at M)) | ((with_reducible first | show Seg _ _ _ _ | show OnlyN _ _ _ _ _); refine rA ?_)) <;> (try conv => arg 5; simp only [apS, setC]))
     all_goals (first | exact absurd ⟨‹I8 qa = I8 qc›, ‹a = c›, ‹b = d›⟩ hab.out | (go_ret; exact ⟨rfl, M.below⟩))
   ·obtain rfl : k = l.length := by omega
    have e0 : R = true := heq.out hn.out HK.out
    subst e0
    have hkm : ¬ l.length < m.length := by have := hn.out; omega
    go_wp2_with ((first | ((with_reducible refine tM rfl ?_); refine mS ?_; try (clear M; (first | intro g w1 M | intro w1 M); try simp only [setC] at M))) <;> (try conv => arg 5; simp only [apS, setC]))
    go_ret
    exact ⟨rfl, M.below⟩
 ·have e0 : R = false := hln.out hn
  subst e0
  have hq : ((l.length : Int) != (m.length : Int)) = true := by simp; omega
  go_enter Tryz.func93, Tryz.ntmps93
  go_wp2_with fail
  go_ret
  exact ⟨rfl, M.below⟩
theorem bSame_c (i e j f : Int) (l m : List Opr) (v u : Value) (w : World) (S : SeesL w 3 opV v l) (T : SeesL w 3 opV u m) (hl : l.length ≤ 1000000) (_hm : m.length ≤ 1000000) :
  Calls Tryz.prog 54 #[.agg #[.int .i64 i, .int .i64 e, v], .agg #[.int .i64 j, .int .i64 f, u]] w fun r w' => r = .returned (.bool (sameB i e j f l m)) ∧ Below w.heap.size w w' := by
 obtain ⟨p, cap, rfl, hc⟩ := S.form
 obtain ⟨q, cap', rfl, hc'⟩ := T.form
 have M := Mem.start [] w
 by_cases hij : i = j
 ·subst hij
  by_cases hef : e = f
  ·subst hef
   rw [sameB_l]
   have E := fun w S T => EqualO_c l m (.slice p l.length cap) (.slice q m.length cap') w S T hl _hm
   obtain ⟨R, eR⟩ : ∃ R, R = (l == m) := ⟨_, rfl⟩
   rw [← eR] at E ⊢
   replace E := Lib.hid E
   clear eR
   go_enter Tryz.func54, Tryz.ntmps54
   go_wp2_with ((first | ((with_reducible refine tBox (some 2) ?_); refine w_box M _ _ rfl rfl _ rfl ([.int .i64 i, .int .i64 e, .slice p l.length cap]) rfl ?_; clear M; intro ga w1 M) | ((with_reducible refine tBox (some 3) ?_); refine w_box M _ _ rfl rfl _ rfl ([.int .i64 i, .int .i64 e, .slice q m.length cap']) rfl ?_; clear M; intro gb w1 M) | ((with_reducible refine tGuard ?_); first | ((with_reducible refine qAC ?_ ?_); exact dcd) | ((with_reducible refine qAH ?_ ?_); exact dcd) | ((with_reducible refine qAI ?_ ?_); exact dcd)) | (go_at_call 93; (refine (E.out _ (S.now M) (T.now M)).mono ?_; rintro e w1 ⟨rfl, hb⟩; replace M := M.call hb; clear hb)) | ((with_reducible refine tM rfl ?_); refine mS ?_; try (clear M; (first | intro g w1 M | intro w1 M); try simp only [setC] at M))) <;> (try conv => arg 5; simp only [apS, setC]))
   go_ret
   exact ⟨rfl, M.below⟩
  ·rw [sameB_e hef]
   have h1 : (e == f) = false := beq_eq_false_iff_ne.2 hef
   have h2 : (e != f) = true := by simpa using hef
   clear hef
   go_enter Tryz.func54, Tryz.ntmps54
   go_wp2_with ((first | ((with_reducible refine tBox (some 2) ?_); refine w_box M _ _ rfl rfl _ rfl ([.int .i64 i, .int .i64 e, .slice p l.length cap]) rfl ?_; clear M; intro ga w1 M) | ((with_reducible refine tBox (some 3) ?_); refine w_box M _ _ rfl rfl _ rfl ([.int .i64 i, .int .i64 f, .slice q m.length cap']) rfl ?_; clear M; intro gb w1 M) | ((with_reducible refine tGuard ?_); first | ((with_reducible refine qAC ?_ ?_); exact dcd) | ((with_reducible refine qAH ?_ ?_); exact dcd) | ((with_reducible refine qAI ?_ ?_); exact dcd)) | ((with_reducible refine tM rfl ?_); refine mS ?_; try (clear M; (first | intro g w1 M | intro w1 M); try simp only [setC] at M))) <;> (try conv => arg 5; simp only [apS, setC]))
   go_ret
   exact ⟨rfl, M.below⟩
 ·rw [sameB_i hij]
  have h1 : (i == j) = false := beq_eq_false_iff_ne.2 hij
  have h2 : (i != j) = true := by simpa using hij
  clear hij
  go_enter Tryz.func54, Tryz.ntmps54
  go_wp2_with ((first | ((with_reducible refine tBox (some 2) ?_); refine w_box M _ _ rfl rfl _ rfl ([.int .i64 i, .int .i64 e, .slice p l.length cap]) rfl ?_; clear M; intro ga w1 M) | ((with_reducible refine tBox (some 3) ?_); refine w_box M _ _ rfl rfl _ rfl ([.int .i64 j, .int .i64 f, .slice q m.length cap']) rfl ?_; clear M; intro gb w1 M) | ((with_reducible refine tGuard ?_); first | ((with_reducible refine qAC ?_ ?_); exact dcd) | ((with_reducible refine qAH ?_ ?_); exact dcd) | ((with_reducible refine qAI ?_ ?_); exact dcd)) | ((with_reducible refine tM rfl ?_); refine mS ?_; try (clear M; (first | intro g w1 M | intro w1 M); try simp only [setC] at M))) <;> (try conv => arg 5; simp only [apS, setC]))
  go_ret
  exact ⟨rfl, M.below⟩
theorem rSame_c (i e j f : Int) (l m : List Opr) (v u : Value) (w : World) (S : SeesL w 3 opV v l) (T : SeesL w 3 opV u m) (hl : l.length ≤ 1000000) (_hm : m.length ≤ 1000000) :
  Calls Tryz.prog 66 #[.agg #[.int .i64 i, .int .i64 e, v], .agg #[.int .i64 j, .int .i64 f, u]] w fun r w' => r = .returned (.bool (sameB i e j f l m)) ∧ Below w.heap.size w w' := by
 obtain ⟨p, cap, rfl, hc⟩ := S.form
 obtain ⟨q, cap', rfl, hc'⟩ := T.form
 have M := Mem.start [] w
 by_cases hij : i = j
 ·subst hij
  by_cases hef : e = f
  ·subst hef
   rw [sameB_l]
   have hne := @eqO_ne l m
   have heq := @eqO_eq l m
   have hln := @eqO_len l m
   obtain ⟨R, eR⟩ : ∃ R, R = (l == m) := ⟨_, rfl⟩
   rw [← eR] at hne heq hln ⊢
   replace hne := Lib.hid hne
   replace heq := Lib.hid heq
   replace hln := Lib.hid hln
   clear eR
   by_cases hn : l.length = m.length
   ·have hq : ((l.length : Int) != (m.length : Int)) = false := by simp; omega
    go_enter Tryz.func66, Tryz.ntmps66
    replace hn := Lib.hid hn
    go_wp2_with ((first | ((with_reducible refine tBox (some 2) ?_); refine w_box M _ _ rfl rfl _ rfl ([.int .i64 i, .int .i64 e, .slice p l.length cap]) rfl ?_; clear M; intro ga w1 M) | ((with_reducible refine tBox (some 3) ?_); refine w_box M _ _ rfl rfl _ rfl ([.int .i64 i, .int .i64 e, .slice q m.length cap']) rfl ?_; clear M; intro gb w1 M) | ((with_reducible refine tGuard ?_); first | ((with_reducible refine qAC ?_ ?_); exact dcd) | ((with_reducible refine qAH ?_ ?_); exact dcd) | ((with_reducible refine qAI ?_ ?_); exact dcd)) | ((with_reducible refine tM rfl ?_); refine mS ?_; try (clear M; (first | intro g w1 M | intro w1 M); try simp only [setC] at M))) <;> (try conv => arg 5; simp only [apS, setC]))
    go_loopw [5] (fun iv wr => ∃ k : Nat, k ≤ l.length ∧ iv = .int .i64 k ∧ Hid (∀ (j : Nat), j < k → l[j]? = m[j]?) ∧ Mem [] w wr [.row gb [.int .i64 i, .int .i64 e, .slice q m.length cap'], .row ga [.int .i64 i, .int .i64 e, .slice p l.length cap]]) (fun iv _ => l.length - (intOf iv).toNat)
    case atStart => exact ⟨0, by omega, rfl, Lib.hid yF, M⟩
    case round =>
     clear M
     obtain ⟨k, hk, rfl, HK, M⟩ := hrel
     by_cases hlt : k < l.length
     ·obtain ⟨g, so, rfl⟩ := S.addr yF
      obtain ⟨g', so', rfl⟩ := T.addr (by have := hn.out; omega)
      have hkm : k < m.length := by have := hn.out; omega
      obtain ⟨⟨qa, a, b⟩, hx⟩ : ∃ x, l[k]? = some x := ⟨_, List.getElem?_eq_getElem hlt⟩
      obtain ⟨⟨qc, c, d⟩, hy⟩ : ∃ x, m[k]? = some x := ⟨_, List.getElem?_eq_getElem hkm⟩
      have HX := Lib.hid hx; clear hx
      have HY := Lib.hid hy; clear hy
      by_cases hab : (qa, a, b) = (qc, c, d)
      ·simp only [Prod.mk.injEq] at hab
       obtain ⟨rfl, rfl, rfl⟩ := hab
       go_wp2_with ((first | ((with_reducible refine tLoad ?_); refine w_at _ _ rfl yI ?_; intro hx; first | (refine qBD M S HX.out _ _ rfl hx rfl yB yG yD ?_; clear hx; (try conv => arg 5; simp only [Act.put, List.setIfInBounds_toArray, setC, qBR])) | (refine w_see M S HX.out _ _ rfl hx rfl yB 0 yG rfl ?_; clear hx) | (refine w_see M S HX.out _ _ rfl hx rfl yB 1 yG rfl ?_; clear hx) | (refine w_see M S HX.out _ _ rfl hx rfl yB 2 yG rfl ?_; clear hx) | (refine qBD M T HY.out _ _ rfl hx rfl yB yG yD ?_; clear hx; (try conv => arg 5; simp only [Act.put, List.setIfInBounds_toArray, setC, qBR])) | (refine w_see M T HY.out _ _ rfl hx rfl yB 0 yG rfl ?_; clear hx) | (refine w_see M T HY.out _ _ rfl hx rfl yB 1 yG rfl ?_; clear hx) | (refine w_see M T HY.out _ _ rfl hx rfl yB 2 yG rfl ?_; clear hx)) | ((with_reducible show Code.wp _ (Code.region 6 _ _) _ _ _); (refine qAF [(0, false), (2, false), (5, false), (7, false), (1, false), (3, false), (4, false), (6, false), (8, false), (9, false), (10, false)] [(38, .cells), (43, .cells)] yD yD rfl yD ?_; replace M := M.drew; simp only [reord, opAt, List.map_cons, List.map_nil, gE])) | ((with_reducible refine tM rfl ?_); refine mS ?_; try (clear M; (first | intro g w1 M | intro w1 M); try simp only [setC] at M)) | ((with_reducible first | show Seg _ _ _ _ | show OnlyN _ _ _ _ _); refine rA ?_)) <;> (try conv => arg 5; simp only [apS, setC]))
       go_roundw
       case rel => exact ⟨k + 1, by omega, by go_num, Lib.hid fun j hj => by
        rcases Nat.lt_succ_iff_lt_or_eq.1 hj with hj | rfl
        ·exact HK.out j hj
        ·exact HX.out.trans HY.out.symm, M⟩
       case measure => simp [intOf]; omega
      ·have e0 : R = false := hne.out k _ _ HX.out HY.out hab
       subst e0
       have hab := Lib.hid (opV_ne hab)
       go_wp2_with ((first | ((with_reducible refine tLoad ?_); refine w_at _ _ rfl yI ?_; intro hx; first | (refine qBD M S HX.out _ _ rfl hx rfl yB yG yD ?_; clear hx; (try conv => arg 5; simp only [Act.put, List.setIfInBounds_toArray, setC, qBR])) | (refine w_see M S HX.out _ _ rfl hx rfl yB 0 yG rfl ?_; clear hx) | (refine w_see M S HX.out _ _ rfl hx rfl yB 1 yG rfl ?_; clear hx) | (refine w_see M S HX.out _ _ rfl hx rfl yB 2 yG rfl ?_; clear hx) | (refine qBD M T HY.out _ _ rfl hx rfl yB yG yD ?_; clear hx; (try conv => arg 5; simp only [Act.put, List.setIfInBounds_toArray, setC, qBR])) | (refine w_see M T HY.out _ _ rfl hx rfl yB 0 yG rfl ?_; clear hx) | (refine w_see M T HY.out _ _ rfl hx rfl yB 1 yG rfl ?_; clear hx) | (refine w_see M T HY.out _ _ rfl hx rfl yB 2 yG rfl ?_; clear hx)) | ((with_reducible show Code.wp _ (Code.region 6 _ _) _ _ _); (refine qAF [(0, false), (2, false), (5, false), (7, false), (1, false), (3, false), (4, false), (6, false), (8, false), (9, false), (10, false)] [(38, .cells), (43, .cells)] yD yD rfl yD ?_; replace M := M.drew; simp only [reord, opAt, List.map_cons, List.map_nil, gE])) | ((with_reducible refine tM rfl ?_); refine mS ?_; try (clear M; (first | intro g w1 M | intro w1 M); try simp only [setC] at M)) | ((with_reducible first | show Seg _ _ _ _ | show OnlyN _ _ _ _ _); refine rA ?_)) <;> (try conv => arg 5; simp only [apS, setC]))
       all_goals (first | exact absurd ⟨‹I8 qa = I8 qc›, ‹a = c›, ‹b = d›⟩ hab.out | (go_ret; exact ⟨rfl, M.below⟩))
     ·obtain rfl : k = l.length := by omega
      have e0 : R = true := heq.out hn.out HK.out
      subst e0
      have hkm : ¬ l.length < m.length := by have := hn.out; omega
      go_wp2_with ((first | ((with_reducible refine tM rfl ?_); refine mS ?_; try (clear M; (first | intro g w1 M | intro w1 M); try simp only [setC] at M))) <;> (try conv => arg 5; simp only [apS, setC]))
      go_ret
      exact ⟨rfl, M.below⟩
   ·have e0 : R = false := hln.out hn
    subst e0
    have hq : ((l.length : Int) != (m.length : Int)) = true := by simp; omega
    go_enter Tryz.func66, Tryz.ntmps66
    go_wp2_with ((first | ((with_reducible refine tBox (some 2) ?_); refine w_box M _ _ rfl rfl _ rfl ([.int .i64 i, .int .i64 e, .slice p l.length cap]) rfl ?_; clear M; intro ga w1 M) | ((with_reducible refine tBox (some 3) ?_); refine w_box M _ _ rfl rfl _ rfl ([.int .i64 i, .int .i64 e, .slice q m.length cap']) rfl ?_; clear M; intro gb w1 M) | ((with_reducible refine tGuard ?_); first | ((with_reducible refine qAC ?_ ?_); exact dcd) | ((with_reducible refine qAH ?_ ?_); exact dcd) | ((with_reducible refine qAI ?_ ?_); exact dcd)) | ((with_reducible refine tM rfl ?_); refine mS ?_; try (clear M; (first | intro g w1 M | intro w1 M); try simp only [setC] at M))) <;> (try conv => arg 5; simp only [apS, setC]))
    go_ret
    exact ⟨rfl, M.below⟩
  ·rw [sameB_e hef]
   have h1 : (e == f) = false := beq_eq_false_iff_ne.2 hef
   have h2 : (e != f) = true := by simpa using hef
   clear hef
   go_enter Tryz.func66, Tryz.ntmps66
   go_wp2_with ((first | ((with_reducible refine tBox (some 2) ?_); refine w_box M _ _ rfl rfl _ rfl ([.int .i64 i, .int .i64 e, .slice p l.length cap]) rfl ?_; clear M; intro ga w1 M) | ((with_reducible refine tBox (some 3) ?_); refine w_box M _ _ rfl rfl _ rfl ([.int .i64 i, .int .i64 f, .slice q m.length cap']) rfl ?_; clear M; intro gb w1 M) | ((with_reducible refine tGuard ?_); first | ((with_reducible refine qAC ?_ ?_); exact dcd) | ((with_reducible refine qAH ?_ ?_); exact dcd) | ((with_reducible refine qAI ?_ ?_); exact dcd)) | ((with_reducible refine tM rfl ?_); refine mS ?_; try (clear M; (first | intro g w1 M | intro w1 M); try simp only [setC] at M))) <;> (try conv => arg 5; simp only [apS, setC]))
   go_ret
   exact ⟨rfl, M.below⟩
 ·rw [sameB_i hij]
  have h1 : (i == j) = false := beq_eq_false_iff_ne.2 hij
  have h2 : (i != j) = true := by simpa using hij
  clear hij
  go_enter Tryz.func66, Tryz.ntmps66
  go_wp2_with ((first | ((with_reducible refine tBox (some 2) ?_); refine w_box M _ _ rfl rfl _ rfl ([.int .i64 i, .int .i64 e, .slice p l.length cap]) rfl ?_; clear M; intro ga w1 M) | ((with_reducible refine tBox (some 3) ?_); refine w_box M _ _ rfl rfl _ rfl ([.int .i64 j, .int .i64 f, .slice q m.length cap']) rfl ?_; clear M; intro gb w1 M) | ((with_reducible refine tGuard ?_); first | ((with_reducible refine qAC ?_ ?_); exact dcd) | ((with_reducible refine qAH ?_ ?_); exact dcd) | ((with_reducible refine qAI ?_ ?_); exact dcd)) | ((with_reducible refine tM rfl ?_); refine mS ?_; try (clear M; (first | intro g w1 M | intro w1 M); try simp only [setC] at M))) <;> (try conv => arg 5; simp only [apS, setC]))
  go_ret
  exact ⟨rfl, M.below⟩
end Go.Proofs.YtidadhbaomieiaaGreat

namespace Go
namespace TL
open Go.RowKit
structure MsgCells (C : List Value) (k : UInt8) (e a o bi be : Int) (ov : Value) (p : Int) (r : List UInt8) (v i : Int) (lf rt : List UInt8) (pv : Value) : Prop where
 k : C[0]? = some (.int .u8 (I8 k))
 e : C[1]? = some (.int .i64 e)
 a : C[2]? = some (.int .i64 a)
 o : C[3]? = some (.int .i64 o)
 p : C[7]? = some (.int .i64 p)
 v : C[40]? = some (.int .i64 v)
 i : C[41]? = some (.int .i64 i)
 pv : C[106]? = some pv
 bat : ∃ pre post, C = pre ++ ([.int .i64 bi, .int .i64 be, ov] ++ post) ∧ pre.length = 4
 r : ∃ pre post, C = pre ++ (bs r ++ post) ∧ pre.length = 8 ∧ r.length = 32
 lf : ∃ pre post, C = pre ++ (bs lf ++ post) ∧ pre.length = 42 ∧ lf.length = 32
 rt : ∃ pre post, C = pre ++ (bs rt ++ post) ∧ pre.length = 74 ∧ rt.length = 32
 len : C.length = 107
 one : ∀ x ∈ C, x.oneCell' = true
theorem qEG {m : Ms} (h : m.fit) : MsgCells (msgC m) m.k m.e m.a m.o m.bi m.be m.ov m.p m.r m.v m.i m.lf m.rt m.pv :=
 ⟨qBo h .k, qBo h .e, qBo h .a, qBo h .o, qBo h .p, qBo h .v, qBo h .i, qBo h .pv, ⟨_, _, by unfold msgC; exact (show _ = [.int .u8 (I8 m.k), .int .i64 m.e, .int .i64 m.a, .int .i64 m.o] ++ ([.int .i64 m.bi, .int .i64 m.be, m.ov] ++ ([.int .i64 m.p] ++ (bs m.r ++ ([.int .i64 m.v, .int .i64 m.i] ++ (bs m.lf ++ (bs m.rt ++ [m.pv])))))) from rfl), rfl⟩,
  ⟨_, _, qDO m .r, Hf.pre_len h .r, Hf.len h .r⟩, ⟨_, _, qDO m .lf, Hf.pre_len h .lf, Hf.len h .lf⟩, ⟨_, _, qDO m .rt, Hf.pre_len h .rt, Hf.len h .rt⟩, qAs h, msgC_one h⟩
theorem qCP {i e j f : Int} {l m : List Opr} : sameB i e j f l m = true ↔ i = j ∧ e = f ∧ l = m := by
 unfold sameB
 simp only [Bool.and_eq_true, beq_iff_eq]
theorem msg_first (k k' : UInt8) (e a o bi be e' a' o' bi' be' p v i p' v' i' : Int) (ops ops' : List Opr) (r lf rt r' lf' rt' : List UInt8) (prs prs' : List (List UInt8 × List UInt8)) : (I8 k ≠ I8 k') ∨ (k = k' ∧ e ≠ e') ∨ (k = k' ∧ e = e' ∧ a ≠ a') ∨ (k = k' ∧ e = e' ∧ a = a' ∧ o ≠ o') ∨ (k = k' ∧ e = e' ∧ a = a' ∧ o = o' ∧ sameB bi be bi' be' ops ops' = false) ∨ (k = k' ∧ e = e' ∧ a = a' ∧ o = o' ∧ (bi = bi' ∧ be = be' ∧ ops = ops') ∧ p ≠ p') ∨ (k = k' ∧ e = e' ∧ a = a' ∧ o = o' ∧ (bi = bi' ∧ be = be' ∧ ops = ops') ∧ p = p' ∧ r ≠ r') ∨ (k = k' ∧ e = e' ∧ a = a' ∧ o = o' ∧ (bi = bi' ∧ be = be' ∧ ops = ops') ∧ p = p' ∧ r = r' ∧ v ≠ v') ∨ (k = k' ∧ e = e' ∧ a = a' ∧ o = o' ∧ (bi = bi' ∧ be = be' ∧ ops = ops') ∧ p = p' ∧ r = r' ∧ v = v' ∧ i ≠ i') ∨ (k = k' ∧ e = e' ∧ a = a' ∧ o = o' ∧ (bi = bi' ∧ be = be' ∧ ops = ops') ∧ p = p' ∧ r = r' ∧ v = v' ∧ i = i' ∧ lf ≠ lf') ∨ (k = k' ∧ e = e' ∧ a = a' ∧ o = o' ∧ (bi = bi' ∧ be = be' ∧ ops = ops') ∧ p = p' ∧ r = r' ∧ v = v' ∧ i = i' ∧ lf = lf' ∧ rt ≠ rt') ∨ (k = k' ∧ e = e' ∧ a = a' ∧ o = o' ∧ (bi = bi' ∧ be = be' ∧ ops = ops') ∧ p = p' ∧ r = r' ∧ v = v' ∧ i = i' ∧ lf = lf' ∧ rt = rt' ∧ prs ≠ prs') ∨ (k = k' ∧ e = e' ∧ a = a' ∧ o = o' ∧ (bi = bi' ∧ be = be' ∧ ops = ops') ∧ p = p' ∧ r = r' ∧ v = v' ∧ i = i' ∧ lf = lf' ∧ rt = rt' ∧ prs = prs') := by
 by_cases hk : k = k'
 rotate_left
 ·exact Or.inl (fun h => hk (I8_inj.1 h))
 by_cases he : e = e'
 rotate_left
 ·exact Or.inr (Or.inl ⟨hk, he⟩)
 by_cases ha : a = a'
 rotate_left
 ·exact Or.inr (Or.inr (Or.inl ⟨hk, he, ha⟩))
 by_cases ho : o = o'
 rotate_left
 ·exact Or.inr (Or.inr (Or.inr (Or.inl ⟨hk, he, ha, ho⟩)))
 cases hb : sameB bi be bi' be' ops ops'
 ·exact Or.inr (Or.inr (Or.inr (Or.inr (Or.inl ⟨hk, he, ha, ho, rfl⟩))))
 obtain hbat := qCP.1 hb
 by_cases hp : p = p'
 rotate_left
 ·exact Or.inr (Or.inr (Or.inr (Or.inr (Or.inr (Or.inl ⟨hk, he, ha, ho, hbat, hp⟩)))))
 by_cases hr : r = r'
 rotate_left
 ·exact Or.inr (Or.inr (Or.inr (Or.inr (Or.inr (Or.inr (Or.inl ⟨hk, he, ha, ho, hbat, hp, hr⟩))))))
 by_cases hv : v = v'
 rotate_left
 ·exact Or.inr (Or.inr (Or.inr (Or.inr (Or.inr (Or.inr (Or.inr (Or.inl ⟨hk, he, ha, ho, hbat, hp, hr, hv⟩)))))))
 by_cases hi : i = i'
 rotate_left
 ·exact Or.inr (Or.inr (Or.inr (Or.inr (Or.inr (Or.inr (Or.inr (Or.inr (Or.inl ⟨hk, he, ha, ho, hbat, hp, hr, hv, hi⟩))))))))
 by_cases hlf : lf = lf'
 rotate_left
 ·exact Or.inr (Or.inr (Or.inr (Or.inr (Or.inr (Or.inr (Or.inr (Or.inr (Or.inr (Or.inl ⟨hk, he, ha, ho, hbat, hp, hr, hv, hi, hlf⟩)))))))))
 by_cases hrt : rt = rt'
 rotate_left
 ·exact Or.inr (Or.inr (Or.inr (Or.inr (Or.inr (Or.inr (Or.inr (Or.inr (Or.inr (Or.inr (Or.inl ⟨hk, he, ha, ho, hbat, hp, hr, hv, hi, hlf, hrt⟩))))))))))
 by_cases hprs : prs = prs'
 rotate_left
 ·exact Or.inr (Or.inr (Or.inr (Or.inr (Or.inr (Or.inr (Or.inr (Or.inr (Or.inr (Or.inr (Or.inr (Or.inl ⟨hk, he, ha, ho, hbat, hp, hr, hv, hi, hlf, hrt, hprs⟩)))))))))))
 exact Or.inr (Or.inr (Or.inr (Or.inr (Or.inr (Or.inr (Or.inr (Or.inr (Or.inr (Or.inr (Or.inr (Or.inr (⟨hk, he, ha, ho, hbat, hp, hr, hv, hi, hlf, hrt, hprs⟩))))))))))))
theorem ref_first (k k' : UInt8) (e a o bi be e' a' o' bi' be' p v i p' v' i' : Int) (ops ops' : List Opr) (r lf rt r' lf' rt' : List UInt8) (_prs _prs' : List (List UInt8 × List UInt8)) : (I8 k ≠ I8 k') ∨ (k = k' ∧ e ≠ e') ∨ (k = k' ∧ e = e' ∧ a ≠ a') ∨ (k = k' ∧ e = e' ∧ a = a' ∧ o ≠ o') ∨ (k = k' ∧ e = e' ∧ a = a' ∧ o = o' ∧ sameB bi be bi' be' ops ops' = false) ∨ (k = k' ∧ e = e' ∧ a = a' ∧ o = o' ∧ (bi = bi' ∧ be = be' ∧ ops = ops') ∧ p ≠ p') ∨ (k = k' ∧ e = e' ∧ a = a' ∧ o = o' ∧ (bi = bi' ∧ be = be' ∧ ops = ops') ∧ p = p' ∧ r ≠ r') ∨ (k = k' ∧ e = e' ∧ a = a' ∧ o = o' ∧ (bi = bi' ∧ be = be' ∧ ops = ops') ∧ p = p' ∧ r = r' ∧ v ≠ v') ∨ (k = k' ∧ e = e' ∧ a = a' ∧ o = o' ∧ (bi = bi' ∧ be = be' ∧ ops = ops') ∧ p = p' ∧ r = r' ∧ v = v' ∧ i ≠ i') ∨ (k = k' ∧ e = e' ∧ a = a' ∧ o = o' ∧ (bi = bi' ∧ be = be' ∧ ops = ops') ∧ p = p' ∧ r = r' ∧ v = v' ∧ i = i' ∧ lf ≠ lf') ∨ (k = k' ∧ e = e' ∧ a = a' ∧ o = o' ∧ (bi = bi' ∧ be = be' ∧ ops = ops') ∧ p = p' ∧ r = r' ∧ v = v' ∧ i = i' ∧ lf = lf' ∧ rt ≠ rt') ∨ (k = k' ∧ e = e' ∧ a = a' ∧ o = o' ∧ (bi = bi' ∧ be = be' ∧ ops = ops') ∧ p = p' ∧ r = r' ∧ v = v' ∧ i = i' ∧ lf = lf' ∧ rt = rt') := by
 by_cases hk : k = k'
 rotate_left
 ·exact Or.inl (fun h => hk (I8_inj.1 h))
 by_cases he : e = e'
 rotate_left
 ·exact Or.inr (Or.inl ⟨hk, he⟩)
 by_cases ha : a = a'
 rotate_left
 ·exact Or.inr (Or.inr (Or.inl ⟨hk, he, ha⟩))
 by_cases ho : o = o'
 rotate_left
 ·exact Or.inr (Or.inr (Or.inr (Or.inl ⟨hk, he, ha, ho⟩)))
 cases hb : sameB bi be bi' be' ops ops'
 ·exact Or.inr (Or.inr (Or.inr (Or.inr (Or.inl ⟨hk, he, ha, ho, rfl⟩))))
 obtain hbat := qCP.1 hb
 by_cases hp : p = p'
 rotate_left
 ·exact Or.inr (Or.inr (Or.inr (Or.inr (Or.inr (Or.inl ⟨hk, he, ha, ho, hbat, hp⟩)))))
 by_cases hr : r = r'
 rotate_left
 ·exact Or.inr (Or.inr (Or.inr (Or.inr (Or.inr (Or.inr (Or.inl ⟨hk, he, ha, ho, hbat, hp, hr⟩))))))
 by_cases hv : v = v'
 rotate_left
 ·exact Or.inr (Or.inr (Or.inr (Or.inr (Or.inr (Or.inr (Or.inr (Or.inl ⟨hk, he, ha, ho, hbat, hp, hr, hv⟩)))))))
 by_cases hi : i = i'
 rotate_left
 ·exact Or.inr (Or.inr (Or.inr (Or.inr (Or.inr (Or.inr (Or.inr (Or.inr (Or.inl ⟨hk, he, ha, ho, hbat, hp, hr, hv, hi⟩))))))))
 by_cases hlf : lf = lf'
 rotate_left
 ·exact Or.inr (Or.inr (Or.inr (Or.inr (Or.inr (Or.inr (Or.inr (Or.inr (Or.inr (Or.inl ⟨hk, he, ha, ho, hbat, hp, hr, hv, hi, hlf⟩)))))))))
 by_cases hrt : rt = rt'
 rotate_left
 ·exact Or.inr (Or.inr (Or.inr (Or.inr (Or.inr (Or.inr (Or.inr (Or.inr (Or.inr (Or.inr (Or.inl ⟨hk, he, ha, ho, hbat, hp, hr, hv, hi, hlf, hrt⟩))))))))))
 exact Or.inr (Or.inr (Or.inr (Or.inr (Or.inr (Or.inr (Or.inr (Or.inr (Or.inr (Or.inr (Or.inr (⟨hk, he, ha, ho, hbat, hp, hr, hv, hi, hlf, hrt⟩)))))))))))
end TL
end Go
namespace Go.Proofs.YtidadhbaomieiaaGreat
open Go.RowKit Go.TL
theorem Same_c (L1 L2 : Lm) (ov pv ov' pv' : Value) (w : World) (hL : L1.fit) (hL' : L2.fit) (S : SeesL w 3 opV ov L1.ops) (T : SeesL w 2 prV pv L1.prs) (S' : SeesL w 3 opV ov' L2.ops) (T' : SeesL w 2 prV pv' L2.prs)
  (h1 : L1.ops.length ≤ 1000000) (h2 : L1.prs.length ≤ 1000000) (h3 : L2.ops.length ≤ 1000000) (h4 : L2.prs.length ≤ 1000000) :
  Calls Tryz.prog 28 #[.agg (msgC (L1.ms ov pv)).toArray, .agg (msgC (L2.ms ov' pv')).toArray] w fun r w' => r = .returned (.bool (decide (L1 = L2))) ∧ Below w.heap.size w w' := by
 have M := Mem.start [] w
 obtain ⟨k, e, a, o, bi, be, ops, p, r, v, i, lf, rt, prs⟩ := L1
 obtain ⟨k', e', a', o', bi', be', ops', p', r', v', i', lf', rt', prs'⟩ := L2
 dsimp only at S T S' T' h1 h2 h3 h4
 obtain ⟨op, oc, rfl, _⟩ := S.form
 obtain ⟨pp, pc, rfl, _⟩ := T.form
 obtain ⟨op', oc', rfl, _⟩ := S'.form
 obtain ⟨pp', pc', rfl, _⟩ := T'.form
 have X1 := qEG (Lm.ms_fit hL (ov := .slice op ops.length oc) (pv := .slice pp prs.length pc) rfl rfl)
 have X2 := qEG (Lm.ms_fit hL' (ov := .slice op' ops'.length oc') (pv := .slice pp' prs'.length pc') rfl rfl)
 simp only [Lm.ms] at X1 X2 ⊢
 obtain ⟨C1, e1⟩ : ∃ C, C = msgC ⟨k, e, a, o, bi, be, .slice op ops.length oc, p, r, v, i, lf, rt, .slice pp prs.length pc⟩ := ⟨_, rfl⟩
 obtain ⟨C2, e2⟩ : ∃ C, C = msgC ⟨k', e', a', o', bi', be', .slice op' ops'.length oc', p', r', v', i', lf', rt', .slice pp' prs'.length pc'⟩ := ⟨_, rfl⟩
 rw [← e1] at X1
 rw [← e2] at X2
 rw [← e1, ← e2]
 clear e1 e2 hL hL'
 obtain ⟨N1k, N1e, N1a, N1o, N1p, N1v, N1i, N1pv, ⟨_, _, b1⟩, ⟨_, _, r1⟩, ⟨_, _, l1⟩, ⟨_, _, t1⟩, c1, _⟩ := X1
 obtain ⟨N2k, N2e, N2a, N2o, N2p, N2v, N2i, N2pv, ⟨_, _, b2⟩, ⟨_, _, r2⟩, ⟨_, _, l2⟩, ⟨_, _, t2⟩, c2, _⟩ := X2
 replace N1k := Lib.hid N1k
 replace N1e := Lib.hid N1e
 replace N1a := Lib.hid N1a
 replace N1o := Lib.hid N1o
 replace N1p := Lib.hid N1p
 replace N1v := Lib.hid N1v
 replace N1i := Lib.hid N1i
 replace N1pv := Lib.hid N1pv
 have B1 := Lib.hid b1
 have H1r := Lib.hid r1
 have H1lf := Lib.hid l1
 have H1rt := Lib.hid t1
 have hr1 := r1.2.2
 have hl1 := l1.2.2
 have ht1 := t1.2.2
 clear b1 r1 l1 t1 c1
 replace N2k := Lib.hid N2k
 replace N2e := Lib.hid N2e
 replace N2a := Lib.hid N2a
 replace N2o := Lib.hid N2o
 replace N2p := Lib.hid N2p
 replace N2v := Lib.hid N2v
 replace N2i := Lib.hid N2i
 replace N2pv := Lib.hid N2pv
 have B2 := Lib.hid b2
 have H2r := Lib.hid r2
 have H2lf := Lib.hid l2
 have H2rt := Lib.hid t2
 have hr2 := r2.2.2
 have hl2 := l2.2.2
 have ht2 := t2.2.2
 clear b2 r2 l2 t2 c2
 have BS := fun w S S' => bSame_c bi be bi' be' ops ops' (.slice op ops.length oc) (.slice op' ops'.length oc') w S S' h1 h3
 have PS := fun w T T' => EqualP_c prs prs' (.slice pp prs.length pc) (.slice pp' prs'.length pc') w T T' h2 h4
 have RF : ¬ ((Lm.mk k e a o bi be ops p r v i lf rt prs) = (Lm.mk k' e' a' o' bi' be' ops' p' r' v' i' lf' rt' prs')) → decide ((Lm.mk k e a o bi be ops p r v i lf rt prs) = (Lm.mk k' e' a' o' bi' be' ops' p' r' v' i' lf' rt' prs')) = false := fun h => decide_eq_false h
 have RT : ((Lm.mk k e a o bi be ops p r v i lf rt prs) = (Lm.mk k' e' a' o' bi' be' ops' p' r' v' i' lf' rt' prs')) → decide ((Lm.mk k e a o bi be ops p r v i lf rt prs) = (Lm.mk k' e' a' o' bi' be' ops' p' r' v' i' lf' rt' prs')) = true := fun h => decide_eq_true h
 obtain ⟨R, eR⟩ : ∃ R, R = decide ((Lm.mk k e a o bi be ops p r v i lf rt prs) = (Lm.mk k' e' a' o' bi' be' ops' p' r' v' i' lf' rt' prs')) := ⟨_, rfl⟩
 rw [← eR] at RF RT ⊢
 replace RF := Lib.hid RF
 replace RT := Lib.hid RT
 clear eR
 rcases msg_first k k' e a o bi be e' a' o' bi' be' p v i p' v' i' ops ops' r lf rt r' lf' rt' prs prs' with hc | ⟨rfl, hc⟩ | ⟨rfl, rfl, hc⟩ | ⟨rfl, rfl, rfl, hc⟩ | ⟨rfl, rfl, rfl, rfl, hc⟩ | ⟨rfl, rfl, rfl, rfl, ⟨rfl, rfl, rfl⟩, hc⟩ | ⟨rfl, rfl, rfl, rfl, ⟨rfl, rfl, rfl⟩, rfl, hc⟩ | ⟨rfl, rfl, rfl, rfl, ⟨rfl, rfl, rfl⟩, rfl, rfl, hc⟩ | ⟨rfl, rfl, rfl, rfl, ⟨rfl, rfl, rfl⟩, rfl, rfl, rfl, hc⟩ | ⟨rfl, rfl, rfl, rfl, ⟨rfl, rfl, rfl⟩, rfl, rfl, rfl, rfl, hc⟩ | ⟨rfl, rfl, rfl, rfl, ⟨rfl, rfl, rfl⟩, rfl, rfl, rfl, rfl, rfl, hc⟩ | ⟨rfl, rfl, rfl, rfl, ⟨rfl, rfl, rfl⟩, rfl, rfl, rfl, rfl, rfl, rfl, hc⟩ | ⟨rfl, rfl, rfl, rfl, ⟨rfl, rfl, rfl⟩, rfl, rfl, rfl, rfl, rfl, rfl, rfl⟩
 all_goals
  first
   | (have e0 : R = false := RF.out (fun h => by injection h; first | exact hc yN1 | exact hc (congrArg I8 yN1) | (subst_vars; rw [qCP.2 ⟨rfl, rfl, rfl⟩] at hc; cases hc)))
   | (have e0 : R = true := RT.out rfl)
  subst e0
  (try rw [qCP.2 ⟨rfl, rfl, rfl⟩] at BS)
  (try rw [hc] at BS)
  (try have hc' := beq_eq_false_iff_ne.2 hc)
  (try rw [beq_self_eq_true] at PS)
  (try rw [hc'] at PS)
  (try clear hc)
  replace BS := Lib.hid BS
  replace PS := Lib.hid PS
  go_enter Tryz.func28, Tryz.ntmps28
  simp only [List.append_eq, List.cons_append, List.nil_append]
  go_wp2_with ((first | ((with_reducible refine tBox (some 2) ?_); refine w_box M _ _ rfl rfl _ rfl (C1) rfl ?_; clear M; intro ga w1 M) | ((with_reducible refine tBox (some 3) ?_); refine w_box M _ _ rfl rfl _ rfl (C2) rfl ?_; clear M; intro gb w1 M) | ((with_reducible refine tGuard ?_); first | ((with_reducible refine qAC ?_ ?_); exact dcd) | ((with_reducible refine qAH ?_ ?_); exact dcd) | ((with_reducible refine qAI ?_ ?_); exact dcd)) | ((with_reducible refine tLoad ?_); (refine w_at _ _ rfl yI ?_; intro hx; (first | refine qAM M 0 _ _ rfl rfl hx rfl yB yU ?_ | refine qAR M 0 _ _ rfl rfl hx rfl yB _ _ _ H2r.out.1 H2r.out.2.1 yL1 ?_ | refine qAR M 0 _ _ rfl rfl hx rfl yB _ _ _ H2lf.out.1 H2lf.out.2.1 yI1 ?_ | refine qAR M 0 _ _ rfl rfl hx rfl yB _ _ _ H2rt.out.1 H2rt.out.2.1 yH1 ?_ | refine qAR M 0 _ _ rfl rfl hx rfl yB _ _ _ B2.out.1 B2.out.2 yD ?_ | refine qAM M 1 _ _ rfl rfl hx rfl yB yV ?_ | refine qAR M 1 _ _ rfl rfl hx rfl yB _ _ _ H1r.out.1 H1r.out.2.1 yM1 ?_ | refine qAR M 1 _ _ rfl rfl hx rfl yB _ _ _ H1lf.out.1 H1lf.out.2.1 yK1 ?_ | refine qAR M 1 _ _ rfl rfl hx rfl yB _ _ _ H1rt.out.1 H1rt.out.2.1 yJ1 ?_ | refine qAR M 1 _ _ rfl rfl hx rfl yB _ _ _ B1.out.1 B1.out.2 yD ?_); clear hx)) | (go_at_call 54; (refine (BS.out _ (S.now M) (S'.now M)).mono ?_; rintro e w1 ⟨rfl, hb⟩; replace M := M.call hb; clear hb)) | (go_at_call 55; (refine (PS.out _ (T.now M) (T'.now M)).mono ?_; rintro e w1 ⟨rfl, hb⟩; replace M := M.call hb; clear hb)) | ((with_reducible refine tM rfl ?_); refine mS ?_; try (clear M; (first | intro g w1 M | intro w1 M); try simp only [setC] at M))) <;> (try conv => arg 5; simp only [apS, setC]))
  go_ret
  exact ⟨by first | rfl | simp, M.below⟩
end Go.Proofs.YtidadhbaomieiaaGreat

namespace Go.Proofs.YtidadhbaomieiaaGreat
open Go.RowKit Go.TL
theorem refrot_any (x : UInt32) (m : Nat) (w : World) (hm : 1 ≤ m) (hm2 : m ≤ 31) :
  Calls Tryz.prog 163 #[.int .u32 (I32 x), .int .u64 m] w fun e w' => e = .returned (.int .u32 (I32 (ror x m))) ∧ w = w' := by
 have h2 := sub32 m hm hm2
 have h3 : (m : Int) ≤ 31 := by omega
 have h4 : ((32 - m : Nat) : Int) ≤ 31 := by omega
 go_enter Tryz.func163, Tryz.ntmps163
 go_wp2
 go_ret
 exact ⟨rfl, rfl⟩
end Go.Proofs.YtidadhbaomieiaaGreat

namespace Go
namespace TL
def mulHi (x y : UInt64) : UInt64 :=
 let x0 := x &&& 4294967295
 let x1 := x >>> 32
 let y0 := y &&& 4294967295
 let y1 := y >>> 32
 let t := x1 * y0 + (x0 * y0) >>> 32
 x1 * y1 + t >>> 32 + ((t &&& 4294967295) + x0 * y1) >>> 32
def sqB (n p : UInt64) : Bool := decide (mulHi n n < p) || (mulHi n n == p && n * n == 0)
def cuB (n p : UInt64) : Bool :=
 let top := mulHi n n * n + mulHi (n * n) n
 decide (top < p <<< 32) || (top == p <<< 32 && n * n * n == 0)
def bh (p : UInt64) (three : Bool) : Nat → UInt64
 | 0 => 0
 | j + 1 =>
  let b := bh p three j
  let m := b + (1 : UInt64) <<< UInt64.ofNat (36 - j)
  if (three && decide (m < 68719476736) && cuB m p) || (!three && sqB m p) then m else b
def behindW (p : UInt64) (three : Bool) : UInt32 := (bh p three 37 % 4294967296).toUInt32
def prB : Nat → List UInt64
 | 0 => []
 | p + 1 => let l := prB p; if 2 ≤ p ∧ l.all (fun q => (UInt64.ofNat p) % q != 0) then l ++ [UInt64.ofNat p] else l
def P64 : List UInt64 := [2, 3, 5, 7, 11, 13, 17, 19, 23, 29, 31, 37, 41, 43, 47, 53, 59, 61, 67, 71, 73, 79, 83, 89, 97, 101, 103, 107, 109, 113, 127, 131, 137, 139, 149, 151, 157, 163, 167, 173, 179, 181, 191, 193, 197, 199, 211, 223, 227, 229, 233, 239, 241, 251, 257, 263, 269, 271, 277, 281, 283, 293, 307, 311]
theorem qDT : P64.length = 64 := by decide
theorem roots3 : P64.map (behindW · true) = K64 := by decide +kernel
theorem roots2 : (P64.take 8).map (behindW · false) = H0.words := by decide +kernel
end TL
end Go

namespace Go.Proofs.YtidadhbaomieiaaGreat
open Go.RowKit Go.TL
theorem Mul64_c (x y : UInt64) (w : World) :
  Calls Tryz.prog 186 #[.int .u64 (I64 x), .int .u64 (I64 y)] w fun e w' => e = .returned (.tuple #[.int .u64 (I64 (mulHi x y)), .int .u64 (I64 (x * y))]) ∧ w = w' := by
 go_enter Tryz.func186, Tryz.ntmps186
 go_wp2
 go_ret2
 exact ⟨rfl, rfl⟩
theorem I64_eqB (x y : UInt64) : (I64 x = I64 y) ↔ x = y := qGA
theorem I64_zeroB (x : UInt64) : (I64 x == 0) = (x == 0) := by
 rw [Bool.eq_iff_iff, beq_iff_eq, beq_iff_eq, show (0 : Int) = I64 0 from rfl, qGA]
theorem square_c (n p : UInt64) (w : World) :
  Calls Tryz.prog 162 #[.int .u64 (I64 n), .int .u64 (I64 p)] w fun e w' => e = .returned (.bool (sqB n p)) ∧ w = w' := by
 go_enter Tryz.func162, Tryz.ntmps162
 go_wp2_with (first | (go_at_call 186; (refine (Mul64_c _ _ _).mono ?_; rintro e w1 ⟨rfl, rfl⟩)))
 all_goals
  go_ret
  refine ⟨?_, rfl⟩
  simp_all [sqB, I64_lt, I64_le, I64_eqB, I64_zeroB]
theorem cube_c (n p : UInt64) (w : World) :
  Calls Tryz.prog 161 #[.int .u64 (I64 n), .int .u64 (I64 p)] w fun e w' => e = .returned (.bool (cuB n p)) ∧ w = w' := by
 go_enter Tryz.func161, Tryz.ntmps161
 go_upto_region 5 with (first | (go_at_call 186; (refine (Mul64_c _ _ _).mono ?_; rintro e w1 ⟨rfl, rfl⟩)))
 obtain ⟨tp, etp⟩ : ∃ tp, tp = mulHi n n * n + mulHi (n * n) n := ⟨_, rfl⟩
 rw [← etp]
 obtain ⟨en, een⟩ : ∃ en, en = n * n * n := ⟨_, rfl⟩
 rw [← een]
 have ES : cuB n p = (decide (tp < p <<< 32) || (tp == p <<< 32 && en == 0)) := by rw [etp, een]; rfl
 have ES' := Lib.hid ES; clear ES etp een
 by_cases h1 : tp < p <<< 32
 ·have d1 : decide (I64 tp < I64 (p <<< 32)) = true := by simpa [I64_lt] using h1
  go_wp2
  go_ret
  exact ⟨by rw [ES'.out]; simp [h1], rfl⟩
 ·have d1 : decide (I64 tp < I64 (p <<< 32)) = false := by simpa [I64_lt] using h1
  by_cases h2 : tp = p <<< 32
  ·have d2 : (I64 tp == I64 (p <<< 32)) = true := by rw [h2]; simp
   have H1 := Lib.hid h1; clear h1
   have H2 := Lib.hid h2; clear h2
   go_wp2
   go_ret
   exact ⟨by rw [ES'.out, I64_zeroB, H2.out]; simp, rfl⟩
  ·have d2 : (I64 tp == I64 (p <<< 32)) = false := by rw [beq_eq_false_iff_ne]; intro h; exact h2 (qGA.1 h)
   have H1 := Lib.hid h1; clear h1
   have H2 := Lib.hid h2; clear h2
   go_wp2
   go_ret
   exact ⟨by rw [ES'.out]; simp [H1.out, H2.out], rfl⟩
theorem low32 (x : UInt64) : w32 ((I64 x).tmod 4294967296) = (x % 4294967296).toUInt32 := by
 apply UInt32.toNat_inj.1
 rw [qDq, qBU]
 simp only [UInt64.toNat_toUInt32, UInt64.toNat_mod, UInt64.reduceToNat]
 rw [Int.tmod_eq_emod_of_nonneg yF]
 omega
theorem I64_natW (i : Nat) (h : i < 1000) : I64 (w64 (i : Int)) = (i : Int) := by
 rw [qBM, qBU, UInt64.toNat_ofNat']; omega
theorem shl_one (i : Nat) (h : i < 64) : (1 : UInt64) <<< UInt64.ofNat i = w64 (2 ^ i) := by
 have := w64_shl 1 i h
 rw [Int.one_mul] at this
 rw [this]; rfl
theorem behind_c (p : UInt64) (three : Bool) (w : World) :
  Calls Tryz.prog 120 #[.int .u64 (I64 p), .bool three] w fun e w' => e = .returned (.int .u32 (I32 (behindW p three))) ∧ w = w' := by
 cases three
 all_goals
  go_enter Tryz.func120, Tryz.ntmps120
  go_wp2
 ·go_loop [5, 6] (fun n k => ∃ i : Nat, i ≤ 37 ∧ k = .int .i64 ((i : Int) - 1) ∧ n = .int .u64 (I64 (bh p false (37 - i)))) (fun _ k => (intOf k + 1).toNat)
  case atStart => exact ⟨37, by omega, rfl, rfl⟩
  case round =>
   obtain ⟨i, hi, rfl, rfl⟩ := hrel
   cases i with
   | zero =>
    go_wp2
    go_ret
    exact ⟨by rw [low32]; unfold behindW; rfl, rfl⟩
   | succ i =>
    have e : ((i + 1 : Nat) : Int) - 1 = i := by omega
    rw [e]; clear e
    have hI := I64_natW i yF
    have hi2 : (i : Int) ≤ 36 := by omega
    obtain ⟨b, eb⟩ : ∃ b, b = bh p false (37 - (i + 1)) := ⟨_, rfl⟩
    rw [← eb]
    have EB := Lib.hid eb; clear eb
    have N : bh p false (37 - i) = if sqB (b + w64 (2 ^ i)) p then b + w64 (2 ^ i) else b := by
     rw [EB.out, show 37 - i = (37 - (i + 1)) + 1 by omega, bh, show 36 - (37 - (i + 1)) = i by omega, shl_one i yF]; simp
    have N' := Lib.hid N; clear N
    by_cases hq : sqB (b + w64 (2 ^ i)) p = true
    ·go_wp2_with ((go_at_call 162; (refine (square_c _ _ _).mono ?_; rintro e w1 ⟨rfl, rfl⟩)))
     go_round
     case rel => exact ⟨i, by omega, by go_num, by rw [N'.out, if_pos hq]⟩
     case measure => simp [intOf]
    ·have hq' : sqB (b + w64 (2 ^ i)) p = false := by simpa using hq
     clear hq
     go_wp2_with ((go_at_call 162; (refine (square_c _ _ _).mono ?_; rintro e w1 ⟨rfl, rfl⟩)))
     go_round
     case rel => exact ⟨i, by omega, by go_num, by rw [N'.out, if_neg (by rw [hq']; decide)]⟩
     case measure => simp [intOf]
 ·go_loop [5, 6] (fun n k => ∃ i : Nat, i ≤ 37 ∧ k = .int .i64 ((i : Int) - 1) ∧ n = .int .u64 (I64 (bh p true (37 - i)))) (fun _ k => (intOf k + 1).toNat)
  case atStart => exact ⟨37, by omega, rfl, rfl⟩
  case round =>
   obtain ⟨i, hi, rfl, rfl⟩ := hrel
   cases i with
   | zero =>
    go_wp2
    go_ret
    exact ⟨by rw [low32]; unfold behindW; rfl, rfl⟩
   | succ i =>
    have e : ((i + 1 : Nat) : Int) - 1 = i := by omega
    rw [e]; clear e
    have hI := I64_natW i yF
    have hi2 : (i : Int) ≤ 36 := by omega
    obtain ⟨b, eb⟩ : ∃ b, b = bh p true (37 - (i + 1)) := ⟨_, rfl⟩
    rw [← eb]
    have EB := Lib.hid eb; clear eb
    have N : bh p true (37 - i) = if (decide (b + w64 (2 ^ i) < 68719476736) && cuB (b + w64 (2 ^ i)) p) then b + w64 (2 ^ i) else b := by
     rw [EB.out, show 37 - i = (37 - (i + 1)) + 1 by omega, bh, show 36 - (37 - (i + 1)) = i by omega, shl_one i yF]; simp
    have N' := Lib.hid N; clear N
    by_cases h1 : b + w64 (2 ^ i) < 68719476736
    ·have d1 : decide (I64 (b + w64 (2 ^ i)) < 68719476736) = true := by
      rw [show (68719476736 : Int) = I64 68719476736 from rfl]; simpa [I64_lt] using h1
     have H1 := Lib.hid h1; clear h1
     by_cases hq : cuB (b + w64 (2 ^ i)) p = true
     ·go_wp2_with ((go_at_call 161; (refine (cube_c _ _ _).mono ?_; rintro e w1 ⟨rfl, rfl⟩)))
      go_round
      case rel => exact ⟨i, by omega, by go_num, by rw [N'.out, if_pos (by rw [hq]; simpa using H1.out)]⟩
      case measure => simp [intOf]
     ·have hq' : cuB (b + w64 (2 ^ i)) p = false := by simpa using hq
      clear hq
      go_wp2_with ((go_at_call 161; (refine (cube_c _ _ _).mono ?_; rintro e w1 ⟨rfl, rfl⟩)))
      go_round
      case rel => exact ⟨i, by omega, by go_num, by rw [N'.out, if_neg (by rw [hq']; simp)]⟩
      case measure => simp [intOf]
    ·have d1 : decide (I64 (b + w64 (2 ^ i)) < 68719476736) = false := by
      rw [show (68719476736 : Int) = I64 68719476736 from rfl]; simpa [I64_lt] using h1
     have H1 := Lib.hid h1; clear h1
     go_wp2_with ((go_at_call 161; (refine (cube_c _ _ _).mono ?_; rintro e w1 ⟨rfl, rfl⟩)))
     go_round
     case rel => exact ⟨i, by omega, by go_num, by rw [N'.out, if_neg (by simp only [Bool.and_eq_true, decide_eq_true_eq]; intro h; exact H1.out h.1)]⟩
     case measure => simp [intOf]
end Go.Proofs.YtidadhbaomieiaaGreat

namespace Go
namespace TL
open Go.RowKit
def us (l : List UInt64) : List Value := l.map fun x => .int .u64 (I64 x)
theorem us_get {l : List UInt64} {i : Nat} (h : i < l.length) : (us l)[i]? = some (.int .u64 (I64 (l.getD i 0))) := by
 rw [us, List.getElem?_map, List.getD_eq_getElem?_getD, List.getElem?_eq_getElem h]; rfl
theorem prB_pre (p : Nat) : prB p <+: prB (p + 1) := by
 rw [prB]; split
 ·exact List.prefix_append _ _
 ·exact List.prefix_refl _
theorem prB_pre' (p d : Nat) : prB p <+: prB (p + d) := by
 induction d with
 | zero => exact List.prefix_refl _
 | succ d ih => exact ih.trans (prB_pre (p + d))
theorem prB_312 : prB 312 = P64 := by decide +kernel
theorem prB_311 : (prB 311).length = 63 := by decide +kernel
theorem prB_lt (p : Nat) (h : p ≤ 311) : (prB p).length < 64 := by
 have := (prB_pre' p (311 - p)).length_le
 rw [show p + (311 - p) = 311 by omega, prB_311] at this; omega
theorem prB_ne (p : Nat) (h : p ≤ 312) (i : Nat) (hi : i < (prB p).length) : (prB p).getD i 0 ≠ 0 := by
 have hp := prB_pre' p (312 - p)
 rw [show p + (312 - p) = 312 by omega, prB_312] at hp
 have h1 : P64[i]? = some ((prB p)[i]) := by
  obtain ⟨t, ht⟩ := hp
  rw [← ht, List.getElem?_append_left hi, List.getElem?_eq_getElem hi]
 have h2 : ∀ q ∈ P64, q ≠ 0 := by decide
 rw [List.getD_eq_getElem?_getD, List.getElem?_eq_getElem hi]
 exact h2 _ (List.mem_of_getElem? h1)
theorem all_take (l : List UInt64) (f : UInt64 → Bool) (k : Nat) (h : k < l.length) : (l.take (k + 1)).all f = ((l.take k).all f && f (l.getD k 0)) := by
 rw [List.take_succ_eq_append_getElem h, List.all_append, List.getD_eq_getElem?_getD, List.getElem?_eq_getElem h]; simp
end TL
end Go
namespace Go.Proofs.YtidadhbaomieiaaGreat
open Go.RowKit Go.TL
theorem mod0 (x y : UInt64) : ((I64 x).tmod (I64 y) == 0) = (x % y == 0) := by
 rw [Bool.eq_iff_iff, beq_iff_eq, beq_iff_eq, Int.tmod_eq_emod_of_nonneg (I64_bd x).1, I64_mod, show (0 : Int) = I64 0 from rfl, qGA]
set_option maxRecDepth 1000000 in
theorem u64T : SliceT Tryz.prog 210 30 1 8 := ⟨Tryz.underlying210, ⟨_, _, rfl, rfl, rfl, rfl, rfl⟩, by omega⟩
theorem primes_c (w : World) :
  Calls Tryz.prog 119 #[.int .i64 64] w fun e w' => ∃ q cap, e = .returned (.slice q 64 cap) ∧ Mem [] w w' [.sl 1 (.slice q 64 cap) 64 (us P64)] := by
 have M := (Mem.start [] w).nil 1
 go_enter Tryz.func119, Tryz.ntmps119
 go_wp2_with fail
 go_loopw [3, 4] (fun l p wr => ∃ (n : Nat) (q : Option Addr) (cap : Nat), 2 ≤ n ∧ n ≤ 312 ∧ p = .int .u64 (I64 (UInt64.ofNat n)) ∧ l = .slice q (prB n).length cap ∧ Mem [] w wr [.sl 1 (.slice q (prB n).length cap) (prB n).length (us (prB n))]) (fun _ p _ => (312 - intOf p).toNat)
 case atStart => exact ⟨2, none, 0, by omega, by omega, rfl, rfl, M⟩
 case round =>
  clear M
  obtain ⟨n, q, cap, h2, hn, rfl, rfl, M⟩ := hrel
  have hI : I64 (UInt64.ofNat n) = (n : Int) := by rw [qBU, UInt64.toNat_ofNat']; omega
  have HI := Lib.hid hI; clear hI
  by_cases hlt : n ≤ 311
  ·have hl := prB_lt n hlt
   have hll : ((prB n).length : Int) < 64 := by omega
   go_wp2_with fail
   go_loopw [5, 6] (fun is i wr => ∃ k : Nat, k ≤ (prB n).length ∧ i = .int .i64 k ∧ is = .bool (((prB n).take k).all fun q => UInt64.ofNat n % q != 0) ∧ Mem [] w wr [.sl 1 (.slice q (prB n).length cap) (prB n).length (us (prB n))]) (fun _ i _ => (prB n).length - (intOf i).toNat)
   case atStart => exact ⟨0, by omega, rfl, rfl, M⟩
   case round =>
    clear M
    obtain ⟨k, hk, rfl, rfl, M⟩ := hrel
    by_cases hkl : k < (prB n).length
    ·obtain ⟨g, o, rfl⟩ := M.slAddr 0 rfl yF
     have hne := prB_ne n hn k hkl
     obtain ⟨y, ey⟩ : ∃ y, y = (prB n).getD k 0 := ⟨_, rfl⟩
     have hy : (us (prB n))[k]? = some (.int .u64 (I64 y)) := by rw [ey]; exact us_get hkl
     have hm := all_take (prB n) (fun q => UInt64.ofNat n % q != 0) k hkl
     rw [← ey] at hm hne
     have Hm := Lib.hid hm; clear hm ey
     have Hy := Lib.hid hy; clear hy
     have y0 : ¬ I64 y = 0 := fun h => hne (qGA.1 (h.trans (rfl : (0 : Int) = I64 0)))
     go_wp2_with (first | ((with_reducible show wpList _ _ _ (Oper.mk _ (Op.load _ _) _ _ _ _ :: _) _ _); (refine w_loadS M 0 _ _ rfl rfl rfl rfl yB k rfl Hy.out ?_)))
     all_goals
      have hr : _ := ‹((I64 (UInt64.ofNat n)).tmod (I64 y) == 0) = _›
      rw [mod0] at hr
      go_roundw
      case rel => exact ⟨k + 1, by omega, by go_num, by rw [Hm.out, bne, hr]; simp, M⟩
      case measure => simp [intOf]; omega
    ·obtain rfl : k = (prB n).length := by omega
     rw [List.take_length]
     have hs : prB (n + 1) = if ((prB n).all fun q => UInt64.ofNat n % q != 0) = true then prB n ++ [UInt64.ofNat n] else prB n := by
      rw [prB]; simp [h2]
     have Hs := Lib.hid hs; clear hs
     have hI2 : I64 (UInt64.ofNat n + 1) = ((n + 1 : Nat) : Int) := by rw [qBU, UInt64.toNat_add, UInt64.toNat_ofNat']; simp; omega
     have HI2 := Lib.hid hI2; clear hI2
     have e1 : UInt64.ofNat n + 1 = UInt64.ofNat (n + 1) := by apply UInt64.toNat_inj.1; rw [UInt64.toNat_add]; simp
     have E1 := Lib.hid e1; clear e1
     go_wp2_with ((first | ((with_reducible show wpList _ _ _ (Oper.mk _ (Op.buildSlice _ 1 _) _ _ _ _ :: _) _ _); (refine qAV M u64T yN _ rfl rfl yE _ rfl rfl ?_; clear M; intro g w1 M)) | ((with_reducible refine tApp ?_); (refine qAg M 0 u64T _ _ rfl rfl rfl rfl rfl rfl yJ yN yS yW ?_; clear M; intro q cap w1 M; (try simp only [setC] at M)))) <;> (try conv => arg 5; simp only [apS, setC]))
     ·have ha : ((prB n).all fun q => UInt64.ofNat n % q != 0) = true := by assumption
      have hs := Hs.out
      rw [if_pos ha] at hs
      go_roundw
      case rel => exact ⟨n + 1, _, _, by omega, by omega, by rw [E1.out], by rw [hs, List.length_append]; rfl, by
       rw [hs, List.length_append]; simpa [us] using M⟩
      case measure =>
       show (312 - I64 (UInt64.ofNat n + 1)).toNat < (312 - I64 (UInt64.ofNat n)).toNat
       rw [HI2.out, HI.out]; omega
     ·have ha : ((prB n).all fun q => UInt64.ofNat n % q != 0) = false := by assumption
      have hs := Hs.out
      rw [if_neg (by rw [ha]; decide)] at hs
      go_roundw
      case rel => exact ⟨n + 1, _, _, by omega, by omega, by rw [E1.out], by rw [hs], by rw [hs]; exact M⟩
      case measure =>
       show (312 - I64 (UInt64.ofNat n + 1)).toNat < (312 - I64 (UInt64.ofNat n)).toNat
       rw [HI2.out, HI.out]; omega
  ·obtain rfl : n = 312 := by omega
   rw [prB_312, qDT] at M ⊢
   go_wp2_with fail
   go_ret
   exact ⟨_, _, rfl, M⟩
end Go.Proofs.YtidadhbaomieiaaGreat

namespace Go
namespace TL
open Go.RowKit
def ws (l : List UInt32) : List Value := l.map fun x => .int .u32 (I32 x)
theorem qCp (l : List UInt32) : (ws l).length = l.length := by simp [ws]
theorem ws_one (l : List UInt32) : ∀ q ∈ ws l, q.oneCell' = true := by
 intro q hq; obtain ⟨b, _, rfl⟩ := List.mem_map.1 hq; rfl
theorem ws_get {l : List UInt32} {i : Nat} (h : i < l.length) : (ws l)[i]? = some (.int .u32 (I32 (l.getD i 0))) := by
 rw [ws, List.getElem?_map, List.getD_eq_getElem?_getD, List.getElem?_eq_getElem h]; rfl
theorem ws_set (l : List UInt32) (i : Nat) (b : UInt32) : ws (l.set i b) = (ws l).set i (.int .u32 (I32 b)) := by simp [ws, List.map_set]
section
variable {P : Program} {ops : Array Oper} {rest : List Oper} {o : Oper} {a : Act} {w w0 : World} {Q : Exit → Act → World → Prop} {F : List Nat} {L : List Chunk}
theorem w_load32 (M : Mem F w0 w L) (i : Nat) (t : TypeId) (x : Operand) (ho : o.op = .load t x) {g off : Nat} {l : List UInt32} (hi : L[i]? = some (.row g (ws l))) (hx : a.eval x = .pointer (some ⟨g, off, none⟩)) (hw : Region.wanted o (yielded ops a.tmps) = true)
  (ht : scalarT P t = true) (hlt : off < l.length) (h : wpList P ops Q rest (a.put o.dst (.int .u32 (I32 (l.getD off 0)))) w) : wpList P ops Q (o :: rest) a w :=
 qAM M i t x ho hi hx hw ht (ws_get hlt) h
theorem w_loadW (M : Mem F w0 w L) (i : Nat) (t : TypeId) (x : Operand) (ho : o.op = .load t x) {g : Nat} {l : List UInt32} (hi : L[i]? = some (.row g (ws l))) (hx : a.eval x = .pointer (some ⟨g, 0, none⟩)) (hw : Region.wanted o (yielded ops a.tmps) = true)
  (ht : rowT P t = true) {n : Nat} (hl : l.length = n) (hn : (P.info? t).map (·.size) = some n) (h : wpList P ops Q rest (a.put o.dst (.agg (ws l).toArray)) w) : wpList P ops Q (o :: rest) a w :=
 qAm M i t x ho hi hx hw ht (by rw [qCp, hl]; exact hn) h
theorem w_store32 (M : Mem F w0 w L) (i : Nat) (t : TypeId) (x y : Operand) (ho : o.op = .store t x y) {g off : Nat} {l : List UInt32} (hi : L[i]? = some (.row g (ws l))) (hx : a.eval x = .pointer (some ⟨g, off, none⟩)) (hw : Region.wanted o (yielded ops a.tmps) = true)
  {b : UInt32} (hy : a.eval y = .int .u32 (I32 b)) (hn : (P.info? t).map (·.size) = some 1) (hlt : off < l.length)
  (h : ∀ w' : World, Mem F w0 w' (L.set i (.row g (ws (l.set off b)))) → wpList P ops Q rest (a.put o.dst undef) w') : wpList P ops Q (o :: rest) a w :=
 qBn M i t x y ho hi hx hw hy rfl rfl hn (by rw [qCp]; exact hlt) (fun w' M' => h w' (by rw [ws_set]; exact M'))
theorem w_storeW (M : Mem F w0 w L) (i : Nat) (t : TypeId) (x y : Operand) (ho : o.op = .store t x y) {g : Nat} {l : List UInt32} (hi : L[i]? = some (.row g (ws l))) (hx : a.eval x = .pointer (some ⟨g, 0, none⟩)) (hw : Region.wanted o (yielded ops a.tmps) = true)
  {m : List UInt32} (hy : a.eval y = .agg (ws m).toArray) {n : Nat} (hm : m.length = n) (hn : (P.info? t).map (·.size) = some n) (hl : l.length = n)
  (h : ∀ w' : World, Mem F w0 w' (L.set i (.row g (ws m))) → wpList P ops Q rest (a.put o.dst undef) w') : wpList P ops Q (o :: rest) a w :=
 qBK M i t x y ho hi hx hw (ws m) hy rfl (by rw [qCp, hm]; exact hn) (ws_one _) (by simp [qCp, hm, hl]) h
theorem LdA.w32 {t : TypeId} {g off i : Nat} {l : List UInt32} (M : Mem F w0 w L) (hi : L[i]? = some (.row g (ws l))) (ht : scalarT P t = true) (hlt : off < l.length) : LdA P w t (.pointer (some ⟨g, off, none⟩)) (.int .u32 (I32 (l.getD off 0))) := fun _ _ _ x _ _ ho hx hw h => w_load32 M i t x ho hi hx hw ht hlt h
theorem LdA.arr32 {t : TypeId} {g i : Nat} {l : List UInt32} (M : Mem F w0 w L) (hi : L[i]? = some (.row g (ws l))) (ht : rowT P t = true) {n : Nat} (hl : l.length = n) (hn : (P.info? t).map (·.size) = some n) : LdA P w t (.pointer (some ⟨g, 0, none⟩)) (.agg (ws l).toArray) := fun _ _ _ x _ _ ho hx hw h => w_loadW M i t x ho hi hx hw ht hl hn h
theorem StA.w32 {t : TypeId} {g off i : Nat} {l : List UInt32} (M : Mem F w0 w L) (hi : L[i]? = some (.row g (ws l))) {b : UInt32} (hn : (P.info? t).map (·.size) = some 1) (hlt : off < l.length) : StA P w t (.pointer (some ⟨g, off, none⟩)) (.int .u32 (I32 b)) fun w' => Mem F w0 w' (L.set i (.row g (ws (l.set off b)))) := fun _ _ _ x y _ _ ho hx hy hw h => w_store32 M i t x y ho hi hx hw hy hn hlt h
theorem StA.arr32 {t : TypeId} {g i : Nat} {l : List UInt32} (M : Mem F w0 w L) (hi : L[i]? = some (.row g (ws l))) {m : List UInt32} {n : Nat} (hm : m.length = n) (hn : (P.info? t).map (·.size) = some n) (hl : l.length = n) : StA P w t (.pointer (some ⟨g, 0, none⟩)) (.agg (ws m).toArray) fun w' => Mem F w0 w' (L.set i (.row g (ws m))) := fun _ _ _ x y _ _ ho hx hy hw h => w_storeW M i t x y ho hi hx hw hy hm hn hl h
theorem w_loadX (M : Mem F w0 w L) (t : TypeId) (x : Operand) (ho : o.op = .load t x) {g so n m cap off : Nat} {l : List UInt8} (S : Sees w0 1 (.slice (some ⟨g, so, none⟩) m cap) n (bs l)) (hF : g ∉ F) (hx : a.eval x = .pointer (some ⟨g, off, none⟩)) (hw : Region.wanted o (yielded ops a.tmps) = true)
  (ht : scalarT P t = true) (j : Nat) (hoff : off = so + j) (hj : j < l.length) (h : wpList P ops Q rest (a.put o.dst (.int .u8 (I8 (l.getD j 0)))) w) : wpList P ops Q (o :: rest) a w :=
 wpW hw fun _ hK => by
  subst hoff
  have S' := M.sees S (by intro k hk; simp [Value.ownBlock] at hk; subst hk; exact hF)
  have hc : w.cell? ⟨g, so + j, none⟩ = some (.int .u8 (I8 (l.getD j 0))) := by
   rcases S'.2 with ⟨_, h0⟩ | ⟨g', o', c, hv', _, _, _, hr⟩
   ·have h1 := S'.1
    rw [h0, Nat.zero_mul, qAP] at h1
    omega
   ·injection hv' with h1 _ _; injection h1 with h1; injection h1 with h1 h2; subst h1; subst h2; exact hr j _ (getD_some hj)
  unfold Oper.wp execOp
  simp only [ho, hx, Instr.loadAt, Instr.sureAddr, Sem.run_bind, Sem.run_pure, Result.andThen_ok, qAX ht w g _ _ hc]
  exact hK _ _ h
theorem sees_addr {size n m cap : Nat} {q : Option Addr} {xs : List Value} (S : Sees w size (.slice q m cap) n xs) (hn : 0 < n) : ∃ g o, q = some ⟨g, o, none⟩ := by
 rcases S.2 with ⟨_, h0⟩ | ⟨g, o, c, hv, _⟩
 ·omega
 ·injection hv with h1 h2 h3; exact ⟨g, o, h1⟩
variable {M : Mem F w0 w L} {is : List Nat}
theorem stab_ix32 (M : Mem F w0 w L) (i : Nat) (off : Nat) {t : TypeId} {x : Operand} (ho : o.op = .load t x) {g : Nat} {l : List UInt32} (hi : L[i]? = some (.row g (ws l))) (hin : i ∈ is) (ht : scalarT P t = true) (hlt : off < l.length) : Stab P (IxOk M is) o (.pointer (some ⟨g, off, none⟩)) :=
 qCv M i off ho hi hin ht (ws_get hlt)
theorem stab_ixW32 (M : Mem F w0 w L) (i : Nat) {t : TypeId} {x : Operand} (ho : o.op = .load t x) {g : Nat} {l : List UInt32} (hi : L[i]? = some (.row g (ws l))) (hin : i ∈ is) (ht : rowT P t = true) {n : Nat} (hl : l.length = n) (hn : (P.info? t).map (·.size) = some n) : Stab P (IxOk M is) o (.pointer (some ⟨g, 0, none⟩)) :=
 qEv M i ho hi hin ht (by rw [qCp, hl]; exact hn)
theorem sa_ix32 {i off : Nat} {t : TypeId} {x : Operand} (ho : o.op = .load t x) {g : Nat} {l : List UInt32} (hi : L[i]? = some (.row g (ws l))) (hin : i ∈ is) (ht : scalarT P t = true) (hlt : off < l.length) : StabAt P M is o i off (.pointer (some ⟨g, off, none⟩)) := stab_ix32 M i off ho hi hin ht hlt
theorem sa_ixW32 {i off : Nat} {t : TypeId} {x : Operand} (ho : o.op = .load t x) {g : Nat} {l : List UInt32} (hi : L[i]? = some (.row g (ws l))) (hin : i ∈ is) (ht : rowT P t = true) {n : Nat} (hl : l.length = n) (hn : (P.info? t).map (·.size) = some n) : StabAt P M is o i off (.pointer (some ⟨g, 0, none⟩)) := stab_ixW32 M i ho hi hin ht hl hn
theorem Mem.part (M : Mem F w0 w L) (i : Nat) {m n cap g so : Nat} {l : List UInt8} (hi : L[i]? = some (.sl 1 (.slice (some ⟨g, so, none⟩) m cap) n (bs l))) (at_ k : Nat) (h : at_ + k ≤ l.length) (hn : n = l.length) (c : Nat) (hc : k ≤ c) (hcm : c ≤ maxLen) :
  Sees w 1 (.slice (some ⟨g, so + at_, none⟩) k c) k (bs ((l.drop at_).take k)) := by
 have hl : ((l.drop at_).take k).length = k := by simp; omega
 refine ⟨by rw [qAP, hl, Nat.mul_one], .inr ⟨g, so + at_, c, rfl, ?_, hc, hcm, ?_⟩⟩
 ·exact (M.ok i _ hi).lt g (by simp [Chunk.fp, Value.ownBlock])
 ·intro j v hv
  have hj : j < k := by have := (List.getElem?_eq_some_iff.1 hv).1; rw [qAP, hl] at this; exact this
  rw [Nat.add_assoc]
  refine M.slCell i hi ?_
  rw [← hv, bs, bs, List.getElem?_map, List.getElem?_map, List.getElem?_take, if_pos hj, List.getElem?_drop]
end
theorem setTake32 (l : List UInt32) (n k : Nat) (hl : l.length = n) (hk : k < n) (x : UInt32) (hx : x = l.getD k 0) : (l.take k ++ List.replicate (n - k) 0).set k x = l.take (k + 1) ++ List.replicate (n - (k + 1)) 0 := by
 subst hx
 rw [List.set_append_right _ _ yC1]
 simp only [List.length_take, Nat.min_eq_left (show k ≤ l.length by omega), Nat.sub_self]
 rw [List.take_succ_eq_append_getElem yF, List.append_assoc, show n - k = (n - (k + 1)) + 1 by omega, List.replicate_succ, List.set_cons_zero, List.getD_eq_getElem?_getD, List.getElem?_eq_getElem yF]
 rfl
end TL
end Go

namespace Go
namespace TL
open Go.RowKit
theorem or_add (x b n : Nat) (hb : b < 2 ^ n) : (x <<< n) ||| b = x * 2 ^ n + b := by
 rw [Nat.shiftLeft_eq, Nat.mul_comm, Nat.two_pow_add_eq_or_of_lt hb]
theorem be_step (x : UInt64) (b : UInt8) (h : x.toNat < 2 ^ 48) : ((x <<< 8) ||| b.toUInt64).toNat = x.toNat * 256 + b.toNat := by
 have hb := b.toNat_lt
 have e8 : (UInt64.toNat 8) % 64 = 8 := rfl
 simp only [UInt64.toNat_or, UInt64.toNat_shiftLeft, e8, UInt8.toNat_toUInt64]
 rw [Nat.mod_eq_of_lt (by rw [Nat.shiftLeft_eq]; omega), or_add _ _ 8 yF]
theorem wordBE (a b c d : UInt8) : w32 (I8 a) * 16777216 + w32 (I8 b) * 65536 + w32 (I8 c) * 256 + w32 (I8 d) = (be64 [a, b, c, d]).toUInt32 := by
 have ha := a.toNat_lt; have hb := b.toNat_lt; have hc := c.toNat_lt; have hd := d.toNat_lt
 have e0 : be64 [a, b, c, d] = ((((((0 : UInt64) <<< 8 ||| a.toUInt64) <<< 8) ||| b.toUInt64) <<< 8 ||| c.toUInt64) <<< 8) ||| d.toUInt64 := rfl
 have n1 : ((0 : UInt64) <<< 8 ||| a.toUInt64).toNat = a.toNat := by rw [be_step _ _ yN]; simp
 have n2 := be_step ((0 : UInt64) <<< 8 ||| a.toUInt64) b (by rw [n1]; omega)
 have n3 := be_step _ c (by rw [n2, n1]; omega)
 have n4 := be_step _ d (by rw [n3, n2, n1]; omega)
 have w : ∀ x : UInt8, (w32 (I8 x)).toNat = x.toNat := fun x => by have := x.toNat_lt; rw [qDq, I8_eq]; omega
 apply UInt32.toNat_inj.1
 rw [e0, UInt64.toNat_toUInt32, n4, n3, n2, n1]
 simp only [UInt32.toNat_add, UInt32.toNat_mul, w, UInt32.reduceToNat]
 omega
theorem wordBE' (a b c d : UInt8) : a.toUInt32 * 16777216 + b.toUInt32 * 65536 + c.toUInt32 * 256 + d.toUInt32 = (be64 [a, b, c, d]).toUInt32 := by
 have w : ∀ x : UInt8, w32 (I8 x) = x.toUInt32 := fun x => by
  apply UInt32.toNat_inj.1
  have := x.toNat_lt
  rw [qDq, I8_eq, UInt8.toNat_toUInt32]; omega
 rw [← wordBE, w, w, w, w]
theorem qBx (s : St) : s.words.length = 8 := by cases s; simp [St.words]
instance wordsLen {s : St} : HXor (PLift (s.words = s.words)) Unit (PLift (s.words.length = 8)) := ⟨fun _ _ => ⟨qBx s⟩⟩
theorem add_words (h r : St) (k : Nat) (_hk : k < 8) (h1 : k < r.words.length) (h2 : k < h.words.length) : r.words[k] + h.words[k] = (h.add r).words.getD k 0 := by
 have e : (h.add r).words = List.zipWith (· + ·) h.words r.words := rfl
 rw [e, List.getD_eq_getElem?_getD, List.getElem?_eq_getElem yC1, Option.getD_some, List.getElem_zipWith, UInt32.add_comm]; rfl
theorem mixSet (A B : List UInt32) (k : Nat) (x : UInt32) (hA : k < A.length) (hB : k < B.length) (hx : x = A.getD k 0) : (A.take k ++ B.drop k).set k x = A.take (k + 1) ++ B.drop (k + 1) := by
 subst hx
 rw [List.set_append_right _ _ yC1]
 simp only [List.length_take, Nat.min_eq_left (Nat.le_of_lt hA), Nat.sub_self]
 rw [List.drop_eq_getElem_cons hB, List.set_cons_zero, List.take_succ_eq_append_getElem hA, List.append_assoc, List.getD_eq_getElem?_getD, List.getElem?_eq_getElem hA]
 rfl
theorem take4 (s : List UInt8) (k : Nat) (h : 4 * k + 4 ≤ s.length) : (s.drop (4 * k)).take 4 = [s.getD (4 * k) 0, s.getD (4 * k + 1) 0, s.getD (4 * k + 2) 0, s.getD (4 * k + 3) 0] := by
 apply List.ext_getElem
 ·simp; omega
 ·intro i h1 h2
  simp only [List.length_cons, List.length_nil] at h2
  rw [List.getElem_take, List.getElem_drop]
  have : i = 0 ∨ i = 1 ∨ i = 2 ∨ i = 3 := by omega
  rcases this with rfl | rfl | rfl | rfl <;> simp only [List.getElem_cons_zero, List.getElem_cons_succ, List.getD_eq_getElem?_getD] <;> rw [List.getElem?_eq_getElem yF] <;> rfl
theorem wl_getD (s : List UInt8) (n k : Nat) (h : k < n) : (wl s n).getD k 0 = nextW s (wl s k) := by
 induction n with
 | zero => omega
 | succ n ih =>
  rw [wl_step, List.getD_eq_getElem?_getD]
  by_cases e : k < n
  ·rw [List.getElem?_append_left (by rw [qAx]; exact e), ← List.getD_eq_getElem?_getD]; exact ih e
  ·obtain rfl : k = n := by omega
   rw [List.getElem?_append_right (by rw [qAx]; exact Nat.le_refl _), qAx]; simp
end TL
end Go
namespace Go.Proofs.YtidadhbaomieiaaGreat
open Go.RowKit Go.TL
theorem refrot_c (x : UInt32) (k : Int) (w : World) (h1 : 1 ≤ k) (h2 : k ≤ 31) :
  Calls Tryz.prog 163 #[.int .u32 (I32 x), .int .u64 k] w fun e w' => e = .returned (.int .u32 (I32 (ror x k.toNat))) ∧ w = w' := by
 obtain ⟨m, rfl⟩ := Int.eq_ofNat_of_zero_le (show 0 ≤ k by omega)
 exact refrot_any x m w yF yF
theorem refturn_c (h : St) (K : List UInt32) (s : List UInt8) (hK : K.length = 64) (hs : s.length = 64) (v : Value) (w : World) (S : Sees w 1 v 64 (bs s)) :
  Calls Tryz.prog 121 #[.agg (ws h.words).toArray, .agg (ws K).toArray, v] w fun e w' => e = .returned (.agg (ws (turnS h h K s).words).toArray) ∧ Below w.heap.size w w' := by
 obtain ⟨q, cap, rfl, hcap⟩ := S.form
 obtain ⟨g, so, rfl⟩ := sees_addr S yF
 obtain ⟨W, eW⟩ : ∃ W, W = wl s 64 := ⟨_, rfl⟩
 have wlen : W.length = 64 := by rw [eW]; exact qAx s 64
 have EW := Lib.hid eW; clear eW
 have M := Mem.start [] w
 go_enter Tryz.func121, Tryz.ntmps121
 go_wp2_with ((first | ((with_reducible refine tBox (some 3) ?_); refine w_box M _ _ rfl rfl _ rfl (ws h.words) rfl ?_; clear M; intro gh w1 M) | ((with_reducible refine tBox (some 4) ?_); refine w_box M _ _ rfl rfl _ rfl (ws K) rfl ?_; clear M; intro gk w1 M) | ((with_reducible refine tAlloc (some 6) 213 ?_); refine wal M _ rfl rfl (ws (List.replicate 8 (0 : UInt32))) yD ?_; clear M; intro gr w1 M) | ((with_reducible refine tAlloc (some 7) 212 ?_); refine wal M _ rfl rfl (ws (List.replicate 64 (0 : UInt32))) yD ?_; clear M; intro gw w1 M)) <;> (try conv => arg 5; simp only [apS, setC]))
 go_loopw [8] (fun iv wr => ∃ k : Nat, k ≤ 16 ∧ iv = .int .i64 k ∧ Mem [] w wr [.row gw (ws (W.take k ++ List.replicate (64 - k) 0)), .row gr (ws (List.replicate 8 0)), .row gk (ws K), .row gh (ws h.words)]) (fun iv _ => 16 - (intOf iv).toNat)
 case atStart => exact ⟨0, by omega, rfl, M⟩
 case round =>
  clear M
  obtain ⟨k, hk, rfl, M⟩ := hrel
  by_cases hlt : k < 16
  ·have e1 : (s.getD (4 * k) 0).toUInt32 * 16777216 + (s.getD (4 * k + 1) 0).toUInt32 * 65536 + (s.getD (4 * k + 2) 0).toUInt32 * 256 + (s.getD (4 * k + 3) 0).toUInt32 = W.getD k 0 := by
    rw [EW.out, wordBE', ← take4 s k yF, wl_getD s 64 k yF, nextW_low s k hlt]; rfl
   have E1 := Lib.hid e1; clear e1
   go_wp2_with ((first | ((with_reducible show Code.wp _ (Code.region 5 _ _) _ _ _); (refine qAF [(0, false), (1, false), (2, false), (3, false), (4, false), (8, false), (9, false), (10, false), (11, false), (12, false), (17, false), (18, false), (19, false), (20, false), (21, false), (26, false), (27, false), (28, false), (29, false), (30, false), (5, false), (6, false), (7, false), (13, false), (14, false), (15, false), (16, false), (22, false), (23, false), (24, false), (25, false), (31, false), (32, false), (33, false), (34, false), (35, true)] [(29, .int), (36, .int), (37, .int), (45, .int), (46, .int), (54, .int), (55, .int), (32, .int), (33, .int), (40, .int), (41, .int), (34, .int), (42, .int), (49, .int), (50, .int), (43, .int), (51, .int), (58, .int), (52, .int), (59, .int)] yD yD rfl yD ?_; replace M := M.drew; simp only [reord, opAt, List.map_cons, List.map_nil, gE])) | ((with_reducible show wpList _ _ _ (Oper.mk _ (Op.load _ _) _ _ _ _ :: _) _ _); (refine w_loadX M _ _ rfl S yB1 rfl rfl yB _ rfl yF ?_)) | ((with_reducible refine tM rfl ?_); refine mW ?_; try (clear M; (first | intro g w1 M | intro w1 M); try simp only [setC] at M)) | ((with_reducible first | show Seg _ _ _ _ | show OnlyN _ _ _ _ _); refine rA ?_) | ((with_reducible refine tGuard ?_); refine gdC ?_ ?_ <;> (intro hgd; rw [hgd]; try (exfalso; simp at hgd; omega)))) <;> (try conv => arg 5; simp only [apS, setC]))
   go_roundw
   case rel => exact ⟨k + 1, by omega, by go_num, by rw [← setTake32 W 64 k wlen yF _ E1.out]; simpa only [List.getD_eq_getElem?_getD] using M⟩
   case measure => simp [intOf]; omega
  ·obtain rfl : k = 16 := by omega
   rw [show ((16 : Nat) : Int) = 16 from rfl]
   go_wp2_with fail
   go_loopw [9] (fun iv wr => ∃ j : Nat, j ≤ 48 ∧ iv = .int .i64 (j + 16) ∧ Mem [] w wr [.row gw (ws (W.take (j + 16) ++ List.replicate (64 - (j + 16)) 0)), .row gr (ws (List.replicate 8 0)), .row gk (ws K), .row gh (ws h.words)]) (fun iv _ => 64 - (intOf iv).toNat)
   case atStart => exact ⟨0, by omega, rfl, M⟩
   case round =>
    clear M
    obtain ⟨j, hj, rfl, M⟩ := hrel
    by_cases hlt : j < 48
    ·go_wp2_with ((first | ((with_reducible show Code.wp _ (Code.region 11 _ _) _ _ _); (have MR := M; refine qAB [(0, false), (1, false), (2, false), (3, false), (5, false), (7, false), (10, false), (11, false), (14, false), (15, false), (16, false), (19, false), (21, false), (24, false), (25, false), (4, false), (17, false), (6, true), (8, true), (9, false), (12, false), (13, false), (18, false), (20, true), (22, true), (23, false), (26, false), (27, false), (28, false), (29, true)] [(75, .int), (84, .int), (88, .int), (98, .int), (80, .int), (82, .int), (83, .int), (85, .int), (78, .int), (86, .int), (87, .int), (91, .int), (94, .int), (96, .int), (97, .int), (99, .int), (92, .int), (100, .int)] [(4, _), (17, _)] (IxOk MR [0]) 29 yD yD rfl yD (lowA MR 0 j (lowA MR 0 (j+9) qAN)) (qAJ MR _) ?_; replace M := M.drew; simp only [planC, opAt, gE])) | (go_at_call 163; (refine (refrot_c _ _ _ yN yN).mono ?_; rintro e w1 ⟨rfl, rfl⟩)) | ((with_reducible refine tM rfl ?_); refine mW ?_; try (clear M; (first | intro g w1 M | intro w1 M); try simp only [setC] at M)) | ((with_reducible first | show Seg _ _ _ _ | show OnlyN _ _ _ _ _); refine rA ?_) | ((with_reducible refine tGuard ?_); refine gdC ?_ ?_ <;> (intro hgd; rw [hgd]; try (exfalso; simp at hgd; omega)))) <;> (try conv => arg 5; simp only [apS, setC]))
     have gd : ∀ m, m < j + 16 → (W.take (j + 16) ++ List.replicate (48 - j) 0)[m]?.getD 0 = W.getD m 0 := fun m hm => by
      rw [List.getElem?_append_left (by rw [List.length_take]; omega), List.getElem?_take, if_pos hm, List.getD_eq_getElem?_getD]
     rw [gd j yF, gd (j + 1) yF, gd (j + 9) yF, gd (j + 14) yF, show 64 - (j + 16) = 48 - j by omega] at M
     have e2 : W.getD j 0 + (ror (W.getD (j + 1) 0) 7 ^^^ ror (W.getD (j + 1) 0) 18 ^^^ W.getD (j + 1) 0 >>> 3) + W.getD (j + 9) 0 + (ror (W.getD (j + 14) 0) 17 ^^^ ror (W.getD (j + 14) 0) 19 ^^^ W.getD (j + 14) 0 >>> 10) = W.getD (j + 16) 0 := by
      have hg : ∀ m, m < j + 16 → (wl s (j + 16)).getD m 0 = W.getD m 0 := fun m hm => by
       rw [EW.out, wl_getD s 64 m yF, wl_getD s (j + 16) m hm]
      have hr : W.getD (j + 16) 0 = nextW s (wl s (j + 16)) := by rw [EW.out, wl_getD s 64 (j + 16) yF]
      rw [hr, qGQ s (j + 16) yF, hg _ yF, hg _ yF, hg _ yF, hg _ yF, show j + 16 - 16 = j by omega, show j + 16 - 15 = j + 1 by omega, show j + 16 - 7 = j + 9 by omega, show j + 16 - 2 = j + 14 by omega]
      rfl
     go_roundw
     case rel => exact ⟨j + 1, by omega, by go_num, by rw [show j + 1 + 16 = j + 16 + 1 by omega, ← setTake32 W 64 (j + 16) wlen yF _ e2, show 64 - (j + 16) = 48 - j by omega]; exact M⟩
     case measure => simp [intOf]; omega
    ·obtain rfl : j = 48 := by omega
     rw [show 48 + 16 = 64 from rfl, List.take_of_length_le yF, Nat.sub_self, List.replicate_zero, List.append_nil] at M
     go_wp2_with ((first | ((with_reducible refine tAlloc (some 12) 213 ?_); refine wal M _ rfl rfl (ws (List.replicate 8 (0 : UInt32))) yD ?_; clear M; intro gv w1 M) | ((with_reducible refine tM rfl ?_); refine mW ?_; try (clear M; (first | intro g w1 M | intro w1 M); try simp only [setC] at M)) | ((with_reducible refine tGuard ?_); refine gdC ?_ ?_ <;> (intro hgd; rw [hgd]; try (exfalso; simp at hgd; omega)))) <;> (try conv => arg 5; simp only [apS, setC]))
     try rw [show ((48 : Nat) : Int) + 16 = 64 from rfl]
     go_loopw [13] (fun iv wr => ∃ k : Nat, k ≤ 64 ∧ iv = .int .i64 k ∧ Mem [] w wr [.row gv (ws (rndN h K W k).words), .row gw (ws W), .row gr (ws (List.replicate 8 0)), .row gk (ws K), .row gh (ws h.words)]) (fun iv _ => 64 - (intOf iv).toNat)
     case atStart => exact ⟨0, by omega, rfl, M⟩
     case round =>
      clear M
      obtain ⟨k, hk, rfl, M⟩ := hrel
      obtain ⟨r, er⟩ : ∃ r, r = rndN h K W k := ⟨_, rfl⟩
      rw [← er] at M
      have ER := Lib.hid er; clear er
      by_cases hlt : k < 64
      ·go_wp2_with ((first | ((with_reducible show Code.wp _ (Code.region 16 _ _) _ _ _); (refine qAF [(0, false), (2, false), (4, false), (6, false), (8, false), (10, false), (1, false), (12, false), (3, false), (13, false), (5, false), (14, false), (7, false), (15, false), (9, false), (16, false), (11, false), (17, false)] [] yD yD rfl yD ?_; replace M := M.drew; simp only [reord, opAt, List.map_cons, List.map_nil, gE])) | ((with_reducible show Code.wp _ (Code.region 17 _ _) _ _ _); (have MR := M; refine qAB [(0, false), (2, false), (4, false), (7, false), (11, false), (12, false), (13, false), (14, false), (15, false), (16, false), (17, false), (18, false), (20, false), (21, false), (24, false), (25, false), (1, false), (22, false), (26, false), (3, true), (5, true), (6, false), (8, true), (9, false), (10, false), (19, false), (23, false), (27, false), (28, false)] [(131, .int), (132, .int), (134, .int), (135, .int), (136, .int), (133, .int), (137, .int), (123, .int), (125, .int), (126, .int), (128, .int), (121, .int), (129, .int), (130, .int), (138, .int), (139, .int), (142, .int), (143, .int), (146, .int)] [(1, _), (22, _), (26, _)] (IxOk MR [0, 3, 1]) 29 yD yD rfl yD (lowA MR 0 7 (lowA MR 3 k (lowA MR 1 k qAN))) (qAJ MR _) ?_; replace M := M.drew; simp only [planC, opAt, gE])) | (go_at_call 163; (refine (refrot_c _ _ _ yN yN).mono ?_; rintro e w1 ⟨rfl, rfl⟩)) | ((with_reducible refine tM rfl ?_); refine mW ?_; try (clear M; (first | intro g w1 M | intro w1 M); try simp only [setC] at M)) | ((with_reducible first | show Seg _ _ _ _ | show OnlyN _ _ _ _ _); refine rA ?_) | ((with_reducible refine tGuard ?_); refine gdC ?_ ?_ <;> (intro hgd; rw [hgd]; try (exfalso; simp at hgd; omega)))) <;> (try conv => arg 5; simp only [apS, setC]))
       have e3 : (4294967295 : UInt32) ^^^ r.e = ~~~ r.e := by
        rw [show (4294967295 : UInt32) = -1 from rfl]; apply UInt32.eq_of_toBitVec_eq; simp
       have eK : K[k] = K.getD k 0 := by rw [List.getD_eq_getElem?_getD, List.getElem?_eq_getElem yF]; rfl
       have eW : W[k] = W.getD k 0 := by rw [List.getD_eq_getElem?_getD, List.getElem?_eq_getElem yF]; rfl
       rw [e3, eK, eW] at M
       go_roundw
       case rel => exact ⟨k + 1, by omega, by go_num, by rw [rndN, ← ER.out]; exact M⟩
       case measure => simp [intOf]; omega
      ·obtain rfl : k = 64 := by omega
       rw [show ((64 : Nat) : Int) = 64 from rfl]
       have lr := qBx r
       have lh := qBx h
       go_wp2_with fail
       go_loopw [22] (fun iv wr => ∃ k : Nat, k ≤ 8 ∧ iv = .int .i64 k ∧ Mem [] w wr [.row gv (ws (((h.add r).words).take k ++ r.words.drop k)), .row gw (ws W), .row gr (ws (List.replicate 8 0)), .row gk (ws K), .row gh (ws h.words)]) (fun iv _ => 8 - (intOf iv).toNat)
       case atStart => exact ⟨0, by omega, rfl, M⟩
       case round =>
        clear M
        obtain ⟨k, hk, rfl, M⟩ := hrel
        have la := qBx (h.add r)
        by_cases hlt : k < 8
        ·go_wp2_with ((first | ((with_reducible show Code.wp _ (Code.region 23 _ _) _ _ _); (refine qAF [(0, false), (1, false), (2, false), (4, false), (5, false), (3, false), (6, false), (7, false), (8, false), (9, true)] [(189, .int), (192, .int)] yD yD rfl yD ?_; replace M := M.drew; simp only [reord, opAt, List.map_cons, List.map_nil, gE])) | ((with_reducible refine tM rfl ?_); refine mW ?_; try (clear M; (first | intro g w1 M | intro w1 M); try simp only [setC] at M)) | ((with_reducible first | show Seg _ _ _ _ | show OnlyN _ _ _ _ _); refine rA ?_) | ((with_reducible refine tGuard ?_); refine gdC ?_ ?_ <;> (intro hgd; rw [hgd]; try (exfalso; simp at hgd; omega)))) <;> (try conv => arg 5; simp only [apS, setC]))
         rw [mixSet (h.add r).words r.words k (r.words[k] + h.words[k]) yF yF (add_words h r k hlt yF yF)] at M
         go_roundw
         case rel => exact ⟨k + 1, by omega, by go_num, M⟩
         case measure => simp [intOf]; omega
        ·obtain rfl : k = 8 := by omega
         rw [List.take_of_length_le yF, List.drop_eq_nil_of_le yF, List.append_nil] at M
         go_wp2_with ((first | ((with_reducible refine tM rfl ?_); refine mW ?_; try (clear M; (first | intro g w1 M | intro w1 M); try simp only [setC] at M)) | ((with_reducible refine tGuard ?_); refine gdC ?_ ?_ <;> (intro hgd; rw [hgd]; try (exfalso; simp at hgd; omega)))) <;> (try conv => arg 5; simp only [apS, setC]))
         refine bodyPost_ret (qAS rfl _ _ gr 0 (ws (h.add r).words) _ rfl (M.ok 2 _ rfl).2.1 Tryz.underlying213 rfl yD) rfl ⟨?_, M.below⟩
         rw [ER.out, EW.out]; rfl
end Go.Proofs.YtidadhbaomieiaaGreat

namespace Go
namespace TL
theorem qFw (n : Nat) : ∀ (h : St) (l : List UInt8), absorb n h (l.take (64 * n)) = absorb n h l := by
 induction n with
 | zero => intro h l; rfl
 | succ n ih =>
  intro h l
  rw [absorb, absorb, List.take_take, Nat.min_eq_left yF, List.drop_take, show 64 * (n + 1) - 64 = 64 * n by omega, ih]
theorem absorb_add (a b : Nat) : ∀ (h : St) (l : List UInt8), absorb (a + b) h l = absorb b (absorb a h l) (l.drop (64 * a)) := by
 induction a with
 | zero => intro h l; rw [Nat.zero_add]; simp [absorb]
 | succ a ih =>
  intro h l
  rw [show a + 1 + b = (a + b) + 1 by omega, absorb, ih, absorb, List.drop_drop, show 64 + 64 * a = 64 * (a + 1) by omega]
def padT (l : List UInt8) : List UInt8 := l ++ [128] ++ List.replicate (zpad l.length) 0 ++ bigB (UInt64.ofNat l.length * 8) 8
theorem zpad_mod (n : Nat) : zpad (n % 64) = zpad n := by unfold zpad; rw [Nat.mod_mod]
theorem padT_length (l : List UInt8) : (padT l).length % 64 = 0 := by
 simp only [padT, List.length_append, List.length_replicate, qAW, List.length_cons, List.length_nil, zpad]; omega
theorem shaL_whole (l : List UInt8) : shaL l = outB (absorb ((padT l).length / 64) H0 (padT l)) := by
 have hd : (l.drop (64 * (l.length / 64))).length = l.length % 64 := by rw [List.length_drop]; omega
 have e1 : (padT l).drop (64 * (l.length / 64)) = padB (l.drop (64 * (l.length / 64))) l.length := by
  simp only [padT, padB, hd, zpad_mod, List.append_assoc]
  rw [List.drop_append_of_le_length yF]
 have e2 : (padT l).length / 64 = l.length / 64 + (padB (l.drop (64 * (l.length / 64))) l.length).length / 64 := by
  rw [← e1, List.length_drop]
  have : 64 * (l.length / 64) ≤ (padT l).length := by simp only [padT, List.length_append]; omega
  omega
 have e3 : absorb (l.length / 64) H0 (padT l) = absorb (l.length / 64) H0 l := by
  rw [← qFw, ← qFw _ _ l]
  congr 1
  simp only [padT, List.append_assoc]
  rw [List.take_append_of_le_length yF]
 rw [e2, absorb_add, e1, e3]
 rfl
theorem out_byte (x : UInt32) (j : Nat) (h : j < 4) : (bigB x.toUInt64 4).getD j 0 = (x >>> UInt32.ofNat (24 - 8 * j)).toUInt8 := by
 have hx := x.toNat_lt
 have : j = 0 ∨ j = 1 ∨ j = 2 ∨ j = 3 := by omega
 rcases this with rfl | rfl | rfl | rfl <;> apply UInt8.toNat_inj.1 <;> simp [bigB]
theorem outB_get (s : St) (i : Nat) (h : i < 32) : (outB s).getD i 0 = (s.words.getD (i / 4) 0 >>> UInt32.ofNat (24 - 8 * (i % 4))).toUInt8 := by
 have hw : ∀ k j, k < 8 → j < 4 → (outB s).getD (4 * k + j) 0 = (bigB (s.words.getD k 0).toUInt64 4).getD j 0 := by
  intro k j hk hj
  have h1 : k = 0 ∨ k = 1 ∨ k = 2 ∨ k = 3 ∨ k = 4 ∨ k = 5 ∨ k = 6 ∨ k = 7 := by omega
  have h2 : j = 0 ∨ j = 1 ∨ j = 2 ∨ j = 3 := by omega
  rcases h1 with rfl | rfl | rfl | rfl | rfl | rfl | rfl | rfl <;> rcases h2 with rfl | rfl | rfl | rfl <;> rfl
 have := hw (i / 4) (i % 4) yF yF
 rw [show 4 * (i / 4) + i % 4 = i by omega] at this
 rw [this, out_byte _ _ yF]
end TL
end Go
