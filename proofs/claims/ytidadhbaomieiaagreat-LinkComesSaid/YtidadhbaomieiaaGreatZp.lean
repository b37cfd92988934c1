/- Texts of this seat, put together: Ref18S, Once, Grp, MapP, Mark, RingA, RingB, RingC, RingD. Each begins with a remark that says what is proved in it, and under which conditions. -/
import Derived.Test.YtidadhbaomieiaaGreatY
import Derived.Defers
import Derived.Laws.LoneSync
import Derived.RegionCalls
import Derived.ChangeAlike
import Derived.Lib.SlBytesConst
import Derived.Test.YtidadhbaomieiaaGreatZc
import Derived.Test.YtidadhbaomieiaaGreatZd
import Derived.Test.YtidadhbaomieiaaGreatZe
import Derived.Test.YtidadhbaomieiaaGreatZi
import Derived.Test.YtidadhbaomieiaaGreatZj
import Derived.Test.YtidadhbaomieiaaGreatZo
set_option maxRecDepth 100000
set_option maxHeartbeats 16000000
namespace Go.Proofs.YtidadhbaomieiaaGreat
open Go.RowKit Go.TL
theorem rSame18_c (L1 L2 : Lm) (ov pv ov' pv' : Value) (w : World) (hL : L1.fit) (hL' : L2.fit) (S : SeesL w 3 opV ov L1.ops) (T : SeesL w 2 prV pv L1.prs) (S' : SeesL w 3 opV ov' L2.ops) (T' : SeesL w 2 prV pv' L2.prs)
  (h1 : L1.ops.length ≤ 1000000) (h2 : L1.prs.length ≤ 1000000) (h3 : L2.ops.length ≤ 1000000) (h4 : L2.prs.length ≤ 1000000) :
  Calls Tryz.prog 32 #[.agg (msgC (L1.ms ov pv)).toArray, .agg (msgC (L2.ms ov' pv')).toArray] w fun r w' => r = .returned (.bool (decide (L1 = L2))) ∧ Below w.heap.size w w' := by
 have M := Mem.start [] w
 obtain ⟨k, e, a, o, bi, be, ops, p, r, v, i, lf, rt, prs⟩ := L1
 obtain ⟨k', e', a', o', bi', be', ops', p', r', v', i', lf', rt', prs'⟩ := L2
 dsimp only at S T S' T' h1 h2 h3 h4
 obtain ⟨op, oc, rfl, _⟩ := S.form
 obtain ⟨pp, pc, rfl, _⟩ := T.form
 obtain ⟨op', oc', rfl, _⟩ := S'.form
 obtain ⟨pp', pc', rfl, _⟩ := T'.form
 have X1 := qEG (Lm.ms_fit hL (ov := .slice op ops.length oc) (pv := .slice pp prs.length pc) rfl rfl)
 have X2 := qEG (Lm.ms_fit hL' (ov := .slice op' ops'.length oc') (pv := .slice pp' prs'.length pc') rfl rfl)
 simp only [Lm.ms] at X1 X2 ⊢
 obtain ⟨C1, e1⟩ : ∃ C, C = msgC ⟨k, e, a, o, bi, be, .slice op ops.length oc, p, r, v, i, lf, rt, .slice pp prs.length pc⟩ := ⟨_, rfl⟩
 obtain ⟨C2, e2⟩ : ∃ C, C = msgC ⟨k', e', a', o', bi', be', .slice op' ops'.length oc', p', r', v', i', lf', rt', .slice pp' prs'.length pc'⟩ := ⟨_, rfl⟩
 rw [← e1] at X1
 rw [← e2] at X2
 rw [← e1, ← e2]
 clear e1 e2 hL hL'
 obtain ⟨N1k, N1e, N1a, N1o, N1p, N1v, N1i, N1pv, ⟨_, _, b1⟩, ⟨_, _, r1⟩, ⟨_, _, l1⟩, ⟨_, _, t1⟩, c1, _⟩ := X1
 obtain ⟨N2k, N2e, N2a, N2o, N2p, N2v, N2i, N2pv, ⟨_, _, b2⟩, ⟨_, _, r2⟩, ⟨_, _, l2⟩, ⟨_, _, t2⟩, c2, _⟩ := X2
 replace N1k := Lib.hid N1k
 replace N1e := Lib.hid N1e
 replace N1a := Lib.hid N1a
 replace N1o := Lib.hid N1o
 replace N1p := Lib.hid N1p
 replace N1v := Lib.hid N1v
 replace N1i := Lib.hid N1i
 replace N1pv := Lib.hid N1pv
 have B1 := Lib.hid b1
 have H1r := Lib.hid r1
 have H1lf := Lib.hid l1
 have H1rt := Lib.hid t1
 have hr1 := r1.2.2
 have hl1 := l1.2.2
 have ht1 := t1.2.2
 clear b1 r1 l1 t1 c1
 replace N2k := Lib.hid N2k
 replace N2e := Lib.hid N2e
 replace N2a := Lib.hid N2a
 replace N2o := Lib.hid N2o
 replace N2p := Lib.hid N2p
 replace N2v := Lib.hid N2v
 replace N2i := Lib.hid N2i
 replace N2pv := Lib.hid N2pv
 have B2 := Lib.hid b2
 have H2r := Lib.hid r2
 have H2lf := Lib.hid l2
 have H2rt := Lib.hid t2
 have hr2 := r2.2.2
 have hl2 := l2.2.2
 have ht2 := t2.2.2
 clear b2 r2 l2 t2 c2
 have BS := fun w S S' => rSame_c bi be bi' be' ops ops' (.slice op ops.length oc) (.slice op' ops'.length oc') w S S' h1 h3
 have RF : ¬ ((Lm.mk k e a o bi be ops p r v i lf rt prs) = (Lm.mk k' e' a' o' bi' be' ops' p' r' v' i' lf' rt' prs')) → decide ((Lm.mk k e a o bi be ops p r v i lf rt prs) = (Lm.mk k' e' a' o' bi' be' ops' p' r' v' i' lf' rt' prs')) = false := fun h => decide_eq_false h
 have RT : (Lm.mk k e a o bi be ops p r v i lf rt prs) = (Lm.mk k' e' a' o' bi' be' ops' p' r' v' i' lf' rt' prs') → decide ((Lm.mk k e a o bi be ops p r v i lf rt prs) = (Lm.mk k' e' a' o' bi' be' ops' p' r' v' i' lf' rt' prs')) = true := fun h => decide_eq_true h
 obtain ⟨R, eR⟩ : ∃ R, R = decide ((Lm.mk k e a o bi be ops p r v i lf rt prs) = (Lm.mk k' e' a' o' bi' be' ops' p' r' v' i' lf' rt' prs')) := ⟨_, rfl⟩
 rw [← eR] at RF RT ⊢
 replace RF := Lib.hid RF
 replace RT := Lib.hid RT
 clear eR
 have hne := @eqP_ne prs prs'
 have heq := @eqP_eq prs prs'
 replace hne := Lib.hid hne
 replace heq := Lib.hid heq
 by_cases hn : prs.length = prs'.length
 ·have hq : ((prs.length : Int) != (prs'.length : Int)) = false := by simp; omega
  go_enter Tryz.func32, Tryz.ntmps32
  simp only [List.append_eq, List.cons_append, List.nil_append]
  replace hn := Lib.hid hn
  go_wp2_with ((first | ((with_reducible refine tBox (some 2) ?_); refine w_box M _ _ rfl rfl _ rfl (C1) rfl ?_; clear M; intro ga w1 M) | ((with_reducible refine tBox (some 3) ?_); refine w_box M _ _ rfl rfl _ rfl (C2) rfl ?_; clear M; intro gb w1 M) | ((with_reducible refine tLoad ?_); (refine w_at _ _ rfl yI ?_; intro hx; (first | refine qAM M 0 _ _ rfl rfl hx rfl yB yU ?_ | refine qAR M 0 _ _ rfl rfl hx rfl yB _ _ _ H2r.out.1 H2r.out.2.1 yL1 ?_ | refine qAR M 0 _ _ rfl rfl hx rfl yB _ _ _ H2lf.out.1 H2lf.out.2.1 yI1 ?_ | refine qAR M 0 _ _ rfl rfl hx rfl yB _ _ _ H2rt.out.1 H2rt.out.2.1 yH1 ?_ | refine qAR M 0 _ _ rfl rfl hx rfl yB _ _ _ B2.out.1 B2.out.2 yD ?_ | refine qAM M 1 _ _ rfl rfl hx rfl yB yV ?_ | refine qAR M 1 _ _ rfl rfl hx rfl yB _ _ _ H1r.out.1 H1r.out.2.1 yM1 ?_ | refine qAR M 1 _ _ rfl rfl hx rfl yB _ _ _ H1lf.out.1 H1lf.out.2.1 yK1 ?_ | refine qAR M 1 _ _ rfl rfl hx rfl yB _ _ _ H1rt.out.1 H1rt.out.2.1 yJ1 ?_ | refine qAR M 1 _ _ rfl rfl hx rfl yB _ _ _ B1.out.1 B1.out.2 yD ?_); clear hx)) | ((with_reducible refine tM rfl ?_); refine mS ?_; try (clear M; (first | intro g w1 M | intro w1 M); try simp only [setC] at M))) <;> (try conv => arg 5; simp only [apS, setC]))
  go_loopw [5] (fun iv wr => ∃ j : Nat, j ≤ prs.length ∧ iv = .int .i64 j ∧ Hid (∀ (n : Nat), n < j → prs[n]? = prs'[n]?) ∧ Mem [] w wr [.row gb C2, .row ga C1]) (fun iv _ => prs.length - (intOf iv).toNat)
  case atStart => exact ⟨0, by omega, rfl, Lib.hid yF, M⟩
  case round =>
   clear M
   obtain ⟨j, hj, rfl, HJ, M⟩ := hrel
   by_cases hlt : j < prs.length
   ·obtain ⟨gp, so, rfl⟩ := T.addr yF
    obtain ⟨gp', so', rfl⟩ := T'.addr (by have := hn.out; omega)
    have hkm : j < prs'.length := by have := hn.out; omega
    obtain ⟨⟨a1, b1⟩, hx⟩ : ∃ x, prs[j]? = some x := ⟨_, List.getElem?_eq_getElem hlt⟩
    obtain ⟨⟨c1, d1⟩, hy⟩ : ∃ x, prs'[j]? = some x := ⟨_, List.getElem?_eq_getElem hkm⟩
    have HX := Lib.hid hx; clear hx
    have HY := Lib.hid hy; clear hy
    by_cases hab : (a1, b1) = (c1, d1)
    ·simp only [Prod.mk.injEq] at hab
     obtain ⟨rfl, rfl⟩ := hab
     go_wp2_with ((first | ((with_reducible show wpList _ _ _ (Oper.mk _ (Op.load 120 _) _ _ _ _ :: _) _ _); (refine w_at _ _ rfl yI ?_; intro hx; (first | refine qBD M T HX.out _ _ rfl hx rfl yB yG yD ?_ | refine qBD M T' HY.out _ _ rfl hx rfl yB yG yD ?_); clear hx; (try conv => arg 5; simp only [Act.put, List.setIfInBounds_toArray, setC, qEB]))) | ((with_reducible show Code.wp _ (Code.region 6 _ _) _ _ _); (have MR := M; refine qAB [(0, false), (2, false), (5, false), (7, false), (1, false), (3, false), (4, false), (6, false), (8, false), (9, false), (10, false)] [(24, .cells), (29, .cells)] [(1, _), (6, _), (4, _), (9, _)] (IxOk MR [1, 0]) 11 yD yD rfl yD (qAa (qCv MR 1 106 rfl rfl yN yB N1pv.out) (qAa (qCv MR 0 106 rfl rfl yN yB N2pv.out) (qAa (qDs MR T HX.out rfl yB yD) (qAa (qDs MR T' HY.out rfl yB yD) qAN)))) (qAJ MR _) ?_; replace M := M.drew; simp only [planC, opAt, gE])) | ((with_reducible refine tLoad ?_); (refine w_at _ _ rfl yI ?_; intro hx; (first | refine qAM M 0 _ _ rfl rfl hx rfl yB yU ?_ | refine qAR M 0 _ _ rfl rfl hx rfl yB _ _ _ H2r.out.1 H2r.out.2.1 yL1 ?_ | refine qAR M 0 _ _ rfl rfl hx rfl yB _ _ _ H2lf.out.1 H2lf.out.2.1 yI1 ?_ | refine qAR M 0 _ _ rfl rfl hx rfl yB _ _ _ H2rt.out.1 H2rt.out.2.1 yH1 ?_ | refine qAR M 0 _ _ rfl rfl hx rfl yB _ _ _ B2.out.1 B2.out.2 yD ?_ | refine qAM M 1 _ _ rfl rfl hx rfl yB yV ?_ | refine qAR M 1 _ _ rfl rfl hx rfl yB _ _ _ H1r.out.1 H1r.out.2.1 yM1 ?_ | refine qAR M 1 _ _ rfl rfl hx rfl yB _ _ _ H1lf.out.1 H1lf.out.2.1 yK1 ?_ | refine qAR M 1 _ _ rfl rfl hx rfl yB _ _ _ H1rt.out.1 H1rt.out.2.1 yJ1 ?_ | refine qAR M 1 _ _ rfl rfl hx rfl yB _ _ _ B1.out.1 B1.out.2 yD ?_); clear hx)) | ((with_reducible refine tM rfl ?_); refine mS ?_; try (clear M; (first | intro g w1 M | intro w1 M); try simp only [setC] at M)) | ((with_reducible first | show Seg _ _ _ _ | show OnlyN _ _ _ _ _); refine rK ?_)) <;> (try conv => arg 5; simp only [apS, setC]))
     go_roundw
     case rel => exact ⟨j + 1, by omega, by go_num, Lib.hid fun n hn => by
      rcases Nat.lt_succ_iff_lt_or_eq.1 hn with hn | rfl
      ·exact HJ.out n hn
      ·exact HX.out.trans HY.out.symm, M⟩
     case measure => simp [intOf]; omega
    ·have hz := hne.out j _ _ HX.out HY.out hab
     have e0 := RF.out (fun h => by injection h; subst_vars; rw [beq_self_eq_true] at hz; cases hz)
     subst e0
     clear hz
     have hab := Lib.hid (prV_ne hab)
     go_wp2_with ((first | ((with_reducible show wpList _ _ _ (Oper.mk _ (Op.load 120 _) _ _ _ _ :: _) _ _); (refine w_at _ _ rfl yI ?_; intro hx; (first | refine qBD M T HX.out _ _ rfl hx rfl yB yG yD ?_ | refine qBD M T' HY.out _ _ rfl hx rfl yB yG yD ?_); clear hx; (try conv => arg 5; simp only [Act.put, List.setIfInBounds_toArray, setC, qEB]))) | ((with_reducible show Code.wp _ (Code.region 6 _ _) _ _ _); (have MR := M; refine qAB [(0, false), (2, false), (5, false), (7, false), (1, false), (3, false), (4, false), (6, false), (8, false), (9, false), (10, false)] [(24, .cells), (29, .cells)] [(1, _), (6, _), (4, _), (9, _)] (IxOk MR [1, 0]) 11 yD yD rfl yD (qAa (qCv MR 1 106 rfl rfl yN yB N1pv.out) (qAa (qCv MR 0 106 rfl rfl yN yB N2pv.out) (qAa (qDs MR T HX.out rfl yB yD) (qAa (qDs MR T' HY.out rfl yB yD) qAN)))) (qAJ MR _) ?_; replace M := M.drew; simp only [planC, opAt, gE])) | ((with_reducible refine tLoad ?_); (refine w_at _ _ rfl yI ?_; intro hx; (first | refine qAM M 0 _ _ rfl rfl hx rfl yB yU ?_ | refine qAR M 0 _ _ rfl rfl hx rfl yB _ _ _ H2r.out.1 H2r.out.2.1 yL1 ?_ | refine qAR M 0 _ _ rfl rfl hx rfl yB _ _ _ H2lf.out.1 H2lf.out.2.1 yI1 ?_ | refine qAR M 0 _ _ rfl rfl hx rfl yB _ _ _ H2rt.out.1 H2rt.out.2.1 yH1 ?_ | refine qAR M 0 _ _ rfl rfl hx rfl yB _ _ _ B2.out.1 B2.out.2 yD ?_ | refine qAM M 1 _ _ rfl rfl hx rfl yB yV ?_ | refine qAR M 1 _ _ rfl rfl hx rfl yB _ _ _ H1r.out.1 H1r.out.2.1 yM1 ?_ | refine qAR M 1 _ _ rfl rfl hx rfl yB _ _ _ H1lf.out.1 H1lf.out.2.1 yK1 ?_ | refine qAR M 1 _ _ rfl rfl hx rfl yB _ _ _ H1rt.out.1 H1rt.out.2.1 yJ1 ?_ | refine qAR M 1 _ _ rfl rfl hx rfl yB _ _ _ B1.out.1 B1.out.2 yD ?_); clear hx)) | ((with_reducible refine tM rfl ?_); refine mS ?_; try (clear M; (first | intro g w1 M | intro w1 M); try simp only [setC] at M)) | ((with_reducible first | show Seg _ _ _ _ | show OnlyN _ _ _ _ _); refine rK ?_)) <;> (try conv => arg 5; simp only [apS, setC]))
     all_goals (first | exact absurd ⟨‹a1 = c1›, ‹b1 = d1›⟩ hab.out | (go_ret; exact ⟨rfl, M.below⟩))
   ·obtain rfl : j = prs.length := by omega
    have hz : (prs == prs') = true := heq.out hn.out HJ.out
    have hp : prs = prs' := beq_iff_eq.1 hz
    clear hz HJ
    have hkm : ¬ prs.length < prs.length := by omega
    rcases ref_first k k' e a o bi be e' a' o' bi' be' p v i p' v' i' ops ops' r lf rt r' lf' rt' prs prs' with hc | ⟨rfl, hc⟩ | ⟨rfl, rfl, hc⟩ | ⟨rfl, rfl, rfl, hc⟩ | ⟨rfl, rfl, rfl, rfl, hc⟩ | ⟨rfl, rfl, rfl, rfl, ⟨rfl, rfl, rfl⟩, hc⟩ | ⟨rfl, rfl, rfl, rfl, ⟨rfl, rfl, rfl⟩, rfl, hc⟩ | ⟨rfl, rfl, rfl, rfl, ⟨rfl, rfl, rfl⟩, rfl, rfl, hc⟩ | ⟨rfl, rfl, rfl, rfl, ⟨rfl, rfl, rfl⟩, rfl, rfl, rfl, hc⟩ | ⟨rfl, rfl, rfl, rfl, ⟨rfl, rfl, rfl⟩, rfl, rfl, rfl, rfl, hc⟩ | ⟨rfl, rfl, rfl, rfl, ⟨rfl, rfl, rfl⟩, rfl, rfl, rfl, rfl, rfl, hc⟩ | ⟨rfl, rfl, rfl, rfl, ⟨rfl, rfl, rfl⟩, rfl, rfl, rfl, rfl, rfl, rfl⟩
    all_goals
     first
      | (have e0 : R = false := RF.out (fun h => by injection h; first | exact hc yN1 | exact hc (congrArg I8 yN1) | (subst_vars; rw [qCP.2 ⟨rfl, rfl, rfl⟩] at hc; cases hc)))
      | (have e0 : R = true := RT.out (by rw [hp]))
     subst e0
     (try rw [qCP.2 ⟨rfl, rfl, rfl⟩] at BS)
     (try rw [hc] at BS)
     (try have hc' := beq_eq_false_iff_ne.2 hc)
     (try clear hc)
     replace BS := Lib.hid BS
     clear hp
     go_wp2_with ((first | ((with_reducible refine tGuard ?_); first | ((with_reducible refine qAC ?_ ?_); exact dcd) | ((with_reducible refine qAH ?_ ?_); exact dcd) | ((with_reducible refine qAI ?_ ?_); exact dcd)) | ((with_reducible refine tLoad ?_); (refine w_at _ _ rfl yI ?_; intro hx; (first | refine qAM M 0 _ _ rfl rfl hx rfl yB yU ?_ | refine qAR M 0 _ _ rfl rfl hx rfl yB _ _ _ H2r.out.1 H2r.out.2.1 yL1 ?_ | refine qAR M 0 _ _ rfl rfl hx rfl yB _ _ _ H2lf.out.1 H2lf.out.2.1 yI1 ?_ | refine qAR M 0 _ _ rfl rfl hx rfl yB _ _ _ H2rt.out.1 H2rt.out.2.1 yH1 ?_ | refine qAR M 0 _ _ rfl rfl hx rfl yB _ _ _ B2.out.1 B2.out.2 yD ?_ | refine qAM M 1 _ _ rfl rfl hx rfl yB yV ?_ | refine qAR M 1 _ _ rfl rfl hx rfl yB _ _ _ H1r.out.1 H1r.out.2.1 yM1 ?_ | refine qAR M 1 _ _ rfl rfl hx rfl yB _ _ _ H1lf.out.1 H1lf.out.2.1 yK1 ?_ | refine qAR M 1 _ _ rfl rfl hx rfl yB _ _ _ H1rt.out.1 H1rt.out.2.1 yJ1 ?_ | refine qAR M 1 _ _ rfl rfl hx rfl yB _ _ _ B1.out.1 B1.out.2 yD ?_); clear hx)) | (go_at_call 66; (refine (BS.out _ (S.now M) (S'.now M)).mono ?_; rintro e w1 ⟨rfl, hb⟩; replace M := M.call hb; clear hb)) | ((with_reducible refine tM rfl ?_); refine mS ?_; try (clear M; (first | intro g w1 M | intro w1 M); try simp only [setC] at M))) <;> (try conv => arg 5; simp only [apS, setC]))
     go_ret
     exact ⟨by first | rfl | simp, M.below⟩
 ·have e0 := RF.out (fun h => by injection h; subst_vars; exact hn rfl)
  subst e0
  have hq : ((prs.length : Int) != (prs'.length : Int)) = true := by simp; omega
  go_enter Tryz.func32, Tryz.ntmps32
  go_wp2_with ((first | ((with_reducible refine tBox (some 2) ?_); refine w_box M _ _ rfl rfl _ rfl (C1) rfl ?_; clear M; intro ga w1 M) | ((with_reducible refine tBox (some 3) ?_); refine w_box M _ _ rfl rfl _ rfl (C2) rfl ?_; clear M; intro gb w1 M) | ((with_reducible refine tLoad ?_); (refine w_at _ _ rfl yI ?_; intro hx; (first | refine qAM M 0 _ _ rfl rfl hx rfl yB yU ?_ | refine qAR M 0 _ _ rfl rfl hx rfl yB _ _ _ H2r.out.1 H2r.out.2.1 yL1 ?_ | refine qAR M 0 _ _ rfl rfl hx rfl yB _ _ _ H2lf.out.1 H2lf.out.2.1 yI1 ?_ | refine qAR M 0 _ _ rfl rfl hx rfl yB _ _ _ H2rt.out.1 H2rt.out.2.1 yH1 ?_ | refine qAR M 0 _ _ rfl rfl hx rfl yB _ _ _ B2.out.1 B2.out.2 yD ?_ | refine qAM M 1 _ _ rfl rfl hx rfl yB yV ?_ | refine qAR M 1 _ _ rfl rfl hx rfl yB _ _ _ H1r.out.1 H1r.out.2.1 yM1 ?_ | refine qAR M 1 _ _ rfl rfl hx rfl yB _ _ _ H1lf.out.1 H1lf.out.2.1 yK1 ?_ | refine qAR M 1 _ _ rfl rfl hx rfl yB _ _ _ H1rt.out.1 H1rt.out.2.1 yJ1 ?_ | refine qAR M 1 _ _ rfl rfl hx rfl yB _ _ _ B1.out.1 B1.out.2 yD ?_); clear hx)) | ((with_reducible refine tM rfl ?_); refine mS ?_; try (clear M; (first | intro g w1 M | intro w1 M); try simp only [setC] at M))) <;> (try conv => arg 5; simp only [apS, setC]))
  go_ret
  exact ⟨rfl, M.below⟩
end Go.Proofs.YtidadhbaomieiaaGreat

namespace Go
namespace TL
abbrev onceR (d l : Int) (cs : List Value) : List Value := .int .u32 d :: .int .i32 l :: .int .u32 0 :: cs
end TL
end Go
namespace Go.Proofs.YtidadhbaomieiaaGreat
open Go.RowKit Go.TL
theorem raceDisable (w : World) : (callFunc 193 #[]).run Tryz.prog w = .ok (.value (.tuple #[])) w := run_call_mark0 Tryz.func193 yD yD yD .disable yD w
theorem raceEnable (w : World) : (callFunc 195 #[]).run Tryz.prog w = .ok (.value (.tuple #[])) w := run_call_mark0 Tryz.func195 yD yD yD .enable yD w
theorem raceAcquire (a : Addr) (w : World) : (callFunc 196 #[.pointer (some a)]).run Tryz.prog w = .ok (.value (.tuple #[])) w := run_call_marked Tryz.func196 yD yD yD .acquire yD a w
theorem raceMerge (a : Addr) (w : World) : (callFunc 198 #[.pointer (some a)]).run Tryz.prog w = .ok (.value (.tuple #[])) w := run_call_marked Tryz.func198 yD yD yD .releaseMerge yD a w
theorem qGC (a : Addr) (x : Value) (u : FrameMode) (w : World) (hc : w.cell? a = some x) (hz : w.frozen? a = false) :
  CallsD Tryz.prog 154 #[.pointer (some a), .bool true] u w fun e u' w' => u' = u ∧ (e = .returned (.tuple #[]) ∧ w' = w.drew.setCell a (.int .u32 1)) := by
 have hc' : w.drew.cell? a = some x := by go_simp
 have hz' : w.drew.frozen? a = false := by go_simp
 have hst := run_call_store (P := Tryz.prog) Tryz.func182 yD yD yD yD (k := .u32) (y := 1) hc' hz'
 go_enter_d Tryz.func154, Tryz.ntmps154
 go_wp2
 go_region_calls
 all_goals (go_end0; exact ⟨rfl, rfl⟩)
theorem unlock_deferred (a : Addr) (u : FrameMode) (w : World) (hc : w.cell? a = some (.int .i32 1)) (hz : w.frozen? a = false) :
  CallsD Tryz.prog 153 #[.pointer (some a)] u w fun e u' w' => u' = u ∧ (e = .returned (.tuple #[]) ∧ w' = w.setCell a (.int .i32 0)) := by
 have hd := raceDisable
 have he := raceEnable
 have hr := raceMerge
 have hadd := run_call_add (P := Tryz.prog) Tryz.func199 yD yD yD .i32 yD (y := -1) (s := 0) hc hz (by simp [go_sem]; rfl)
 have hcv := run_convert_to_unsafe (P := Tryz.prog) (src := 274) (dst := 278) Tryz.underlying274 Tryz.underlying278 yD hc
 go_enter_d Tryz.func153, Tryz.ntmps153
 go_wp2
 go_end0
 go_wp2
 go_end0
 exact ⟨rfl, rfl⟩
theorem lock_free (a : Addr) (w : World) (hc : w.cell? a = some (.int .i32 0)) (hz : w.frozen? a = false) :
  Calls Tryz.prog 152 #[.pointer (some a)] w fun e w' => e = .returned (.tuple #[]) ∧ w' = w.setCell a (.int .i32 1) := by
 have hd := raceDisable
 have he := raceEnable
 have ha := raceAcquire
 have hcas := run_call_cas_hit (P := Tryz.prog) Tryz.func194 yD yD yD .i32 yD (y := 1) hc hz
 have hc' : (w.setCell a (.int .i32 1)).cell? a = some (.int .i32 1) := World.cell?_setCell_same w a _ hc
 have hcv := run_convert_to_unsafe (P := Tryz.prog) (src := 274) (dst := 278) Tryz.underlying274 Tryz.underlying278 yD hc'
 go_enter Tryz.func152, Tryz.ntmps152
 go_wp2
 first | go_end0 | (simp only [Exit.inBlock, Exit.then]; refine bodyPost_ret (results_none rfl _ _ _) rfl ?_) | refine bodyPost_ret (results_none rfl _ _ _) rfl ?_
 go_wp2
 go_end0
 exact ⟨rfl, rfl⟩
theorem boolLoad_c (a : Addr) (d : Int) (w : World) (h : w.cell? a = some (.int .u32 d)) :
  Calls Tryz.prog 111 #[.pointer (some a)] w fun e w' => e = .returned (.bool (d != 0)) ∧ w' = w := by
 have hl := run_call_load (P := Tryz.prog) Tryz.func151 yD yD yD .u32 yD h
 go_enter Tryz.func111, Tryz.ntmps111
 go_wp2
 go_ret
 exact ⟨rfl, rfl⟩
theorem u64Load_c (a : Addr) (d : Int) (w : World) (h : w.cell? a = some (.int .u64 d)) :
  Calls Tryz.prog 38 #[.pointer (some a)] w fun e w' => e = .returned (.int .u64 d) ∧ w' = w := by
 have hl := run_call_load (P := Tryz.prog) Tryz.func73 yD yD yD .u64 yD h
 go_enter Tryz.func38, Tryz.ntmps38
 go_wp2
 go_ret
 exact ⟨rfl, rfl⟩
theorem u64Add_c (a : Addr) (n : UInt64) (w : World) (h : w.cell? a = some (.int .u64 (I64 n))) (hz : w.frozen? a = false) :
  Calls Tryz.prog 42 #[.pointer (some a), .int .u64 1] w fun e w' => e = .returned (.int .u64 (I64 (n + 1))) ∧ w' = w.setCell a (.int .u64 (I64 (n + 1))) := by
 have hl := run_call_add (P := Tryz.prog) Tryz.func82 yD yD yD .u64 yD (y := 1) (s := I64 (n + 1)) h hz (by simp [go_sem])
 go_enter Tryz.func42, Tryz.ntmps42
 go_wp2
 go_ret
 exact ⟨rfl, rfl⟩
section
variable {F : List Nat} {g : Nat} {cs cs' : List Value} {R : List Chunk} {w0 w : World} {p1 p2 p3 : Value} {d l : Int}
theorem Mem.frozenAt {L : List Chunk} (M : Mem F w0 w L) (i : Nat) {cs : List Value} (hi : L[i]? = some (.row g cs)) {off : Nat} (h : off < cs.length) : w.frozen? ⟨g, off, none⟩ = false := by
 have := (M.ok i _ hi).2.2 off h
 rw [Nat.zero_add] at this
 exact this.2
theorem Mem.setOff {L : List Chunk} (M : Mem F w0 w L) (i : Nat) {cs : List Value} (hi : L[i]? = some (.row g cs)) {off : Nat} (h : off < cs.length) (v : Value) : Mem F w0 (w.setCell ⟨g, off, none⟩ v) (L.set i (.row g (cs.set off v))) := M.upd i hi (qDb (M.ok i _ hi) h v)
theorem lock_m (M : Mem F w0 w (.row g (onceR d 0 cs) :: R)) : Calls Tryz.prog 152 #[.pointer (some ⟨g, 1, none⟩)] w fun e w' => e = .returned (.tuple #[]) ∧ Mem F w0 w' (.row g (onceR d 1 cs) :: R) :=
 (lock_free ⟨g, 1, none⟩ w (M.cellAt 0 rfl rfl) (Mem.frozenAt M 0 rfl yB1)).mono fun _ _ h => ⟨h.1, by rw [h.2]; exact Mem.setOff M 0 rfl yB1 _⟩
theorem store_m (u : FrameMode) (M : Mem F w0 w (.row g (onceR 0 l cs) :: R)) : CallsD Tryz.prog 154 #[.pointer (some ⟨g, 0, none⟩), .bool true] u w fun e u' w' => u' = u ∧ (e = .returned (.tuple #[]) ∧ Mem F w0 w' (.row g (onceR 1 l cs) :: R)) :=
 (qGC ⟨g, 0, none⟩ _ u w (M.cellAt 0 rfl rfl) (Mem.frozenAt M 0 rfl yB1)).mono fun _ _ _ h => ⟨h.1, h.2.1, by rw [h.2.2]; exact Mem.setOff M.drew 0 rfl yB1 _⟩
theorem unlock_m (u : FrameMode) (M : Mem F w0 w (.row g (onceR d 1 cs) :: R)) : CallsD Tryz.prog 153 #[.pointer (some ⟨g, 1, none⟩)] u w fun e u' w' => u' = u ∧ (e = .returned (.tuple #[]) ∧ Mem F w0 w' (.row g (onceR d 0 cs) :: R)) :=
 (unlock_deferred ⟨g, 1, none⟩ u w (M.cellAt 0 rfl rfl) (Mem.frozenAt M 0 rfl yB1)).mono fun _ _ _ h => ⟨h.1, h.2.1, by rw [h.2.2]; exact Mem.setOff M 0 rfl yB1 _⟩
theorem slow_c (M : Mem F w0 w (.row g (onceR 0 0 cs) :: R))
  (hf : ∀ w1, Mem F w0 w1 (.row g (onceR 0 1 cs) :: R) → Calls Tryz.prog 78 #[p1, p2, p3] w1 fun e w2 => e = .returned (.tuple #[]) ∧ Mem F w0 w2 (.row g (onceR 0 1 cs') :: R)) :
  Calls Tryz.prog 112 #[.pointer (some ⟨g, 0, none⟩), .func (.func 78) #[] #[p1, p2, p3]] w fun e w' => e = .returned (.tuple #[]) ∧ Mem F w0 w' (.row g (onceR 1 0 cs') :: R) := by
 have hnot : ∀ (x : Bool) (w : World), (Op.unary .not (.bool x)).run Tryz.prog w = .ok (.bool (!x)) w := fun _ _ => rfl
 go_enter_defers Tryz.func112, Tryz.ntmps112
 go_wp2_with (first | (go_at_call 152; refine (lock_m M).mono ?_; rintro e w1 ⟨rfl, M1⟩) | (go_at_call 111; refine (boolLoad_c _ _ _ (M1.cellAt 0 rfl rfl)).mono ?_; rintro e w2 ⟨rfl, rfl⟩) | (go_at_call 78; refine (hf _ M1).mono ?_; rintro e w2 ⟨rfl, M2⟩))
 refine leaves_cons (f := 154) (args := #[.pointer (some ⟨g, 0, none⟩), .bool true]) yB1 (by simp [go_sem]) ?_
 refine (store_m _ M2).mono ?_
 rintro e u' w3 ⟨rfl, rfl, M3⟩
 refine leaves_cons (f := 153) (args := #[.pointer (some ⟨g, 1, none⟩)]) (by simp [settle]) (by simp [go_sem]) ?_
 refine (unlock_m _ M3).mono ?_
 rintro e u' w4 ⟨rfl, rfl, M4⟩
 simp [Leaves, settle, results, Tryz.results112]
 exact M4
theorem do_first (M : Mem F w0 w (.row g (onceR 0 0 cs) :: R))
  (hf : ∀ w1, Mem F w0 w1 (.row g (onceR 0 1 cs) :: R) → Calls Tryz.prog 78 #[p1, p2, p3] w1 fun e w2 => e = .returned (.tuple #[]) ∧ Mem F w0 w2 (.row g (onceR 0 1 cs') :: R)) :
  Calls Tryz.prog 77 #[.pointer (some ⟨g, 0, none⟩), .func (.func 78) #[] #[p1, p2, p3]] w fun e w' => e = .returned (.tuple #[]) ∧ Mem F w0 w' (.row g (onceR 1 0 cs') :: R) := by
 have hnot : ∀ (x : Bool) (w : World), (Op.unary .not (.bool x)).run Tryz.prog w = .ok (.bool (!x)) w := fun _ _ => rfl
 have h0 : w.cell? ⟨g, 0, none⟩ = some (.int .u32 0) := M.cellAt 0 rfl rfl
 have hl := run_call_load (P := Tryz.prog) Tryz.func151 yD yD yD .u32 yD h0
 go_enter Tryz.func77, Tryz.ntmps77
 go_wp2_with (first | (go_at_call 112; refine (slow_c M hf).mono ?_; rintro e w' ⟨rfl, M2⟩) | (go_at_call 111; go_in))
 go_end0
 exact ⟨rfl, M2⟩
theorem do_done (hd : ¬ d = 0) (fv : Value) (h0 : w.cell? ⟨g, 0, none⟩ = some (.int .u32 d)) :
  Calls Tryz.prog 77 #[.pointer (some ⟨g, 0, none⟩), fv] w fun e w' => e = .returned (.tuple #[]) ∧ w' = w := by
 have hl := run_call_load (P := Tryz.prog) Tryz.func151 yD yD yD .u32 yD h0
 have hnot : ∀ (x : Bool) (w : World), (Op.unary .not (.bool x)).run Tryz.prog w = .ok (.bool (!x)) w := fun _ _ => rfl
 have hd' : (d != 0) = true := by simp [hd]
 go_enter Tryz.func77, Tryz.ntmps77
 go_wp2
 go_end0
 exact ⟨rfl, rfl⟩
end
end Go.Proofs.YtidadhbaomieiaaGreat

namespace Go
namespace TL
open Go.RowKit
def grpOk (L : List Chunk) (w : World) : Prop :=
 (∀ (i : Nat) (c : Chunk), L[i]? = some c → c.ok w) ∧ ∀ (i j : Nat) (c d : Chunk), i ≠ j → L[i]? = some c → L[j]? = some d → ∀ k ∈ c.fp, k ∉ d.fp
def grp (L : List Chunk) : Chunk := .obj (L.flatMap Chunk.fp) (grpOk L)
theorem mem_grp {L : List Chunk} {i : Nat} {c : Chunk} (h : L[i]? = some c) {k : Nat} (hk : k ∈ c.fp) : k ∈ (grp L).fp :=
 List.mem_flatMap.2 ⟨c, List.mem_of_getElem? h, hk⟩
theorem grp_mem {L : List Chunk} {k : Nat} (h : k ∈ (grp L).fp) : ∃ (i : Nat) (c : Chunk), L[i]? = some c ∧ k ∈ c.fp := by
 obtain ⟨c, hc, hk⟩ := List.mem_flatMap.1 h
 obtain ⟨i, hi⟩ := List.getElem?_of_mem hc
 exact ⟨i, c, hi, hk⟩
theorem grp_ok {L : List Chunk} {w : World} (h : grpOk L w) : (grp L).ok w := by
 refine ⟨fun k hk => ?_, h, fun w' hs hb => ⟨fun i c hc => ?_, h.2⟩⟩
 ·obtain ⟨i, c, hc, hk'⟩ := grp_mem hk
  exact (h.1 i c hc).lt k hk'
 ·exact (h.1 i c hc).stay hs fun k hk => hb k (mem_grp hc hk)
theorem Mem.opened {F : List Nat} {w0 w : World} {A L R : List Chunk} (M : Mem F w0 w (grp L :: R)) (hA : L ++ R = A) : Mem F w0 w A := by
 subst hA
 have hg : grpOk L w := (M.ok 0 _ rfl).2.1
 have pick : ∀ (i : Nat) (c : Chunk), (L ++ R)[i]? = some c → (∃ (h : i < L.length), L[i]? = some c) ∨ (∃ (h : L.length ≤ i), R[i - L.length]? = some c) := by
  intro i c hi
  by_cases h : i < L.length
  ·rw [List.getElem?_append_left h] at hi; exact .inl ⟨h, hi⟩
  ·rw [List.getElem?_append_right yF] at hi; exact .inr ⟨by omega, hi⟩
 refine ⟨M.kept, ?_, ?_, ?_⟩
 ·intro i c hi
  rcases pick i c hi with ⟨_, h⟩ | ⟨_, h⟩
  ·exact hg.1 i c h
  ·exact M.ok (i - L.length + 1) c yE1
 ·intro i c hi k hk
  rcases pick i c hi with ⟨_, h⟩ | ⟨_, h⟩
  ·exact M.own 0 _ rfl k (mem_grp h hk)
  ·exact M.own (i - L.length + 1) c yE1 k hk
 ·intro i j c d hij hi hj k hk hk2
  rcases pick i c hi with ⟨_, h⟩ | ⟨h1, h⟩ <;> rcases pick j d hj with ⟨_, h'⟩ | ⟨h2, h'⟩
  ·exact hg.2 i j c d hij h h' k hk hk2
  ·exact M.nd 0 (j - L.length + 1) _ d yF rfl (by simpa using h') k (mem_grp h hk) hk2
  ·exact M.nd 0 (i - L.length + 1) _ c yF rfl yE1 k (mem_grp h' hk2) hk
  ·exact M.nd (i - L.length + 1) (j - L.length + 1) c d yF yE1 (by simpa using h') k hk hk2
theorem Mem.shut {F : List Nat} {w0 w : World} {A : List Chunk} (M : Mem F w0 w A) (L R : List Chunk) (hA : A = L ++ R) : Mem F w0 w (grp L :: R) := by
 subst hA
 have left : ∀ (i : Nat) (c : Chunk), L[i]? = some c → (L ++ R)[i]? = some c := fun i c h => by
  rw [List.getElem?_append_left (List.getElem?_eq_some_iff.1 h).1]; exact h
 have right : ∀ (i : Nat) (c : Chunk), R[i]? = some c → (L ++ R)[L.length + i]? = some c := fun i c h => by
  rw [List.getElem?_append_right yF, show L.length + i - L.length = i by omega]; exact h
 have hg : grpOk L w := ⟨fun i c h => M.ok i c (left i c h), fun i j c d hij hi hj => M.nd i j c d hij (left i c hi) (left j d hj)⟩
 refine ⟨M.kept, ?_, ?_, ?_⟩
 ·intro i c hi
  cases i with
  | zero => simp at hi; subst hi; exact grp_ok hg
  | succ i => exact M.ok (L.length + i) c (right i c (by simpa using hi))
 ·intro i c hi k hk
  cases i with
  | zero =>
   simp at hi; subst hi
   obtain ⟨j, d, hd, hk'⟩ := grp_mem hk
   exact M.own j d (left j d hd) k hk'
  | succ i => exact M.own (L.length + i) c (right i c (by simpa using hi)) k hk
 ·intro i j c d hij hi hj k hk hk2
  cases i with
  | zero =>
   simp at hi; subst hi
   obtain ⟨i', c', hc', hk'⟩ := grp_mem hk
   have hl := (List.getElem?_eq_some_iff.1 hc').1
   cases j with
   | zero => exact hij rfl
   | succ j => exact M.nd i' (L.length + j) c' d yF (left i' c' hc') (right j d (by simpa using hj)) k hk' hk2
  | succ i =>
   cases j with
   | zero =>
    simp at hj; subst hj
    obtain ⟨j', d', hd', hk'⟩ := grp_mem hk2
    have hl := (List.getElem?_eq_some_iff.1 hd').1
    exact M.nd (L.length + i) j' c d' yF (right i c (by simpa using hi)) (left j' d' hd') k hk hk'
   | succ j => exact M.nd (L.length + i) (L.length + j) c d yF (right i c (by simpa using hi)) (right j d (by simpa using hj)) k hk hk2
theorem Mem.startG {w : World} {L : List Chunk} (h : (grp L).ok w) : Mem (grp L).fp w w L := (Mem.start1 h).opened (List.append_nil L)
theorem Mem.updG {w0 w : World} {L L' A : List Chunk} (M : Mem (grp L).fp w0 w A) (R : List Chunk) (hA : A = L' ++ R) : Upd w0 (grp L) w (grp L') := (M.shut L' R hA).upd1 0 rfl
end TL
end Go

namespace Go
namespace TL
open Go.RowKit
def mapE : List (Int × Nat) → Nat → List MapEntry
 | [], _ => []
 | x :: l, n => ⟨.int .i64 x.1, .pointer (some ⟨x.2, 0, none⟩), n⟩ :: mapE l (n + 1)
theorem mapE_snoc (x : Int × Nat) : ∀ (l : List (Int × Nat)) (n : Nat), mapE (l ++ [x]) n = mapE l n ++ [⟨.int .i64 x.1, .pointer (some ⟨x.2, 0, none⟩), n + l.length⟩]
 | [], _ => rfl
 | y :: l, n => by
  rw [List.cons_append, mapE, mapE_snoc x l (n + 1)]
  simp only [mapE, List.cons_append, List.length_cons]
  rw [show n + 1 + l.length = n + (l.length + 1) by omega]
def mapO (l : List (Int × Nat)) : Obj := .map (mapE l 0).toArray l.length
def lookP : List (Int × Nat) → Int → Option Nat
 | [], _ => none
 | x :: l, i => if x.1 = i then some x.2 else lookP l i
theorem lookP_mem : ∀ {l : List (Int × Nat)} {i : Int} {g : Nat}, lookP l i = some g → ∃ j : Nat, l[j]? = some (i, g)
 | x :: l, i, g, h => by
  unfold lookP at h
  by_cases e : x.1 = i
  ·rw [if_pos e] at h; injection h with h; exact ⟨0, by simp [← e, ← h]⟩
  ·rw [if_neg e] at h
   obtain ⟨j, hj⟩ := lookP_mem h
   exact ⟨j + 1, by simpa using hj⟩
theorem findP (i : Int) : ∀ (l : List (Int × Nat)) (n k : Nat), (lookP l i = none ∧ Instr.findNow (.int .i64) (.int .i64 i) (mapE l n) k = some none) ∨ ∃ g j, lookP l i = some g ∧ Instr.findNow (.int .i64) (.int .i64 i) (mapE l n) k = some (some (j, .pointer (some ⟨g, 0, none⟩)))
 | [], _, _ => .inl ⟨rfl, rfl⟩
 | x :: l, n, k => by
  have hs : Instr.sameNow (.int .i64) (.int .i64 i) (.int .i64 x.1) = some (i == x.1) := by simp [Instr.sameNow]
  unfold lookP mapE
  by_cases e : x.1 = i
  ·refine .inr ⟨x.2, k, by rw [if_pos e], ?_⟩
   rw [Instr.findNow, hs, e]; simp
  ·rw [if_neg e]
   have hf : (i == x.1) = false := by simpa using fun h => e h.symm
   rcases findP i l (n + 1) (k + 1) with ⟨h1, h2⟩ | ⟨g, j, h1, h2⟩
   ·exact .inl ⟨h1, by rw [Instr.findNow, hs, hf]; exact h2⟩
   ·exact .inr ⟨g, j, h1, by rw [Instr.findNow, hs, hf]; exact h2⟩
section
variable {P : Program} {w : World} {t k e : TypeId} {gm : Nat} {l : List (Int × Nat)} {i : Int}
theorem checkP (hk : P.underlying k = some (.int .i64)) (b : Bool) (n : Nat) : (Instr.checkKey b (n + 1) k (.int .i64 i)).run P w = .ok () w := by
 unfold Instr.checkKey
 simp [run_underlying hk, Result.andThen]
theorem lookup_none (ht : P.underlying t = some (.map k e)) (hk : P.underlying k = some (.int .i64)) (hz : (zeroValue e).run P w = .ok (.pointer none) w) (hb : w.heap[gm]? = some (mapO l)) (h : lookP l i = none) :
  (Instr.lookup t (.map (some gm)) (.int .i64 i) true).run P w = .ok (.tuple #[.pointer none, .bool false]) w := by
 rcases findP i l 0 0 with ⟨_, h2⟩ | ⟨g, j, h1, _⟩
 ·simp [Instr.lookup, run_underlying ht, MapKept.run_getObj_map hb, checkP hk, Instr.findKey, run_underlying hk, h2, hz, Result.andThen]
 ·rw [h] at h1; cases h1
theorem lookup_some (ht : P.underlying t = some (.map k e)) (hk : P.underlying k = some (.int .i64)) (hb : w.heap[gm]? = some (mapO l)) {g : Nat} (h : lookP l i = some g) :
  (Instr.lookup t (.map (some gm)) (.int .i64 i) true).run P w = .ok (.tuple #[.pointer (some ⟨g, 0, none⟩), .bool true]) w := by
 rcases findP i l 0 0 with ⟨h1, _⟩ | ⟨g', j, h1, h2⟩
 ·rw [h] at h1; cases h1
 ·rw [h] at h1; injection h1 with h1; subst h1
  simp [Instr.lookup, run_underlying ht, MapKept.run_getObj_map hb, checkP hk, Instr.findKey, run_underlying hk, h2, Result.andThen]
theorem update_none (ht : P.underlying t = some (.map k e)) (hk : P.underlying k = some (.int .i64)) (hb : w.heap[gm]? = some (mapO l)) (h : lookP l i = none) (g : Nat) :
  (Instr.mapUpdate t (.map (some gm)) (.int .i64 i) (.pointer (some ⟨g, 0, none⟩))).run P w = .ok () { w with heap := w.heap.setIfInBounds gm (mapO (l ++ [(i, g)])) } := by
 rcases findP i l 0 0 with ⟨_, h2⟩ | ⟨g', j, h1, _⟩
 ·simp [Instr.mapUpdate, run_underlying ht, MapKept.run_getObj_map hb, checkP hk, Instr.findKey, run_underlying hk, h2, MapKept.run_setObj_map _ hb, Result.andThen, mapO, mapE_snoc]
 ·rw [h] at h1; cases h1
end
section
variable {P : Program} {F : List Nat} {w0 w : World} {L : List Chunk} {ops : Array Oper} {rest : List Oper} {o : Oper} {a : Act} {Q : Exit → Act → World → Prop}
theorem w_makeMap (M : Mem F w0 w L) (t : TypeId) (ho : o.op = .makeMap t none) (hw : Region.wanted o (yielded ops a.tmps) = true)
  (h : ∀ (g : Nat) (w' : World), Mem F w0 w' (.blk g (mapO []) :: L) → wpList P ops Q rest (a.put o.dst (.map (some g))) w') : wpList P ops Q (o :: rest) a w :=
 wpW hw fun _ hK => by
  have hr : (Instr.makeMap t none).run P w = .ok (.map (some w.heap.size)) (w.alloc (.map #[] 0)) := rfl
  unfold Oper.wp execOp
  simp only [ho, Option.map_none, Sem.run_bind, hr, Result.andThen_ok]
  exact hK _ _ (h _ _ (M.add (.blk w.heap.size (mapO [])) (Kept.alloc _ _) (MapKept.heap_alloc w (mapO [])).1 yG1))
theorem w_lookNo (M : Mem F w0 w L) (n : Nat) (t : TypeId) (m x : Operand) (ho : o.op = .lookup t m x true) (hw : Region.wanted o (yielded ops a.tmps) = true) {k e : TypeId} (ht : P.underlying t = some (.map k e)) (hk : P.underlying k = some (.int .i64)) (hz : ((P.info? e).bind (·.zero)) = some (.pointer none)) {gm : Nat} {l : List (Int × Nat)} {i : Int} (hi : L[n]? = some (.blk gm (mapO l))) (hm : a.eval m = .map (some gm)) (hx : a.eval x = .int .i64 i) (hl : lookP l i = none)
  (h : wpList P ops Q rest (a.put o.dst (.tuple #[.pointer none, .bool false])) w) : wpList P ops Q (o :: rest) a w :=
 wpW hw fun _ hK => by
  cases hq : P.info? e with
  | none => simp [hq] at hz
  | some inf =>
   have hzz : inf.zero = some (.pointer none) := by simpa [hq] using hz
   have hzv : (zeroValue e).run P w = .ok (.pointer none) w := by simp only [zeroValue, typeInfo, Sem.run_bind, run_program, hq, Sem.run_pure, Result.andThen_ok, hzz]
   have hr := lookup_none ht hk hzv (M.ok n _ hi) hl
   unfold Oper.wp execOp
   simp only [ho, hm, hx, Sem.run_bind, hr, Result.andThen_ok]
   exact hK _ _ h
theorem w_lookYes (M : Mem F w0 w L) (n : Nat) (t : TypeId) (m x : Operand) (ho : o.op = .lookup t m x true) (hw : Region.wanted o (yielded ops a.tmps) = true) {k e : TypeId} (ht : P.underlying t = some (.map k e)) (hk : P.underlying k = some (.int .i64)) {gm : Nat} {l : List (Int × Nat)} {i : Int} (hi : L[n]? = some (.blk gm (mapO l))) (hm : a.eval m = .map (some gm)) (hx : a.eval x = .int .i64 i) {g : Nat} (hl : lookP l i = some g)
  (h : wpList P ops Q rest (a.put o.dst (.tuple #[.pointer (some ⟨g, 0, none⟩), .bool true])) w) : wpList P ops Q (o :: rest) a w :=
 wpW hw fun _ hK => by
  have hr := lookup_some (w := w) (P := P) (t := t) (i := i) ht hk (M.ok n _ hi) hl
  unfold Oper.wp execOp
  simp only [ho, hm, hx, Sem.run_bind, hr, Result.andThen_ok]
  exact hK _ _ h
theorem w_mapNew (M : Mem F w0 w L) (n : Nat) (t : TypeId) (m x v : Operand) (ho : o.op = .mapUpdate t m x v) (hw : Region.wanted o (yielded ops a.tmps) = true) {k e : TypeId} (ht : P.underlying t = some (.map k e)) (hk : P.underlying k = some (.int .i64)) {gm : Nat} {l : List (Int × Nat)} {i : Int} {g : Nat} (hi : L[n]? = some (.blk gm (mapO l))) (hm : a.eval m = .map (some gm)) (hx : a.eval x = .int .i64 i) (hv : a.eval v = .pointer (some ⟨g, 0, none⟩)) (hl : lookP l i = none)
  (h : ∀ w' : World, Mem F w0 w' (L.set n (.blk gm (mapO (l ++ [(i, g)])))) → wpList P ops Q rest (a.put o.dst undef) w') : wpList P ops Q (o :: rest) a w :=
 wpW hw fun _ hK => by
  have hb : w.heap[gm]? = some (mapO l) := M.ok n _ hi
  have hr := update_none (P := P) (t := t) ht hk hb hl g
  have hs := MapKept.heap_set (o' := mapO (l ++ [(i, g)])) hb
  have U : Upd w (.blk gm (mapO l)) { w with heap := w.heap.setIfInBounds gm (mapO (l ++ [(i, g)])) } (.blk gm (mapO (l ++ [(i, g)]))) :=
   ⟨⟨rfl, rfl, rfl, by simp, fun k _ hn => hs.2 k (by simpa [Chunk.fp] using hn)⟩, hs.1, fun k hk => .inl hk⟩
  unfold Oper.wp execOp
  simp only [ho, hm, hx, hv, Sem.run_bind, hr, Result.andThen_ok]
  exact hK _ _ (h _ (M.upd n hi U))
end
end TL
end Go

namespace Go
namespace TL
open Go.RowKit
section
variable {P : Program} {ops : Array Oper} {rest : List Oper} {o : Oper} {a : Act} {w w0 : World} {Q : Exit → Act → World → Prop} {F : List Nat} {L : List Chunk}
theorem w_lit4 {t e : TypeId} {bytes : Nat} (T : SliceT P t e 1 bytes) (x y z u : Operand) (ho : o.op = .buildSlice t 4 #[(0, x), (1, y), (2, z), (3, u)]) (hw : Region.wanted o (yielded ops a.tmps) = true) {b0 b1 b2 b3 : UInt8} (hx : a.eval x = .int .u8 (I8 b0)) (hy : a.eval y = .int .u8 (I8 b1)) (hz : a.eval z = .int .u8 (I8 b2)) (hu : a.eval u = .int .u8 (I8 b3))
  (h : ∀ (g : Nat) (w' : World), g = w.heap.size → w' = w.alloc (.cells (bs [b0, b1, b2, b3]).toArray e) → wpList P ops Q rest (a.put o.dst (.slice (some ⟨g, 0, none⟩) 4 4)) w') : wpList P ops Q (o :: rest) a w :=
 wpW hw fun _ hK => by
  obtain ⟨ht, ⟨i, z', hi, hz', hsize, hby, hzs⟩, hsz⟩ := T
  have hf : Instr.fill (fun j => some (j * i.size, i.size)) ((Array.range (4 * i.size)).map (z'.cells[· % z'.cells.size]!)) (#[(0, x), (1, y), (2, z), (3, u)].map fun ((j, q) : Nat × Operand) => (j, a.eval q)).toList = some (bs [b0, b1, b2, b3]).toArray := by
   have r4 : Array.range (4 * 1) = #[0, 1, 2, 3] := by decide
   rw [hsize, r4]
   simp only [List.map_toArray, List.map_cons, List.map_nil, hx, hy, hz, hu]
   generalize z'.cells[0 % z'.cells.size]! = c0
   generalize z'.cells[1 % z'.cells.size]! = c1
   generalize z'.cells[2 % z'.cells.size]! = c2
   generalize z'.cells[3 % z'.cells.size]! = c3
   rfl
  have hr := run_buildSlice (P := P) w t e 4 _ (bs [b0, b1, b2, b3]).toArray i z' ht hi hz' yF (by have := Nat.mul_pos (show 0 < 4 by omega) hsz; omega) hf
  unfold Oper.wp execOp
  simp only [ho, Sem.run_bind, hr, Result.andThen_ok]
  exact hK _ _ (h _ _ rfl rfl)
theorem w_mark (M : Mem F w0 w L) {t e : TypeId} {l : List UInt8} {n : Nat} {g : Nat} {wm : World} (eg : g = w.heap.size) (ew : wm = w.alloc (.cells (bs l).toArray e)) (x : Operand) (ho : o.op = .convert t t x) (hw : Region.wanted o (yielded ops a.tmps) = true) (ht : P.underlying t = some (.slice e)) (he : P.underlying e = some (.int .u8)) (hn : n = l.length) (hm : n ≤ 1000000) (hx : a.eval x = .slice (some ⟨g, 0, none⟩) n n)
  (h : ∀ w' : World, Mem F w0 w' (.sl 1 (.slice (some ⟨g, 0, none⟩) n n) n (bs l) :: L) → wpList P ops Q rest (a.put o.dst (.slice (some ⟨g, 0, none⟩) n n)) w') : wpList P ops Q (o :: rest) a wm := by
 subst eg ew hn
 exact wpW hw fun _ hK => by
  have hr := Lib.run_convert_bytes_const (P := P) w t e (bs l).toArray l.length l.length ht he
  have hsz : (bs l).toArray.size = l.length := by rw [List.size_toArray, qAP]
  rw [hsz] at hr
  have hnew : (w.alloc (.cells (bs l).toArray e (l.length, l.length + 1))).heap[w.heap.size]? = some (.cells (bs l).toArray e (l.length, l.length + 1)) := by
   show (w.heap.push _)[w.heap.size]? = _
   simp
  have hok : (Chunk.sl 1 (.slice (some ⟨w.heap.size, 0, none⟩) l.length l.length) l.length (bs l)).ok (w.alloc (.cells (bs l).toArray e (l.length, l.length + 1))) := by
   refine ⟨by simp [qAP], .inr ⟨w.heap.size, 0, l.length, rfl, Nat.zero_le _, by simp, Nat.le_refl _, by simp only [maxLen]; omega, ?_, ?_⟩⟩
   ·intro j v hv
    rw [Nat.zero_add]
    simp only [World.cell?, hnew]
    rw [if_neg yN]
    simpa using hv
   ·intro j hj
    rw [Nat.mul_one] at hj
    rw [Nat.zero_add]
    constructor
    ·simp only [World.cell?, hnew]
     rw [if_neg yN, Array.getElem?_eq_getElem yF]; rfl
    ·simp only [World.frozen?, hnew]
     simp; omega
  unfold Oper.wp execOp
  simp only [ho, hx, Sem.run_bind, hr, Result.andThen_ok]
  exact hK _ _ (h _ (M.add _ (Kept.alloc _ _) hok (by simp [Chunk.fp, Value.ownBlock])))
end
end TL
end Go

namespace Go
namespace TL
abbrev ringC (R : RingS) (gm : Nat) : List Value := [.string (mkS R.m), .int .i64 R.c, .int .u32 (I32 R.b), .int .u64 (I64 R.n), .map (some gm)]
def slotR (m : List UInt8) (x : Int × Nat) : Chunk := .row x.2 (onceR 1 0 (bs (ringU m (w64 x.1))))
def keysC (m : List UInt8) (gm : Nat) (l : List (Int × Nat)) : Chunk := grp [.blk gm (mapO l), grp (l.map (slotR m))]
def IsKeys (m : List UInt8) (gm : Nat) (K : Chunk) : Prop := ∃ l, K = keysC m gm l
theorem keys_join {m : List UInt8} {gm go : Nat} {l : List (Int × Nat)} {i : Int} {F : List Nat} {w0 w : World} {x1 x2 x3 x4 : Chunk} (M : Mem F w0 w [.row go (onceR 1 0 (bs (ringU m (w64 i)))), x1, x2, x3, x4, .blk gm (mapO (l ++ [(i, go)])), grp (l.map (slotR m))]) :
  Mem F w0 w [.blk gm (mapO (l ++ [(i, go)])), grp ((l ++ [(i, go)]).map (slotR m))] := by
 have M1 : Mem F w0 w [grp (l.map (slotR m)), .row go (onceR 1 0 (bs (ringU m (w64 i)))), .blk gm (mapO (l ++ [(i, go)]))] :=
  M.pick _ (fun i => if i = 0 then 6 else if i = 1 then 0 else 5) yO1 (by
   intro i c h
   match i, h with
   | 0, h => simpa using h
   | 1, h => simpa using h
   | 2, h => simpa using h)
 have M2 := (M1.opened rfl).shut ((l ++ [(i, go)]).map (slotR m)) [.blk gm (mapO (l ++ [(i, go)]))] (by simp [slotR])
 exact M2.pick _ (fun i => 1 - i) (by intro i j hi hj h; simp at hi hj; omega) (by
   intro i c h
   match i, h with
   | 0, h => simpa using h
   | 1, h => simpa using h)
section
variable {P : Program} {ops : Array Oper} {rest : List Oper} {o : Oper} {a : Act} {w w0 : World} {Q : Exit → Act → World → Prop} {g : Nat}
theorem w_okA {cs : List Value} (R' : (Chunk.row g cs).ok w) (t : TypeId) (x : Operand) (ho : o.op = .load t x) {off : Nat} (hx : a.eval x = .pointer (some ⟨g, off, none⟩)) (hw : Region.wanted o (yielded ops a.tmps) = true)
  (ht : rowT P t = true) (pre mid post : List Value) (hcs : cs = pre ++ (mid ++ post)) (hpre : pre.length = off) (hn : (P.info? t).map (·.size) = some mid.length) (h : wpList P ops Q rest (a.put o.dst (.agg mid.toArray)) w) : wpList P ops Q (o :: rest) a w := by
 exact wpW hw fun _ hK => by
  unfold rowT at ht
  cases hu : P.underlying t with
  | none => simp [hu] at ht
  | some d =>
   simp only [hu] at ht
   refine wp_load_mid t x ho g off hx mid d ?_ hu ht hn (hK _ _ h)
   intro j v hv
   have hj : j < mid.length := (List.getElem?_eq_some_iff.1 hv).1
   refine rowCell R' ?_
   rw [hcs, ← hpre, List.getElem?_append_right yF, Nat.add_sub_cancel_left, List.getElem?_append_left hj]; exact hv
end
end TL
end Go
namespace Go.Proofs.YtidadhbaomieiaaGreat
open Go.RowKit Go.TL
theorem ringPut (base : Nat) (v : Value) (l : List UInt8) (x : UInt64) (n : Nat) (w : World) (hown : OwnB w base v l) (hbase : base ≤ w.heap.size) (hn : n ≤ 8) (hl : l.length ≤ 1000000000000) :
  Calls Tryz.prog 46 #[v, .int .u64 (I64 x), .int .i64 n] w fun e w' => ∃ v', e = .returned v' ∧ OwnB w' base v' (l ++ bigB x n) ∧ w.grownBy w' v.ownBlock ∧ FreshOr w v v' := by
 go_enter Tryz.func46, Tryz.ntmps46
 go_wp2
 go_loopw [0, 7] (fun b i wr => ∃ (j : Nat) (done : List UInt8), j ≤ n ∧ i = .int .i64 ((j : Int) - 1) ∧ done.length ≤ 8 ∧ done ++ bigB x j = bigB x n ∧ OwnB wr base b (l ++ done) ∧ w.grownBy wr v.ownBlock ∧ FreshOr w v b) (fun _ i _ => (intOf i + 1).toNat)
 case atStart => exact ⟨n, [], by omega, rfl, by simp, rfl, by simpa using hown, grownBy_refl _ _, .inl rfl⟩
 case round =>
  obtain ⟨j, done, hj, rfl, hd, H, ho, hg, hf⟩ := hrel
  have H' := Lib.hid H; clear H
  have ho' := Lib.hid ho; clear ho
  have hg' := Lib.hid hg; clear hg
  have hf' := Lib.hid hf; clear hf
  cases j with
  | zero =>
   go_wp2
   go_ret
   have hx : done = bigB x n := by have := H'.out; simpa [bigB] using this
   subst hx
   exact ⟨_, rfl, ho'.out, hg'.out, hf'.out⟩
  | succ i =>
   have e : ((i + 1 : Nat) : Int) - 1 = i := by omega
   rw [e]; clear e
   have b1 : 8 * (i : Int) ≤ 63 := by omega
   have b0 : 0 ≤ 8 * (i : Int) := by omega
   go_wp2_with (at_builtin; refine qAw bytesT rfl (.tmp 14) (.tmp 20) rfl base wr [_] _ _ rfl u0 (l ++ done) rfl ho'.out rfl ?_ ?_ ?_)
   ·simp; omega
   ·have := hg'.out.size; omega
   ·intro v' w1 hown1 hg1 hf1
    have hg2 := Lib.hid (grow_step hg'.out hf'.out hg1)
    have hf2 := Lib.hid (qCk hg'.out.size hf'.out hf1)
    have hown2 := Lib.hid hown1
    clear hown1 hg1 hf1
    go_wp2
    go_roundw
    case rel => exact ⟨i, done ++ [(x >>> (8 * UInt64.ofNat i)).toUInt8], by omega, by go_num, by have := qAW x n; rw [← H'.out] at this; simp [bigB, qAW] at this ⊢; omega, by rw [← H'.out]; simp [bigB], hown2.out, hg2.out, hf2.out⟩
    case measure => simp [intOf]
theorem ringPutc (v : Value) (l : List UInt8) (x : UInt64) (n : Nat) (w : World) (hok : (Chunk.sl 1 v l.length (bs l)).ok w) (hn : n ≤ 8) (hl : l.length ≤ 1000000000000) :
  Calls Tryz.prog 46 #[v, .int .u64 (I64 x), .int .i64 n] w fun e w' => ∃ p cap, e = .returned (.slice p (l ++ bigB x n).length cap) ∧ Upd w (.sl 1 v l.length (bs l)) w' (.sl 1 (.slice p (l ++ bigB x n).length cap) (l ++ bigB x n).length (bs (l ++ bigB x n))) :=
 (ringPut 0 v l x n w hok (Nat.zero_le _) hn hl).mono fun e w' h => by
  obtain ⟨v', rfl, ho, hg, hf⟩ := h
  obtain ⟨p, cap, rfl⟩ := Own.form0 ho
  refine ⟨p, cap, rfl, Kept.grown hg, ho, fun k hk => ?_⟩
  simp only [Chunk.fp, Option.mem_toList] at hk ⊢
  rcases hf with hf | ⟨g, h1, h2⟩
  ·exact .inl (by rw [← hf]; exact hk)
  ·rw [h1] at hk; cases hk; exact .inr h2
theorem ringKey_c (m : List UInt8) (i : Int) (w : World) (hm : m.length ≤ 1000000) :
  Calls Tryz.prog 21 #[.string (mkS m), .int .i64 i] w fun e w' => e = .returned (.agg (bs (ringU m (w64 i))).toArray) ∧ Below w.heap.size w w' := by
 have M := Mem.start [] w
 have A1 := fun v (w : World) hok => ringPutc v ringT (w64 i) 8 w hok yF yN
 have TC := fun w => Tag_c m (ringT ++ bigB (w64 i) 8) w yF (by rw [List.length_append, qAW]; decide)
 have hl : (ringT ++ bigB (w64 i) 8).length = 12 := by rw [List.length_append, qAW]; rfl
 have SE : ringU m (w64 i) = macL m (ringT ++ bigB (w64 i) 8) := rfl
 have hr : (macL m (ringT ++ bigB (w64 i) 8)).length = 32 := qAq _ _
 obtain ⟨r, er⟩ : ∃ r, r = macL m (ringT ++ bigB (w64 i) 8) := ⟨_, rfl⟩
 rw [← er] at SE TC hr
 rw [SE]
 obtain ⟨q, eq⟩ : ∃ q, q = ringT ++ bigB (w64 i) 8 := ⟨_, rfl⟩
 rw [← eq] at TC A1 hl
 have A2 : ∀ (v : Value) (w : World), (Chunk.sl 1 v 4 (bs [114, 105, 110, 103])).ok w → Calls Tryz.prog 46 #[v, .int .u64 (I64 (w64 i)), .int .i64 8] w fun e w' => ∃ p cap, e = .returned (.slice p q.length cap) ∧ Upd w (.sl 1 v 4 (bs [114, 105, 110, 103])) w' (.sl 1 (.slice p q.length cap) q.length (bs q)) := A1
 replace A2 := Lib.hid A2
 replace TC := Lib.hid TC
 clear er eq A1 SE
 clear hl
 go_enter Tryz.func21, Tryz.ntmps21
 go_wp2_with ((first | ((with_reducible refine tAlloc (some 4) 50 ?_); refine wal M _ rfl rfl (bs (List.replicate 32 (0 : UInt8))) yD ?_; clear M; intro gr w1 M) | ((with_reducible show wpList _ _ _ (Oper.mk _ (Op.buildSlice 70 4 _) _ _ _ _ :: _) _ _); (refine w_lit4 bytesT (b0 := 114) (b1 := 105) (b2 := 110) (b3 := 103) _ _ _ _ rfl rfl rfl rfl rfl rfl ?_; intro g wm eg ew; replace eg := Lib.hid eg; replace ew := Lib.hid ew)) | ((with_reducible show wpList _ _ _ (Oper.mk _ (Op.convert 70 70 _) _ _ _ _ :: _) _ _); (refine w_mark (l := [114, 105, 110, 103]) M eg.out ew.out _ rfl rfl Tryz.underlying70 Tryz.underlying5 rfl yN rfl ?_; clear M eg ew; intro w1 M)) | (go_at_call 46; (with_reducible refine (A2.out _ _ (M.ok 0 _ rfl)).mono ?_; rintro e w1 ⟨p1, c1, rfl, U⟩; replace M := M.upd 0 rfl U; clear U; simp only [List.set_cons_zero] at M)) | (go_at_call 47; (refine (TC.out _).mono ?_; rintro e w1 ⟨rfl, hb⟩; replace M := M.call hb; clear hb)) | ((with_reducible refine tM rfl ?_); refine mB ?_; try (clear M; (first | intro g w1 M | intro w1 M); try simp only [setC] at M)) | ((with_reducible refine tGuard ?_); refine gdC ?_ ?_ <;> (intro hgd; rw [hgd]; try (exfalso; simp at hgd; omega)))) <;> (try conv => arg 5; simp only [apS, setC]))
 exact bodyPost_ret (qAS rfl _ _ gr 0 (bs r) _ rfl (M.ok 1 _ rfl).2.1 Tryz.underlying50 rfl yF1) rfl ⟨rfl, M.below⟩
theorem key1_c {F : List Nat} {w0 w : World} {R : RingS} {g gm go gs gi gv : Nat} {i : Int} {z : List UInt8} {x : Chunk} {L : List Chunk} (hm : R.m.length ≤ 1000000) (RR : (Chunk.row g (ringC R gm)).ok w0) (nR : g ∉ F) (hz : z.length = 32)
  (M : Mem F w0 w (.row go (onceR 0 1 (bs z)) :: .row gs [.pointer (some ⟨go, 0, none⟩)] :: x :: .row gi [.int .i64 i] :: .row gv [.pointer (some ⟨g, 0, none⟩)] :: L)) :
  Calls Tryz.prog 78 #[.pointer (some ⟨gv, 0, none⟩), .pointer (some ⟨gi, 0, none⟩), .pointer (some ⟨gs, 0, none⟩)] w fun e w' => e = .returned (.tuple #[]) ∧ Mem F w0 w' (.row go (onceR 0 1 (bs (ringU R.m (w64 i)))) :: .row gs [.pointer (some ⟨go, 0, none⟩)] :: x :: .row gi [.int .i64 i] :: .row gv [.pointer (some ⟨g, 0, none⟩)] :: L) := by
 have KC := fun w => ringKey_c R.m i w hm
 have hr : (ringU R.m (w64 i)).length = 32 := qAq _ _
 obtain ⟨r, er⟩ : ∃ r, r = ringU R.m (w64 i) := ⟨_, rfl⟩
 rw [← er] at KC hr ⊢
 replace KC := Lib.hid KC
 clear er
 go_enter Tryz.func78, Tryz.ntmps78
 go_wp2_with ((first | ((with_reducible show Code.wp _ (Code.region 0 _ _) _ _ _); (have MR := M; refine qAB [(0, false), (1, false), (2, false), (3, false), (4, false), (5, false), (6, true), (7, true), (8, false), (9, true)] [(4, .ptr)] [(0, _), (1, _), (4, _), (5, _)] (IxOk MR [1, 4, 3]) 9 yD yD rfl yD (lowA MR 1 0 (lowA MR 4 0 (qAa (qCO MR RR nR 0 rfl yB rfl) (lowA MR 3 0 qAN)))) (qAJ MR _) ?_; replace M := M.drew; simp only [planC, opAt, gE])) | (go_at_call 21; (refine (KC.out _).mono ?_; rintro e w1 ⟨rfl, hb⟩; replace M := M.call hb; clear hb)) | ((with_reducible show wpList _ _ _ (Oper.mk _ (Op.store 50 _ _) _ _ _ _ :: _) _ _); (refine qDo M 0 _ _ _ rfl rfl rfl rfl (bs r) rfl rfl yF1 (qEL r) [.int .u32 0, .int .i32 1, .int .u32 0] (bs z) [] yB1 rfl (by rw [qAP, qAP, hr, hz]) ?_; clear M; intro w1 M; simp only [setC, List.append_nil, List.cons_append, List.nil_append] at M)) | ((with_reducible refine tLoad ?_); refine w_at _ _ rfl yI ?_; intro hx; (first | refine qBk M RR nR _ _ rfl hx rfl yB (by exact rfl) ?_); clear hx) | ((with_reducible refine tM rfl ?_); refine mS ?_; try (clear M; (first | intro g w1 M | intro w1 M); try simp only [setC] at M)) | ((with_reducible first | show Seg _ _ _ _ | show OnlyN _ _ _ _ _); refine rA ?_) | ((with_reducible refine tGuard ?_); refine gdC ?_ ?_ <;> (intro hgd; rw [hgd]; try (exfalso; simp at hgd; omega)))) <;> (try conv => arg 5; simp only [apS, setC]))
 exact bodyPost_end (results_none rfl _ _ _) rfl ⟨rfl, M⟩
end Go.Proofs.YtidadhbaomieiaaGreat

namespace Go.Proofs.YtidadhbaomieiaaGreat
open Go.RowKit Go.TL
theorem ringkey_c (R : RingS) (g gm : Nat) (K : Chunk) (i : Int) (w : World) (hm : R.m.length ≤ 1000000) (RR : (Chunk.row g (ringC R gm)).ok w) (nR : g ∉ K.fp) (hK : K.ok w) (IK : IsKeys R.m gm K) :
  Calls Tryz.prog 40 #[.pointer (some ⟨g, 0, none⟩), .int .i64 i] w fun e w' => e = .returned (.agg (bs (ringU R.m (w64 i))).toArray) ∧ ∃ K', IsKeys R.m gm K' ∧ Upd w K w' K' := by
 obtain ⟨l, rfl⟩ := IK
 have M : Mem (keysC R.m gm l).fp w w [.blk gm (mapO l), grp (l.map (slotR R.m))] := Mem.startG hK
 have hmf : ∀ (fn : Fn) (first cap : Array Value) (w : World), (Instr.makeFunc fn first cap).run Tryz.prog w = .ok (.func fn first cap) w := fun _ _ _ _ => rfl
 have hr : (ringU R.m (w64 i)).length = 32 := qAq _ _
 obtain ⟨F, eF⟩ : ∃ F, F = (keysC R.m gm l).fp := ⟨_, rfl⟩
 rw [← eF] at M nR
 have EF := Lib.hid fun _ : Unit => eF
 have hz0 : (List.replicate 32 (0 : UInt8)).length = 32 := List.length_replicate
 clear eF hK
 cases hl : lookP l i with
 | none =>
  have HL := Lib.hid hl
  clear hl
  have KU : ∀ (w' : World) (go : Nat) (x1 x2 x3 x4 : Chunk), Mem F w w' [.row go (onceR 1 0 (bs (ringU R.m (w64 i)))), x1, x2, x3, x4, .blk gm (mapO (l ++ [(i, go)])), grp (l.map (slotR R.m))] → ∃ K', IsKeys R.m gm K' ∧ Upd w (keysC R.m gm l) w' K' := by
   intro w' go x1 x2 x3 x4 M
   rw [EF.out ()] at M
   exact ⟨keysC R.m gm (l ++ [(i, go)]), ⟨_, rfl⟩, (keys_join M).updG [] rfl⟩
  replace KU := Lib.hid KU
  clear EF
  go_enter Tryz.func40, Tryz.ntmps40
  go_wp2_with ((first | ((with_reducible refine tBox (some 2) ?_); refine w_box M _ _ rfl rfl _ rfl ([.pointer (some ⟨g, 0, none⟩)]) rfl ?_; clear M; intro gv w1 M) | ((with_reducible refine tBox (some 3) ?_); refine w_box M _ _ rfl rfl _ rfl ([.int .i64 i]) rfl ?_; clear M; intro gi w1 M) | ((with_reducible refine tAlloc (some 4) 50 ?_); refine wal M _ rfl rfl (bs (List.replicate 32 (0 : UInt8))) yD ?_; clear M; intro gt w1 M) | ((with_reducible refine tAlloc (some 5) 140 ?_); refine qFH M _ rfl rfl (.pointer none) ([.pointer none]) yD rfl ?_; clear M; intro gs w1 M) | ((with_reducible refine tBox (some 19) ?_); refine w_box M _ _ rfl rfl _ rfl (onceR 0 0 (bs (List.replicate 32 0))) rfl ?_; clear M; intro go w1 M) | ((with_reducible show Code.wp _ (Code.region 1 _ _) _ _ _); (have MR := M; refine qDf (.rd 0 (.rd 1 (.rd 2 (.rd 3 (.rd 4 (.alt 5 (.rd 6 (.rd 7 (.rd 8 (.wr 9 (.wr 10 (.rd 11 .nil)))))) (.wr 9 (.wr 5 (.rd 6 (.rd 7 (.rd 8 (.wr 10 (.rd 11 .nil))))))))))))) [(8, .ptr)] [(0, _), (3, _), (4, _)] (IxOk MR [2, 1]) 12 yD yD rfl yD (lowA MR 2 0 (qAa (qCO MR RR nR 4 rfl yB rfl) (lowA MR 1 0 qAN))) (qAJ MR _) ?_; replace M := M.drew; simp only [planT, opAt, gE])) | ((with_reducible show Code.wp _ (Code.region 4 _ _) _ _ _); (have MR := M; refine qAB [(0, false), (1, false), (2, false), (3, false), (4, false), (5, false), (6, true)] [(20, .ptr)] [(0, _), (3, _), (4, _), (5, _)] (IxOk MR [4, 3, 1]) 6 yD yD rfl yD (lowA MR 4 0 (qAa (qCO MR RR nR 4 rfl yB rfl) (lowA MR 3 0 (lowA MR 1 0 qAN)))) (qAJ MR _) ?_; replace M := M.drew; simp only [planC, opAt, gE])) | ((with_reducible show wpList _ _ _ (Oper.mk _ (Op.lookup _ _ _ true) _ _ _ _ :: _) _ _); (first | refine w_lookNo M 3 _ _ _ rfl rfl Tryz.underlying88 Tryz.underlying3 yD rfl rfl rfl HL.out ?_ | refine w_lookNo M 4 _ _ _ rfl rfl Tryz.underlying88 Tryz.underlying3 yD rfl rfl rfl HL.out ?_)) | ((with_reducible show wpList _ _ _ (Oper.mk _ (Op.mapUpdate _ _ _ _) _ _ _ _ :: _) _ _); (refine w_mapNew M 5 _ _ _ _ rfl rfl Tryz.underlying88 Tryz.underlying3 rfl rfl rfl rfl HL.out ?_; clear M; intro w1 M; simp only [setC] at M)) | (go_at_call 77; (refine (do_first M (fun w1 M1 => key1_c hm RR nR hz0 M1)).mono ?_; rintro e w1 ⟨rfl, M2⟩; replace M := M2; clear M2)) | ((with_reducible show wpList _ _ _ (Oper.mk _ (Op.load 50 _) _ _ _ _ :: _) _ _); (refine qAR M 0 _ _ rfl rfl rfl rfl yB [.int .u32 1, .int .i32 0, .int .u32 0] (bs (ringU R.m (w64 i))) [] yB1 rfl yF1 ?_)) | ((with_reducible refine tLoad ?_); refine w_at _ _ rfl yI ?_; intro hx; (first | refine qBk M RR nR _ _ rfl hx rfl yB (by exact rfl) ?_); clear hx) | (with_reducible refine Seg.alt ?_ ?_) | ((with_reducible refine tM rfl ?_); refine mB ?_; try (clear M; (first | intro g w1 M | intro w1 M); try simp only [setC] at M)) | ((with_reducible first | show Seg _ _ _ _ | show OnlyN _ _ _ _ _); refine rA ?_) | ((with_reducible refine tGuard ?_); refine gdC ?_ ?_ <;> (intro hgd; rw [hgd]; try (exfalso; simp at hgd; omega)))) <;> (try conv => arg 5; simp only [apS, setC]))
  all_goals exact bodyPost_ret (qAS rfl _ _ gt 0 (bs (ringU R.m (w64 i))) _ rfl (M.ok 2 _ rfl).2.1 Tryz.underlying50 rfl yF1) rfl ⟨rfl, KU.out _ _ _ _ _ _ M⟩
 | some go =>
  obtain ⟨j, hj⟩ := lookP_mem hl
  have SO : ∀ (w' : World) (L : List Chunk) (n : Nat), Mem F w w' L → L[n]? = some (grp (l.map (slotR R.m))) → (Chunk.row go (onceR 1 0 (bs (ringU R.m (w64 i))))).ok w' := fun w' L n M h => (M.ok n _ h).2.1.1 j _ (by rw [List.getElem?_map, hj]; rfl)
  replace SO := Lib.hid SO
  have HL := Lib.hid hl
  clear hl hj
  have KU : ∀ (w' : World) (x1 x2 x3 x4 : Chunk), Mem F w w' [x1, x2, x3, x4, .blk gm (mapO l), grp (l.map (slotR R.m))] → ∃ K', IsKeys R.m gm K' ∧ Upd w (keysC R.m gm l) w' K' := by
   intro w' x1 x2 x3 x4 M
   rw [EF.out ()] at M
   exact ⟨keysC R.m gm l, ⟨_, rfl⟩, M.tail.tail.tail.tail.updG [] rfl⟩
  replace KU := Lib.hid KU
  clear EF
  go_enter Tryz.func40, Tryz.ntmps40
  go_wp2_with ((first | ((with_reducible refine tBox (some 2) ?_); refine w_box M _ _ rfl rfl _ rfl ([.pointer (some ⟨g, 0, none⟩)]) rfl ?_; clear M; intro gv w1 M) | ((with_reducible refine tBox (some 3) ?_); refine w_box M _ _ rfl rfl _ rfl ([.int .i64 i]) rfl ?_; clear M; intro gi w1 M) | ((with_reducible refine tAlloc (some 4) 50 ?_); refine wal M _ rfl rfl (bs (List.replicate 32 (0 : UInt8))) yD ?_; clear M; intro gt w1 M) | ((with_reducible refine tAlloc (some 5) 140 ?_); refine qFH M _ rfl rfl (.pointer none) ([.pointer none]) yD rfl ?_; clear M; intro gs w1 M) | ((with_reducible show Code.wp _ (Code.region 1 _ _) _ _ _); (have MR := M; refine qDf (.rd 0 (.rd 1 (.rd 2 (.rd 3 (.rd 4 (.alt 5 (.rd 6 (.rd 7 (.rd 8 (.wr 9 (.wr 10 (.rd 11 .nil)))))) (.wr 9 (.wr 5 (.rd 6 (.rd 7 (.rd 8 (.wr 10 (.rd 11 .nil))))))))))))) [(8, .ptr)] [(0, _), (3, _), (4, _)] (IxOk MR [2, 1]) 12 yD yD rfl yD (lowA MR 2 0 (qAa (qCO MR RR nR 4 rfl yB rfl) (lowA MR 1 0 qAN))) (qAJ MR _) ?_; replace M := M.drew; simp only [planT, opAt, gE])) | ((with_reducible show wpList _ _ _ (Oper.mk _ (Op.lookup _ _ _ true) _ _ _ _ :: _) _ _); (first | refine w_lookYes M 3 _ _ _ rfl rfl Tryz.underlying88 Tryz.underlying3 rfl rfl rfl HL.out ?_ | refine w_lookYes M 4 _ _ _ rfl rfl Tryz.underlying88 Tryz.underlying3 rfl rfl rfl HL.out ?_)) | (go_at_call 77; (refine (do_done (d := 1) yN _ (rowCell (SO.out _ _ 5 M rfl) rfl)).mono ?_; rintro e w1 ⟨rfl, rfl⟩)) | ((with_reducible show wpList _ _ _ (Oper.mk _ (Op.load 50 _) _ _ _ _ :: _) _ _); (refine w_okA (SO.out _ _ 5 M rfl) _ _ rfl rfl rfl yB [.int .u32 1, .int .i32 0, .int .u32 0] (bs (ringU R.m (w64 i))) [] yB1 rfl yF1 ?_)) | ((with_reducible refine tLoad ?_); refine w_at _ _ rfl yI ?_; intro hx; (first | refine qBk M RR nR _ _ rfl hx rfl yB (by exact rfl) ?_); clear hx) | (with_reducible refine Seg.alt ?_ ?_) | ((with_reducible refine tM rfl ?_); refine mB ?_; try (clear M; (first | intro g w1 M | intro w1 M); try simp only [setC] at M)) | ((with_reducible first | show Seg _ _ _ _ | show OnlyN _ _ _ _ _); refine rA ?_) | ((with_reducible refine tGuard ?_); refine gdC ?_ ?_ <;> (intro hgd; rw [hgd]; try (exfalso; simp at hgd; omega)))) <;> (try conv => arg 5; simp only [apS, setC]))
  all_goals exact bodyPost_ret (qAS rfl _ _ gt 0 (bs (ringU R.m (w64 i))) _ rfl (M.ok 1 _ rfl).2.1 Tryz.underlying50 rfl yF1) rfl ⟨rfl, KU.out _ _ _ _ _ M⟩
end Go.Proofs.YtidadhbaomieiaaGreat

namespace Go.Proofs.YtidadhbaomieiaaGreat
open Go.RowKit Go.TL
def IsRing (g : Nat) (R : RingS) (c : Chunk) : Prop := ∃ gm K, IsKeys R.m gm K ∧ c = grp [.row g (ringC R gm), K]
theorem map_eql_nil {P : Program} {t k e : TypeId} (ht : P.underlying t = some (.map k e)) (g : Nat) (w : World) : (binOp .eql t (.map (some g)) (.map none)).run P w = .ok (.bool false) w := by
 have h : (Op.equalIn (9999 + 1) t (.map (some g)) (.map none)).run P w = .ok false w := by
  unfold Op.equalIn
  simp [run_underlying ht]
 have h' : (Op.equalIn Op.maxDepth t (.map (some g)) (.map none)).run P w = .ok false w := h
 unfold binOp Op.equal
 simp [h']
section
variable {g gm : Nat} {R : RingS} {K c : Chunk} {w : World}
theorem qFU (RR : (Chunk.row g (ringC R gm)).ok w) : Calls Tryz.prog 37 #[.pointer (some ⟨g, 0, none⟩)] w fun e w' => e = .returned (.bool false) ∧ w = w' := by
 have M := Mem.start [] w
 have nR : g ∉ ([] : List Nat) := by simp
 have hme := fun g w => map_eql_nil (P := Tryz.prog) Tryz.underlying88 g w
 go_enter Tryz.func37, Tryz.ntmps37
 go_wp2_with ((first | ((with_reducible refine tLoad ?_); refine w_at _ _ rfl yI ?_; intro hx; (first | refine qBk M RR nR _ _ rfl hx rfl yB (by exact rfl) ?_); clear hx) | ((with_reducible refine tM rfl ?_); refine mS ?_; try (clear M; (first | intro g w1 M | intro w1 M); try simp only [setC] at M)) | ((with_reducible refine tGuard ?_); refine gdC ?_ ?_ <;> (intro hgd; rw [hgd]; try (exfalso; simp at hgd; omega)))) <;> (try conv => arg 5; simp only [apS, setC]))
 go_ret
 exact ⟨rfl, rfl⟩
end
theorem new_join {F : List Nat} {w0 w : World} {g gm : Nat} {R : RingS} (M : Mem F w0 w [.row g (ringC R gm), .blk gm (mapO [])]) : ∃ c, IsRing g R c ∧ Mem F w0 w [c] := by
 have M1 := M.shut [] _ rfl
 have M2 : Mem F w0 w [.blk gm (mapO []), grp [], .row g (ringC R gm)] := M1.pick _ (fun i => if i = 0 then 2 else if i = 1 then 0 else 1) yO1 (by
   intro i c h
   match i, h with
   | 0, h => simpa using h
   | 1, h => simpa using h
   | 2, h => simpa using h)
 have M3 := M2.shut [.blk gm (mapO []), grp []] _ rfl
 have M4 : Mem F w0 w [.row g (ringC R gm), keysC R.m gm []] := M3.pick _ (fun i => 1 - i) (by intro i j hi hj h; simp at hi hj; omega) (by
   intro i c h
   match i, h with
   | 0, h => simpa using h
   | 1, h => simpa [keysC] using h)
 exact ⟨_, ⟨gm, _, ⟨_, rfl⟩, rfl⟩, M4.shut [.row g (ringC R gm), keysC R.m gm []] [] rfl⟩
theorem New_ok (m : List UInt8) (c : Nat) (b : UInt32) (w : World) (hc : c ≤ 1048576) : Calls Tryz.prog 12 #[.string (mkS m), .int .i64 c, .int .u32 (I32 b)] w fun e w' => ∃ g C, e = .returned (.tuple #[.pointer (some ⟨g, 0, none⟩), .int .i64 0]) ∧ IsRing g ⟨m, c, b, 0⟩ C ∧ Mem [] w w' [C] := by
 have M := Mem.start [] w
 go_enter Tryz.func12, Tryz.ntmps12
 go_wp2_with ((first | ((with_reducible refine tGuard ?_); first | ((with_reducible refine qAC ?_ ?_); exact dcd) | ((with_reducible refine qAH ?_ ?_); exact dcd) | ((with_reducible refine qAI ?_ ?_); exact dcd)) | ((with_reducible show wpList _ _ _ (Oper.mk _ (Op.makeMap _ none) _ _ _ _ :: _) _ _); (refine w_makeMap M _ rfl rfl ?_; clear M; intro gm w1 M)) | ((with_reducible refine tBox (some 19) ?_); refine w_box M _ _ rfl rfl _ rfl (ringC ⟨m, c, b, 0⟩ gm) rfl ?_; clear M; intro g w1 M) | ((with_reducible refine tM rfl ?_); refine mS ?_; try (clear M; (first | intro g w1 M | intro w1 M); try simp only [setC] at M)) | ((with_reducible refine tGuard ?_); refine gdC ?_ ?_ <;> (intro hgd; rw [hgd]; try (exfalso; simp at hgd; omega)))) <;> (try conv => arg 5; simp only [apS, setC]))
 obtain ⟨C, IC, MC⟩ := new_join M
 go_ret2
 exact ⟨_, _, rfl, IC, MC⟩
end Go.Proofs.YtidadhbaomieiaaGreat

namespace Go.Proofs.YtidadhbaomieiaaGreat
open Go.RowKit Go.TL
section
variable {g : Nat} {R : RingS} {c : Chunk} {w : World}
theorem count_up {gm : Nat} (RR : (Chunk.row g (ringC R gm)).ok w) : Calls Tryz.prog 42 #[.pointer (some ⟨g, 3, none⟩), .int .u64 1] w fun e w' => e = .returned (.int .u64 (I64 (R.n + 1))) ∧ Upd w (.row g (ringC R gm)) w' (.row g (ringC { R with n := R.n + 1 } gm)) :=
 (u64Add_c ⟨g, 3, none⟩ R.n w (rowCell RR rfl) (by have := RR.2.2 3 yB1; rw [Nat.zero_add] at this; exact this.2)).mono fun _ _ h => ⟨h.1, by rw [h.2]; exact qDb RR yB1 _⟩
theorem Wrap_ok (about text : List UInt8) (h : c.ok w) (I : IsRing g R c) (hm : R.m.length ≤ 1000000) (hc : R.c ≤ 1048576) (hn : R.n.toNat < 9223372036854775808) (hx : text.length ≤ 8192) (ha : about.length ≤ 100000) :
  Calls Tryz.prog 14 #[.pointer (some ⟨g, 0, none⟩), .string (mkS about), .string (mkS text)] w fun e w' => e = .returned (.tuple #[.string (mkS (envB (R.env about text))), .int .i64 0]) ∧ ∃ c', IsRing g { R with n := R.n + 1 } c' ∧ Upd w c w' c' := by
 obtain ⟨gm, K, IK, rfl⟩ := I
 obtain ⟨m, cc, bb, n⟩ := R
 simp only at hm hc hn IK ⊢
 have M : Mem (grp [.row g (ringC ⟨m, cc, bb, n⟩ gm), K]).fp w w [.row g (ringC ⟨m, cc, bb, n⟩ gm), K] := Mem.startG h
 have N0 : ∀ w' K' x, IsKeys m gm K' → Mem (grp [.row g (ringC ⟨m, cc, bb, n⟩ gm), K]).fp w w' [x, .row g (ringC ⟨m, cc, bb, n + 1⟩ gm), K'] → ∃ c', IsRing g ⟨m, cc, bb, n + 1⟩ c' ∧ Upd w (grp [.row g (ringC ⟨m, cc, bb, n⟩ gm), K]) w' c' := fun w' K' x IK' M => ⟨_, ⟨gm, K', IK', rfl⟩, M.tail.updG [] rfl⟩
 obtain ⟨F, eF⟩ : ∃ F, F = (grp [.row g (ringC ⟨m, cc, bb, n⟩ gm), K]).fp := ⟨_, rfl⟩
 rw [← eF] at M N0
 have hk : (ringK m cc).length = 32 := qFV _ _
 have CC := fun w => Close_ok (ringK m cc) cc bb n about text w hk hc hx ha
 have hB : headL cc bb n ++ (textL (sealL (ringK m cc) bb n text) ++ tagL (ringK m cc) cc bb n about (sealL (ringK m cc) bb n text)) = envB (RingS.env ⟨m, cc, bb, n⟩ about text) := RingS.env_bytes ⟨m, cc, bb, n⟩ about text
 have BC := fun w => SealBytes_ok cc bb n (sealL (ringK m cc) bb n text) (tagL (ringK m cc) cc bb n about (sealL (ringK m cc) bb n text)) w (qAq _ _) (by unfold rightE; simp [sealL, qAy]; omega)
 rw [hB] at BC
 have ht : (tagL (ringK m cc) cc bb n about (sealL (ringK m cc) bb n text)).length = 32 := qAq _ _
 obtain ⟨B, eB⟩ : ∃ B, B = envB (RingS.env ⟨m, cc, bb, n⟩ about text) := ⟨_, rfl⟩
 rw [← eB] at BC ⊢
 obtain ⟨d, ed⟩ : ∃ d, d = sealL (ringK m cc) bb n text := ⟨_, rfl⟩
 rw [← ed] at CC BC ht
 obtain ⟨t, et⟩ : ∃ t, t = tagL (ringK m cc) cc bb n about d := ⟨_, rfl⟩
 rw [← et] at CC BC ht
 have KC := fun (w : World) RR nR hK => ringkey_c ⟨m, cc, bb, n⟩ g gm K cc w hm RR nR hK IK
 rw [show ringU m (w64 (cc : Int)) = ringK m cc from rfl] at KC
 obtain ⟨kk, ek⟩ : ∃ k, k = ringK m cc := ⟨_, rfl⟩
 rw [← ek] at CC KC hk
 have M : Mem F w w [.row g [.string (mkS m), .int .i64 cc, .int .u32 (I32 bb), .int .u64 (I64 n), .map (some gm)], K] := M
 have NN : ∀ w1, (Chunk.row g [.string (mkS m), .int .i64 cc, .int .u32 (I32 bb), .int .u64 (I64 n), .map (some gm)]).ok w1 → _ := fun w1 RR => qFU (R := ⟨m, cc, bb, n⟩) RR
 have CU : ∀ w1, (Chunk.row g [.string (mkS m), .int .i64 cc, .int .u32 (I32 bb), .int .u64 (I64 n), .map (some gm)]).ok w1 → _ := fun w1 RR => count_up (R := ⟨m, cc, bb, n⟩) RR
 have LU : ∀ w1, (Chunk.row g [.string (mkS m), .int .i64 cc, .int .u32 (I32 bb), .int .u64 (I64 n), .map (some gm)]).ok w1 → _ := fun w1 RR => u64Load_c ⟨g, 3, none⟩ (I64 n) w1 (rowCell RR rfl)
 have hn' : I64 n < 9223372036854775808 := by rw [qBU]; omega
 unfold ringC at KC CU
 simp only at KC CU
 obtain ⟨nn, en⟩ : ∃ nn, nn = I64 n := ⟨_, rfl⟩
 rw [← en] at hn' M NN CU LU KC CC
 replace NN := Lib.hid NN
 replace CU := Lib.hid CU
 replace LU := Lib.hid LU
 replace KC := Lib.hid KC
 replace CC := Lib.hid CC
 replace BC := Lib.hid BC
 replace N0 := Lib.hid N0
 clear eF eB ed et ek hB h hn hc en
 go_enter Tryz.func14, Tryz.ntmps14
 go_wp2_with ((first | ((with_reducible refine tGuard ?_); first | ((with_reducible refine qAC ?_ ?_); exact dcd) | ((with_reducible refine qAH ?_ ?_); exact dcd) | ((with_reducible refine qAI ?_ ?_); exact dcd)) | (go_at_call 37; (refine (NN.out _ (M.ok 0 _ rfl)).mono ?_; rintro e w1 ⟨rfl, rfl⟩)) | (go_at_call 38; (refine (LU.out _ (M.ok 0 _ rfl)).mono ?_; rintro e w1 ⟨rfl, rfl⟩)) | ((with_reducible show Code.wp _ (Code.region 6 _ _) _ _ _); (have MR := M; refine qDf (.rd 0 (.rd 1 (.rd 2 (.rd 3 (.rd 6 (.rd 7 (.rd 8 (.rd 10 (.rd 11 (.rd 12 (.rd 14 (.rd 15 (.rd 16 (.rd 4 (.rd 9 (.rd 13 (.alt 5 (.alt 17 (.rd 18 (.rd 19 (.rd 20 (.wr 21 (.wr 22 (.rd 23 .nil)))))) (.wr 21 (.wr 17 (.rd 18 (.rd 19 (.rd 20 (.wr 22 (.rd 23 .nil)))))))) (.wr 21 (.wr 5 (.wr 17 (.rd 18 (.rd 19 (.rd 20 (.wr 22 (.rd 23 .nil))))))))))))))))))))))))) [(22, .ptr), (27, .ptr), (31, .ptr)] [(4, _), (9, _), (13, _)] (IxOk MR [0]) 24 yD yD rfl yD (lowA MR 0 1 (lowA MR 0 1 (lowA MR 0 2 qAN))) (qAJ MR _) ?_; replace M := M.drew; simp only [planT, opAt, gE])) | (go_at_call 40; (first | (with_reducible refine (KC.out _ (M.ok 0 _ at0) (M.nd 0 1 _ _ yN at0 at1 g yG1) (M.ok 1 _ at1)).mono ?_; rintro e w1 ⟨rfl, K1, IK1, U⟩; replace M := M.upd 1 rfl U) | (with_reducible refine (KC.out _ (M.ok 1 _ at1) (M.nd 1 2 _ _ yN at1 at2 g yG1) (M.ok 2 _ at2)).mono ?_; rintro e w1 ⟨rfl, K1, IK1, U⟩; replace M := M.upd 2 rfl U)); clear U; simp only [setC] at M) | (go_at_call 39; (refine (CC.out _).mono ?_; rintro e w1 ⟨rfl, hb⟩; replace M := M.call hb; clear hb)) | (go_at_call 41; (refine (BC.out _).mono ?_; rintro e w1 ⟨rfl, hb⟩; replace M := M.call hb; clear hb)) | ((with_reducible refine tAlloc (some 9) 75 ?_); refine wal M _ rfl rfl (envC 0 0 0 [] zeroT) yD ?_; clear M; intro gx w1 M) | (go_at_call 42; (refine (CU.out _ (M.ok 1 _ rfl)).mono ?_; rintro e w1 ⟨rfl, U⟩; replace M := M.upd 1 rfl U; clear U; simp only [setC] at M)) | ((with_reducible refine tLoad ?_); refine w_at _ _ rfl yI ?_; intro hx; (first | refine qAu M _ _ _ rfl yL hx rfl yB yB yC ?_ | refine qAj M _ _ _ rfl yL hx rfl yB yB yC ?_); clear hx) | ((with_reducible refine tStore ?_); refine w_at2 _ _ _ rfl yE yE ?_; intro hx hy; (first | refine qAL M _ _ _ _ rfl yL hx rfl hy rfl yB yC yC ?_ | refine qAL (k := 0) (b := 0) (n := 0) (d := []) (tg := zeroT) M _ _ _ _ rfl yL hx rfl hy rfl yB qAO yC ?_ | refine qAL (tg := zeroT) M _ _ _ _ rfl yL hx rfl hy rfl yB qAO yC ?_ | refine qAd M _ _ _ _ rfl yL hx rfl hy yB yC yC ?_ | refine qAU M _ _ _ _ rfl yL hx rfl hy yB ?_ | refine qAe M _ _ _ _ rfl yL hx rfl hy yB ?_); clear hx hy M; intro w1 M; (try simp only [setC] at M)) | ((with_reducible refine tConv _ 70 9 ?_); (first | refine qAT M _ _ _ _ _ rfl rfl yL rfl yC Tryz.underlying70 Tryz.underlying5 Tryz.underlying9 ?_)) | (with_reducible refine Seg.alt ?_ ?_) | ((with_reducible refine tM rfl ?_); refine mS ?_; try (clear M; (first | intro g w1 M | intro w1 M); try simp only [setC] at M)) | ((with_reducible first | show Seg _ _ _ _ | show OnlyN _ _ _ _ _); refine rA ?_) | ((with_reducible refine tGuard ?_); refine gdC ?_ ?_ <;> (intro hgd; rw [hgd]; try (exfalso; simp at hgd; omega)))) <;> (try conv => arg 5; simp only [apS, setC]))
 all_goals
  go_ret2
  exact ⟨rfl, N0.out _ _ _ IK1 M⟩
end
end Go.Proofs.YtidadhbaomieiaaGreat
