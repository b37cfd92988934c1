/- The walk of the reference's Same, of messages. Conditions: lengths. -/
import Derived.Test.YtoaabclemeibhaaVMsgM
namespace Go.Proofs.Ytoaabclemeibhaa
open Go.RowKit Go.TL
set_option maxRecDepth 100000 in
set_option maxHeartbeats 16000000 in
theorem rSame18_c (L1 L2 : Lm) (ov pv ov' pv' : Value) (w : World) (hL : L1.fit) (hL' : L2.fit) (S : SeesL w 3 opV ov L1.ops) (T : SeesL w 2 prV pv L1.prs) (S' : SeesL w 3 opV ov' L2.ops) (T' : SeesL w 2 prV pv' L2.prs)
    (h1 : L1.ops.length ≤ 1000000) (h2 : L1.prs.length ≤ 1000000) (h3 : L2.ops.length ≤ 1000000) (h4 : L2.prs.length ≤ 1000000) :
    Calls Try.prog 13 #[.agg (msgC (L1.ms ov pv)).toArray, .agg (msgC (L2.ms ov' pv')).toArray] w fun r w' => r = .returned (.bool (decide (L1 = L2))) ∧ Below w.heap.size w w' := by
  have M := Mem.start [] w
  obtain ⟨k, e, a, o, bi, be, ops, p, r, v, i, lf, rt, prs⟩ := L1
  obtain ⟨k', e', a', o', bi', be', ops', p', r', v', i', lf', rt', prs'⟩ := L2
  dsimp only at S T S' T' h1 h2 h3 h4
  obtain ⟨op, oc, rfl, _⟩ := S.form
  obtain ⟨pp, pc, rfl, _⟩ := T.form
  obtain ⟨op', oc', rfl, _⟩ := S'.form
  obtain ⟨pp', pc', rfl, _⟩ := T'.form
  have X1 := msg_cells (Lm.ms_fit hL (ov := .slice op ops.length oc) (pv := .slice pp prs.length pc) rfl rfl)
  have X2 := msg_cells (Lm.ms_fit hL' (ov := .slice op' ops'.length oc') (pv := .slice pp' prs'.length pc') rfl rfl)
  simp only [Lm.ms] at X1 X2 ⊢
  obtain ⟨C1, e1⟩ : ∃ C, C = msgC ⟨k, e, a, o, bi, be, .slice op ops.length oc, p, r, v, i, lf, rt, .slice pp prs.length pc⟩ := ⟨_, rfl⟩
  obtain ⟨C2, e2⟩ : ∃ C, C = msgC ⟨k', e', a', o', bi', be', .slice op' ops'.length oc', p', r', v', i', lf', rt', .slice pp' prs'.length pc'⟩ := ⟨_, rfl⟩
  rw [← e1] at X1
  rw [← e2] at X2
  rw [← e1, ← e2]
  clear e1 e2 hL hL'
  obtain ⟨N1k, N1e, N1a, N1o, N1p, N1v, N1i, N1pv, ⟨_, _, b1⟩, ⟨_, _, r1⟩, ⟨_, _, l1⟩, ⟨_, _, t1⟩, c1, _⟩ := X1
  obtain ⟨N2k, N2e, N2a, N2o, N2p, N2v, N2i, N2pv, ⟨_, _, b2⟩, ⟨_, _, r2⟩, ⟨_, _, l2⟩, ⟨_, _, t2⟩, c2, _⟩ := X2
  replace N1k := Lib.hid N1k
  replace N1e := Lib.hid N1e
  replace N1a := Lib.hid N1a
  replace N1o := Lib.hid N1o
  replace N1p := Lib.hid N1p
  replace N1v := Lib.hid N1v
  replace N1i := Lib.hid N1i
  replace N1pv := Lib.hid N1pv
  have B1 := Lib.hid b1
  have H1r := Lib.hid r1
  have H1lf := Lib.hid l1
  have H1rt := Lib.hid t1
  have hr1 := r1.2.2
  have hl1 := l1.2.2
  have ht1 := t1.2.2
  clear b1 r1 l1 t1 c1
  replace N2k := Lib.hid N2k
  replace N2e := Lib.hid N2e
  replace N2a := Lib.hid N2a
  replace N2o := Lib.hid N2o
  replace N2p := Lib.hid N2p
  replace N2v := Lib.hid N2v
  replace N2i := Lib.hid N2i
  replace N2pv := Lib.hid N2pv
  have B2 := Lib.hid b2
  have H2r := Lib.hid r2
  have H2lf := Lib.hid l2
  have H2rt := Lib.hid t2
  have hr2 := r2.2.2
  have hl2 := l2.2.2
  have ht2 := t2.2.2
  clear b2 r2 l2 t2 c2
  have BS := fun w S S' => rSame_c bi be bi' be' ops ops' (.slice op ops.length oc) (.slice op' ops'.length oc') w S S' h1 h3
  have RF : ¬ ((Lm.mk k e a o bi be ops p r v i lf rt prs) = (Lm.mk k' e' a' o' bi' be' ops' p' r' v' i' lf' rt' prs')) → decide ((Lm.mk k e a o bi be ops p r v i lf rt prs) = (Lm.mk k' e' a' o' bi' be' ops' p' r' v' i' lf' rt' prs')) = false := fun h => decide_eq_false h
  have RT : (Lm.mk k e a o bi be ops p r v i lf rt prs) = (Lm.mk k' e' a' o' bi' be' ops' p' r' v' i' lf' rt' prs') → decide ((Lm.mk k e a o bi be ops p r v i lf rt prs) = (Lm.mk k' e' a' o' bi' be' ops' p' r' v' i' lf' rt' prs')) = true := fun h => decide_eq_true h
  obtain ⟨R, eR⟩ : ∃ R, R = decide ((Lm.mk k e a o bi be ops p r v i lf rt prs) = (Lm.mk k' e' a' o' bi' be' ops' p' r' v' i' lf' rt' prs')) := ⟨_, rfl⟩
  rw [← eR] at RF RT ⊢
  replace RF := Lib.hid RF
  replace RT := Lib.hid RT
  clear eR
  have hne := @eqP_ne prs prs'
  have heq := @eqP_eq prs prs'
  replace hne := Lib.hid hne
  replace heq := Lib.hid heq
  by_cases hn : prs.length = prs'.length
  · have hq : ((prs.length : Int) != (prs'.length : Int)) = false := by simp; omega
    go_enter Try.func13, Try.ntmps13
    simp only [List.append_eq, List.cons_append, List.nil_append]
    replace hn := Lib.hid hn
    go_wp2_with ((first | ((with_reducible refine tBox (some 2) ?_); refine w_box M _ _ rfl rfl _ rfl (C1) rfl ?_; clear M; intro ga w1 M) | ((with_reducible refine tBox (some 3) ?_); refine w_box M _ _ rfl rfl _ rfl (C2) rfl ?_; clear M; intro gb w1 M) | ((with_reducible refine tLoad ?_); go_must (refine w_at _ _ rfl (by exact ev_tmp rfl) ?_; intro hx; (first | refine w_load M 0 _ _ rfl rfl hx rfl (by decide +kernel) (by with_reducible first | exact N2k.out | exact N2e.out | exact N2a.out | exact N2o.out | exact N2p.out | exact N2v.out | exact N2i.out | exact N2pv.out) ?_ | refine w_loadA M 0 _ _ rfl rfl hx rfl (by decide +kernel) _ _ _ H2r.out.1 H2r.out.2.1 (by rw [bs_length, H2r.out.2.2]; kernel_rfl) ?_ | refine w_loadA M 0 _ _ rfl rfl hx rfl (by decide +kernel) _ _ _ H2lf.out.1 H2lf.out.2.1 (by rw [bs_length, H2lf.out.2.2]; kernel_rfl) ?_ | refine w_loadA M 0 _ _ rfl rfl hx rfl (by decide +kernel) _ _ _ H2rt.out.1 H2rt.out.2.1 (by rw [bs_length, H2rt.out.2.2]; kernel_rfl) ?_ | refine w_loadA M 0 _ _ rfl rfl hx rfl (by decide +kernel) _ _ _ B2.out.1 B2.out.2 (by kernel_rfl) ?_ | refine w_load M 1 _ _ rfl rfl hx rfl (by decide +kernel) (by with_reducible first | exact N1k.out | exact N1e.out | exact N1a.out | exact N1o.out | exact N1p.out | exact N1v.out | exact N1i.out | exact N1pv.out) ?_ | refine w_loadA M 1 _ _ rfl rfl hx rfl (by decide +kernel) _ _ _ H1r.out.1 H1r.out.2.1 (by rw [bs_length, H1r.out.2.2]; kernel_rfl) ?_ | refine w_loadA M 1 _ _ rfl rfl hx rfl (by decide +kernel) _ _ _ H1lf.out.1 H1lf.out.2.1 (by rw [bs_length, H1lf.out.2.2]; kernel_rfl) ?_ | refine w_loadA M 1 _ _ rfl rfl hx rfl (by decide +kernel) _ _ _ H1rt.out.1 H1rt.out.2.1 (by rw [bs_length, H1rt.out.2.2]; kernel_rfl) ?_ | refine w_loadA M 1 _ _ rfl rfl hx rfl (by decide +kernel) _ _ _ B1.out.1 B1.out.2 (by kernel_rfl) ?_); clear hx)) | ((with_reducible refine tGuard ?_); refine w_strip rfl (by with_reducible rfl) ?_) | fail | ((with_reducible refine tLoad ?_); go_must (refine w_at _ _ rfl (by exact ev_tmp rfl) ?_; intro hx; (first | refine w_load M _ _ _ rfl (by first | exact at0 | exact at1) hx rfl (by decide +kernel) (by exact rfl) ?_ | refine w_loadR M _ _ _ rfl (by first | exact at0 | exact at1) hx rfl (by decide +kernel) (by kernel_rfl) ?_); clear hx)) | ((with_reducible refine tStore ?_); go_must (refine w_at2 _ _ _ rfl (by exact ev_tmp rfl) (by first | exact ev_tmp rfl | exact ev_const) ?_; intro hx hy; (first | refine w_store M _ _ _ _ rfl (by first | exact at0 | exact at1) hx rfl hy rfl rfl (by decide +kernel) (by first | decide | simp | (simp; omega)) ?_ | refine w_storeR M _ _ _ _ rfl (by first | exact at0 | exact at1) hx rfl _ hy rfl (by kernel_rfl) (by simp [Value.oneCell']) (by first | rfl | assumption) ?_); clear hx hy M; intro w1 M; (try simp only [setC] at M))) | ((with_reducible refine tBox _ ?_); (refine w_box M _ _ rfl rfl _ rfl _ rfl ?_; clear M; intro g w1 M))) <;> (try conv => arg 5; simp only [Act.put, List.setIfInBounds_toArray, setC]))
    go_loopw [5] (fun iv wr => ∃ j : Nat, j ≤ prs.length ∧ iv = .int .i64 j ∧ Hid (∀ (n : Nat), n < j → prs[n]? = prs'[n]?) ∧ Mem [] w wr [.row gb C2, .row ga C1]) (fun iv _ => prs.length - (intOf iv).toNat)
    case atStart => exact ⟨0, by omega, rfl, Lib.hid (by omega), M⟩
    case round =>
      clear M
      obtain ⟨j, hj, rfl, HJ, M⟩ := hrel
      by_cases hlt : j < prs.length
      · obtain ⟨gp, so, rfl⟩ := T.addr (by omega)
        obtain ⟨gp', so', rfl⟩ := T'.addr (by have := hn.out; omega)
        have hkm : j < prs'.length := by have := hn.out; omega
        obtain ⟨⟨a1, b1⟩, hx⟩ : ∃ x, prs[j]? = some x := ⟨_, List.getElem?_eq_getElem hlt⟩
        obtain ⟨⟨c1, d1⟩, hy⟩ : ∃ x, prs'[j]? = some x := ⟨_, List.getElem?_eq_getElem hkm⟩
        have HX := Lib.hid hx; clear hx
        have HY := Lib.hid hy; clear hy
        by_cases hab : (a1, b1) = (c1, d1)
        · simp only [Prod.mk.injEq] at hab
          obtain ⟨rfl, rfl⟩ := hab
          go_wp2_with ((first | ((with_reducible show wpList _ _ _ (Oper.mk _ (Op.load 72 _) _ _ _ _ :: _) _ _); go_must (refine w_at _ _ rfl (by exact ev_tmp rfl) ?_; intro hx; (first | refine w_seeA M T HX.out _ _ rfl hx rfl (by decide +kernel) (by first | (with_reducible rfl) | omega) (by kernel_rfl) ?_ | refine w_seeA M T' HY.out _ _ rfl hx rfl (by decide +kernel) (by first | (with_reducible rfl) | omega) (by kernel_rfl) ?_); clear hx; (try conv => arg 5; simp only [Act.put, List.setIfInBounds_toArray, setC, prV_eq]))) | ((with_reducible show Code.wp _ (Code.region 6 _ _) _ _ _); go_must (have MR := M; refine region_lowc [(0, false), (2, false), (5, false), (7, false), (1, false), (3, false), (4, false), (6, false), (8, false), (9, false), (10, false)] [(24, .cells), (29, .cells)] [(1, _), (6, _), (4, _), (9, _)] (IxOk MR [1, 0]) 11 (by kernel_rfl) (by kernel_rfl) rfl (by kernel_rfl) (lows_cons (stab_ix MR 1 106 rfl rfl (by decide) (by decide +kernel) N1pv.out) (lows_cons (stab_ix MR 0 106 rfl rfl (by decide) (by decide +kernel) N2pv.out) (lows_cons (stab_seeA MR T HX.out rfl (by decide +kernel) (by kernel_rfl)) (lows_cons (stab_seeA MR T' HY.out rfl (by decide +kernel) (by kernel_rfl)) lows_nil)))) (ixOk_self MR _) ?_; replace M := M.drew; simp only [planC, opAt, List.getElem?_toArray, List.getElem?_cons_zero, List.getElem?_cons_succ, Option.getD_some])) | ((with_reducible refine tLoad ?_); go_must (refine w_at _ _ rfl (by exact ev_tmp rfl) ?_; intro hx; (first | refine w_load M 0 _ _ rfl rfl hx rfl (by decide +kernel) (by with_reducible first | exact N2k.out | exact N2e.out | exact N2a.out | exact N2o.out | exact N2p.out | exact N2v.out | exact N2i.out | exact N2pv.out) ?_ | refine w_loadA M 0 _ _ rfl rfl hx rfl (by decide +kernel) _ _ _ H2r.out.1 H2r.out.2.1 (by rw [bs_length, H2r.out.2.2]; kernel_rfl) ?_ | refine w_loadA M 0 _ _ rfl rfl hx rfl (by decide +kernel) _ _ _ H2lf.out.1 H2lf.out.2.1 (by rw [bs_length, H2lf.out.2.2]; kernel_rfl) ?_ | refine w_loadA M 0 _ _ rfl rfl hx rfl (by decide +kernel) _ _ _ H2rt.out.1 H2rt.out.2.1 (by rw [bs_length, H2rt.out.2.2]; kernel_rfl) ?_ | refine w_loadA M 0 _ _ rfl rfl hx rfl (by decide +kernel) _ _ _ B2.out.1 B2.out.2 (by kernel_rfl) ?_ | refine w_load M 1 _ _ rfl rfl hx rfl (by decide +kernel) (by with_reducible first | exact N1k.out | exact N1e.out | exact N1a.out | exact N1o.out | exact N1p.out | exact N1v.out | exact N1i.out | exact N1pv.out) ?_ | refine w_loadA M 1 _ _ rfl rfl hx rfl (by decide +kernel) _ _ _ H1r.out.1 H1r.out.2.1 (by rw [bs_length, H1r.out.2.2]; kernel_rfl) ?_ | refine w_loadA M 1 _ _ rfl rfl hx rfl (by decide +kernel) _ _ _ H1lf.out.1 H1lf.out.2.1 (by rw [bs_length, H1lf.out.2.2]; kernel_rfl) ?_ | refine w_loadA M 1 _ _ rfl rfl hx rfl (by decide +kernel) _ _ _ H1rt.out.1 H1rt.out.2.1 (by rw [bs_length, H1rt.out.2.2]; kernel_rfl) ?_ | refine w_loadA M 1 _ _ rfl rfl hx rfl (by decide +kernel) _ _ _ B1.out.1 B1.out.2 (by kernel_rfl) ?_); clear hx)) | ((with_reducible show Seg _ _ _ _); go_must (first | refine Seg.intro ⟨fun h => absurd rfl h, ?_⟩ | refine Seg.intro ⟨fun _ => (by repeat' (first | exact ixOk_nil M.kept | refine ixOk_cons rfl (by first | exact M.ok 0 _ rfl | exact M.ok 1 _ rfl | exact M.ok 2 _ rfl | exact M.ok 3 _ rfl) ?_)), ?_⟩ | refine Seg.intro ⟨(by repeat' (first | (with_reducible exact needs_nil) | refine needs_at rfl (by first | (show Shape.ok Shape.nums _ = true; exact nums_bs _) | rfl | (simp [Shape.ok, Shape.strict, aggV, plain1]; done)) ?_)), (by repeat' (first | (with_reducible exact ats_nil) | refine ats_cons (by first | exact ev_tmp rfl | rfl) ?_)), ?_⟩)) | ((with_reducible show OnlyN _ _ _ _ _); refine OnlyN.intro (by kernel_rfl) ?_) | ((with_reducible refine tGuard ?_); refine w_strip rfl (by with_reducible rfl) ?_) | fail | ((with_reducible refine tLoad ?_); go_must (refine w_at _ _ rfl (by exact ev_tmp rfl) ?_; intro hx; (first | refine w_load M _ _ _ rfl (by first | exact at0 | exact at1) hx rfl (by decide +kernel) (by exact rfl) ?_ | refine w_loadR M _ _ _ rfl (by first | exact at0 | exact at1) hx rfl (by decide +kernel) (by kernel_rfl) ?_); clear hx)) | ((with_reducible refine tStore ?_); go_must (refine w_at2 _ _ _ rfl (by exact ev_tmp rfl) (by first | exact ev_tmp rfl | exact ev_const) ?_; intro hx hy; (first | refine w_store M _ _ _ _ rfl (by first | exact at0 | exact at1) hx rfl hy rfl rfl (by decide +kernel) (by first | decide | simp | (simp; omega)) ?_ | refine w_storeR M _ _ _ _ rfl (by first | exact at0 | exact at1) hx rfl _ hy rfl (by kernel_rfl) (by simp [Value.oneCell']) (by first | rfl | assumption) ?_); clear hx hy M; intro w1 M; (try simp only [setC] at M))) | ((with_reducible refine tBox _ ?_); (refine w_box M _ _ rfl rfl _ rfl _ rfl ?_; clear M; intro g w1 M))) <;> (try conv => arg 5; simp only [Act.put, List.setIfInBounds_toArray, setC]))
          go_roundw
          case rel => exact ⟨j + 1, by omega, by go_num, Lib.hid fun n hn => by
            rcases Nat.lt_succ_iff_lt_or_eq.1 hn with hn | rfl
            · exact HJ.out n hn
            · exact HX.out.trans HY.out.symm, M⟩
          case measure => simp [intOf]; omega
        · have hz := hne.out j _ _ HX.out HY.out hab
          have e0 := RF.out (fun h => by injection h; subst_vars; rw [beq_self_eq_true] at hz; cases hz)
          subst e0
          clear hz
          have hab := Lib.hid (prV_ne hab)
          go_wp2_with ((first | ((with_reducible show wpList _ _ _ (Oper.mk _ (Op.load 72 _) _ _ _ _ :: _) _ _); go_must (refine w_at _ _ rfl (by exact ev_tmp rfl) ?_; intro hx; (first | refine w_seeA M T HX.out _ _ rfl hx rfl (by decide +kernel) (by first | (with_reducible rfl) | omega) (by kernel_rfl) ?_ | refine w_seeA M T' HY.out _ _ rfl hx rfl (by decide +kernel) (by first | (with_reducible rfl) | omega) (by kernel_rfl) ?_); clear hx; (try conv => arg 5; simp only [Act.put, List.setIfInBounds_toArray, setC, prV_eq]))) | ((with_reducible show Code.wp _ (Code.region 6 _ _) _ _ _); go_must (have MR := M; refine region_lowc [(0, false), (2, false), (5, false), (7, false), (1, false), (3, false), (4, false), (6, false), (8, false), (9, false), (10, false)] [(24, .cells), (29, .cells)] [(1, _), (6, _), (4, _), (9, _)] (IxOk MR [1, 0]) 11 (by kernel_rfl) (by kernel_rfl) rfl (by kernel_rfl) (lows_cons (stab_ix MR 1 106 rfl rfl (by decide) (by decide +kernel) N1pv.out) (lows_cons (stab_ix MR 0 106 rfl rfl (by decide) (by decide +kernel) N2pv.out) (lows_cons (stab_seeA MR T HX.out rfl (by decide +kernel) (by kernel_rfl)) (lows_cons (stab_seeA MR T' HY.out rfl (by decide +kernel) (by kernel_rfl)) lows_nil)))) (ixOk_self MR _) ?_; replace M := M.drew; simp only [planC, opAt, List.getElem?_toArray, List.getElem?_cons_zero, List.getElem?_cons_succ, Option.getD_some])) | ((with_reducible refine tLoad ?_); go_must (refine w_at _ _ rfl (by exact ev_tmp rfl) ?_; intro hx; (first | refine w_load M 0 _ _ rfl rfl hx rfl (by decide +kernel) (by with_reducible first | exact N2k.out | exact N2e.out | exact N2a.out | exact N2o.out | exact N2p.out | exact N2v.out | exact N2i.out | exact N2pv.out) ?_ | refine w_loadA M 0 _ _ rfl rfl hx rfl (by decide +kernel) _ _ _ H2r.out.1 H2r.out.2.1 (by rw [bs_length, H2r.out.2.2]; kernel_rfl) ?_ | refine w_loadA M 0 _ _ rfl rfl hx rfl (by decide +kernel) _ _ _ H2lf.out.1 H2lf.out.2.1 (by rw [bs_length, H2lf.out.2.2]; kernel_rfl) ?_ | refine w_loadA M 0 _ _ rfl rfl hx rfl (by decide +kernel) _ _ _ H2rt.out.1 H2rt.out.2.1 (by rw [bs_length, H2rt.out.2.2]; kernel_rfl) ?_ | refine w_loadA M 0 _ _ rfl rfl hx rfl (by decide +kernel) _ _ _ B2.out.1 B2.out.2 (by kernel_rfl) ?_ | refine w_load M 1 _ _ rfl rfl hx rfl (by decide +kernel) (by with_reducible first | exact N1k.out | exact N1e.out | exact N1a.out | exact N1o.out | exact N1p.out | exact N1v.out | exact N1i.out | exact N1pv.out) ?_ | refine w_loadA M 1 _ _ rfl rfl hx rfl (by decide +kernel) _ _ _ H1r.out.1 H1r.out.2.1 (by rw [bs_length, H1r.out.2.2]; kernel_rfl) ?_ | refine w_loadA M 1 _ _ rfl rfl hx rfl (by decide +kernel) _ _ _ H1lf.out.1 H1lf.out.2.1 (by rw [bs_length, H1lf.out.2.2]; kernel_rfl) ?_ | refine w_loadA M 1 _ _ rfl rfl hx rfl (by decide +kernel) _ _ _ H1rt.out.1 H1rt.out.2.1 (by rw [bs_length, H1rt.out.2.2]; kernel_rfl) ?_ | refine w_loadA M 1 _ _ rfl rfl hx rfl (by decide +kernel) _ _ _ B1.out.1 B1.out.2 (by kernel_rfl) ?_); clear hx)) | ((with_reducible show Seg _ _ _ _); go_must (first | refine Seg.intro ⟨fun h => absurd rfl h, ?_⟩ | refine Seg.intro ⟨fun _ => (by repeat' (first | exact ixOk_nil M.kept | refine ixOk_cons rfl (by first | exact M.ok 0 _ rfl | exact M.ok 1 _ rfl | exact M.ok 2 _ rfl | exact M.ok 3 _ rfl) ?_)), ?_⟩ | refine Seg.intro ⟨(by repeat' (first | (with_reducible exact needs_nil) | refine needs_at rfl (by first | (show Shape.ok Shape.nums _ = true; exact nums_bs _) | rfl | (simp [Shape.ok, Shape.strict, aggV, plain1]; done)) ?_)), (by repeat' (first | (with_reducible exact ats_nil) | refine ats_cons (by first | exact ev_tmp rfl | rfl) ?_)), ?_⟩)) | ((with_reducible show OnlyN _ _ _ _ _); refine OnlyN.intro (by kernel_rfl) ?_) | ((with_reducible refine tGuard ?_); refine w_strip rfl (by with_reducible rfl) ?_) | fail | ((with_reducible refine tLoad ?_); go_must (refine w_at _ _ rfl (by exact ev_tmp rfl) ?_; intro hx; (first | refine w_load M _ _ _ rfl (by first | exact at0 | exact at1) hx rfl (by decide +kernel) (by exact rfl) ?_ | refine w_loadR M _ _ _ rfl (by first | exact at0 | exact at1) hx rfl (by decide +kernel) (by kernel_rfl) ?_); clear hx)) | ((with_reducible refine tStore ?_); go_must (refine w_at2 _ _ _ rfl (by exact ev_tmp rfl) (by first | exact ev_tmp rfl | exact ev_const) ?_; intro hx hy; (first | refine w_store M _ _ _ _ rfl (by first | exact at0 | exact at1) hx rfl hy rfl rfl (by decide +kernel) (by first | decide | simp | (simp; omega)) ?_ | refine w_storeR M _ _ _ _ rfl (by first | exact at0 | exact at1) hx rfl _ hy rfl (by kernel_rfl) (by simp [Value.oneCell']) (by first | rfl | assumption) ?_); clear hx hy M; intro w1 M; (try simp only [setC] at M))) | ((with_reducible refine tBox _ ?_); (refine w_box M _ _ rfl rfl _ rfl _ rfl ?_; clear M; intro g w1 M))) <;> (try conv => arg 5; simp only [Act.put, List.setIfInBounds_toArray, setC]))
          all_goals (first | exact absurd ⟨‹a1 = c1›, ‹b1 = d1›⟩ hab.out | (go_ret; exact ⟨rfl, M.below⟩))
      · obtain rfl : j = prs.length := by omega
        have hz : (prs == prs') = true := heq.out hn.out HJ.out
        have hp : prs = prs' := beq_iff_eq.1 hz
        clear hz HJ
        have hkm : ¬ prs.length < prs.length := by omega
        rcases ref_first k k' e a o bi be e' a' o' bi' be' p v i p' v' i' ops ops' r lf rt r' lf' rt' prs prs' with hc | ⟨rfl, hc⟩ | ⟨rfl, rfl, hc⟩ | ⟨rfl, rfl, rfl, hc⟩ | ⟨rfl, rfl, rfl, rfl, hc⟩ | ⟨rfl, rfl, rfl, rfl, ⟨rfl, rfl, rfl⟩, hc⟩ | ⟨rfl, rfl, rfl, rfl, ⟨rfl, rfl, rfl⟩, rfl, hc⟩ | ⟨rfl, rfl, rfl, rfl, ⟨rfl, rfl, rfl⟩, rfl, rfl, hc⟩ | ⟨rfl, rfl, rfl, rfl, ⟨rfl, rfl, rfl⟩, rfl, rfl, rfl, hc⟩ | ⟨rfl, rfl, rfl, rfl, ⟨rfl, rfl, rfl⟩, rfl, rfl, rfl, rfl, hc⟩ | ⟨rfl, rfl, rfl, rfl, ⟨rfl, rfl, rfl⟩, rfl, rfl, rfl, rfl, rfl, hc⟩ | ⟨rfl, rfl, rfl, rfl, ⟨rfl, rfl, rfl⟩, rfl, rfl, rfl, rfl, rfl, rfl⟩
        all_goals
          first
            | (have e0 : R = false := RF.out (fun h => by injection h; first | exact hc (by assumption) | exact hc (congrArg I8 (by assumption)) | (subst_vars; rw [sameB_iff.2 ⟨rfl, rfl, rfl⟩] at hc; cases hc)))
            | (have e0 : R = true := RT.out (by rw [hp]))
          subst e0
          (try rw [sameB_iff.2 ⟨rfl, rfl, rfl⟩] at BS)
          (try rw [hc] at BS)
          (try have hc' := beq_eq_false_iff_ne.2 hc)
          (try clear hc)
          replace BS := Lib.hid BS
          clear hp
          go_wp2_with ((first | ((with_reducible refine tGuard ?_); (with_reducible refine w_stripE ?_ ?_); (focus (refine ⟨_, rfl, ?_⟩; first | (with_reducible rfl) | exact decide_eq_false (by omega) | exact decide_eq_true (by omega)))) | ((with_reducible refine tGuard ?_); first | ((with_reducible refine w_skip1 ?_ ?_); (focus (refine ⟨_, rfl, ?_⟩; first | (with_reducible rfl) | exact decide_eq_false (by omega) | exact decide_eq_true (by omega)))) | ((with_reducible refine w_skip0 ?_ ?_); (focus (refine ⟨_, rfl, ?_⟩; first | (with_reducible rfl) | exact decide_eq_false (by omega) | exact decide_eq_true (by omega))))) | ((with_reducible refine tLoad ?_); go_must (refine w_at _ _ rfl (by exact ev_tmp rfl) ?_; intro hx; (first | refine w_load M 0 _ _ rfl rfl hx rfl (by decide +kernel) (by with_reducible first | exact N2k.out | exact N2e.out | exact N2a.out | exact N2o.out | exact N2p.out | exact N2v.out | exact N2i.out | exact N2pv.out) ?_ | refine w_loadA M 0 _ _ rfl rfl hx rfl (by decide +kernel) _ _ _ H2r.out.1 H2r.out.2.1 (by rw [bs_length, H2r.out.2.2]; kernel_rfl) ?_ | refine w_loadA M 0 _ _ rfl rfl hx rfl (by decide +kernel) _ _ _ H2lf.out.1 H2lf.out.2.1 (by rw [bs_length, H2lf.out.2.2]; kernel_rfl) ?_ | refine w_loadA M 0 _ _ rfl rfl hx rfl (by decide +kernel) _ _ _ H2rt.out.1 H2rt.out.2.1 (by rw [bs_length, H2rt.out.2.2]; kernel_rfl) ?_ | refine w_loadA M 0 _ _ rfl rfl hx rfl (by decide +kernel) _ _ _ B2.out.1 B2.out.2 (by kernel_rfl) ?_ | refine w_load M 1 _ _ rfl rfl hx rfl (by decide +kernel) (by with_reducible first | exact N1k.out | exact N1e.out | exact N1a.out | exact N1o.out | exact N1p.out | exact N1v.out | exact N1i.out | exact N1pv.out) ?_ | refine w_loadA M 1 _ _ rfl rfl hx rfl (by decide +kernel) _ _ _ H1r.out.1 H1r.out.2.1 (by rw [bs_length, H1r.out.2.2]; kernel_rfl) ?_ | refine w_loadA M 1 _ _ rfl rfl hx rfl (by decide +kernel) _ _ _ H1lf.out.1 H1lf.out.2.1 (by rw [bs_length, H1lf.out.2.2]; kernel_rfl) ?_ | refine w_loadA M 1 _ _ rfl rfl hx rfl (by decide +kernel) _ _ _ H1rt.out.1 H1rt.out.2.1 (by rw [bs_length, H1rt.out.2.2]; kernel_rfl) ?_ | refine w_loadA M 1 _ _ rfl rfl hx rfl (by decide +kernel) _ _ _ B1.out.1 B1.out.2 (by kernel_rfl) ?_); clear hx)) | (go_at_call 31; go_must (refine (BS.out _ (S.now M) (S'.now M)).mono ?_; rintro e w1 ⟨rfl, hb⟩; replace M := M.call hb; clear hb)) | ((with_reducible refine tGuard ?_); refine w_strip rfl (by with_reducible rfl) ?_) | fail | ((with_reducible refine tLoad ?_); go_must (refine w_at _ _ rfl (by exact ev_tmp rfl) ?_; intro hx; (first | refine w_load M _ _ _ rfl (by first | exact at0 | exact at1) hx rfl (by decide +kernel) (by exact rfl) ?_ | refine w_loadR M _ _ _ rfl (by first | exact at0 | exact at1) hx rfl (by decide +kernel) (by kernel_rfl) ?_); clear hx)) | ((with_reducible refine tStore ?_); go_must (refine w_at2 _ _ _ rfl (by exact ev_tmp rfl) (by first | exact ev_tmp rfl | exact ev_const) ?_; intro hx hy; (first | refine w_store M _ _ _ _ rfl (by first | exact at0 | exact at1) hx rfl hy rfl rfl (by decide +kernel) (by first | decide | simp | (simp; omega)) ?_ | refine w_storeR M _ _ _ _ rfl (by first | exact at0 | exact at1) hx rfl _ hy rfl (by kernel_rfl) (by simp [Value.oneCell']) (by first | rfl | assumption) ?_); clear hx hy M; intro w1 M; (try simp only [setC] at M))) | ((with_reducible refine tBox _ ?_); (refine w_box M _ _ rfl rfl _ rfl _ rfl ?_; clear M; intro g w1 M))) <;> (try conv => arg 5; simp only [Act.put, List.setIfInBounds_toArray, setC]))
          go_ret
          exact ⟨by first | rfl | simp, M.below⟩
  · have e0 := RF.out (fun h => by injection h; subst_vars; exact hn rfl)
    subst e0
    have hq : ((prs.length : Int) != (prs'.length : Int)) = true := by simp; omega
    go_enter Try.func13, Try.ntmps13
    go_wp2_with ((first | ((with_reducible refine tBox (some 2) ?_); refine w_box M _ _ rfl rfl _ rfl (C1) rfl ?_; clear M; intro ga w1 M) | ((with_reducible refine tBox (some 3) ?_); refine w_box M _ _ rfl rfl _ rfl (C2) rfl ?_; clear M; intro gb w1 M) | ((with_reducible refine tLoad ?_); go_must (refine w_at _ _ rfl (by exact ev_tmp rfl) ?_; intro hx; (first | refine w_load M 0 _ _ rfl rfl hx rfl (by decide +kernel) (by with_reducible first | exact N2k.out | exact N2e.out | exact N2a.out | exact N2o.out | exact N2p.out | exact N2v.out | exact N2i.out | exact N2pv.out) ?_ | refine w_loadA M 0 _ _ rfl rfl hx rfl (by decide +kernel) _ _ _ H2r.out.1 H2r.out.2.1 (by rw [bs_length, H2r.out.2.2]; kernel_rfl) ?_ | refine w_loadA M 0 _ _ rfl rfl hx rfl (by decide +kernel) _ _ _ H2lf.out.1 H2lf.out.2.1 (by rw [bs_length, H2lf.out.2.2]; kernel_rfl) ?_ | refine w_loadA M 0 _ _ rfl rfl hx rfl (by decide +kernel) _ _ _ H2rt.out.1 H2rt.out.2.1 (by rw [bs_length, H2rt.out.2.2]; kernel_rfl) ?_ | refine w_loadA M 0 _ _ rfl rfl hx rfl (by decide +kernel) _ _ _ B2.out.1 B2.out.2 (by kernel_rfl) ?_ | refine w_load M 1 _ _ rfl rfl hx rfl (by decide +kernel) (by with_reducible first | exact N1k.out | exact N1e.out | exact N1a.out | exact N1o.out | exact N1p.out | exact N1v.out | exact N1i.out | exact N1pv.out) ?_ | refine w_loadA M 1 _ _ rfl rfl hx rfl (by decide +kernel) _ _ _ H1r.out.1 H1r.out.2.1 (by rw [bs_length, H1r.out.2.2]; kernel_rfl) ?_ | refine w_loadA M 1 _ _ rfl rfl hx rfl (by decide +kernel) _ _ _ H1lf.out.1 H1lf.out.2.1 (by rw [bs_length, H1lf.out.2.2]; kernel_rfl) ?_ | refine w_loadA M 1 _ _ rfl rfl hx rfl (by decide +kernel) _ _ _ H1rt.out.1 H1rt.out.2.1 (by rw [bs_length, H1rt.out.2.2]; kernel_rfl) ?_ | refine w_loadA M 1 _ _ rfl rfl hx rfl (by decide +kernel) _ _ _ B1.out.1 B1.out.2 (by kernel_rfl) ?_); clear hx)) | ((with_reducible refine tGuard ?_); refine w_strip rfl (by with_reducible rfl) ?_) | fail | ((with_reducible refine tLoad ?_); go_must (refine w_at _ _ rfl (by exact ev_tmp rfl) ?_; intro hx; (first | refine w_load M _ _ _ rfl (by first | exact at0 | exact at1) hx rfl (by decide +kernel) (by exact rfl) ?_ | refine w_loadR M _ _ _ rfl (by first | exact at0 | exact at1) hx rfl (by decide +kernel) (by kernel_rfl) ?_); clear hx)) | ((with_reducible refine tStore ?_); go_must (refine w_at2 _ _ _ rfl (by exact ev_tmp rfl) (by first | exact ev_tmp rfl | exact ev_const) ?_; intro hx hy; (first | refine w_store M _ _ _ _ rfl (by first | exact at0 | exact at1) hx rfl hy rfl rfl (by decide +kernel) (by first | decide | simp | (simp; omega)) ?_ | refine w_storeR M _ _ _ _ rfl (by first | exact at0 | exact at1) hx rfl _ hy rfl (by kernel_rfl) (by simp [Value.oneCell']) (by first | rfl | assumption) ?_); clear hx hy M; intro w1 M; (try simp only [setC] at M))) | ((with_reducible refine tBox _ ?_); (refine w_box M _ _ rfl rfl _ rfl _ rfl ?_; clear M; intro g w1 M))) <;> (try conv => arg 5; simp only [Act.put, List.setIfInBounds_toArray, setC]))
    go_ret
    exact ⟨rfl, M.below⟩
end Go.Proofs.Ytoaabclemeibhaa
