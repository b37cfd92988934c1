/- Texts of this seat, put together: Ref18P, Frame, FrameS, FrameB, FrameZ, Once. Each begins with a remark that says what is proved in it, and under which conditions. -/
import Derived.Test.YtidadhbaomieiaaGreatY
import Derived.ProofKit
import Derived.OpenShut
import Derived.ShutString
import Derived.ChangeOld
import Derived.Below
import Derived.Deep.Slices
import Derived.ChangeArms
import Derived.Defers
import Derived.Laws.LoneSync
import Derived.RegionCalls
import Derived.ChangeAlike
import Derived.Test.YtidadhbaomieiaaGreatZa
import Derived.Test.YtidadhbaomieiaaGreatZd
import Derived.Test.YtidadhbaomieiaaGreatZf
import Derived.Test.YtidadhbaomieiaaGreatZl
import Derived.Test.YtidadhbaomieiaaGreatZr
import Derived.Test.YtidadhbaomieiaaGreatZt
import Derived.Test.YtidadhbaomieiaaGreatZu
set_option maxRecDepth 100000
set_option maxHeartbeats 16000000
namespace Go
namespace TL
theorem bytesL_of (L : Lm) : bytesL L = (if L.k = 1 then [L.k] ++ numL L.e.toNat else if L.k = 2 then [L.k] ++ numL L.e.toNat ++ numL L.p.toNat ++ textL (bytesB L.bi L.be L.ops).1 else if L.k = 3 then [L.k] ++ numL L.e.toNat ++ numL L.a.toNat ++ numL L.o.toNat
  else if L.k = 4 then [L.k] ++ numL L.e.toNat ++ numL L.a.toNat ++ numL L.o.toNat ++ L.r else if L.k = 5 then [L.k] ++ numL L.e.toNat ++ numL L.a.toNat ++ numL L.v.toNat ++ numL L.i.toNat
  else if L.k = 6 then [L.k] ++ numL L.e.toNat ++ numL L.a.toNat ++ numL L.v.toNat ++ numL L.i.toNat ++ L.lf ++ L.rt else if L.k = 7 then [L.k] ++ numL L.e.toNat ++ numL L.a.toNat ++ numL L.i.toNat ++ numL L.prs.length ++ L.prs.flatMap prBm else [L.k]) := by
 unfold bytesL fdsL
 repeat' split
 all_goals simp [Fld.put, Mf.gl, Hf.gl]
end TL
end Go
namespace Go.Proofs.YtidadhbaomieiaaGreat
open Go.RowKit Go.TL
theorem Bytes18_c (L : Lm) (ov pv : Value) (w : World) (hL : L.fit) (hr : L.rng) (S : SeesL w 3 opV ov L.ops) (T : SeesL w 2 prV pv L.prs) :
  Calls Tryz.prog 67 #[.agg (msgC (L.ms ov pv)).toArray] w fun r w' => r = .returned (.tuple #[.string (mkS (bytesM L).1), .int .i64 (bytesM L).2]) ∧ Below w.heap.size w w' := by
 have M := Mem.start [] w
 obtain ⟨op, oc, rfl, _⟩ := S.form
 obtain ⟨pp, pc, rfl, _⟩ := T.form
 have X := msg_cells (Lm.ms_fit hL (ov := .slice op L.ops.length oc) (pv := .slice pp L.prs.length pc) rfl rfl)
 have RC := fun w S T => Right18_c L (.slice op L.ops.length oc) (.slice pp L.prs.length pc) w hL hr S T
 obtain ⟨C, eC⟩ : ∃ C, C = msgC (L.ms (.slice op L.ops.length oc) (.slice pp L.prs.length pc)) := ⟨_, rfl⟩
 rw [← eC] at X RC ⊢
 clear eC
 simp only [Lm.ms] at X
 have HR1 := X.r
 have HR2 := X.lf
 have HR3 := X.rt
 obtain ⟨Nk, Ne, Na, No, Np, Nv, Ni, Npv, ⟨_, _, b1⟩, ⟨_, _, r1⟩, ⟨_, _, l1⟩, ⟨_, _, t1⟩, HLEN, _⟩ := X
 clear HR1 HR2 HR3
 replace Nk := Lib.hid Nk
 replace Ne := Lib.hid Ne
 replace Na := Lib.hid Na
 replace No := Lib.hid No
 replace Np := Lib.hid Np
 replace Nv := Lib.hid Nv
 replace Ni := Lib.hid Ni
 replace Npv := Lib.hid Npv
 have B := Lib.hid b1
 have Hr := Lib.hid r1
 have Hlf := Lib.hid l1
 have Hrt := Lib.hid t1
 have hrl := r1.2.2
 have hll := l1.2.2
 have htl := t1.2.2
 replace HLEN := Lib.hid HLEN
 clear b1 r1 l1 t1
 rcases bytesM_cases hL hr with ⟨e, he, eb⟩ | ⟨hk, ho, hs, eb⟩
 ·rw [eb] at RC ⊢
  simp only at RC ⊢
  replace RC := Lib.hid RC
  have hz : ((e : Int) == 0) = false := by simp; exact he
  have hz' : ((e : Int) != 0) = true := by simp; exact he
  clear he eb
  go_enter Tryz.func67, Tryz.ntmps67
  go_wp2_with ((first | ((with_reducible refine tGuard ?_); first | ((with_reducible refine w_stripE ?_ ?_); exact dcd) | ((with_reducible refine w_skip1 ?_ ?_); exact dcd) | ((with_reducible refine w_skip0 ?_ ?_); exact dcd)) | ((with_reducible refine tBox (some 1) ?_); refine w_box M _ _ rfl rfl _ rfl (C) rfl ?_; clear M; intro gm w1 M) | (go_at_call 102; (refine (RC.out _ (S.now M) (T.now M)).mono ?_; rintro e w1 ⟨rfl, hb⟩; replace M := M.call hb; clear hb)) | ((with_reducible refine tLoad ?_); (refine w_at _ _ rfl yI ?_; intro hx; (first | refine w_load M 0 _ _ rfl rfl hx rfl yA yG ?_ | refine w_loadA M 0 _ _ rfl rfl hx rfl yA _ _ _ B.out.1 B.out.2 yC ?_ | refine w_loadR M 0 _ _ rfl rfl hx rfl yA yR ?_); clear hx)) | ((with_reducible refine tM rfl ?_); refine mS ?_; try (clear M; (first | intro g w1 M | intro w1 M); try simp only [setC] at M))) <;> (try conv => arg 5; simp only [apS, setC]))
  go_ret2
  exact ⟨rfl, M.below⟩
 ·rw [eb] at RC ⊢
  simp only at RC ⊢
  replace RC := Lib.hid RC
  have NK := num_ok hs ho
  have PK := prs_ok hs ho
  have BK := @bat_ok L ho
  have HBL := bytesL_of L
  obtain ⟨bl, ebl⟩ : ∃ b, b = bytesL L := ⟨_, rfl⟩
  rw [← ebl] at HBL ⊢
  have ne := NK .e
  have na := NK .a
  have no := NK .o
  have np := NK .p
  have nv := NK .v
  have ni := NK .i
  simp only [Mf.gl, Mf.most] at ne na no np nv ni
  have Qe := fun w => num18_c L.e.toNat L.e yE w yE
  have le : (numL L.e.toNat).length ≤ 10 := numL_length_le _ yE
  obtain ⟨se, ee⟩ : ∃ x, x = numL L.e.toNat := ⟨_, rfl⟩
  rw [← ee] at Qe HBL le
  replace Qe := Lib.hid Qe
  clear ee
  have Qa := fun w => num18_c L.a.toNat L.a yE w yE
  have la : (numL L.a.toNat).length ≤ 10 := numL_length_le _ yE
  obtain ⟨sa, ea⟩ : ∃ x, x = numL L.a.toNat := ⟨_, rfl⟩
  rw [← ea] at Qa HBL la
  replace Qa := Lib.hid Qa
  clear ea
  have Qo := fun w => num18_c L.o.toNat L.o yE w yE
  have lo : (numL L.o.toNat).length ≤ 10 := numL_length_le _ yE
  obtain ⟨so, eo⟩ : ∃ x, x = numL L.o.toNat := ⟨_, rfl⟩
  rw [← eo] at Qo HBL lo
  replace Qo := Lib.hid Qo
  clear eo
  have Qp := fun w => num18_c L.p.toNat L.p yE w yE
  have lp : (numL L.p.toNat).length ≤ 10 := numL_length_le _ yE
  obtain ⟨sp, ep⟩ : ∃ x, x = numL L.p.toNat := ⟨_, rfl⟩
  rw [← ep] at Qp HBL lp
  replace Qp := Lib.hid Qp
  clear ep
  have Qv := fun w => num18_c L.v.toNat L.v yE w yE
  have lv : (numL L.v.toNat).length ≤ 10 := numL_length_le _ yE
  obtain ⟨sv, ev⟩ : ∃ x, x = numL L.v.toNat := ⟨_, rfl⟩
  rw [← ev] at Qv HBL lv
  replace Qv := Lib.hid Qv
  clear ev
  have Qi := fun w => num18_c L.i.toNat L.i yE w yE
  have li : (numL L.i.toNat).length ≤ 10 := numL_length_le _ yE
  obtain ⟨si, ei⟩ : ∃ x, x = numL L.i.toNat := ⟨_, rfl⟩
  rw [← ei] at Qi HBL li
  replace Qi := Lib.hid Qi
  clear ei
  have Qn := fun w => num18_c L.prs.length (L.prs.length : Int) rfl w (by have := PK.1; omega)
  obtain ⟨sn, en⟩ : ∃ x, x = numL L.prs.length := ⟨_, rfl⟩
  have ln : sn.length ≤ 10 := by rw [en]; exact numL_length_le _ (by have := PK.1; omega)
  rw [← en] at Qn HBL
  replace Qn := Lib.hid Qn
  clear en
  have YC := fun w S => rBytes_c L.bi L.be hr.be L.ops (.slice op L.ops.length oc) w S hr.o1 (fun x hx => by have := hr.o2 x hx; omega)
  have hbl := bytesB_len (i := L.bi) hr.be L.ops
  obtain ⟨⟨bb, eb2⟩, eY⟩ : ∃ Y, Y = bytesB L.bi L.be L.ops := ⟨_, rfl⟩
  rw [← eY] at YC BK hbl HBL
  simp only at YC BK hbl HBL
  clear eY
  have TB := fun w => Text01_c bb w yE
  have lb : (textL bb).length ≤ 10010 := by unfold textL; have := numL_length_le bb.length yE; simp; omega
  obtain ⟨sb, esb⟩ : ∃ x, x = textL bb := ⟨_, rfl⟩
  rw [← esb] at TB HBL lb
  replace TB := Lib.hid TB
  clear esb
  have hp2 := hr.p2
  have hp3 := hr.p3
  clear NK eb ebl ho hs hr hL ne na no np nv ni
  rcases kinds hk with hq | hq | hq | hq | hq | hq | hq
  ·have HB : bl = [1] ++ se := by rw [HBL]; simp only [hq]; rfl
   subst HB
   rw [hq] at Nk
   replace YC := Lib.hid YC
   clear HBL BK hq hk
   go_enter Tryz.func67, Tryz.ntmps67
   go_wp2_with ((first | ((with_reducible refine tGuard ?_); first | ((with_reducible refine w_stripE ?_ ?_); exact dcd) | ((with_reducible refine w_skip1 ?_ ?_); exact dcd) | ((with_reducible refine w_skip0 ?_ ?_); exact dcd)) | ((with_reducible refine tBox (some 1) ?_); refine w_box M _ _ rfl rfl _ rfl (C) rfl ?_; clear M; intro gm w1 M) | (go_at_call 102; (refine (RC.out _ (S.now M) (T.now M)).mono ?_; rintro e w1 ⟨rfl, hb⟩; replace M := M.call hb; clear hb)) | ((with_reducible show Code.wp _ (Code.region 4 _ _) _ _ _); (have MR := M; refine region_fork (.rd 0 (.rd 4 (.rd 1 (.rd 5 (.alt 2 (.alt 3 (.wr 6 (.rd 7 (.rd 8 .nil))) (.wr 6 (.wr 3 (.rd 7 (.rd 8 .nil))))) (.wr 6 (.wr 2 (.wr 3 (.rd 7 (.rd 8 .nil)))))))))) [(17, .str), (20, .str)] [(1, _), (5, _)] (IxOk MR [0]) 9 yC yC rfl yC (lows_cons (stab_ix MR 0 0 rfl rfl yN yA Nk.out) (lows_cons (stab_ix MR 0 1 rfl rfl yN yA Ne.out) lows_nil)) (ixOk_self MR _) ?_; replace M := M.drew; simp only [planT, opAt, List.getElem?_toArray, List.getElem?_cons_zero, List.getElem?_cons_succ, Option.getD_some])) | ((with_reducible show wpList _ _ _ (Oper.mk _ (Op.buildSlice 70 1 _) _ _ _ _ :: _) _ _); (refine w_buildSliceB (b := 1) M bytesT _ rfl rfl yF ?_; clear M; intro g w1 M)) | ((go_at_call 103); ((first | (with_reducible refine (Qe.out _).mono ?_) | (with_reducible refine (Qa.out _).mono ?_) | (with_reducible refine (Qo.out _).mono ?_) | (with_reducible refine (Qp.out _).mono ?_) | (with_reducible refine (Qv.out _).mono ?_) | (with_reducible refine (Qi.out _).mono ?_) | (with_reducible refine (Qn.out _).mono ?_)); rintro e w1 ⟨rfl, hb⟩; replace M := M.call hb; clear hb)) | (go_at_call 104; (refine (YC.out _ (S.now M)).mono ?_; rintro e w1 ⟨rfl, hb⟩; replace M := M.call hb; clear hb)) | (go_at_call 72; (refine (TB.out _).mono ?_; rintro e w1 ⟨rfl, hb⟩; replace M := M.call hb; clear hb)) | ((with_reducible refine tLoad ?_); (refine w_at _ _ rfl yI ?_; intro hx; (first | refine w_load M 1 _ _ rfl rfl hx rfl yA yG ?_ | refine w_loadA M 1 _ _ rfl rfl hx rfl yA _ _ _ B.out.1 B.out.2 yC ?_ | refine w_loadR M 1 _ _ rfl rfl hx rfl yA yR ?_ | refine w_load M 0 _ _ rfl rfl hx rfl yA yG ?_ | refine w_loadA M 0 _ _ rfl rfl hx rfl yA _ _ _ B.out.1 B.out.2 yC ?_ | refine w_loadR M 0 _ _ rfl rfl hx rfl yA yR ?_); clear hx)) | (with_reducible refine Seg.alt ?_ ?_) | ((with_reducible refine tM rfl ?_); refine mB ?_; try (clear M; (first | intro g w1 M | intro w1 M); try simp only [setC] at M)) | ((with_reducible first | show Seg _ _ _ _ | show OnlyN _ _ _ _ _); refine rA ?_)) <;> (try conv => arg 5; simp only [apS, setC]))
   all_goals
    go_ret2
    exact ⟨by first | rfl | simp, M.below⟩
  ·have HB : bl = [2] ++ se ++ sp ++ sb := by rw [HBL]; simp only [hq]; rfl
   subst HB
   have hb0 := (BK hq).1
   subst hb0
   rw [hq] at Nk
   replace YC := Lib.hid YC
   clear HBL BK hq hk
   go_enter Tryz.func67, Tryz.ntmps67
   go_wp2_with ((first | ((with_reducible refine tGuard ?_); first | ((with_reducible refine w_stripE ?_ ?_); exact dcd) | ((with_reducible refine w_skip1 ?_ ?_); exact dcd) | ((with_reducible refine w_skip0 ?_ ?_); exact dcd)) | ((with_reducible refine tBox (some 1) ?_); refine w_box M _ _ rfl rfl _ rfl (C) rfl ?_; clear M; intro gm w1 M) | (go_at_call 102; (refine (RC.out _ (S.now M) (T.now M)).mono ?_; rintro e w1 ⟨rfl, hb⟩; replace M := M.call hb; clear hb)) | ((with_reducible show Code.wp _ (Code.region 4 _ _) _ _ _); (have MR := M; refine region_fork (.rd 0 (.rd 4 (.rd 1 (.rd 5 (.alt 2 (.alt 3 (.wr 6 (.rd 7 (.rd 8 .nil))) (.wr 6 (.wr 3 (.rd 7 (.rd 8 .nil))))) (.wr 6 (.wr 2 (.wr 3 (.rd 7 (.rd 8 .nil)))))))))) [(17, .str), (20, .str)] [(1, _), (5, _)] (IxOk MR [0]) 9 yC yC rfl yC (lows_cons (stab_ix MR 0 0 rfl rfl yN yA Nk.out) (lows_cons (stab_ix MR 0 1 rfl rfl yN yA Ne.out) lows_nil)) (ixOk_self MR _) ?_; replace M := M.drew; simp only [planT, opAt, List.getElem?_toArray, List.getElem?_cons_zero, List.getElem?_cons_succ, Option.getD_some])) | ((with_reducible show wpList _ _ _ (Oper.mk _ (Op.buildSlice 70 1 _) _ _ _ _ :: _) _ _); (refine w_buildSliceB (b := 2) M bytesT _ rfl rfl yF ?_; clear M; intro g w1 M)) | ((go_at_call 103); ((first | (with_reducible refine (Qe.out _).mono ?_) | (with_reducible refine (Qa.out _).mono ?_) | (with_reducible refine (Qo.out _).mono ?_) | (with_reducible refine (Qp.out _).mono ?_) | (with_reducible refine (Qv.out _).mono ?_) | (with_reducible refine (Qi.out _).mono ?_) | (with_reducible refine (Qn.out _).mono ?_)); rintro e w1 ⟨rfl, hb⟩; replace M := M.call hb; clear hb)) | (go_at_call 104; (refine (YC.out _ (S.now M)).mono ?_; rintro e w1 ⟨rfl, hb⟩; replace M := M.call hb; clear hb)) | (go_at_call 72; (refine (TB.out _).mono ?_; rintro e w1 ⟨rfl, hb⟩; replace M := M.call hb; clear hb)) | ((with_reducible refine tLoad ?_); (refine w_at _ _ rfl yI ?_; intro hx; (first | refine w_load M 1 _ _ rfl rfl hx rfl yA yG ?_ | refine w_loadA M 1 _ _ rfl rfl hx rfl yA _ _ _ B.out.1 B.out.2 yC ?_ | refine w_loadR M 1 _ _ rfl rfl hx rfl yA yR ?_ | refine w_load M 0 _ _ rfl rfl hx rfl yA yG ?_ | refine w_loadA M 0 _ _ rfl rfl hx rfl yA _ _ _ B.out.1 B.out.2 yC ?_ | refine w_loadR M 0 _ _ rfl rfl hx rfl yA yR ?_); clear hx)) | (with_reducible refine Seg.alt ?_ ?_) | ((with_reducible refine tM rfl ?_); refine mB ?_; try (clear M; (first | intro g w1 M | intro w1 M); try simp only [setC] at M)) | ((with_reducible first | show Seg _ _ _ _ | show OnlyN _ _ _ _ _); refine rA ?_)) <;> (try conv => arg 5; simp only [apS, setC]))
   all_goals
    go_ret2
    exact ⟨by first | rfl | simp, M.below⟩
  ·have HB : bl = [3] ++ se ++ sa ++ so := by rw [HBL]; simp only [hq]; rfl
   subst HB
   rw [hq] at Nk
   replace YC := Lib.hid YC
   clear HBL BK hq hk
   go_enter Tryz.func67, Tryz.ntmps67
   go_wp2_with ((first | ((with_reducible refine tGuard ?_); first | ((with_reducible refine w_stripE ?_ ?_); exact dcd) | ((with_reducible refine w_skip1 ?_ ?_); exact dcd) | ((with_reducible refine w_skip0 ?_ ?_); exact dcd)) | ((with_reducible refine tBox (some 1) ?_); refine w_box M _ _ rfl rfl _ rfl (C) rfl ?_; clear M; intro gm w1 M) | (go_at_call 102; (refine (RC.out _ (S.now M) (T.now M)).mono ?_; rintro e w1 ⟨rfl, hb⟩; replace M := M.call hb; clear hb)) | ((with_reducible show Code.wp _ (Code.region 4 _ _) _ _ _); (have MR := M; refine region_fork (.rd 0 (.rd 4 (.rd 1 (.rd 5 (.alt 2 (.alt 3 (.wr 6 (.rd 7 (.rd 8 .nil))) (.wr 6 (.wr 3 (.rd 7 (.rd 8 .nil))))) (.wr 6 (.wr 2 (.wr 3 (.rd 7 (.rd 8 .nil)))))))))) [(17, .str), (20, .str)] [(1, _), (5, _)] (IxOk MR [0]) 9 yC yC rfl yC (lows_cons (stab_ix MR 0 0 rfl rfl yN yA Nk.out) (lows_cons (stab_ix MR 0 1 rfl rfl yN yA Ne.out) lows_nil)) (ixOk_self MR _) ?_; replace M := M.drew; simp only [planT, opAt, List.getElem?_toArray, List.getElem?_cons_zero, List.getElem?_cons_succ, Option.getD_some])) | ((with_reducible show Code.wp _ (Code.region 10 _ _) _ _ _); (have MR := M; refine region_lowc [(0, false), (1, false), (5, false), (2, false), (6, false), (3, true), (4, false), (7, true), (8, false), (9, false)] [(42, .str), (45, .str), (46, .str), (49, .str)] [(2, _), (6, _)] (IxOk MR [1]) 10 yC yC rfl yC (lows_cons (stab_ix MR 1 2 rfl rfl yN yA Na.out) (lows_cons (stab_ix MR 1 3 rfl rfl yN yA No.out) lows_nil)) (ixOk_self MR _) ?_; replace M := M.drew; simp only [planC, opAt, List.getElem?_toArray, List.getElem?_cons_zero, List.getElem?_cons_succ, Option.getD_some])) | ((with_reducible show wpList _ _ _ (Oper.mk _ (Op.buildSlice 70 1 _) _ _ _ _ :: _) _ _); (refine w_buildSliceB (b := 3) M bytesT _ rfl rfl yF ?_; clear M; intro g w1 M)) | ((go_at_call 103); ((first | (with_reducible refine (Qe.out _).mono ?_) | (with_reducible refine (Qa.out _).mono ?_) | (with_reducible refine (Qo.out _).mono ?_) | (with_reducible refine (Qp.out _).mono ?_) | (with_reducible refine (Qv.out _).mono ?_) | (with_reducible refine (Qi.out _).mono ?_) | (with_reducible refine (Qn.out _).mono ?_)); rintro e w1 ⟨rfl, hb⟩; replace M := M.call hb; clear hb)) | (go_at_call 104; (refine (YC.out _ (S.now M)).mono ?_; rintro e w1 ⟨rfl, hb⟩; replace M := M.call hb; clear hb)) | (go_at_call 72; (refine (TB.out _).mono ?_; rintro e w1 ⟨rfl, hb⟩; replace M := M.call hb; clear hb)) | ((with_reducible refine tLoad ?_); (refine w_at _ _ rfl yI ?_; intro hx; (first | refine w_load M 1 _ _ rfl rfl hx rfl yA yG ?_ | refine w_loadA M 1 _ _ rfl rfl hx rfl yA _ _ _ B.out.1 B.out.2 yC ?_ | refine w_loadR M 1 _ _ rfl rfl hx rfl yA yR ?_ | refine w_load M 0 _ _ rfl rfl hx rfl yA yG ?_ | refine w_loadA M 0 _ _ rfl rfl hx rfl yA _ _ _ B.out.1 B.out.2 yC ?_ | refine w_loadR M 0 _ _ rfl rfl hx rfl yA yR ?_); clear hx)) | (with_reducible refine Seg.alt ?_ ?_) | ((with_reducible refine tM rfl ?_); refine mB ?_; try (clear M; (first | intro g w1 M | intro w1 M); try simp only [setC] at M)) | ((with_reducible first | show Seg _ _ _ _ | show OnlyN _ _ _ _ _); refine rA ?_)) <;> (try conv => arg 5; simp only [apS, setC]))
   all_goals
    go_ret2
    exact ⟨by first | rfl | simp, M.below⟩
  ·have HB : bl = [4] ++ se ++ sa ++ so ++ L.r := by rw [HBL]; simp only [hq]; rfl
   subst HB
   rw [hq] at Nk
   replace YC := Lib.hid YC
   clear HBL BK hq hk
   go_enter Tryz.func67, Tryz.ntmps67
   go_wp2_with ((first | ((with_reducible refine tGuard ?_); first | ((with_reducible refine w_stripE ?_ ?_); exact dcd) | ((with_reducible refine w_skip1 ?_ ?_); exact dcd) | ((with_reducible refine w_skip0 ?_ ?_); exact dcd)) | ((with_reducible refine tBox (some 1) ?_); refine w_box M _ _ rfl rfl _ rfl (C) rfl ?_; clear M; intro gm w1 M) | (go_at_call 102; (refine (RC.out _ (S.now M) (T.now M)).mono ?_; rintro e w1 ⟨rfl, hb⟩; replace M := M.call hb; clear hb)) | ((with_reducible show Code.wp _ (Code.region 4 _ _) _ _ _); (have MR := M; refine region_fork (.rd 0 (.rd 4 (.rd 1 (.rd 5 (.alt 2 (.alt 3 (.wr 6 (.rd 7 (.rd 8 .nil))) (.wr 6 (.wr 3 (.rd 7 (.rd 8 .nil))))) (.wr 6 (.wr 2 (.wr 3 (.rd 7 (.rd 8 .nil)))))))))) [(17, .str), (20, .str)] [(1, _), (5, _)] (IxOk MR [0]) 9 yC yC rfl yC (lows_cons (stab_ix MR 0 0 rfl rfl yN yA Nk.out) (lows_cons (stab_ix MR 0 1 rfl rfl yN yA Ne.out) lows_nil)) (ixOk_self MR _) ?_; replace M := M.drew; simp only [planT, opAt, List.getElem?_toArray, List.getElem?_cons_zero, List.getElem?_cons_succ, Option.getD_some])) | ((with_reducible show Code.wp _ (Code.region 12 _ _) _ _ _); (have MR := M; refine region_lowc [(0, false), (1, false), (5, false), (9, false), (10, false), (2, false), (6, false), (11, false), (3, true), (4, false), (7, true), (8, false), (12, false), (13, false)] [(53, .str), (56, .str), (57, .str), (60, .str), (61, .str), (64, .str)] [(2, _), (6, _), (11, _)] (IxOk MR [1]) 14 yC yC rfl yC (lows_cons (stab_ix MR 1 2 rfl rfl yN yA Na.out) (lows_cons (stab_ix MR 1 3 rfl rfl yN yA No.out) (lows_cons (stab_strHf MR 1 rfl rfl yN Hr.out.1 Hr.out.2.1 Hr.out.2.2 Tryz.underlying70 Tryz.underlying5 Tryz.underlying9) lows_nil))) (ixOk_self MR _) ?_; replace M := M.drew; simp only [planC, opAt, List.getElem?_toArray, List.getElem?_cons_zero, List.getElem?_cons_succ, Option.getD_some])) | ((with_reducible show wpList _ _ _ (Oper.mk _ (Op.buildSlice 70 1 _) _ _ _ _ :: _) _ _); (refine w_buildSliceB (b := 4) M bytesT _ rfl rfl yF ?_; clear M; intro g w1 M)) | ((go_at_call 103); ((first | (with_reducible refine (Qe.out _).mono ?_) | (with_reducible refine (Qa.out _).mono ?_) | (with_reducible refine (Qo.out _).mono ?_) | (with_reducible refine (Qp.out _).mono ?_) | (with_reducible refine (Qv.out _).mono ?_) | (with_reducible refine (Qi.out _).mono ?_) | (with_reducible refine (Qn.out _).mono ?_)); rintro e w1 ⟨rfl, hb⟩; replace M := M.call hb; clear hb)) | (go_at_call 104; (refine (YC.out _ (S.now M)).mono ?_; rintro e w1 ⟨rfl, hb⟩; replace M := M.call hb; clear hb)) | (go_at_call 72; (refine (TB.out _).mono ?_; rintro e w1 ⟨rfl, hb⟩; replace M := M.call hb; clear hb)) | ((with_reducible refine tConv _ 70 9 ?_); (first | refine w_stringHf M 1 _ _ _ _ rfl rfl rfl yP Hr.out.1 Hr.out.2.1 Hr.out.2.2 Tryz.underlying70 Tryz.underlying5 Tryz.underlying9 ?_ | refine w_stringHf M 1 _ _ _ _ rfl rfl rfl yP Hlf.out.1 Hlf.out.2.1 Hlf.out.2.2 Tryz.underlying70 Tryz.underlying5 Tryz.underlying9 ?_ | refine w_stringHf M 1 _ _ _ _ rfl rfl rfl yP Hrt.out.1 Hrt.out.2.1 Hrt.out.2.2 Tryz.underlying70 Tryz.underlying5 Tryz.underlying9 ?_)) | ((with_reducible refine tLoad ?_); (refine w_at _ _ rfl yI ?_; intro hx; (first | refine w_load M 1 _ _ rfl rfl hx rfl yA yG ?_ | refine w_loadA M 1 _ _ rfl rfl hx rfl yA _ _ _ B.out.1 B.out.2 yC ?_ | refine w_loadR M 1 _ _ rfl rfl hx rfl yA yR ?_ | refine w_load M 0 _ _ rfl rfl hx rfl yA yG ?_ | refine w_loadA M 0 _ _ rfl rfl hx rfl yA _ _ _ B.out.1 B.out.2 yC ?_ | refine w_loadR M 0 _ _ rfl rfl hx rfl yA yR ?_); clear hx)) | (with_reducible refine Seg.alt ?_ ?_) | ((with_reducible refine tM rfl ?_); refine mB ?_; try (clear M; (first | intro g w1 M | intro w1 M); try simp only [setC] at M)) | ((with_reducible first | show Seg _ _ _ _ | show OnlyN _ _ _ _ _); refine rA ?_)) <;> (try conv => arg 5; simp only [apS, setC]))
   all_goals
    go_ret2
    exact ⟨by first | rfl | simp, M.below⟩
  ·have HB : bl = [5] ++ se ++ sa ++ sv ++ si := by rw [HBL]; simp only [hq]; rfl
   subst HB
   rw [hq] at Nk
   replace YC := Lib.hid YC
   clear HBL BK hq hk
   go_enter Tryz.func67, Tryz.ntmps67
   go_wp2_with ((first | ((with_reducible refine tGuard ?_); first | ((with_reducible refine w_stripE ?_ ?_); exact dcd) | ((with_reducible refine w_skip1 ?_ ?_); exact dcd) | ((with_reducible refine w_skip0 ?_ ?_); exact dcd)) | ((with_reducible refine tBox (some 1) ?_); refine w_box M _ _ rfl rfl _ rfl (C) rfl ?_; clear M; intro gm w1 M) | (go_at_call 102; (refine (RC.out _ (S.now M) (T.now M)).mono ?_; rintro e w1 ⟨rfl, hb⟩; replace M := M.call hb; clear hb)) | ((with_reducible show Code.wp _ (Code.region 4 _ _) _ _ _); (have MR := M; refine region_fork (.rd 0 (.rd 4 (.rd 1 (.rd 5 (.alt 2 (.alt 3 (.wr 6 (.rd 7 (.rd 8 .nil))) (.wr 6 (.wr 3 (.rd 7 (.rd 8 .nil))))) (.wr 6 (.wr 2 (.wr 3 (.rd 7 (.rd 8 .nil)))))))))) [(17, .str), (20, .str)] [(1, _), (5, _)] (IxOk MR [0]) 9 yC yC rfl yC (lows_cons (stab_ix MR 0 0 rfl rfl yN yA Nk.out) (lows_cons (stab_ix MR 0 1 rfl rfl yN yA Ne.out) lows_nil)) (ixOk_self MR _) ?_; replace M := M.drew; simp only [planT, opAt, List.getElem?_toArray, List.getElem?_cons_zero, List.getElem?_cons_succ, Option.getD_some])) | ((with_reducible show Code.wp _ (Code.region 14 _ _) _ _ _); (have MR := M; refine region_lowc [(0, false), (1, false), (5, false), (9, false), (2, false), (6, false), (10, false), (3, true), (4, false), (7, true), (8, false), (11, true), (12, false), (13, false)] [(68, .str), (71, .str), (72, .str), (75, .str), (76, .str), (79, .str)] [(2, _), (6, _), (10, _)] (IxOk MR [1]) 14 yC yC rfl yC (lows_cons (stab_ix MR 1 2 rfl rfl yN yA Na.out) (lows_cons (stab_ix MR 1 40 rfl rfl yN yA Nv.out) (lows_cons (stab_ix MR 1 41 rfl rfl yN yA Ni.out) lows_nil))) (ixOk_self MR _) ?_; replace M := M.drew; simp only [planC, opAt, List.getElem?_toArray, List.getElem?_cons_zero, List.getElem?_cons_succ, Option.getD_some])) | ((with_reducible show wpList _ _ _ (Oper.mk _ (Op.buildSlice 70 1 _) _ _ _ _ :: _) _ _); (refine w_buildSliceB (b := 5) M bytesT _ rfl rfl yF ?_; clear M; intro g w1 M)) | ((go_at_call 103); ((first | (with_reducible refine (Qe.out _).mono ?_) | (with_reducible refine (Qa.out _).mono ?_) | (with_reducible refine (Qo.out _).mono ?_) | (with_reducible refine (Qp.out _).mono ?_) | (with_reducible refine (Qv.out _).mono ?_) | (with_reducible refine (Qi.out _).mono ?_) | (with_reducible refine (Qn.out _).mono ?_)); rintro e w1 ⟨rfl, hb⟩; replace M := M.call hb; clear hb)) | (go_at_call 104; (refine (YC.out _ (S.now M)).mono ?_; rintro e w1 ⟨rfl, hb⟩; replace M := M.call hb; clear hb)) | (go_at_call 72; (refine (TB.out _).mono ?_; rintro e w1 ⟨rfl, hb⟩; replace M := M.call hb; clear hb)) | ((with_reducible refine tLoad ?_); (refine w_at _ _ rfl yI ?_; intro hx; (first | refine w_load M 1 _ _ rfl rfl hx rfl yA yG ?_ | refine w_loadA M 1 _ _ rfl rfl hx rfl yA _ _ _ B.out.1 B.out.2 yC ?_ | refine w_loadR M 1 _ _ rfl rfl hx rfl yA yR ?_ | refine w_load M 0 _ _ rfl rfl hx rfl yA yG ?_ | refine w_loadA M 0 _ _ rfl rfl hx rfl yA _ _ _ B.out.1 B.out.2 yC ?_ | refine w_loadR M 0 _ _ rfl rfl hx rfl yA yR ?_); clear hx)) | (with_reducible refine Seg.alt ?_ ?_) | ((with_reducible refine tM rfl ?_); refine mB ?_; try (clear M; (first | intro g w1 M | intro w1 M); try simp only [setC] at M)) | ((with_reducible first | show Seg _ _ _ _ | show OnlyN _ _ _ _ _); refine rA ?_)) <;> (try conv => arg 5; simp only [apS, setC]))
   all_goals
    go_ret2
    exact ⟨by first | rfl | simp, M.below⟩
  ·have HB : bl = [6] ++ se ++ sa ++ sv ++ si ++ L.lf ++ L.rt := by rw [HBL]; simp only [hq]; rfl
   subst HB
   rw [hq] at Nk
   replace YC := Lib.hid YC
   clear HBL BK hq hk
   go_enter Tryz.func67, Tryz.ntmps67
   go_wp2_with ((first | ((with_reducible refine tGuard ?_); first | ((with_reducible refine w_stripE ?_ ?_); exact dcd) | ((with_reducible refine w_skip1 ?_ ?_); exact dcd) | ((with_reducible refine w_skip0 ?_ ?_); exact dcd)) | ((with_reducible refine tBox (some 1) ?_); refine w_box M _ _ rfl rfl _ rfl (C) rfl ?_; clear M; intro gm w1 M) | (go_at_call 102; (refine (RC.out _ (S.now M) (T.now M)).mono ?_; rintro e w1 ⟨rfl, hb⟩; replace M := M.call hb; clear hb)) | ((with_reducible show Code.wp _ (Code.region 4 _ _) _ _ _); (have MR := M; refine region_fork (.rd 0 (.rd 4 (.rd 1 (.rd 5 (.alt 2 (.alt 3 (.wr 6 (.rd 7 (.rd 8 .nil))) (.wr 6 (.wr 3 (.rd 7 (.rd 8 .nil))))) (.wr 6 (.wr 2 (.wr 3 (.rd 7 (.rd 8 .nil)))))))))) [(17, .str), (20, .str)] [(1, _), (5, _)] (IxOk MR [0]) 9 yC yC rfl yC (lows_cons (stab_ix MR 0 0 rfl rfl yN yA Nk.out) (lows_cons (stab_ix MR 0 1 rfl rfl yN yA Ne.out) lows_nil)) (ixOk_self MR _) ?_; replace M := M.drew; simp only [planT, opAt, List.getElem?_toArray, List.getElem?_cons_zero, List.getElem?_cons_succ, Option.getD_some])) | ((with_reducible show Code.wp _ (Code.region 16 _ _) _ _ _); (have MR := M; refine region_lowc [(0, false), (1, false), (5, false), (9, false), (13, false), (14, false), (17, false), (18, false), (2, false), (6, false), (10, false), (15, false), (19, false), (3, true), (4, false), (7, true), (8, false), (11, true), (12, false), (16, false), (20, false), (21, false)] [(83, .str), (86, .str), (87, .str), (90, .str), (91, .str), (94, .str), (95, .str), (98, .str), (99, .str), (102, .str)] [(2, _), (6, _), (10, _), (15, _), (19, _)] (IxOk MR [1]) 22 yC yC rfl yC (lows_cons (stab_ix MR 1 2 rfl rfl yN yA Na.out) (lows_cons (stab_ix MR 1 40 rfl rfl yN yA Nv.out) (lows_cons (stab_ix MR 1 41 rfl rfl yN yA Ni.out) (lows_cons (stab_strHf MR 1 rfl rfl yN Hlf.out.1 Hlf.out.2.1 Hlf.out.2.2 Tryz.underlying70 Tryz.underlying5 Tryz.underlying9) (lows_cons (stab_strHf MR 1 rfl rfl yN Hrt.out.1 Hrt.out.2.1 Hrt.out.2.2 Tryz.underlying70 Tryz.underlying5 Tryz.underlying9) lows_nil))))) (ixOk_self MR _) ?_; replace M := M.drew; simp only [planC, opAt, List.getElem?_toArray, List.getElem?_cons_zero, List.getElem?_cons_succ, Option.getD_some])) | ((with_reducible show wpList _ _ _ (Oper.mk _ (Op.buildSlice 70 1 _) _ _ _ _ :: _) _ _); (refine w_buildSliceB (b := 6) M bytesT _ rfl rfl yF ?_; clear M; intro g w1 M)) | ((go_at_call 103); ((first | (with_reducible refine (Qe.out _).mono ?_) | (with_reducible refine (Qa.out _).mono ?_) | (with_reducible refine (Qo.out _).mono ?_) | (with_reducible refine (Qp.out _).mono ?_) | (with_reducible refine (Qv.out _).mono ?_) | (with_reducible refine (Qi.out _).mono ?_) | (with_reducible refine (Qn.out _).mono ?_)); rintro e w1 ⟨rfl, hb⟩; replace M := M.call hb; clear hb)) | (go_at_call 104; (refine (YC.out _ (S.now M)).mono ?_; rintro e w1 ⟨rfl, hb⟩; replace M := M.call hb; clear hb)) | (go_at_call 72; (refine (TB.out _).mono ?_; rintro e w1 ⟨rfl, hb⟩; replace M := M.call hb; clear hb)) | ((with_reducible refine tConv _ 70 9 ?_); (first | refine w_stringHf M 1 _ _ _ _ rfl rfl rfl yP Hr.out.1 Hr.out.2.1 Hr.out.2.2 Tryz.underlying70 Tryz.underlying5 Tryz.underlying9 ?_ | refine w_stringHf M 1 _ _ _ _ rfl rfl rfl yP Hlf.out.1 Hlf.out.2.1 Hlf.out.2.2 Tryz.underlying70 Tryz.underlying5 Tryz.underlying9 ?_ | refine w_stringHf M 1 _ _ _ _ rfl rfl rfl yP Hrt.out.1 Hrt.out.2.1 Hrt.out.2.2 Tryz.underlying70 Tryz.underlying5 Tryz.underlying9 ?_)) | ((with_reducible refine tLoad ?_); (refine w_at _ _ rfl yI ?_; intro hx; (first | refine w_load M 1 _ _ rfl rfl hx rfl yA yG ?_ | refine w_loadA M 1 _ _ rfl rfl hx rfl yA _ _ _ B.out.1 B.out.2 yC ?_ | refine w_loadR M 1 _ _ rfl rfl hx rfl yA yR ?_ | refine w_load M 0 _ _ rfl rfl hx rfl yA yG ?_ | refine w_loadA M 0 _ _ rfl rfl hx rfl yA _ _ _ B.out.1 B.out.2 yC ?_ | refine w_loadR M 0 _ _ rfl rfl hx rfl yA yR ?_); clear hx)) | (with_reducible refine Seg.alt ?_ ?_) | ((with_reducible refine tM rfl ?_); refine mB ?_; try (clear M; (first | intro g w1 M | intro w1 M); try simp only [setC] at M)) | ((with_reducible first | show Seg _ _ _ _ | show OnlyN _ _ _ _ _); refine rA ?_)) <;> (try conv => arg 5; simp only [apS, setC]))
   all_goals
    go_ret2
    exact ⟨by first | rfl | simp, M.below⟩
  ·have HB : bl = [7] ++ se ++ sa ++ si ++ sn ++ L.prs.flatMap prBm := by rw [HBL]; simp only [hq]; rfl
   subst HB
   rw [hq] at Nk
   replace YC := Lib.hid YC
   clear HBL BK hq hk
   go_enter Tryz.func67, Tryz.ntmps67
   go_wp2_with ((first | ((with_reducible refine tGuard ?_); first | ((with_reducible refine w_stripE ?_ ?_); exact dcd) | ((with_reducible refine w_skip1 ?_ ?_); exact dcd) | ((with_reducible refine w_skip0 ?_ ?_); exact dcd)) | ((with_reducible refine tBox (some 1) ?_); refine w_box M _ _ rfl rfl _ rfl (C) rfl ?_; clear M; intro gm w1 M) | (go_at_call 102; (refine (RC.out _ (S.now M) (T.now M)).mono ?_; rintro e w1 ⟨rfl, hb⟩; replace M := M.call hb; clear hb)) | ((with_reducible show Code.wp _ (Code.region 4 _ _) _ _ _); (have MR := M; refine region_fork (.rd 0 (.rd 4 (.rd 1 (.rd 5 (.alt 2 (.alt 3 (.wr 6 (.rd 7 (.rd 8 .nil))) (.wr 6 (.wr 3 (.rd 7 (.rd 8 .nil))))) (.wr 6 (.wr 2 (.wr 3 (.rd 7 (.rd 8 .nil)))))))))) [(17, .str), (20, .str)] [(1, _), (5, _)] (IxOk MR [0]) 9 yC yC rfl yC (lows_cons (stab_ix MR 0 0 rfl rfl yN yA Nk.out) (lows_cons (stab_ix MR 0 1 rfl rfl yN yA Ne.out) lows_nil)) (ixOk_self MR _) ?_; replace M := M.drew; simp only [planT, opAt, List.getElem?_toArray, List.getElem?_cons_zero, List.getElem?_cons_succ, Option.getD_some])) | ((with_reducible show Code.wp _ (Code.region 18 _ _) _ _ _); (have MR := M; refine region_lowc [(0, false), (1, false), (5, false), (9, false), (2, false), (6, false), (10, false), (11, false), (3, true), (4, false), (7, true), (8, false), (12, true), (13, false), (14, false)] [(106, .str), (109, .str), (110, .str), (113, .str), (114, .str), (118, .str)] [(2, _), (6, _), (10, _)] (IxOk MR [1]) 15 yC yC rfl yC (lows_cons (stab_ix MR 1 2 rfl rfl yN yA Na.out) (lows_cons (stab_ix MR 1 41 rfl rfl yN yA Ni.out) (lows_cons (stab_ix MR 1 106 rfl rfl yN yA Npv.out) lows_nil))) (ixOk_self MR _) ?_; replace M := M.drew; simp only [planC, opAt, List.getElem?_toArray, List.getElem?_cons_zero, List.getElem?_cons_succ, Option.getD_some])) | ((with_reducible show wpList _ _ _ (Oper.mk _ (Op.buildSlice 70 1 _) _ _ _ _ :: _) _ _); (refine w_buildSliceB (b := 7) M bytesT _ rfl rfl yF ?_; clear M; intro g w1 M)) | ((go_at_call 103); ((first | (with_reducible refine (Qe.out _).mono ?_) | (with_reducible refine (Qa.out _).mono ?_) | (with_reducible refine (Qo.out _).mono ?_) | (with_reducible refine (Qp.out _).mono ?_) | (with_reducible refine (Qv.out _).mono ?_) | (with_reducible refine (Qi.out _).mono ?_) | (with_reducible refine (Qn.out _).mono ?_)); rintro e w1 ⟨rfl, hb⟩; replace M := M.call hb; clear hb)) | (go_at_call 104; (refine (YC.out _ (S.now M)).mono ?_; rintro e w1 ⟨rfl, hb⟩; replace M := M.call hb; clear hb)) | (go_at_call 72; (refine (TB.out _).mono ?_; rintro e w1 ⟨rfl, hb⟩; replace M := M.call hb; clear hb)) | ((with_reducible refine tLoad ?_); (refine w_at _ _ rfl yI ?_; intro hx; (first | refine w_load M 1 _ _ rfl rfl hx rfl yA yG ?_ | refine w_loadA M 1 _ _ rfl rfl hx rfl yA _ _ _ B.out.1 B.out.2 yC ?_ | refine w_loadR M 1 _ _ rfl rfl hx rfl yA yR ?_ | refine w_load M 0 _ _ rfl rfl hx rfl yA yG ?_ | refine w_loadA M 0 _ _ rfl rfl hx rfl yA _ _ _ B.out.1 B.out.2 yC ?_ | refine w_loadR M 0 _ _ rfl rfl hx rfl yA yR ?_); clear hx)) | (with_reducible refine Seg.alt ?_ ?_) | ((with_reducible refine tM rfl ?_); refine mB ?_; try (clear M; (first | intro g w1 M | intro w1 M); try simp only [setC] at M)) | ((with_reducible first | show Seg _ _ _ _ | show OnlyN _ _ _ _ _); refine rA ?_)) <;> (try conv => arg 5; simp only [apS, setC]))
   all_goals
    obtain ⟨hd, ehd⟩ : ∃ hd, hd = [7] ++ se ++ sa ++ si ++ sn := ⟨_, rfl⟩
    have hdl : hd.length ≤ 50 := by rw [ehd]; simp only [List.length_append, List.length_cons, List.length_nil]; omega
    have EHD := Lib.hid ehd
    have HT : ∀ (k : Nat) (x : List UInt8 × List UInt8), L.prs[k]? = some x → (L.prs.take (k + 1)).flatMap prBm = (L.prs.take k).flatMap prBm ++ (textL x.1 ++ textL x.2) := fun k x hx => by
     obtain ⟨hk, rfl⟩ := List.getElem?_eq_some_iff.1 hx
     rw [List.take_succ_eq_append_getElem hk, List.flatMap_append, List.flatMap_cons, List.flatMap_nil, List.append_nil]; rfl
    have HL : ∀ k, ((L.prs.take k).flatMap prBm).length ≤ 100000 := fun k => by
     have : (L.prs.take k).flatMap prBm ++ (L.prs.drop k).flatMap prBm = L.prs.flatMap prBm := by rw [← List.flatMap_append, List.take_append_drop]
     have := congrArg List.length this
     rw [List.length_append] at this
     omega
    replace HT := Lib.hid HT
    replace HL := Lib.hid HL
    clear ehd
    go_loopw [5, 8] (fun sv iv wr => ∃ j : Nat, j ≤ L.prs.length ∧ iv = .int .i64 j ∧ sv = .string (mkS (hd ++ (L.prs.take j).flatMap prBm)) ∧ Mem [] w wr [.row g (bs [7]), .row gm C]) (fun _ iv _ => L.prs.length - (intOf iv).toNat)
    case atStart => exact ⟨0, by omega, rfl, by rw [EHD.out]; simp, M⟩
    case round =>
     clear M
     obtain ⟨j, hj, rfl, rfl, M⟩ := hrel
     have hB := HL.out j
     by_cases hlt : j < L.prs.length
     ·obtain ⟨gp, so, rfl⟩ := T.addr yE
      obtain ⟨⟨x, y⟩, hx⟩ : ∃ x, L.prs[j]? = some x := ⟨_, List.getElem?_eq_getElem hlt⟩
      obtain ⟨hx1, hy1⟩ := hp2 (x, y) (List.mem_of_getElem? hx)
      simp only at hx1 hy1
      have HT1 := HT.out j _ hx
      simp only at HT1
      have TX1 := fun w => Text01_c x w yE
      have TX2 := fun w => Text01_c y w yE
      have lx : (textL x).length ≤ 100010 := by unfold textL; have := numL_length_le x.length yE; simp; omega
      have ly : (textL y).length ≤ 100010 := by unfold textL; have := numL_length_le y.length yE; simp; omega
      obtain ⟨z, ez⟩ : ∃ z, z = hd ++ (L.prs.take j).flatMap prBm := ⟨_, rfl⟩
      have hz : z.length ≤ 100100 := by rw [ez]; simp only [List.length_append]; omega
      obtain ⟨tx, etx⟩ : ∃ t, t = textL x := ⟨_, rfl⟩
      obtain ⟨ty, ety⟩ : ∃ t, t = textL y := ⟨_, rfl⟩
      have EZ : hd ++ (L.prs.take (j + 1)).flatMap prBm = z ++ tx ++ ty := by rw [HT1, ez, etx, ety]; simp only [List.append_assoc]
      rw [← ez]
      rw [← etx] at TX1 lx
      rw [← ety] at TX2 ly
      replace EZ := Lib.hid EZ
      replace TX1 := Lib.hid TX1
      replace TX2 := Lib.hid TX2
      have HX := Lib.hid hx
      clear ez etx ety HT1 hx hB
      go_wp2_with ((first | ((with_reducible refine tGuard ?_); first | ((with_reducible refine w_stripE ?_ ?_); exact dcd) | ((with_reducible refine w_skip1 ?_ ?_); exact dcd) | ((with_reducible refine w_skip0 ?_ ?_); exact dcd)) | ((with_reducible show Code.wp _ (Code.region 22 _ _) _ _ _); (have MR := M; refine region_lowc [(0, false), (1, false), (3, false), (9, false), (11, false), (2, false), (4, false), (5, false), (6, false), (10, false), (12, false), (13, false), (14, false), (7, true), (8, false), (15, true), (16, false), (17, false)] [(127, .str), (134, .str), (135, .str), (142, .str)] [(2, _), (6, _), (10, _), (14, _)] (IxOk MR [1]) 18 yC yC rfl yC (lows_cons (stab_ix MR 1 106 rfl rfl yN yA Npv.out) (lows_cons (stab_see MR T HX.out 0 rfl yA rfl) (lows_cons (stab_ix MR 1 106 rfl rfl yN yA Npv.out) (lows_cons (stab_see MR T HX.out 1 rfl yA rfl) lows_nil)))) (ixOk_self MR _) ?_; replace M := M.drew; simp only [planC, opAt, List.getElem?_toArray, List.getElem?_cons_zero, List.getElem?_cons_succ, Option.getD_some])) | ((go_at_call 72); ((first | (with_reducible refine (TX1.out _).mono ?_) | (with_reducible refine (TX2.out _).mono ?_)); rintro e w1 ⟨rfl, hb⟩; replace M := M.call hb; clear hb)) | ((with_reducible refine tLoad ?_); (refine w_at _ _ rfl yI ?_; intro hx; (first | refine w_load M 1 _ _ rfl rfl hx rfl yA yG ?_ | refine w_loadA M 1 _ _ rfl rfl hx rfl yA _ _ _ B.out.1 B.out.2 yC ?_ | refine w_loadR M 1 _ _ rfl rfl hx rfl yA yR ?_ | refine w_see M T HX.out _ _ rfl hx rfl yA 0 yD rfl ?_ | refine w_see M T HX.out _ _ rfl hx rfl yA 1 yD rfl ?_); clear hx)) | ((with_reducible refine tM rfl ?_); refine mB ?_; try (clear M; (first | intro g w1 M | intro w1 M); try simp only [setC] at M)) | ((with_reducible first | show Seg _ _ _ _ | show OnlyN _ _ _ _ _); refine rA ?_)) <;> (try conv => arg 5; simp only [apS, setC]))
      go_roundw
      case rel => exact ⟨j + 1, by omega, by go_num, by rw [EZ.out, List.append_assoc], M⟩
      case measure => simp [intOf]; omega
     ·obtain rfl : j = L.prs.length := by omega
      rw [List.take_length]
      go_wp2_with ((first | ((with_reducible refine tGuard ?_); first | ((with_reducible refine w_stripE ?_ ?_); exact dcd) | ((with_reducible refine w_skip1 ?_ ?_); exact dcd) | ((with_reducible refine w_skip0 ?_ ?_); exact dcd)) | ((with_reducible refine tLoad ?_); (refine w_at _ _ rfl yI ?_; intro hx; (first | refine w_load M 1 _ _ rfl rfl hx rfl yA yG ?_ | refine w_loadA M 1 _ _ rfl rfl hx rfl yA _ _ _ B.out.1 B.out.2 yC ?_ | refine w_loadR M 1 _ _ rfl rfl hx rfl yA yR ?_); clear hx)) | ((with_reducible refine tM rfl ?_); refine mB ?_; try (clear M; (first | intro g w1 M | intro w1 M); try simp only [setC] at M))) <;> (try conv => arg 5; simp only [apS, setC]))
      go_ret2
      exact ⟨by rw [EHD.out]; rfl, M.below⟩
end Go.Proofs.YtidadhbaomieiaaGreat

namespace Go
namespace TL
open Go.RowKit
theorem wf_u8 {a : Int} (h : (Lit.int .u8 a).wf = true) : ∃ x : UInt8, a = I8 x := by
 have hb : IntKind.u8.min ≤ a ∧ a ≤ IntKind.u8.max := by simpa [Lit.wf] using h
 have h0 : IntKind.u8.min = 0 := by decide
 have h1 : IntKind.u8.max = 255 := by decide
 rw [h0, h1] at hb
 refine ⟨UInt8.ofNat a.toNat, ?_⟩
 rw [I8_eq, UInt8.toNat_ofNat']
 omega
theorem eq_of_cells {n : Nat} (cs : List Value) (h : ∀ i, i < n → ∃ x : UInt8, (cs.drop i).take 1 = [vb x]) (hl : cs.length = n) : ∃ l : List UInt8, l.length = n ∧ cs = l.map vb := by
 induction n generalizing cs with
 | zero => exact ⟨[], rfl, by simpa using hl⟩
 | succ n ih =>
  cases cs with
  | nil => simp at hl
  | cons c cs =>
   obtain ⟨x, hx⟩ := h 0 yE
   simp only [List.drop_zero, List.take_succ_cons, List.take_zero, List.cons.injEq, and_true] at hx
   obtain ⟨l, h1, h2⟩ := ih cs (fun i hi => by simpa using h (i + 1) yE) (by simpa using hl)
   exact ⟨x :: l, by simp [h1], by rw [hx, h2]; rfl⟩
end TL
end Go

namespace Go
namespace TL
open Go.RowKit Go.ChangeShapes Go.WideShapes Go.Deep
theorem listOf {α : Type} {p : Nat → α → Prop} : ∀ n : Nat, (∀ i, i < n → ∃ x, p i x) → ∃ l : List α, l.length = n ∧ ∀ (i : Nat) (x : α), l[i]? = some x → p i x
 | 0, _ => ⟨[], rfl, fun i x h => by simp at h⟩
 | n + 1, h => by
  obtain ⟨l, h1, h2⟩ := listOf n fun i hi => h i yE
  obtain ⟨x, hx⟩ := h n yE
  refine ⟨l ++ [x], by simp [h1], fun i y hy => ?_⟩
  by_cases hi : i < n
  ·rw [List.getElem?_append_left yE] at hy; exact h2 i y hy
  ·have hi' : i = n := by
    have := (List.getElem?_eq_some_iff.1 hy).1
    simp at this; omega
   subst hi'
   rw [List.getElem?_append_right yE, h1] at hy
   simp at hy; subst hy; exact hx
theorem lt_of_shape {w : World} {g : Nat} {x : TypeId × Nat} (h : w.shape? g = some x) : g < w.heap.size := by
 unfold World.shape? at h
 cases e : w.heap[g]? with
 | none => rw [e] at h; simp at h
 | some o => exact (Array.getElem?_eq_some_iff.1 e).1
section
variable {H : Type} {enc : TypeId × Value → H} {P : Program} {w : World} {base : Nat} {spare : Nat → Bool} {held : Bool}
theorem slice_shape {r : Reach} {b0 : Nat} {t e : TypeId} {v : Value} (ht : P.underlying t = some (.slice e)) (hv : Value.okWide P w r b0 t v) : v = .slice none 0 0 ∨ ∃ a len cap, v = .slice (some a) len cap ∧ a.spot = none ∧ a.block < w.heap.size := by
 unfold Value.okWide at hv
 rw [ht] at hv
 have hv : Cell.ok P w r b0 t v := by
  unfold Cell.okWide at hv
  rw [ht] at hv
  exact hv
 unfold Cell.ok at hv
 rw [ht] at hv
 split at hv <;> simp_all
 obtain ⟨_, _, h⟩ := hv
 unfold World.has at h
 obtain ⟨_, hs, row, cells, hsh, _⟩ := h
 exact ⟨hs, lt_of_shape hsh⟩
theorem dec_pr {e : TypeId} {f0 f1 : Field} (he : P.underlying e = some (.struct #[f0, f1])) (h0 : P.underlying f0.type = some .string) (h1 : P.underlying f1.type = some .string) (o0 : f0.offset = 0) (o1 : f1.offset = 1) (c0 : P.cellsOf f0.type = 1) (c1 : P.cellsOf f1.type = 1) :
  ∀ n cs y, cs.length = 2 → DataW.trod enc P w base spare held n e cs = some y → ∃ x : List UInt8 × List UInt8, cs = prV x ∧ (x.1.length ≤ maxLen ∧ x.2.length ≤ maxLen) := by
 intro n cs y hl h
 obtain ⟨xs, m, _, _, _, hxl, hg⟩ := DataW.trod_struct he h
 match cs, hl with
 | [a, b], _ =>
  match xs, hxl with
  | [x0, x1], _ =>
   have g0 := hg 0 f0 rfl
   have g1 := hg 1 f1 rfl
   rw [o0, c0] at g0
   rw [o1, c1] at g1
   obtain ⟨s, hs, _, hsl⟩ := DataW.trod_string h0 g0
   obtain ⟨u, hu, _, hul⟩ := DataW.trod_string h1 g1
   simp at hs hu
   obtain ⟨ls, rfl⟩ := mkS_of s
   obtain ⟨lu, rfl⟩ := mkS_of u
   rw [mkS_size] at hsl hul
   exact ⟨(ls, lu), by rw [hs, hu]; rfl, hsl, hul⟩
end
end TL
end Go

namespace Go
namespace TL
open Go.RowKit Go.ChangeShapes Go.WideShapes Go.Deep
section
variable {H : Type} {enc : TypeId × Value → H} {P : Program} {w : World} {base : Nat} {spare : Nat → Bool} {held : Bool}
theorem dec_op {e : TypeId} {f0 f1 f2 : Field} (he : P.underlying e = some (.struct #[f0, f1, f2])) (h0 : P.underlying f0.type = some (.int .u8)) (h1 : P.underlying f1.type = some .string) (h2 : P.underlying f2.type = some .string) (o0 : f0.offset = 0) (o1 : f1.offset = 1) (o2 : f2.offset = 2) (c0 : P.cellsOf f0.type = 1) (c1 : P.cellsOf f1.type = 1) (c2 : P.cellsOf f2.type = 1) :
  ∀ n cs y, cs.length = 3 → DataW.trod enc P w base spare held n e cs = some y → ∃ x : Opr, cs = opV x ∧ (x.2.1.length ≤ maxLen ∧ x.2.2.length ≤ maxLen) := by
 intro n cs y hl h
 obtain ⟨xs, m, _, _, _, hxl, hg⟩ := DataW.trod_struct he h
 match cs, hl with
 | [a, b, c], _ =>
  match xs, hxl with
  | [x0, x1, x2], _ =>
   have g0 := hg 0 f0 rfl
   have g1 := hg 1 f1 rfl
   have g2 := hg 2 f2 rfl
   rw [o0, c0] at g0
   rw [o1, c1] at g1
   rw [o2, c2] at g2
   obtain ⟨k, hk, _, hw⟩ := DataW.trod_int h0 g0
   obtain ⟨s, hs, _, hsl⟩ := DataW.trod_string h1 g1
   obtain ⟨u, hu, _, hul⟩ := DataW.trod_string h2 g2
   simp at hk hs hu
   obtain ⟨q, rfl⟩ := wf_u8 hw
   obtain ⟨ls, rfl⟩ := mkS_of s
   obtain ⟨lu, rfl⟩ := mkS_of u
   rw [mkS_size] at hsl hul
   exact ⟨(q, ls, lu), by rw [hk, hs, hu]; rfl, hsl, hul⟩
theorem wf_i64 {a : Int} (h : (Lit.int .i64 a).wf = true) : -9223372036854775808 ≤ a ∧ a ≤ 9223372036854775807 := by
 have hb : IntKind.i64.min ≤ a ∧ a ≤ IntKind.i64.max := by simpa [Lit.wf] using h
 have h0 : IntKind.i64.min = -9223372036854775808 := by decide
 have h1 : IntKind.i64.max = 9223372036854775807 := by decide
 rw [h0, h1] at hb
 exact hb
end
end TL
end Go

namespace Go
namespace TL
open Go.RowKit Go.ChangeShapes Go.WideShapes Go.Deep
section
variable {H : Type} {enc : TypeId × Value → H} {P : Program} {w : World} {base : Nat} {spare : Nat → Bool} {held : Bool}
theorem open_slz {α : Type} {f : α → List Value} {size : Nat} {good : α → Prop} {t e : TypeId} {v : Value} {d : DataW H} {p : List MemPlace} (hsp : ∀ b, spare b = true) (ht : P.underlying t = some (.slice e)) (hc : P.cellsOf e = size) (hpos : 0 < size) (hf : ∀ x, (f x).length = size)
  (hdec : ∀ n cs y, cs.length = size → DataW.trod enc P w base spare held n e cs = some y → ∃ x, cs = f x ∧ good x) (hsh : v = .slice none 0 0 ∨ ∃ a len cap, v = .slice (some a) len cap) (h : DataW.Trod enc P w base spare held t v d p) : ∃ l : List α, SeesL w size f v l ∧ ∀ x ∈ l, good x := by
 obtain ⟨fuel, hh⟩ := h
 rcases hsh with rfl | ⟨a0, len, cap, rfl⟩
 ·exact ⟨[], seesL_nil size f hf w, by simp⟩
 ·rcases open_slice ht hh with ⟨h0, _⟩ | ⟨a, len', cap', m, n, D, Pl, hcs, hb, hl, hm, hmm, hx, hi⟩
  ·simp [Value.cells] at h0
  ·simp only [Value.cells, List.cons.injEq, and_true, Value.slice.injEq, Option.some.injEq] at hcs
   obtain ⟨rfl, rfl, rfl⟩ := hcs
   rw [if_pos (hsp _)] at hmm
   subst hmm
   by_cases h0 : m = 0
   ·have h1 : len = 0 := by omega
    subst h0; subst h1
    exact ⟨[], seesL_bare size f hf w _, by simp⟩
   ·have hat0 : ∃ u, w.cell? a0 = some u := by
     obtain ⟨cs, hcells, _⟩ := hi 0 yE
     rw [hc] at hcells
     obtain ⟨_, hlen, hat⟩ := World.cells?_some hcells
     have := hat 0 hpos
     rw [List.getElem?_eq_getElem yE] at this
     exact ⟨_, by simpa [Addr.add] using this⟩
    obtain ⟨g, o, s⟩ := a0
    obtain ⟨u, hu⟩ := hat0
    have hs : s = none := by
     unfold World.cell? at hu
     split at hu
     ·split at hu
      ·cases hu
      ·rename_i hh; simpa using hh
     ·cases hu
    subst hs
    have hlt : g < w.heap.size := World.block_lt_of_cell? _ _ hu
    obtain ⟨l, h1, h2⟩ := listOf (p := fun i x => good x ∧ ∀ j, j < size → w.cell? ⟨g, o + (i * size + j), none⟩ = (f x)[j]?) len fun i hil => by
     obtain ⟨cs, hcells, htrod⟩ := hi i yE
     rw [hc] at hcells
     obtain ⟨_, hlen, hat⟩ := World.cells?_some hcells
     obtain ⟨x, rfl, hg⟩ := hdec n cs _ hlen htrod
     refine ⟨x, hg, fun j hj => ?_⟩
     rw [← hat j hj]
     congr 1
     unfold Addr.add
     by_cases hi0 : i * size = 0 <;> by_cases hj0 : j = 0 <;> simp [hi0, hj0]
     omega
    refine ⟨l, ⟨⟨by rw [flat_len hf], .inr ⟨g, o, m, by rw [h1], hlt, by omega, hm, ?_⟩⟩, hf⟩, fun x hx => ?_⟩
    ·intro j v hv
     have hjl : j < l.length * size := by have := (List.getElem?_eq_some_iff.1 hv).1; rwa [flat_len hf] at this
     have hk : j / size < l.length := Nat.div_lt_of_lt_mul (by rw [Nat.mul_comm]; exact hjl)
     obtain ⟨x, hx⟩ : ∃ x, l[j / size]? = some x := ⟨_, List.getElem?_eq_getElem hk⟩
     have hmod : j % size < size := Nat.mod_lt _ hpos
     have e : j / size * size + j % size = j := by rw [Nat.mul_comm]; exact Nat.div_add_mod j size
     have := (h2 _ x hx).2 (j % size) hmod
     rw [e] at this
     rw [this, ← flat_get hf l (j / size) x hx (j % size) hmod, e]
     exact hv
    ·obtain ⟨k, hk⟩ := List.getElem?_of_mem hx
     exact (h2 k x hk).1
end
theorem part_at {cl : List Value} {j : Nat} {c : Value} (h : cl[j]? = some c) : (cl.drop j).take 1 = [c] := by
 obtain ⟨hj, rfl⟩ := List.getElem?_eq_some_iff.1 h
 rw [List.drop_eq_getElem_cons hj]; rfl
theorem part_split (cl : List Value) (a n b : Nat) (h : a + n = b) : cl.drop a = (cl.drop a).take n ++ cl.drop b := by
 rw [← h, ← List.drop_drop, List.take_append_drop]
structure Mx where
 L : Lm
 ov : Value
 pv : Value
 fit : (L.ms ov pv).fit
def mxV (x : Mx) : List Value := msgC (x.L.ms x.ov x.pv)
theorem mxV_len (x : Mx) : (mxV x).length = 107 := msgC_len x.fit
structure MxOk (w : World) (x : Mx) : Prop where
 lfit : x.L.fit
 num : ∀ q : Mf, -9223372036854775808 ≤ q.gl x.L ∧ q.gl x.L ≤ 9223372036854775807
 be : x.L.be ≤ 9223372036854775807
 so : SeesL w 3 opV x.ov x.L.ops
 sp : SeesL w 2 prV x.pv x.L.prs
 lo : ∀ y ∈ x.L.ops, y.2.1.length ≤ maxLen ∧ y.2.2.length ≤ maxLen
 lp : ∀ y ∈ x.L.prs, y.1.length ≤ maxLen ∧ y.2.length ≤ maxLen
end TL
end Go
namespace Go.Proofs.YtidadhbaomieiaaGreat
open Go.RowKit Go.TL Go.ChangeShapes Go.WideShapes Go.Deep
section
variable {H : Type} {enc : TypeId × Value → H} {w : World} {base : Nat} {spare : Nat → Bool} {held : Bool}
theorem open_hash {m : Nat} {cs : List Value} {x : DataW H × List MemPlace} (h : DataW.trod enc Tryz.prog w base spare held m 64 cs = some x) (hl : cs.length = 32) : ∃ l : List UInt8, l.length = 32 ∧ cs = bs l := by
 obtain ⟨ys, m', _, _, _, hyl, hy⟩ := DataW.trod_array Tryz.underlying64 h
 refine eq_of_cells (n := 32) cs (fun i hin => ?_) hl
 have ce : Tryz.prog.cellsOf 5 = 1 := by kernel_rfl
 have h5 := hy i hin
 rw [ce, Nat.mul_one, List.getElem?_eq_getElem yE] at h5
 obtain ⟨k, h6, _, h7⟩ := DataW.trod_int Tryz.underlying5 h5
 obtain ⟨x, rfl⟩ := wf_u8 h7
 exact ⟨x, h6⟩
theorem dec_mx (hsp : ∀ b, spare b = true) : ∀ n cs y, cs.length = 107 → DataW.trod enc Tryz.prog w base spare held n 67 cs = some y → ∃ x : Mx, cs = mxV x ∧ MxOk w x := by
 intro fuel cl y hlen hf
 obtain ⟨xs, m, _, _, _, hxl, hg⟩ := DataW.trod_struct Tryz.underlying67 hf
 have hxl' : xs.length = 12 := hxl
 obtain ⟨x0, x1, x2, x3, x4, x5, x6, x7, x8, x9, x10, x11, rfl⟩ : ∃ a b c d e f g h i j k l, xs = [a, b, c, d, e, f, g, h, i, j, k, l] := by
  match xs, hxl' with
  | [a, b, c, d, e, f, g, h, i, j, k, l], _ => exact ⟨a, b, c, d, e, f, g, h, i, j, k, l, rfl⟩
 have c1 : Tryz.prog.cellsOf 5 = 1 := by kernel_rfl
 have c3 : Tryz.prog.cellsOf 3 = 1 := by kernel_rfl
 have cH : Tryz.prog.cellsOf 64 = 32 := by kernel_rfl
 have cB : Tryz.prog.cellsOf 63 = 3 := by kernel_rfl
 have cO : Tryz.prog.cellsOf 61 = 1 := by kernel_rfl
 have cP : Tryz.prog.cellsOf 65 = 1 := by kernel_rfl
 have g0 : DataW.trod enc Tryz.prog w base spare held m 5 ((cl.drop 0).take (Tryz.prog.cellsOf 5)) = some x0 := hg 0 _ rfl
 have g1 : DataW.trod enc Tryz.prog w base spare held m 3 ((cl.drop 1).take (Tryz.prog.cellsOf 3)) = some x1 := hg 1 _ rfl
 have g2 : DataW.trod enc Tryz.prog w base spare held m 3 ((cl.drop 2).take (Tryz.prog.cellsOf 3)) = some x2 := hg 2 _ rfl
 have g3 : DataW.trod enc Tryz.prog w base spare held m 3 ((cl.drop 3).take (Tryz.prog.cellsOf 3)) = some x3 := hg 3 _ rfl
 have g4 : DataW.trod enc Tryz.prog w base spare held m 63 ((cl.drop 4).take (Tryz.prog.cellsOf 63)) = some x4 := hg 4 _ rfl
 have g5 : DataW.trod enc Tryz.prog w base spare held m 3 ((cl.drop 7).take (Tryz.prog.cellsOf 3)) = some x5 := hg 5 _ rfl
 have g6 : DataW.trod enc Tryz.prog w base spare held m 64 ((cl.drop 8).take (Tryz.prog.cellsOf 64)) = some x6 := hg 6 _ rfl
 have g7 : DataW.trod enc Tryz.prog w base spare held m 3 ((cl.drop 40).take (Tryz.prog.cellsOf 3)) = some x7 := hg 7 _ rfl
 have g8 : DataW.trod enc Tryz.prog w base spare held m 3 ((cl.drop 41).take (Tryz.prog.cellsOf 3)) = some x8 := hg 8 _ rfl
 have g9 : DataW.trod enc Tryz.prog w base spare held m 64 ((cl.drop 42).take (Tryz.prog.cellsOf 64)) = some x9 := hg 9 _ rfl
 have g10 : DataW.trod enc Tryz.prog w base spare held m 64 ((cl.drop 74).take (Tryz.prog.cellsOf 64)) = some x10 := hg 10 _ rfl
 have g11 : DataW.trod enc Tryz.prog w base spare held m 65 ((cl.drop 106).take (Tryz.prog.cellsOf 65)) = some x11 := hg 11 _ rfl
 rw [c1] at g0
 rw [c3] at g1 g2 g3 g5 g7 g8
 rw [cH] at g6 g9 g10
 rw [cB] at g4
 rw [cP] at g11
 obtain ⟨k, hk, _, wk⟩ := DataW.trod_int Tryz.underlying5 g0
 obtain ⟨e, he, _, we⟩ := DataW.trod_int Tryz.underlying3 g1
 obtain ⟨a, ha, _, wa⟩ := DataW.trod_int Tryz.underlying3 g2
 obtain ⟨o, ho, _, wo⟩ := DataW.trod_int Tryz.underlying3 g3
 obtain ⟨pr, hpr, _, wp⟩ := DataW.trod_int Tryz.underlying3 g5
 obtain ⟨vv, hvv, _, wv⟩ := DataW.trod_int Tryz.underlying3 g7
 obtain ⟨i, hi, _, wi⟩ := DataW.trod_int Tryz.underlying3 g8
 obtain ⟨kb, rfl⟩ := wf_u8 wk
 obtain ⟨rt0, hr0, er0⟩ := open_hash g6 (by simp only [List.length_take, List.length_drop]; omega)
 obtain ⟨lf, hlf, elf⟩ := open_hash g9 (by simp only [List.length_take, List.length_drop]; omega)
 obtain ⟨rt, hrt, ert⟩ := open_hash g10 (by simp only [List.length_take, List.length_drop]; omega)
 obtain ⟨ys, mb, _, _, _, hyl, hy⟩ := DataW.trod_struct Tryz.underlying63 g4
 have hyl' : ys.length = 3 := hyl
 obtain ⟨y0, y1, y2, rfl⟩ : ∃ a b c, ys = [a, b, c] := by
  match ys, hyl' with
  | [a, b, c], _ => exact ⟨a, b, c, rfl⟩
 have b0' : DataW.trod enc Tryz.prog w base spare held mb 3 ((((cl.drop 4).take 3).drop 0).take (Tryz.prog.cellsOf 3)) = some y0 := hy 0 _ rfl
 have b1' : DataW.trod enc Tryz.prog w base spare held mb 3 ((((cl.drop 4).take 3).drop 1).take (Tryz.prog.cellsOf 3)) = some y1 := hy 1 _ rfl
 have b2' : DataW.trod enc Tryz.prog w base spare held mb 61 ((((cl.drop 4).take 3).drop 2).take (Tryz.prog.cellsOf 61)) = some y2 := hy 2 _ rfl
 rw [c3] at b0' b1'
 rw [cO] at b2'
 have q0 : (((cl.drop 4).take 3).drop 0).take 1 = (cl.drop 4).take 1 := by rw [List.drop_zero, List.take_take]; rfl
 have q1 : (((cl.drop 4).take 3).drop 1).take 1 = (cl.drop 5).take 1 := by rw [List.drop_take, List.drop_drop, List.take_take]; rfl
 have q2 : (((cl.drop 4).take 3).drop 2).take 1 = (cl.drop 6).take 1 := by rw [List.drop_take, List.drop_drop, List.take_take]; rfl
 rw [q0] at b0'
 rw [q1] at b1'
 rw [q2] at b2'
 obtain ⟨bi, hbi, _, wbi⟩ := DataW.trod_int Tryz.underlying3 b0'
 obtain ⟨be, hbe, _, wbe⟩ := DataW.trod_int Tryz.underlying3 b1'
 obtain ⟨ov, hov⟩ : ∃ c, cl[6]? = some c := ⟨_, List.getElem?_eq_getElem yE⟩
 obtain ⟨pv, hpv⟩ : ∃ c, cl[106]? = some c := ⟨_, List.getElem?_eq_getElem yE⟩
 rw [part_at hov] at b2'
 rw [part_at hpv] at g11
 have hshape : ∀ (v : Value) {t e : TypeId} {fu : Nat} {z : DataW H × List MemPlace}, Tryz.prog.underlying t = some (.slice e) → DataW.trod enc Tryz.prog w base spare held fu t [v] = some z → v = .slice none 0 0 ∨ ∃ a len cap, v = .slice (some a) len cap := fun v t e fu z ht hz => by
  rcases open_slice ht hz with ⟨h0, _⟩ | ⟨a, len, cap, _, _, _, _, hcs, _⟩
  ·exact .inl (by simpa using h0)
  ·exact .inr ⟨a, len, cap, by simpa using hcs⟩
 have hO := hshape ov Tryz.underlying61 b2'
 have hP := hshape pv Tryz.underlying65 g11
 have tO : DataW.Trod enc Tryz.prog w base spare held 61 ov y2.1 y2.2 := by
  rcases hO with rfl | ⟨_, _, _, rfl⟩ <;> exact ⟨mb, b2'⟩
 have tP : DataW.Trod enc Tryz.prog w base spare held 65 pv x11.1 x11.2 := by
  rcases hP with rfl | ⟨_, _, _, rfl⟩ <;> exact ⟨m, g11⟩
 obtain ⟨ops, SO, lO⟩ := open_slz (f := opV) hsp Tryz.underlying61 yC yN opV_len (dec_op Tryz.underlying181 Tryz.underlying5 Tryz.underlying9 Tryz.underlying9 rfl rfl rfl yC yC yC) hO tO
 obtain ⟨prs, SP, lP⟩ := open_slz (f := prV) hsp Tryz.underlying65 yC yN prV_len (dec_pr Tryz.underlying120 Tryz.underlying9 Tryz.underlying9 rfl rfl yC yC) hP tP
 have hcl : cl = msgC (Lm.ms ⟨kb, e, a, o, bi, be, ops, pr, rt0, vv, i, lf, rt, prs⟩ ov pv) := by
  have s0 := part_split cl 0 1 1 rfl
  have s1 := part_split cl 1 1 2 rfl
  have s2 := part_split cl 2 1 3 rfl
  have s3 := part_split cl 3 1 4 rfl
  have s4 := part_split cl 4 1 5 rfl
  have s5 := part_split cl 5 1 6 rfl
  have s6 := part_split cl 6 1 7 rfl
  have s7 := part_split cl 7 1 8 rfl
  have s8 := part_split cl 8 32 40 rfl
  have s40 := part_split cl 40 1 41 rfl
  have s41 := part_split cl 41 1 42 rfl
  have s42 := part_split cl 42 32 74 rfl
  have s74 := part_split cl 74 32 106 rfl
  have s106 := part_split cl 106 1 107 rfl
  rw [List.drop_of_length_le (by omega : cl.length ≤ 107), List.append_nil, part_at hpv] at s106
  rw [ert, s106] at s74
  rw [elf, s74] at s42
  rw [hi, s42] at s41
  rw [hvv, s41] at s40
  rw [er0, s40] at s8
  rw [hpr, s8] at s7
  rw [part_at hov, s7] at s6
  rw [hbe, s6] at s5
  rw [hbi, s5] at s4
  rw [ho, s4] at s3
  rw [ha, s3] at s2
  rw [he, s2] at s1
  rw [hk, s1] at s0
  rw [List.drop_zero] at s0
  rw [s0]; rfl
 have hone : ∀ v : Value, (v = .slice none 0 0 ∨ ∃ a len cap, v = .slice (some a) len cap) → v.oneCell' = true := by
  rintro v (rfl | ⟨_, _, _, rfl⟩) <;> rfl
 refine ⟨⟨⟨kb, e, a, o, bi, be, ops, pr, rt0, vv, i, lf, rt, prs⟩, ov, pv, Lm.ms_fit ⟨hr0, hlf, hrt⟩ (hone _ hO) (hone _ hP)⟩, hcl, ⟨⟨hr0, hlf, hrt⟩, fun q => ?_, (wf_i64 wbe).2, SO, SP, lO, lP⟩⟩
 cases q
 ·exact wf_i64 we
 ·exact wf_i64 wa
 ·exact wf_i64 wo
 ·exact wf_i64 wp
 ·exact wf_i64 wv
 ·exact wf_i64 wi
theorem open_mx {r : Reach} {b0 : Nat} {v : Value} {d : DataW H} {p : List MemPlace} (hsp : ∀ b, spare b = true)
  (hv : Value.okWide Tryz.prog w r b0 72 v) (h : DataW.Trod enc Tryz.prog w base spare held 72 v d p) : ∃ l : List Mx, SeesL w 107 mxV v l ∧ ∀ x ∈ l, MxOk w x :=
 open_slz (f := mxV) hsp Tryz.underlying72 yC yN mxV_len (dec_mx hsp) ((slice_shape Tryz.underlying72 hv).imp id fun ⟨a, n, c, h, _⟩ => ⟨a, n, c, h⟩) h
end
end Go.Proofs.YtidadhbaomieiaaGreat

namespace Go
namespace TL
abbrev onceR (d l : Int) (cs : List Value) : List Value := .int .u32 d :: .int .i32 l :: .int .u32 0 :: cs
end TL
end Go
namespace Go.Proofs.YtidadhbaomieiaaGreat
open Go.RowKit Go.TL
theorem raceDisable (w : World) : (callFunc 193 #[]).run Tryz.prog w = .ok (.value (.tuple #[])) w := run_call_mark0 Tryz.func193 yC yC yC .disable yC w
theorem raceEnable (w : World) : (callFunc 195 #[]).run Tryz.prog w = .ok (.value (.tuple #[])) w := run_call_mark0 Tryz.func195 yC yC yC .enable yC w
theorem raceAcquire (a : Addr) (w : World) : (callFunc 196 #[.pointer (some a)]).run Tryz.prog w = .ok (.value (.tuple #[])) w := run_call_marked Tryz.func196 yC yC yC .acquire yC a w
theorem raceMerge (a : Addr) (w : World) : (callFunc 198 #[.pointer (some a)]).run Tryz.prog w = .ok (.value (.tuple #[])) w := run_call_marked Tryz.func198 yC yC yC .releaseMerge yC a w
theorem store_deferred (a : Addr) (x : Value) (u : FrameMode) (w : World) (hc : w.cell? a = some x) (hz : w.frozen? a = false) :
  CallsD Tryz.prog 154 #[.pointer (some a), .bool true] u w fun e u' w' => u' = u ∧ (e = .returned (.tuple #[]) ∧ w' = w.drew.setCell a (.int .u32 1)) := by
 have hc' : w.drew.cell? a = some x := by go_simp
 have hz' : w.drew.frozen? a = false := by go_simp
 have hst := run_call_store (P := Tryz.prog) Tryz.func182 yC yC yC yC (k := .u32) (y := 1) hc' hz'
 go_enter_d Tryz.func154, Tryz.ntmps154
 go_wp2
 go_region_calls
 all_goals (go_end0; exact ⟨rfl, rfl⟩)
theorem unlock_deferred (a : Addr) (u : FrameMode) (w : World) (hc : w.cell? a = some (.int .i32 1)) (hz : w.frozen? a = false) :
  CallsD Tryz.prog 153 #[.pointer (some a)] u w fun e u' w' => u' = u ∧ (e = .returned (.tuple #[]) ∧ w' = w.setCell a (.int .i32 0)) := by
 have hd := raceDisable
 have he := raceEnable
 have hr := raceMerge
 have hadd := run_call_add (P := Tryz.prog) Tryz.func199 yC yC yC .i32 yC (y := -1) (s := 0) hc hz (by simp [go_sem]; rfl)
 have hcv := run_convert_to_unsafe (P := Tryz.prog) (src := 274) (dst := 278) Tryz.underlying274 Tryz.underlying278 yC hc
 go_enter_d Tryz.func153, Tryz.ntmps153
 go_wp2
 go_end0
 go_wp2
 go_end0
 exact ⟨rfl, rfl⟩
theorem lock_free (a : Addr) (w : World) (hc : w.cell? a = some (.int .i32 0)) (hz : w.frozen? a = false) :
  Calls Tryz.prog 152 #[.pointer (some a)] w fun e w' => e = .returned (.tuple #[]) ∧ w' = w.setCell a (.int .i32 1) := by
 have hd := raceDisable
 have he := raceEnable
 have ha := raceAcquire
 have hcas := run_call_cas_hit (P := Tryz.prog) Tryz.func194 yC yC yC .i32 yC (y := 1) hc hz
 have hc' : (w.setCell a (.int .i32 1)).cell? a = some (.int .i32 1) := World.cell?_setCell_same w a _ hc
 have hcv := run_convert_to_unsafe (P := Tryz.prog) (src := 274) (dst := 278) Tryz.underlying274 Tryz.underlying278 yC hc'
 go_enter Tryz.func152, Tryz.ntmps152
 go_wp2
 first | go_end0 | (simp only [Exit.inBlock, Exit.then]; refine bodyPost_ret (results_none rfl _ _ _) rfl ?_) | refine bodyPost_ret (results_none rfl _ _ _) rfl ?_
 go_wp2
 go_end0
 exact ⟨rfl, rfl⟩
theorem boolLoad_c (a : Addr) (d : Int) (w : World) (h : w.cell? a = some (.int .u32 d)) :
  Calls Tryz.prog 111 #[.pointer (some a)] w fun e w' => e = .returned (.bool (d != 0)) ∧ w' = w := by
 have hl := run_call_load (P := Tryz.prog) Tryz.func151 yC yC yC .u32 yC h
 go_enter Tryz.func111, Tryz.ntmps111
 go_wp2
 go_ret
 exact ⟨rfl, rfl⟩
theorem u64Load_c (a : Addr) (d : Int) (w : World) (h : w.cell? a = some (.int .u64 d)) :
  Calls Tryz.prog 38 #[.pointer (some a)] w fun e w' => e = .returned (.int .u64 d) ∧ w' = w := by
 have hl := run_call_load (P := Tryz.prog) Tryz.func73 yC yC yC .u64 yC h
 go_enter Tryz.func38, Tryz.ntmps38
 go_wp2
 go_ret
 exact ⟨rfl, rfl⟩
theorem u64Add_c (a : Addr) (n : UInt64) (w : World) (h : w.cell? a = some (.int .u64 (I64 n))) (hz : w.frozen? a = false) :
  Calls Tryz.prog 42 #[.pointer (some a), .int .u64 1] w fun e w' => e = .returned (.int .u64 (I64 (n + 1))) ∧ w' = w.setCell a (.int .u64 (I64 (n + 1))) := by
 have hl := run_call_add (P := Tryz.prog) Tryz.func82 yC yC yC .u64 yC (y := 1) (s := I64 (n + 1)) h hz (by simp [go_sem])
 go_enter Tryz.func42, Tryz.ntmps42
 go_wp2
 go_ret
 exact ⟨rfl, rfl⟩
section
variable {F : List Nat} {g : Nat} {cs cs' : List Value} {R : List Chunk} {w0 w : World} {p1 p2 p3 : Value} {d l : Int}
theorem Mem.frozenAt {L : List Chunk} (M : Mem F w0 w L) (i : Nat) {cs : List Value} (hi : L[i]? = some (.row g cs)) {off : Nat} (h : off < cs.length) : w.frozen? ⟨g, off, none⟩ = false := by
 have := (M.ok i _ hi).2.2 off h
 rw [Nat.zero_add] at this
 exact this.2
theorem Mem.setOff {L : List Chunk} (M : Mem F w0 w L) (i : Nat) {cs : List Value} (hi : L[i]? = some (.row g cs)) {off : Nat} (h : off < cs.length) (v : Value) : Mem F w0 (w.setCell ⟨g, off, none⟩ v) (L.set i (.row g (cs.set off v))) := M.upd i hi (upd_setCell (M.ok i _ hi) h v)
theorem lock_m (M : Mem F w0 w (.row g (onceR d 0 cs) :: R)) : Calls Tryz.prog 152 #[.pointer (some ⟨g, 1, none⟩)] w fun e w' => e = .returned (.tuple #[]) ∧ Mem F w0 w' (.row g (onceR d 1 cs) :: R) :=
 (lock_free ⟨g, 1, none⟩ w (M.cellAt 0 rfl rfl) (Mem.frozenAt M 0 rfl (by simp))).mono fun _ _ h => ⟨h.1, by rw [h.2]; exact Mem.setOff M 0 rfl (by simp) _⟩
theorem store_m (u : FrameMode) (M : Mem F w0 w (.row g (onceR 0 l cs) :: R)) : CallsD Tryz.prog 154 #[.pointer (some ⟨g, 0, none⟩), .bool true] u w fun e u' w' => u' = u ∧ (e = .returned (.tuple #[]) ∧ Mem F w0 w' (.row g (onceR 1 l cs) :: R)) :=
 (store_deferred ⟨g, 0, none⟩ _ u w (M.cellAt 0 rfl rfl) (Mem.frozenAt M 0 rfl (by simp))).mono fun _ _ _ h => ⟨h.1, h.2.1, by rw [h.2.2]; exact Mem.setOff M.drew 0 rfl (by simp) _⟩
theorem unlock_m (u : FrameMode) (M : Mem F w0 w (.row g (onceR d 1 cs) :: R)) : CallsD Tryz.prog 153 #[.pointer (some ⟨g, 1, none⟩)] u w fun e u' w' => u' = u ∧ (e = .returned (.tuple #[]) ∧ Mem F w0 w' (.row g (onceR d 0 cs) :: R)) :=
 (unlock_deferred ⟨g, 1, none⟩ u w (M.cellAt 0 rfl rfl) (Mem.frozenAt M 0 rfl (by simp))).mono fun _ _ _ h => ⟨h.1, h.2.1, by rw [h.2.2]; exact Mem.setOff M 0 rfl (by simp) _⟩
theorem slow_c (M : Mem F w0 w (.row g (onceR 0 0 cs) :: R))
  (hf : ∀ w1, Mem F w0 w1 (.row g (onceR 0 1 cs) :: R) → Calls Tryz.prog 78 #[p1, p2, p3] w1 fun e w2 => e = .returned (.tuple #[]) ∧ Mem F w0 w2 (.row g (onceR 0 1 cs') :: R)) :
  Calls Tryz.prog 112 #[.pointer (some ⟨g, 0, none⟩), .func (.func 78) #[] #[p1, p2, p3]] w fun e w' => e = .returned (.tuple #[]) ∧ Mem F w0 w' (.row g (onceR 1 0 cs') :: R) := by
 have hnot : ∀ (x : Bool) (w : World), (Op.unary .not (.bool x)).run Tryz.prog w = .ok (.bool (!x)) w := fun _ _ => rfl
 go_enter_defers Tryz.func112, Tryz.ntmps112
 go_wp2_with (first | (go_at_call 152; refine (lock_m M).mono ?_; rintro e w1 ⟨rfl, M1⟩) | (go_at_call 111; refine (boolLoad_c _ _ _ (M1.cellAt 0 rfl rfl)).mono ?_; rintro e w2 ⟨rfl, rfl⟩) | (go_at_call 78; refine (hf _ M1).mono ?_; rintro e w2 ⟨rfl, M2⟩))
 refine leaves_cons (f := 154) (args := #[.pointer (some ⟨g, 0, none⟩), .bool true]) (by simp) (by simp [go_sem]) ?_
 refine (store_m _ M2).mono ?_
 rintro e u' w3 ⟨rfl, rfl, M3⟩
 refine leaves_cons (f := 153) (args := #[.pointer (some ⟨g, 1, none⟩)]) (by simp [settle]) (by simp [go_sem]) ?_
 refine (unlock_m _ M3).mono ?_
 rintro e u' w4 ⟨rfl, rfl, M4⟩
 simp [Leaves, settle, results, Tryz.results112]
 exact M4
theorem do_first (M : Mem F w0 w (.row g (onceR 0 0 cs) :: R))
  (hf : ∀ w1, Mem F w0 w1 (.row g (onceR 0 1 cs) :: R) → Calls Tryz.prog 78 #[p1, p2, p3] w1 fun e w2 => e = .returned (.tuple #[]) ∧ Mem F w0 w2 (.row g (onceR 0 1 cs') :: R)) :
  Calls Tryz.prog 77 #[.pointer (some ⟨g, 0, none⟩), .func (.func 78) #[] #[p1, p2, p3]] w fun e w' => e = .returned (.tuple #[]) ∧ Mem F w0 w' (.row g (onceR 1 0 cs') :: R) := by
 have hnot : ∀ (x : Bool) (w : World), (Op.unary .not (.bool x)).run Tryz.prog w = .ok (.bool (!x)) w := fun _ _ => rfl
 have h0 : w.cell? ⟨g, 0, none⟩ = some (.int .u32 0) := M.cellAt 0 rfl rfl
 have hl := run_call_load (P := Tryz.prog) Tryz.func151 yC yC yC .u32 yC h0
 go_enter Tryz.func77, Tryz.ntmps77
 go_wp2_with (first | (go_at_call 112; refine (slow_c M hf).mono ?_; rintro e w' ⟨rfl, M2⟩) | (go_at_call 111; go_in))
 go_end0
 exact ⟨rfl, M2⟩
theorem do_done (hd : ¬ d = 0) (fv : Value) (h0 : w.cell? ⟨g, 0, none⟩ = some (.int .u32 d)) :
  Calls Tryz.prog 77 #[.pointer (some ⟨g, 0, none⟩), fv] w fun e w' => e = .returned (.tuple #[]) ∧ w' = w := by
 have hl := run_call_load (P := Tryz.prog) Tryz.func151 yC yC yC .u32 yC h0
 have hnot : ∀ (x : Bool) (w : World), (Op.unary .not (.bool x)).run Tryz.prog w = .ok (.bool (!x)) w := fun _ _ => rfl
 have hd' : (d != 0) = true := by simp [hd]
 go_enter Tryz.func77, Tryz.ntmps77
 go_wp2
 go_end0
 exact ⟨rfl, rfl⟩
end
end Go.Proofs.YtidadhbaomieiaaGreat
