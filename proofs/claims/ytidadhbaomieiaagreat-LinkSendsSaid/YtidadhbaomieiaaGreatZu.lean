/- Texts of this seat, put together: Ref18Ra, Ref18R, Ref01B, Ref18N. Each begins with a remark that says what is proved in it, and under which conditions. -/
import Derived.Test.YtidadhbaomieiaaGreatY
import Derived.Test.YtidadhbaomieiaaGreatZg
import Derived.Test.YtidadhbaomieiaaGreatZp
import Derived.Test.YtidadhbaomieiaaGreatZs
import Derived.Test.YtidadhbaomieiaaGreatZt
set_option maxRecDepth 100000
set_option maxHeartbeats 16000000
namespace Go
namespace TL
theorem right_no {L : Lm} (hL : L.fit) (hr : L.rng) (hk : isK L.k = true) (h : ¬ (okL L = true ∧ onlyL L = L)) : (bytesM L).2 = 1 := by
 rw [bytesM_eq hL hr, if_pos hk, if_neg h]
theorem right_yes {L : Lm} (hL : L.fit) (hr : L.rng) (hk : isK L.k = true) (h : onlyL L = L) (hv : L.v ≤ 4) (hi : L.i ≤ 15) (h0 : ∀ q : Mf, 0 ≤ q.gl L) (hn : L.prs.length ≤ 48) (hp : L.prs.all okP = true) (hb : L.k = 2 → (bytesB L.bi L.be L.ops).2 = 0 ∧ (bytesB L.bi L.be L.ops).1.length ≤ 512) : (bytesM L).2 = 0 := by
 have ho : okL L = true := by
  refine List.all_eq_true.2 fun f hf => ?_
  cases f with
  | num q =>
   simp only [Fld.ok, decide_eq_true_eq]
   have h1 := h0 q
   have h2 := (hr.num q).2
   refine ⟨h1, ?_⟩
   cases q
   case v => exact hv
   case i => exact hi
   all_goals exact h2
  | hash q => rfl
  | bat =>
   have hk2 : L.k = 2 := by
    rcases kinds hk with e | e | e | e | e | e | e
    case inr.inl => exact e
    all_goals (rw [e] at hf; exfalso; simp [fdsL] at hf)
   obtain ⟨b1, b2⟩ := hb hk2
   simp only [Fld.ok, Bool.and_eq_true, beq_iff_eq, decide_eq_true_eq]
   exact ⟨b1, b2⟩
  | prs =>
   simp only [Fld.ok, Bool.and_eq_true, decide_eq_true_eq]
   exact ⟨hn, hp⟩
 rw [bytesM_eq hL hr, if_pos hk, if_pos ⟨ho, h⟩]
end TL
end Go
namespace Go.Proofs.YtidadhbaomieiaaGreat
open Go.RowKit Go.TL
theorem Right18_none (L : Lm) (ov pv : Value) (w : World) (hL : L.fit) (_hr : L.rng) (S : SeesL w 3 opV ov L.ops) (T : SeesL w 2 prV pv L.prs) (hk : isK L.k = false) : Calls Tryz.prog 102 #[.agg (msgC (L.ms ov pv)).toArray] w fun r w' => r = .returned (.int .i64 (bytesM L).2) ∧ Below w.heap.size w w' := by
 have M := Mem.start [] w
 obtain ⟨op, oc, rfl, _⟩ := S.form
 obtain ⟨pp, pc, rfl, _⟩ := T.form
 have X := msg_cells (Lm.ms_fit hL (ov := .slice op L.ops.length oc) (pv := .slice pp L.prs.length pc) rfl rfl)
 simp only [Lm.ms] at X
 have kne : ∀ j : UInt8, isK L.k = false → isK j = true → L.k ≠ j := fun j h1 h2 e => by rw [e, h2] at h1; cases h1
 have R10 : isK L.k = false → (bytesM L).2 = 10 := fun h => by rw [bytesM_kind h]
 have hkb : isK L.k = true ↔ 1 ≤ L.k.toNat ∧ L.k.toNat ≤ 7 := by unfold isK; exact decide_eq_true_iff
 have e0 := R10 hk
 rw [e0]
 obtain ⟨C, eC⟩ : ∃ C, C = msgC (L.ms (.slice op L.ops.length oc) (.slice pp L.prs.length pc)) := ⟨_, rfl⟩
 rw [← eC]
 have Nk : C[0]? = some (.int .u8 (I8 L.k)) := by rw [eC]; exact X.k
 replace Nk := Lib.hid Nk
 have hno : ¬ (1 ≤ L.k.toNat ∧ L.k.toNat ≤ 7) := fun h => by rw [hkb.2 h] at hk; cases hk
 clear eC X R10 hkb e0 kne hk
 obtain ⟨k, ek⟩ : ∃ k, k = L.k := ⟨_, rfl⟩
 rw [← ek] at Nk hno
 clear ek
 have hI : (I8 k : Int) = (k.toNat : Int) := I8_eq k
 obtain ⟨z, ez⟩ : ∃ z, z = I8 k := ⟨_, rfl⟩
 rw [← ez] at Nk hI
 clear ez
 by_cases h1 : z < 1
 ·clear hI hno
  go_enter Tryz.func102, Tryz.ntmps102
  go_wp2_with ((first | ((with_reducible refine tGuard ?_); first | ((with_reducible refine w_stripE ?_ ?_); exact dcd) | ((with_reducible refine w_skip1 ?_ ?_); exact dcd) | ((with_reducible refine w_skip0 ?_ ?_); exact dcd)) | ((with_reducible refine tBox (some 1) ?_); refine w_box M _ _ rfl rfl _ rfl (C) rfl ?_; clear M; intro gm w1 M) | ((with_reducible refine tLoad ?_); (refine w_at _ _ rfl yI ?_; intro hx; refine w_load M 0 _ _ rfl rfl hx rfl yA Nk.out ?_; clear hx)) | ((with_reducible refine tM rfl ?_); refine mS ?_; try (clear M; (first | intro g w1 M | intro w1 M); try simp only [setC] at M))) <;> (try conv => arg 5; simp only [apS, setC]))
  go_ret
  exact ⟨rfl, M.below⟩
 ·have h7 : 7 < z := by omega
  clear hI hno
  go_enter Tryz.func102, Tryz.ntmps102
  go_wp2_with ((first | ((with_reducible refine tGuard ?_); first | ((with_reducible refine w_stripE ?_ ?_); exact dcd) | ((with_reducible refine w_skip1 ?_ ?_); exact dcd) | ((with_reducible refine w_skip0 ?_ ?_); exact dcd)) | ((with_reducible refine tBox (some 1) ?_); refine w_box M _ _ rfl rfl _ rfl (C) rfl ?_; clear M; intro gm w1 M) | ((with_reducible refine tLoad ?_); (refine w_at _ _ rfl yI ?_; intro hx; refine w_load M 0 _ _ rfl rfl hx rfl yA Nk.out ?_; clear hx)) | ((with_reducible refine tM rfl ?_); refine mS ?_; try (clear M; (first | intro g w1 M | intro w1 M); try simp only [setC] at M))) <;> (try conv => arg 5; simp only [apS, setC]))
  go_ret
  exact ⟨rfl, M.below⟩
theorem Right18_fail1 (L : Lm) (ov pv : Value) (w : World) (hL : L.fit) (hr : L.rng) (S : SeesL w 3 opV ov L.ops) (T : SeesL w 2 prV pv L.prs) (hk : isK L.k = true) (h : (¬ L = onlyL L) ∨ (L = onlyL L ∧ ¬ 0 ≤ L.e) ∨ (L = onlyL L ∧ 0 ≤ L.e ∧ ¬ 0 ≤ L.a) ∨ (L = onlyL L ∧ 0 ≤ L.e ∧ 0 ≤ L.a ∧ ¬ 0 ≤ L.o) ∨ (L = onlyL L ∧ 0 ≤ L.e ∧ 0 ≤ L.a ∧ 0 ≤ L.o ∧ ¬ 0 ≤ L.p)) : Calls Tryz.prog 102 #[.agg (msgC (L.ms ov pv)).toArray] w fun r w' => r = .returned (.int .i64 (bytesM L).2) ∧ Below w.heap.size w w' := by
 have M := Mem.start [] w
 obtain ⟨op, oc, rfl, _⟩ := S.form
 obtain ⟨pp, pc, rfl, _⟩ := T.form
 have X := msg_cells (Lm.ms_fit hL (ov := .slice op L.ops.length oc) (pv := .slice pp L.prs.length pc) rfl rfl)
 simp only [Lm.ms] at X
 have kne : ∀ j : UInt8, isK L.k = false → isK j = true → L.k ≠ j := fun j h1 h2 e => by rw [e, h2] at h1; cases h1
 have R10 : isK L.k = false → (bytesM L).2 = 10 := fun h => by rw [bytesM_kind h]
 have hkb : isK L.k = true ↔ 1 ≤ L.k.toNat ∧ L.k.toNat ≤ 7 := by unfold isK; exact decide_eq_true_iff
 obtain ⟨hk1, hk7⟩ := hkb.1 hk
 clear hkb R10 kne
 have OC := fun w S T => Only18_c L (.slice op L.ops.length oc) (.slice pp L.prs.length pc) w hL hk S T
 have hfo := onlyL_fit hL
 have SC := fun w ov' pv' S T S' T' => rSame18_c L (onlyL L) (.slice op L.ops.length oc) (.slice pp L.prs.length pc) ov' pv' w hL hfo S T S' T' (by have := hr.o1; omega) (by have := hr.p1; omega) (by have := (onlyL_lens hr).1; omega) (by have := (onlyL_lens hr).2; omega)
 have YC := fun w S => rBytes_c L.bi L.be hr.be L.ops (.slice op L.ops.length oc) w S hr.o1 (fun x hx => by have := hr.o2 x hx; omega)
 have RN := right_no hL hr hk
 have RY := right_yes hL hr hk
 have NOK := @num_ok L
 have POK := @prs_ok L
 have BOK := @bat_ok L
 have hp2 := hr.p2
 have hp1 := hr.p1
 obtain ⟨R, eR⟩ : ∃ R, R = (bytesM L).2 := ⟨_, rfl⟩
 rw [← eR] at RN RY ⊢
 clear eR hL
 obtain ⟨C, eC⟩ : ∃ C, C = msgC (L.ms (.slice op L.ops.length oc) (.slice pp L.prs.length pc)) := ⟨_, rfl⟩
 have eC' : C = msgC ⟨L.k, L.e, L.a, L.o, L.bi, L.be, .slice op L.ops.length oc, L.p, L.r, L.v, L.i, L.lf, L.rt, .slice pp L.prs.length pc⟩ := eC
 rw [← eC'] at X
 rw [← eC] at OC SC ⊢
 clear eC eC'
 obtain ⟨Nk, Ne, Na, No, Np, Nv, Ni, Npv, ⟨_, _, b1⟩, _, _, _, HLEN, _⟩ := X
 replace Nk := Lib.hid Nk
 replace Ne := Lib.hid Ne
 replace Na := Lib.hid Na
 replace No := Lib.hid No
 replace Np := Lib.hid Np
 replace Nv := Lib.hid Nv
 replace Ni := Lib.hid Ni
 replace Npv := Lib.hid Npv
 have B := Lib.hid b1
 replace HLEN := Lib.hid HLEN
 clear b1
 replace OC := Lib.hid OC
 rcases h with hs | ⟨hs, ce⟩ | ⟨hs, ce, ca⟩ | ⟨hs, ce, ca, co⟩ | ⟨hs, ce, ca, co, cp⟩
 all_goals
  have e0 : R = 1 := RN (fun h => by
   have ne := NOK h.2 h.1 .e
   have na := NOK h.2 h.1 .a
   have no := NOK h.2 h.1 .o
   have np := NOK h.2 h.1 .p
   have nv := NOK h.2 h.1 .v
   have ni := NOK h.2 h.1 .i
   have nk := (POK h.2 h.1).1
   simp only [Mf.gl, Mf.most] at ne na no np nv ni
   first | exact absurd h.2.symm hs | omega)
  subst e0
  first | rw [decide_eq_true hs] at SC | rw [decide_eq_false hs] at SC
  replace SC := Lib.hid SC
  clear hs RN NOK POK
  obtain ⟨⟨b, eb⟩, eY⟩ : ∃ Y, Y = bytesB L.bi L.be L.ops := ⟨_, rfl⟩
  rw [← eY] at YC BOK RY
  simp only at YC BOK RY
  clear eY
  replace YC := Lib.hid YC
  replace BOK := Lib.hid BOK
  replace RY := Lib.hid RY
  have hg1 : ¬ I8 L.k < 1 := by rw [I8_eq]; omega
  have hg2 : ¬ 7 < I8 L.k := by rw [I8_eq]; omega
  clear hk1 hk7
  cases hk2 : (I8 L.k == 2)
  all_goals
   go_enter Tryz.func102, Tryz.ntmps102
   go_wp2_with ((first | ((with_reducible refine tGuard ?_); first | ((with_reducible refine w_stripE ?_ ?_); exact dcd) | ((with_reducible refine w_skip1 ?_ ?_); exact dcd) | ((with_reducible refine w_skip0 ?_ ?_); exact dcd)) | ((with_reducible refine tBox (some 1) ?_); refine w_box M _ _ rfl rfl _ rfl (C) rfl ?_; clear M; intro gm w1 M) | (go_at_call 142; (refine (OC.out _ (S.now M) (T.now M)).mono ?_; rintro e w1 ⟨ov', pv', rfl, hb, S1, T1⟩; replace M := M.call hb; clear hb)) | (go_at_call 32; (refine (SC.out _ ov' pv' (S.now M) (T.now M) (S1 _ (S.now M)) (T1 _ (T.now M))).mono ?_; rintro e w1 ⟨rfl, hb⟩; replace M := M.call hb; clear hb)) | (go_at_call 104; (refine (YC.out _ (S.now M)).mono ?_; rintro e w1 ⟨rfl, hb⟩; replace M := M.call hb; clear hb)) | ((with_reducible show Code.wp _ (Code.region 3 _ _) _ _ _); (have MR := M; refine region_lowc [(0, false), (1, true), (2, true), (3, true), (4, true), (5, true), (6, true), (7, true), (8, true), (9, true), (10, true), (11, true), (12, true), (13, true), (14, true), (15, true), (16, true), (17, true), (18, true), (19, true), (20, true), (21, true), (22, true), (23, true), (24, true), (25, true), (26, true), (27, true), (28, true), (29, true), (30, true), (31, true), (32, true), (33, true), (34, true), (35, true), (36, true), (37, true), (38, true), (39, true), (40, true), (41, true), (42, true), (43, true), (44, true), (45, true), (46, true), (47, true), (48, true), (49, true), (50, true)] [] [(0, _)] (IxOk MR [0]) 50 yC yC rfl yC (lows_cons (stab_ixR MR 0 rfl rfl yN yA yR) lows_nil) (ixOk_self MR _) ?_; replace M := M.drew; simp only [planC, opAt, List.getElem?_toArray, List.getElem?_cons_zero, List.getElem?_cons_succ, Option.getD_some])) | ((with_reducible refine tLoad ?_); (refine w_at _ _ rfl yI ?_; intro hx; (first | refine w_load M 0 _ _ rfl rfl hx rfl yA yG ?_ | refine w_loadA M 0 _ _ rfl rfl hx rfl yA _ _ _ B.out.1 B.out.2 yC ?_ | refine w_loadR M 0 _ _ rfl rfl hx rfl yA yR ?_); clear hx)) | ((with_reducible refine tM rfl ?_); refine mS ?_; try (clear M; (first | intro g w1 M | intro w1 M); try simp only [setC] at M)) | ((with_reducible first | show Seg _ _ _ _ | show OnlyN _ _ _ _ _); refine rA ?_)) <;> (try conv => arg 5; simp only [apS, setC]))
   go_loopw [3, 6] (fun bv iv wr => bv = .bool false ∧ Mem [] w wr [.row gm C]) (fun _ _ _ => 0)
   case atStart => exact ⟨by first | rfl | (rw [decide_eq_false yE]), M⟩
   case round =>
    clear M
    obtain ⟨rfl, M⟩ := hrel
    go_wp2_with ((first | ((with_reducible refine tGuard ?_); first | ((with_reducible refine w_stripE ?_ ?_); exact dcd) | ((with_reducible refine w_skip1 ?_ ?_); exact dcd) | ((with_reducible refine w_skip0 ?_ ?_); exact dcd)) | ((with_reducible refine tM rfl ?_); refine mS ?_; try (clear M; (first | intro g w1 M | intro w1 M); try simp only [setC] at M))) <;> (try conv => arg 5; simp only [apS, setC]))
    go_ret
    exact ⟨rfl, M.below⟩
theorem Right18_fail2 (L : Lm) (ov pv : Value) (w : World) (hL : L.fit) (hr : L.rng) (S : SeesL w 3 opV ov L.ops) (T : SeesL w 2 prV pv L.prs) (hk : isK L.k = true) (h : (L = onlyL L ∧ 0 ≤ L.e ∧ 0 ≤ L.a ∧ 0 ≤ L.o ∧ 0 ≤ L.p ∧ ¬ 0 ≤ L.v) ∨ (L = onlyL L ∧ 0 ≤ L.e ∧ 0 ≤ L.a ∧ 0 ≤ L.o ∧ 0 ≤ L.p ∧ 0 ≤ L.v ∧ ¬ L.v ≤ 4) ∨ (L = onlyL L ∧ 0 ≤ L.e ∧ 0 ≤ L.a ∧ 0 ≤ L.o ∧ 0 ≤ L.p ∧ 0 ≤ L.v ∧ L.v ≤ 4 ∧ ¬ 0 ≤ L.i) ∨ (L = onlyL L ∧ 0 ≤ L.e ∧ 0 ≤ L.a ∧ 0 ≤ L.o ∧ 0 ≤ L.p ∧ 0 ≤ L.v ∧ L.v ≤ 4 ∧ 0 ≤ L.i ∧ ¬ L.i ≤ 15) ∨ (L = onlyL L ∧ 0 ≤ L.e ∧ 0 ≤ L.a ∧ 0 ≤ L.o ∧ 0 ≤ L.p ∧ 0 ≤ L.v ∧ L.v ≤ 4 ∧ 0 ≤ L.i ∧ L.i ≤ 15 ∧ ¬ L.prs.length ≤ 48)) : Calls Tryz.prog 102 #[.agg (msgC (L.ms ov pv)).toArray] w fun r w' => r = .returned (.int .i64 (bytesM L).2) ∧ Below w.heap.size w w' := by
 have M := Mem.start [] w
 obtain ⟨op, oc, rfl, _⟩ := S.form
 obtain ⟨pp, pc, rfl, _⟩ := T.form
 have X := msg_cells (Lm.ms_fit hL (ov := .slice op L.ops.length oc) (pv := .slice pp L.prs.length pc) rfl rfl)
 simp only [Lm.ms] at X
 have kne : ∀ j : UInt8, isK L.k = false → isK j = true → L.k ≠ j := fun j h1 h2 e => by rw [e, h2] at h1; cases h1
 have R10 : isK L.k = false → (bytesM L).2 = 10 := fun h => by rw [bytesM_kind h]
 have hkb : isK L.k = true ↔ 1 ≤ L.k.toNat ∧ L.k.toNat ≤ 7 := by unfold isK; exact decide_eq_true_iff
 obtain ⟨hk1, hk7⟩ := hkb.1 hk
 clear hkb R10 kne
 have OC := fun w S T => Only18_c L (.slice op L.ops.length oc) (.slice pp L.prs.length pc) w hL hk S T
 have hfo := onlyL_fit hL
 have SC := fun w ov' pv' S T S' T' => rSame18_c L (onlyL L) (.slice op L.ops.length oc) (.slice pp L.prs.length pc) ov' pv' w hL hfo S T S' T' (by have := hr.o1; omega) (by have := hr.p1; omega) (by have := (onlyL_lens hr).1; omega) (by have := (onlyL_lens hr).2; omega)
 have YC := fun w S => rBytes_c L.bi L.be hr.be L.ops (.slice op L.ops.length oc) w S hr.o1 (fun x hx => by have := hr.o2 x hx; omega)
 have RN := right_no hL hr hk
 have RY := right_yes hL hr hk
 have NOK := @num_ok L
 have POK := @prs_ok L
 have BOK := @bat_ok L
 have hp2 := hr.p2
 have hp1 := hr.p1
 obtain ⟨R, eR⟩ : ∃ R, R = (bytesM L).2 := ⟨_, rfl⟩
 rw [← eR] at RN RY ⊢
 clear eR hL
 obtain ⟨C, eC⟩ : ∃ C, C = msgC (L.ms (.slice op L.ops.length oc) (.slice pp L.prs.length pc)) := ⟨_, rfl⟩
 have eC' : C = msgC ⟨L.k, L.e, L.a, L.o, L.bi, L.be, .slice op L.ops.length oc, L.p, L.r, L.v, L.i, L.lf, L.rt, .slice pp L.prs.length pc⟩ := eC
 rw [← eC'] at X
 rw [← eC] at OC SC ⊢
 clear eC eC'
 obtain ⟨Nk, Ne, Na, No, Np, Nv, Ni, Npv, ⟨_, _, b1⟩, _, _, _, HLEN, _⟩ := X
 replace Nk := Lib.hid Nk
 replace Ne := Lib.hid Ne
 replace Na := Lib.hid Na
 replace No := Lib.hid No
 replace Np := Lib.hid Np
 replace Nv := Lib.hid Nv
 replace Ni := Lib.hid Ni
 replace Npv := Lib.hid Npv
 have B := Lib.hid b1
 replace HLEN := Lib.hid HLEN
 clear b1
 replace OC := Lib.hid OC
 rcases h with ⟨hs, ce, ca, co, cp, cv⟩ | ⟨hs, ce, ca, co, cp, cv, cv4⟩ | ⟨hs, ce, ca, co, cp, cv, cv4, ci⟩ | ⟨hs, ce, ca, co, cp, cv, cv4, ci, ci15⟩ | ⟨hs, ce, ca, co, cp, cv, cv4, ci, ci15, cn⟩
 all_goals
  have e0 : R = 1 := RN (fun h => by
   have ne := NOK h.2 h.1 .e
   have na := NOK h.2 h.1 .a
   have no := NOK h.2 h.1 .o
   have np := NOK h.2 h.1 .p
   have nv := NOK h.2 h.1 .v
   have ni := NOK h.2 h.1 .i
   have nk := (POK h.2 h.1).1
   simp only [Mf.gl, Mf.most] at ne na no np nv ni
   first | exact absurd h.2.symm hs | omega)
  subst e0
  first | rw [decide_eq_true hs] at SC | rw [decide_eq_false hs] at SC
  replace SC := Lib.hid SC
  clear hs RN NOK POK
  obtain ⟨⟨b, eb⟩, eY⟩ : ∃ Y, Y = bytesB L.bi L.be L.ops := ⟨_, rfl⟩
  rw [← eY] at YC BOK RY
  simp only at YC BOK RY
  clear eY
  replace YC := Lib.hid YC
  replace BOK := Lib.hid BOK
  replace RY := Lib.hid RY
  have hg1 : ¬ I8 L.k < 1 := by rw [I8_eq]; omega
  have hg2 : ¬ 7 < I8 L.k := by rw [I8_eq]; omega
  clear hk1 hk7
  cases hk2 : (I8 L.k == 2)
  all_goals
   go_enter Tryz.func102, Tryz.ntmps102
   go_wp2_with ((first | ((with_reducible refine tGuard ?_); first | ((with_reducible refine w_stripE ?_ ?_); exact dcd) | ((with_reducible refine w_skip1 ?_ ?_); exact dcd) | ((with_reducible refine w_skip0 ?_ ?_); exact dcd)) | ((with_reducible refine tBox (some 1) ?_); refine w_box M _ _ rfl rfl _ rfl (C) rfl ?_; clear M; intro gm w1 M) | (go_at_call 142; (refine (OC.out _ (S.now M) (T.now M)).mono ?_; rintro e w1 ⟨ov', pv', rfl, hb, S1, T1⟩; replace M := M.call hb; clear hb)) | (go_at_call 32; (refine (SC.out _ ov' pv' (S.now M) (T.now M) (S1 _ (S.now M)) (T1 _ (T.now M))).mono ?_; rintro e w1 ⟨rfl, hb⟩; replace M := M.call hb; clear hb)) | (go_at_call 104; (refine (YC.out _ (S.now M)).mono ?_; rintro e w1 ⟨rfl, hb⟩; replace M := M.call hb; clear hb)) | ((with_reducible show Code.wp _ (Code.region 3 _ _) _ _ _); (have MR := M; refine region_lowc [(0, false), (1, true), (2, true), (3, true), (4, true), (5, true), (6, true), (7, true), (8, true), (9, true), (10, true), (11, true), (12, true), (13, true), (14, true), (15, true), (16, true), (17, true), (18, true), (19, true), (20, true), (21, true), (22, true), (23, true), (24, true), (25, true), (26, true), (27, true), (28, true), (29, true), (30, true), (31, true), (32, true), (33, true), (34, true), (35, true), (36, true), (37, true), (38, true), (39, true), (40, true), (41, true), (42, true), (43, true), (44, true), (45, true), (46, true), (47, true), (48, true), (49, true), (50, true)] [] [(0, _)] (IxOk MR [0]) 50 yC yC rfl yC (lows_cons (stab_ixR MR 0 rfl rfl yN yA yR) lows_nil) (ixOk_self MR _) ?_; replace M := M.drew; simp only [planC, opAt, List.getElem?_toArray, List.getElem?_cons_zero, List.getElem?_cons_succ, Option.getD_some])) | ((with_reducible refine tLoad ?_); (refine w_at _ _ rfl yI ?_; intro hx; (first | refine w_load M 0 _ _ rfl rfl hx rfl yA yG ?_ | refine w_loadA M 0 _ _ rfl rfl hx rfl yA _ _ _ B.out.1 B.out.2 yC ?_ | refine w_loadR M 0 _ _ rfl rfl hx rfl yA yR ?_); clear hx)) | ((with_reducible refine tM rfl ?_); refine mS ?_; try (clear M; (first | intro g w1 M | intro w1 M); try simp only [setC] at M)) | ((with_reducible first | show Seg _ _ _ _ | show OnlyN _ _ _ _ _); refine rA ?_)) <;> (try conv => arg 5; simp only [apS, setC]))
   go_loopw [3, 6] (fun bv iv wr => bv = .bool false ∧ Mem [] w wr [.row gm C]) (fun _ _ _ => 0)
   case atStart => exact ⟨by first | rfl | (rw [decide_eq_false yE]), M⟩
   case round =>
    clear M
    obtain ⟨rfl, M⟩ := hrel
    go_wp2_with ((first | ((with_reducible refine tGuard ?_); first | ((with_reducible refine w_stripE ?_ ?_); exact dcd) | ((with_reducible refine w_skip1 ?_ ?_); exact dcd) | ((with_reducible refine w_skip0 ?_ ?_); exact dcd)) | ((with_reducible refine tM rfl ?_); refine mS ?_; try (clear M; (first | intro g w1 M | intro w1 M); try simp only [setC] at M))) <;> (try conv => arg 5; simp only [apS, setC]))
    go_ret
    exact ⟨rfl, M.below⟩
end Go.Proofs.YtidadhbaomieiaaGreat

namespace Go.Proofs.YtidadhbaomieiaaGreat
open Go.RowKit Go.TL
theorem Right18_two (L : Lm) (ov pv : Value) (w : World) (hL : L.fit) (hr : L.rng) (S : SeesL w 3 opV ov L.ops) (T : SeesL w 2 prV pv L.prs) (hk : isK L.k = true) (hs : L = onlyL L) (ce : 0 ≤ L.e) (ca : 0 ≤ L.a) (co : 0 ≤ L.o) (cp : 0 ≤ L.p) (cv : 0 ≤ L.v) (cv4 : L.v ≤ 4) (ci : 0 ≤ L.i) (ci15 : L.i ≤ 15) (cn : L.prs.length ≤ 48) (hq : L.k = 2) : Calls Tryz.prog 102 #[.agg (msgC (L.ms ov pv)).toArray] w fun r w' => r = .returned (.int .i64 (bytesM L).2) ∧ Below w.heap.size w w' := by
 have M := Mem.start [] w
 obtain ⟨op, oc, rfl, _⟩ := S.form
 obtain ⟨pp, pc, rfl, _⟩ := T.form
 have X := msg_cells (Lm.ms_fit hL (ov := .slice op L.ops.length oc) (pv := .slice pp L.prs.length pc) rfl rfl)
 simp only [Lm.ms] at X
 have kne : ∀ j : UInt8, isK L.k = false → isK j = true → L.k ≠ j := fun j h1 h2 e => by rw [e, h2] at h1; cases h1
 have R10 : isK L.k = false → (bytesM L).2 = 10 := fun h => by rw [bytesM_kind h]
 have hkb : isK L.k = true ↔ 1 ≤ L.k.toNat ∧ L.k.toNat ≤ 7 := by unfold isK; exact decide_eq_true_iff
 obtain ⟨hk1, hk7⟩ := hkb.1 hk
 clear hkb R10 kne
 have OC := fun w S T => Only18_c L (.slice op L.ops.length oc) (.slice pp L.prs.length pc) w hL hk S T
 have hfo := onlyL_fit hL
 have SC := fun w ov' pv' S T S' T' => rSame18_c L (onlyL L) (.slice op L.ops.length oc) (.slice pp L.prs.length pc) ov' pv' w hL hfo S T S' T' (by have := hr.o1; omega) (by have := hr.p1; omega) (by have := (onlyL_lens hr).1; omega) (by have := (onlyL_lens hr).2; omega)
 have YC := fun w S => rBytes_c L.bi L.be hr.be L.ops (.slice op L.ops.length oc) w S hr.o1 (fun x hx => by have := hr.o2 x hx; omega)
 have RN := right_no hL hr hk
 have RY := right_yes hL hr hk
 have NOK := @num_ok L
 have POK := @prs_ok L
 have BOK := @bat_ok L
 have hp2 := hr.p2
 have hp1 := hr.p1
 obtain ⟨R, eR⟩ : ∃ R, R = (bytesM L).2 := ⟨_, rfl⟩
 rw [← eR] at RN RY ⊢
 clear eR hL
 obtain ⟨C, eC⟩ : ∃ C, C = msgC (L.ms (.slice op L.ops.length oc) (.slice pp L.prs.length pc)) := ⟨_, rfl⟩
 have eC' : C = msgC ⟨L.k, L.e, L.a, L.o, L.bi, L.be, .slice op L.ops.length oc, L.p, L.r, L.v, L.i, L.lf, L.rt, .slice pp L.prs.length pc⟩ := eC
 rw [← eC'] at X
 rw [← eC] at OC SC ⊢
 clear eC eC'
 obtain ⟨Nk, Ne, Na, No, Np, Nv, Ni, Npv, ⟨_, _, b1⟩, _, _, _, HLEN, _⟩ := X
 replace Nk := Lib.hid Nk
 replace Ne := Lib.hid Ne
 replace Na := Lib.hid Na
 replace No := Lib.hid No
 replace Np := Lib.hid Np
 replace Nv := Lib.hid Nv
 replace Ni := Lib.hid Ni
 replace Npv := Lib.hid Npv
 have B := Lib.hid b1
 replace HLEN := Lib.hid HLEN
 clear b1
 replace OC := Lib.hid OC
 rw [decide_eq_true hs] at SC
 replace SC := Lib.hid SC
 have HS := Lib.hid fun _ : Unit => hs
 clear hs
 have cn' : (L.prs.length : Int) ≤ 48 := by omega
 have hg1 : ¬ I8 L.k < 1 := by rw [I8_eq]; omega
 have hg2 : ¬ 7 < I8 L.k := by rw [I8_eq]; omega
 clear hk1 hk7 NOK
 replace POK := Lib.hid POK
 obtain ⟨⟨b, eb⟩, eY⟩ : ∃ Y, Y = bytesB L.bi L.be L.ops := ⟨_, rfl⟩
 rw [← eY] at YC BOK RY
 simp only at YC BOK RY
 clear eY
 replace YC := Lib.hid YC
 replace BOK := Lib.hid BOK
 replace RY := Lib.hid RY
 have hk2 : (I8 L.k == 2) = true := by rw [beq_iff_eq]; rw [hq]; rfl
 by_cases hb0 : eb = 0
 ·subst hb0
  by_cases hb5 : b.length ≤ 512
  ·have REND := fun hp => RY.out (HS.out ()).symm cv4 ci15 (fun q => by cases q <;> assumption) cn hp (fun _ => ⟨rfl, hb5⟩)
   replace REND := Lib.hid REND
   replace RN := Lib.hid RN
   clear hq
   go_enter Tryz.func102, Tryz.ntmps102
   go_wp2_with ((first | ((with_reducible refine tGuard ?_); first | ((with_reducible refine w_stripE ?_ ?_); exact dcd) | ((with_reducible refine w_skip1 ?_ ?_); exact dcd) | ((with_reducible refine w_skip0 ?_ ?_); exact dcd)) | ((with_reducible refine tBox (some 1) ?_); refine w_box M _ _ rfl rfl _ rfl (C) rfl ?_; clear M; intro gm w1 M) | (go_at_call 142; (refine (OC.out _ (S.now M) (T.now M)).mono ?_; rintro e w1 ⟨ov', pv', rfl, hb, S1, T1⟩; replace M := M.call hb; clear hb)) | (go_at_call 32; (refine (SC.out _ ov' pv' (S.now M) (T.now M) (S1 _ (S.now M)) (T1 _ (T.now M))).mono ?_; rintro e w1 ⟨rfl, hb⟩; replace M := M.call hb; clear hb)) | (go_at_call 104; (refine (YC.out _ (S.now M)).mono ?_; rintro e w1 ⟨rfl, hb⟩; replace M := M.call hb; clear hb)) | ((with_reducible show Code.wp _ (Code.region 3 _ _) _ _ _); (have MR := M; refine region_lowc [(0, false), (1, true), (2, true), (3, true), (4, true), (5, true), (6, true), (7, true), (8, true), (9, true), (10, true), (11, true), (12, true), (13, true), (14, true), (15, true), (16, true), (17, true), (18, true), (19, true), (20, true), (21, true), (22, true), (23, true), (24, true), (25, true), (26, true), (27, true), (28, true), (29, true), (30, true), (31, true), (32, true), (33, true), (34, true), (35, true), (36, true), (37, true), (38, true), (39, true), (40, true), (41, true), (42, true), (43, true), (44, true), (45, true), (46, true), (47, true), (48, true), (49, true), (50, true)] [] [(0, _)] (IxOk MR [0]) 50 yC yC rfl yC (lows_cons (stab_ixR MR 0 rfl rfl yN yA yR) lows_nil) (ixOk_self MR _) ?_; replace M := M.drew; simp only [planC, opAt, List.getElem?_toArray, List.getElem?_cons_zero, List.getElem?_cons_succ, Option.getD_some])) | ((with_reducible refine tLoad ?_); (refine w_at _ _ rfl yI ?_; intro hx; (first | refine w_load M 0 _ _ rfl rfl hx rfl yA yG ?_ | refine w_loadA M 0 _ _ rfl rfl hx rfl yA _ _ _ B.out.1 B.out.2 yC ?_ | refine w_loadR M 0 _ _ rfl rfl hx rfl yA yR ?_); clear hx)) | ((with_reducible refine tM rfl ?_); refine mS ?_; try (clear M; (first | intro g w1 M | intro w1 M); try simp only [setC] at M)) | ((with_reducible first | show Seg _ _ _ _ | show OnlyN _ _ _ _ _); refine rA ?_)) <;> (try conv => arg 5; simp only [apS, setC]))
   go_loopw [3, 6] (fun bv iv wr => ∃ j : Nat, j ≤ L.prs.length ∧ iv = .int .i64 j ∧ bv = .bool ((L.prs.take j).all okP) ∧ Mem [] w wr [.row gm C]) (fun _ iv _ => L.prs.length - (intOf iv).toNat)
   case atStart => exact ⟨0, by omega, rfl, by first | rfl | (rw [decide_eq_true yE]; rfl), M⟩
   case round =>
    clear M
    obtain ⟨j, hj, rfl, rfl, M⟩ := hrel
    cases hb : (L.prs.take j).all okP with
    | false =>
     have e0 := RN.out (fun h => by
      have h1 := (POK.out h.2 h.1).2
      have h2 : (L.prs.take j).all okP = true := List.all_eq_true.2 fun x hx => List.all_eq_true.1 h1 x (List.mem_of_mem_take hx)
      rw [hb] at h2; cases h2)
     subst e0
     clear hb
     go_wp2_with ((first | ((with_reducible refine tGuard ?_); first | ((with_reducible refine w_stripE ?_ ?_); exact dcd) | ((with_reducible refine w_skip1 ?_ ?_); exact dcd) | ((with_reducible refine w_skip0 ?_ ?_); exact dcd)) | ((with_reducible refine tM rfl ?_); refine mS ?_; try (clear M; (first | intro g w1 M | intro w1 M); try simp only [setC] at M))) <;> (try conv => arg 5; simp only [apS, setC]))
     go_ret
     exact ⟨rfl, M.below⟩
    | true =>
     have HB := Lib.hid hb
     clear hb
     by_cases hlt : j < L.prs.length
     ·obtain ⟨gp, so, rfl⟩ := T.addr yE
      obtain ⟨⟨x, y⟩, hx⟩ : ∃ x, L.prs[j]? = some x := ⟨_, List.getElem?_eq_getElem hlt⟩
      obtain ⟨hx1, hy1⟩ := hp2 (x, y) (List.mem_of_getElem? hx)
      simp only at hx1 hy1
      have HA : (L.prs.take (j + 1)).all okP = okP (x, y) := by
       obtain ⟨hk, e⟩ := List.getElem?_eq_some_iff.1 hx
       rw [List.take_succ_eq_append_getElem hk, List.all_append, HB.out, e]; simp
      replace HA := Lib.hid HA
      have HX := Lib.hid hx
      clear hx
      by_cases hx33 : x.length ≤ 33
      ·go_wp2_with ((first | ((with_reducible refine tGuard ?_); first | ((with_reducible refine w_stripE ?_ ?_); exact dcd) | ((with_reducible refine w_skip1 ?_ ?_); exact dcd) | ((with_reducible refine w_skip0 ?_ ?_); exact dcd)) | ((with_reducible refine tLoad ?_); (refine w_at _ _ rfl yI ?_; intro hx; (first | refine w_load M 0 _ _ rfl rfl hx rfl yA yG ?_ | refine w_loadA M 0 _ _ rfl rfl hx rfl yA _ _ _ B.out.1 B.out.2 yC ?_ | refine w_loadR M 0 _ _ rfl rfl hx rfl yA yR ?_ | refine w_see M T HX.out _ _ rfl hx rfl yA 0 yD rfl ?_ | refine w_see M T HX.out _ _ rfl hx rfl yA 1 yD rfl ?_); clear hx)) | ((with_reducible refine tM rfl ?_); refine mS ?_; try (clear M; (first | intro g w1 M | intro w1 M); try simp only [setC] at M))) <;> (try conv => arg 5; simp only [apS, setC]))
       go_roundw
       case rel => exact ⟨j + 1, by omega, by go_num, by rw [HA.out]; unfold okP; simp only; rw [decide_eq_true hx33, Bool.true_and]; simp; omega, M⟩
       case measure => simp [intOf]; omega
      ·go_wp2_with ((first | ((with_reducible refine tGuard ?_); first | ((with_reducible refine w_stripE ?_ ?_); exact dcd) | ((with_reducible refine w_skip1 ?_ ?_); exact dcd) | ((with_reducible refine w_skip0 ?_ ?_); exact dcd)) | ((with_reducible refine tLoad ?_); (refine w_at _ _ rfl yI ?_; intro hx; (first | refine w_load M 0 _ _ rfl rfl hx rfl yA yG ?_ | refine w_loadA M 0 _ _ rfl rfl hx rfl yA _ _ _ B.out.1 B.out.2 yC ?_ | refine w_loadR M 0 _ _ rfl rfl hx rfl yA yR ?_ | refine w_see M T HX.out _ _ rfl hx rfl yA 0 yD rfl ?_ | refine w_see M T HX.out _ _ rfl hx rfl yA 1 yD rfl ?_); clear hx)) | ((with_reducible refine tM rfl ?_); refine mS ?_; try (clear M; (first | intro g w1 M | intro w1 M); try simp only [setC] at M))) <;> (try conv => arg 5; simp only [apS, setC]))
       go_roundw
       case rel => exact ⟨j + 1, by omega, by go_num, by rw [HA.out]; unfold okP; simp only; rw [decide_eq_false hx33]; first | rfl | simp, M⟩
       case measure => simp [intOf]; omega
     ·obtain rfl : j = L.prs.length := by omega
      rw [List.take_length] at HB
      have e0 := REND.out HB.out
      subst e0
      go_wp2_with ((first | ((with_reducible refine tGuard ?_); first | ((with_reducible refine w_stripE ?_ ?_); exact dcd) | ((with_reducible refine w_skip1 ?_ ?_); exact dcd) | ((with_reducible refine w_skip0 ?_ ?_); exact dcd)) | ((with_reducible refine tLoad ?_); (refine w_at _ _ rfl yI ?_; intro hx; (first | refine w_load M 0 _ _ rfl rfl hx rfl yA yG ?_ | refine w_loadA M 0 _ _ rfl rfl hx rfl yA _ _ _ B.out.1 B.out.2 yC ?_ | refine w_loadR M 0 _ _ rfl rfl hx rfl yA yR ?_); clear hx)) | ((with_reducible refine tM rfl ?_); refine mS ?_; try (clear M; (first | intro g w1 M | intro w1 M); try simp only [setC] at M))) <;> (try conv => arg 5; simp only [apS, setC]))
      go_ret
      exact ⟨rfl, M.below⟩
  ·have e0 := RN (fun h => hb5 (BOK.out h.1 hq).2)
   subst e0
   have hb6 : ¬ (b.length : Int) ≤ 512 := by omega
   clear hq RN
   go_enter Tryz.func102, Tryz.ntmps102
   go_wp2_with ((first | ((with_reducible refine tGuard ?_); first | ((with_reducible refine w_stripE ?_ ?_); exact dcd) | ((with_reducible refine w_skip1 ?_ ?_); exact dcd) | ((with_reducible refine w_skip0 ?_ ?_); exact dcd)) | ((with_reducible refine tBox (some 1) ?_); refine w_box M _ _ rfl rfl _ rfl (C) rfl ?_; clear M; intro gm w1 M) | (go_at_call 142; (refine (OC.out _ (S.now M) (T.now M)).mono ?_; rintro e w1 ⟨ov', pv', rfl, hb, S1, T1⟩; replace M := M.call hb; clear hb)) | (go_at_call 32; (refine (SC.out _ ov' pv' (S.now M) (T.now M) (S1 _ (S.now M)) (T1 _ (T.now M))).mono ?_; rintro e w1 ⟨rfl, hb⟩; replace M := M.call hb; clear hb)) | (go_at_call 104; (refine (YC.out _ (S.now M)).mono ?_; rintro e w1 ⟨rfl, hb⟩; replace M := M.call hb; clear hb)) | ((with_reducible show Code.wp _ (Code.region 3 _ _) _ _ _); (have MR := M; refine region_lowc [(0, false), (1, true), (2, true), (3, true), (4, true), (5, true), (6, true), (7, true), (8, true), (9, true), (10, true), (11, true), (12, true), (13, true), (14, true), (15, true), (16, true), (17, true), (18, true), (19, true), (20, true), (21, true), (22, true), (23, true), (24, true), (25, true), (26, true), (27, true), (28, true), (29, true), (30, true), (31, true), (32, true), (33, true), (34, true), (35, true), (36, true), (37, true), (38, true), (39, true), (40, true), (41, true), (42, true), (43, true), (44, true), (45, true), (46, true), (47, true), (48, true), (49, true), (50, true)] [] [(0, _)] (IxOk MR [0]) 50 yC yC rfl yC (lows_cons (stab_ixR MR 0 rfl rfl yN yA yR) lows_nil) (ixOk_self MR _) ?_; replace M := M.drew; simp only [planC, opAt, List.getElem?_toArray, List.getElem?_cons_zero, List.getElem?_cons_succ, Option.getD_some])) | ((with_reducible refine tLoad ?_); (refine w_at _ _ rfl yI ?_; intro hx; (first | refine w_load M 0 _ _ rfl rfl hx rfl yA yG ?_ | refine w_loadA M 0 _ _ rfl rfl hx rfl yA _ _ _ B.out.1 B.out.2 yC ?_ | refine w_loadR M 0 _ _ rfl rfl hx rfl yA yR ?_); clear hx)) | ((with_reducible refine tM rfl ?_); refine mS ?_; try (clear M; (first | intro g w1 M | intro w1 M); try simp only [setC] at M)) | ((with_reducible first | show Seg _ _ _ _ | show OnlyN _ _ _ _ _); refine rA ?_)) <;> (try conv => arg 5; simp only [apS, setC]))
   go_loopw [3, 6] (fun bv iv wr => bv = .bool false ∧ Mem [] w wr [.row gm C]) (fun _ _ _ => 0)
   case atStart => exact ⟨by first | rfl | (rw [decide_eq_false yE]), M⟩
   case round =>
    clear M
    obtain ⟨rfl, M⟩ := hrel
    go_wp2_with ((first | ((with_reducible refine tGuard ?_); first | ((with_reducible refine w_stripE ?_ ?_); exact dcd) | ((with_reducible refine w_skip1 ?_ ?_); exact dcd) | ((with_reducible refine w_skip0 ?_ ?_); exact dcd)) | ((with_reducible refine tM rfl ?_); refine mS ?_; try (clear M; (first | intro g w1 M | intro w1 M); try simp only [setC] at M))) <;> (try conv => arg 5; simp only [apS, setC]))
    go_ret
    exact ⟨rfl, M.below⟩
 ·have e0 := RN (fun h => hb0 (BOK.out h.1 hq).1)
  subst e0
  have hz : ((eb : Int) == 0) = false := by simp; exact hb0
  have hz' : ((eb : Int) != 0) = true := by simp; exact hb0
  clear hq hb0 RN
  go_enter Tryz.func102, Tryz.ntmps102
  go_wp2_with ((first | ((with_reducible refine tGuard ?_); first | ((with_reducible refine w_stripE ?_ ?_); exact dcd) | ((with_reducible refine w_skip1 ?_ ?_); exact dcd) | ((with_reducible refine w_skip0 ?_ ?_); exact dcd)) | ((with_reducible refine tBox (some 1) ?_); refine w_box M _ _ rfl rfl _ rfl (C) rfl ?_; clear M; intro gm w1 M) | (go_at_call 142; (refine (OC.out _ (S.now M) (T.now M)).mono ?_; rintro e w1 ⟨ov', pv', rfl, hb, S1, T1⟩; replace M := M.call hb; clear hb)) | (go_at_call 32; (refine (SC.out _ ov' pv' (S.now M) (T.now M) (S1 _ (S.now M)) (T1 _ (T.now M))).mono ?_; rintro e w1 ⟨rfl, hb⟩; replace M := M.call hb; clear hb)) | (go_at_call 104; (refine (YC.out _ (S.now M)).mono ?_; rintro e w1 ⟨rfl, hb⟩; replace M := M.call hb; clear hb)) | ((with_reducible show Code.wp _ (Code.region 3 _ _) _ _ _); (have MR := M; refine region_lowc [(0, false), (1, true), (2, true), (3, true), (4, true), (5, true), (6, true), (7, true), (8, true), (9, true), (10, true), (11, true), (12, true), (13, true), (14, true), (15, true), (16, true), (17, true), (18, true), (19, true), (20, true), (21, true), (22, true), (23, true), (24, true), (25, true), (26, true), (27, true), (28, true), (29, true), (30, true), (31, true), (32, true), (33, true), (34, true), (35, true), (36, true), (37, true), (38, true), (39, true), (40, true), (41, true), (42, true), (43, true), (44, true), (45, true), (46, true), (47, true), (48, true), (49, true), (50, true)] [] [(0, _)] (IxOk MR [0]) 50 yC yC rfl yC (lows_cons (stab_ixR MR 0 rfl rfl yN yA yR) lows_nil) (ixOk_self MR _) ?_; replace M := M.drew; simp only [planC, opAt, List.getElem?_toArray, List.getElem?_cons_zero, List.getElem?_cons_succ, Option.getD_some])) | ((with_reducible refine tLoad ?_); (refine w_at _ _ rfl yI ?_; intro hx; (first | refine w_load M 0 _ _ rfl rfl hx rfl yA yG ?_ | refine w_loadA M 0 _ _ rfl rfl hx rfl yA _ _ _ B.out.1 B.out.2 yC ?_ | refine w_loadR M 0 _ _ rfl rfl hx rfl yA yR ?_); clear hx)) | ((with_reducible refine tM rfl ?_); refine mS ?_; try (clear M; (first | intro g w1 M | intro w1 M); try simp only [setC] at M)) | ((with_reducible first | show Seg _ _ _ _ | show OnlyN _ _ _ _ _); refine rA ?_)) <;> (try conv => arg 5; simp only [apS, setC]))
  go_loopw [3, 6] (fun bv iv wr => bv = .bool false ∧ Mem [] w wr [.row gm C]) (fun _ _ _ => 0)
  case atStart => exact ⟨by first | rfl | (rw [decide_eq_false yE]), M⟩
  case round =>
   clear M
   obtain ⟨rfl, M⟩ := hrel
   go_wp2_with ((first | ((with_reducible refine tGuard ?_); first | ((with_reducible refine w_stripE ?_ ?_); exact dcd) | ((with_reducible refine w_skip1 ?_ ?_); exact dcd) | ((with_reducible refine w_skip0 ?_ ?_); exact dcd)) | ((with_reducible refine tM rfl ?_); refine mS ?_; try (clear M; (first | intro g w1 M | intro w1 M); try simp only [setC] at M))) <;> (try conv => arg 5; simp only [apS, setC]))
   go_ret
   exact ⟨rfl, M.below⟩
theorem Right18_rest (L : Lm) (ov pv : Value) (w : World) (hL : L.fit) (hr : L.rng) (S : SeesL w 3 opV ov L.ops) (T : SeesL w 2 prV pv L.prs) (hk : isK L.k = true) (hs : L = onlyL L) (ce : 0 ≤ L.e) (ca : 0 ≤ L.a) (co : 0 ≤ L.o) (cp : 0 ≤ L.p) (cv : 0 ≤ L.v) (cv4 : L.v ≤ 4) (ci : 0 ≤ L.i) (ci15 : L.i ≤ 15) (cn : L.prs.length ≤ 48) (hq : ¬ L.k = 2) : Calls Tryz.prog 102 #[.agg (msgC (L.ms ov pv)).toArray] w fun r w' => r = .returned (.int .i64 (bytesM L).2) ∧ Below w.heap.size w w' := by
 have M := Mem.start [] w
 obtain ⟨op, oc, rfl, _⟩ := S.form
 obtain ⟨pp, pc, rfl, _⟩ := T.form
 have X := msg_cells (Lm.ms_fit hL (ov := .slice op L.ops.length oc) (pv := .slice pp L.prs.length pc) rfl rfl)
 simp only [Lm.ms] at X
 have kne : ∀ j : UInt8, isK L.k = false → isK j = true → L.k ≠ j := fun j h1 h2 e => by rw [e, h2] at h1; cases h1
 have R10 : isK L.k = false → (bytesM L).2 = 10 := fun h => by rw [bytesM_kind h]
 have hkb : isK L.k = true ↔ 1 ≤ L.k.toNat ∧ L.k.toNat ≤ 7 := by unfold isK; exact decide_eq_true_iff
 obtain ⟨hk1, hk7⟩ := hkb.1 hk
 clear hkb R10 kne
 have OC := fun w S T => Only18_c L (.slice op L.ops.length oc) (.slice pp L.prs.length pc) w hL hk S T
 have hfo := onlyL_fit hL
 have SC := fun w ov' pv' S T S' T' => rSame18_c L (onlyL L) (.slice op L.ops.length oc) (.slice pp L.prs.length pc) ov' pv' w hL hfo S T S' T' (by have := hr.o1; omega) (by have := hr.p1; omega) (by have := (onlyL_lens hr).1; omega) (by have := (onlyL_lens hr).2; omega)
 have YC := fun w S => rBytes_c L.bi L.be hr.be L.ops (.slice op L.ops.length oc) w S hr.o1 (fun x hx => by have := hr.o2 x hx; omega)
 have RN := right_no hL hr hk
 have RY := right_yes hL hr hk
 have NOK := @num_ok L
 have POK := @prs_ok L
 have BOK := @bat_ok L
 have hp2 := hr.p2
 have hp1 := hr.p1
 obtain ⟨R, eR⟩ : ∃ R, R = (bytesM L).2 := ⟨_, rfl⟩
 rw [← eR] at RN RY ⊢
 clear eR hL
 obtain ⟨C, eC⟩ : ∃ C, C = msgC (L.ms (.slice op L.ops.length oc) (.slice pp L.prs.length pc)) := ⟨_, rfl⟩
 have eC' : C = msgC ⟨L.k, L.e, L.a, L.o, L.bi, L.be, .slice op L.ops.length oc, L.p, L.r, L.v, L.i, L.lf, L.rt, .slice pp L.prs.length pc⟩ := eC
 rw [← eC'] at X
 rw [← eC] at OC SC ⊢
 clear eC eC'
 obtain ⟨Nk, Ne, Na, No, Np, Nv, Ni, Npv, ⟨_, _, b1⟩, _, _, _, HLEN, _⟩ := X
 replace Nk := Lib.hid Nk
 replace Ne := Lib.hid Ne
 replace Na := Lib.hid Na
 replace No := Lib.hid No
 replace Np := Lib.hid Np
 replace Nv := Lib.hid Nv
 replace Ni := Lib.hid Ni
 replace Npv := Lib.hid Npv
 have B := Lib.hid b1
 replace HLEN := Lib.hid HLEN
 clear b1
 replace OC := Lib.hid OC
 rw [decide_eq_true hs] at SC
 replace SC := Lib.hid SC
 have HS := Lib.hid fun _ : Unit => hs
 clear hs
 have cn' : (L.prs.length : Int) ≤ 48 := by omega
 have hg1 : ¬ I8 L.k < 1 := by rw [I8_eq]; omega
 have hg2 : ¬ 7 < I8 L.k := by rw [I8_eq]; omega
 clear hk1 hk7 NOK
 replace POK := Lib.hid POK
 obtain ⟨⟨b, eb⟩, eY⟩ : ∃ Y, Y = bytesB L.bi L.be L.ops := ⟨_, rfl⟩
 rw [← eY] at YC BOK RY
 simp only at YC BOK RY
 clear eY
 replace YC := Lib.hid YC
 replace BOK := Lib.hid BOK
 replace RY := Lib.hid RY
 have hk2 : (I8 L.k == 2) = false := by rw [beq_eq_false_iff_ne]; intro h; exact hq (I8_inj.1 h)
 have REND := fun hp => RY.out (HS.out ()).symm cv4 ci15 (fun q => by cases q <;> assumption) cn hp (fun h => absurd h hq)
 replace REND := Lib.hid REND
 replace RN := Lib.hid RN
 clear hq
 go_enter Tryz.func102, Tryz.ntmps102
 go_wp2_with ((first | ((with_reducible refine tGuard ?_); first | ((with_reducible refine w_stripE ?_ ?_); exact dcd) | ((with_reducible refine w_skip1 ?_ ?_); exact dcd) | ((with_reducible refine w_skip0 ?_ ?_); exact dcd)) | ((with_reducible refine tBox (some 1) ?_); refine w_box M _ _ rfl rfl _ rfl (C) rfl ?_; clear M; intro gm w1 M) | (go_at_call 142; (refine (OC.out _ (S.now M) (T.now M)).mono ?_; rintro e w1 ⟨ov', pv', rfl, hb, S1, T1⟩; replace M := M.call hb; clear hb)) | (go_at_call 32; (refine (SC.out _ ov' pv' (S.now M) (T.now M) (S1 _ (S.now M)) (T1 _ (T.now M))).mono ?_; rintro e w1 ⟨rfl, hb⟩; replace M := M.call hb; clear hb)) | (go_at_call 104; (refine (YC.out _ (S.now M)).mono ?_; rintro e w1 ⟨rfl, hb⟩; replace M := M.call hb; clear hb)) | ((with_reducible show Code.wp _ (Code.region 3 _ _) _ _ _); (have MR := M; refine region_lowc [(0, false), (1, true), (2, true), (3, true), (4, true), (5, true), (6, true), (7, true), (8, true), (9, true), (10, true), (11, true), (12, true), (13, true), (14, true), (15, true), (16, true), (17, true), (18, true), (19, true), (20, true), (21, true), (22, true), (23, true), (24, true), (25, true), (26, true), (27, true), (28, true), (29, true), (30, true), (31, true), (32, true), (33, true), (34, true), (35, true), (36, true), (37, true), (38, true), (39, true), (40, true), (41, true), (42, true), (43, true), (44, true), (45, true), (46, true), (47, true), (48, true), (49, true), (50, true)] [] [(0, _)] (IxOk MR [0]) 50 yC yC rfl yC (lows_cons (stab_ixR MR 0 rfl rfl yN yA yR) lows_nil) (ixOk_self MR _) ?_; replace M := M.drew; simp only [planC, opAt, List.getElem?_toArray, List.getElem?_cons_zero, List.getElem?_cons_succ, Option.getD_some])) | ((with_reducible refine tLoad ?_); (refine w_at _ _ rfl yI ?_; intro hx; (first | refine w_load M 0 _ _ rfl rfl hx rfl yA yG ?_ | refine w_loadA M 0 _ _ rfl rfl hx rfl yA _ _ _ B.out.1 B.out.2 yC ?_ | refine w_loadR M 0 _ _ rfl rfl hx rfl yA yR ?_); clear hx)) | ((with_reducible refine tM rfl ?_); refine mS ?_; try (clear M; (first | intro g w1 M | intro w1 M); try simp only [setC] at M)) | ((with_reducible first | show Seg _ _ _ _ | show OnlyN _ _ _ _ _); refine rA ?_)) <;> (try conv => arg 5; simp only [apS, setC]))
 go_loopw [3, 6] (fun bv iv wr => ∃ j : Nat, j ≤ L.prs.length ∧ iv = .int .i64 j ∧ bv = .bool ((L.prs.take j).all okP) ∧ Mem [] w wr [.row gm C]) (fun _ iv _ => L.prs.length - (intOf iv).toNat)
 case atStart => exact ⟨0, by omega, rfl, by first | rfl | (rw [decide_eq_true yE]; rfl), M⟩
 case round =>
  clear M
  obtain ⟨j, hj, rfl, rfl, M⟩ := hrel
  cases hb : (L.prs.take j).all okP with
  | false =>
   have e0 := RN.out (fun h => by
    have h1 := (POK.out h.2 h.1).2
    have h2 : (L.prs.take j).all okP = true := List.all_eq_true.2 fun x hx => List.all_eq_true.1 h1 x (List.mem_of_mem_take hx)
    rw [hb] at h2; cases h2)
   subst e0
   clear hb
   go_wp2_with ((first | ((with_reducible refine tGuard ?_); first | ((with_reducible refine w_stripE ?_ ?_); exact dcd) | ((with_reducible refine w_skip1 ?_ ?_); exact dcd) | ((with_reducible refine w_skip0 ?_ ?_); exact dcd)) | ((with_reducible refine tM rfl ?_); refine mS ?_; try (clear M; (first | intro g w1 M | intro w1 M); try simp only [setC] at M))) <;> (try conv => arg 5; simp only [apS, setC]))
   go_ret
   exact ⟨rfl, M.below⟩
  | true =>
   have HB := Lib.hid hb
   clear hb
   by_cases hlt : j < L.prs.length
   ·obtain ⟨gp, so, rfl⟩ := T.addr yE
    obtain ⟨⟨x, y⟩, hx⟩ : ∃ x, L.prs[j]? = some x := ⟨_, List.getElem?_eq_getElem hlt⟩
    obtain ⟨hx1, hy1⟩ := hp2 (x, y) (List.mem_of_getElem? hx)
    simp only at hx1 hy1
    have HA : (L.prs.take (j + 1)).all okP = okP (x, y) := by
     obtain ⟨hk, e⟩ := List.getElem?_eq_some_iff.1 hx
     rw [List.take_succ_eq_append_getElem hk, List.all_append, HB.out, e]; simp
    replace HA := Lib.hid HA
    have HX := Lib.hid hx
    clear hx
    by_cases hx33 : x.length ≤ 33
    ·go_wp2_with ((first | ((with_reducible refine tGuard ?_); first | ((with_reducible refine w_stripE ?_ ?_); exact dcd) | ((with_reducible refine w_skip1 ?_ ?_); exact dcd) | ((with_reducible refine w_skip0 ?_ ?_); exact dcd)) | ((with_reducible refine tLoad ?_); (refine w_at _ _ rfl yI ?_; intro hx; (first | refine w_load M 0 _ _ rfl rfl hx rfl yA yG ?_ | refine w_loadA M 0 _ _ rfl rfl hx rfl yA _ _ _ B.out.1 B.out.2 yC ?_ | refine w_loadR M 0 _ _ rfl rfl hx rfl yA yR ?_ | refine w_see M T HX.out _ _ rfl hx rfl yA 0 yD rfl ?_ | refine w_see M T HX.out _ _ rfl hx rfl yA 1 yD rfl ?_); clear hx)) | ((with_reducible refine tM rfl ?_); refine mS ?_; try (clear M; (first | intro g w1 M | intro w1 M); try simp only [setC] at M))) <;> (try conv => arg 5; simp only [apS, setC]))
     go_roundw
     case rel => exact ⟨j + 1, by omega, by go_num, by rw [HA.out]; unfold okP; simp only; rw [decide_eq_true hx33, Bool.true_and]; simp; omega, M⟩
     case measure => simp [intOf]; omega
    ·go_wp2_with ((first | ((with_reducible refine tGuard ?_); first | ((with_reducible refine w_stripE ?_ ?_); exact dcd) | ((with_reducible refine w_skip1 ?_ ?_); exact dcd) | ((with_reducible refine w_skip0 ?_ ?_); exact dcd)) | ((with_reducible refine tLoad ?_); (refine w_at _ _ rfl yI ?_; intro hx; (first | refine w_load M 0 _ _ rfl rfl hx rfl yA yG ?_ | refine w_loadA M 0 _ _ rfl rfl hx rfl yA _ _ _ B.out.1 B.out.2 yC ?_ | refine w_loadR M 0 _ _ rfl rfl hx rfl yA yR ?_ | refine w_see M T HX.out _ _ rfl hx rfl yA 0 yD rfl ?_ | refine w_see M T HX.out _ _ rfl hx rfl yA 1 yD rfl ?_); clear hx)) | ((with_reducible refine tM rfl ?_); refine mS ?_; try (clear M; (first | intro g w1 M | intro w1 M); try simp only [setC] at M))) <;> (try conv => arg 5; simp only [apS, setC]))
     go_roundw
     case rel => exact ⟨j + 1, by omega, by go_num, by rw [HA.out]; unfold okP; simp only; rw [decide_eq_false hx33]; first | rfl | simp, M⟩
     case measure => simp [intOf]; omega
   ·obtain rfl : j = L.prs.length := by omega
    rw [List.take_length] at HB
    have e0 := REND.out HB.out
    subst e0
    go_wp2_with ((first | ((with_reducible refine tGuard ?_); first | ((with_reducible refine w_stripE ?_ ?_); exact dcd) | ((with_reducible refine w_skip1 ?_ ?_); exact dcd) | ((with_reducible refine w_skip0 ?_ ?_); exact dcd)) | ((with_reducible refine tLoad ?_); (refine w_at _ _ rfl yI ?_; intro hx; (first | refine w_load M 0 _ _ rfl rfl hx rfl yA yG ?_ | refine w_loadA M 0 _ _ rfl rfl hx rfl yA _ _ _ B.out.1 B.out.2 yC ?_ | refine w_loadR M 0 _ _ rfl rfl hx rfl yA yR ?_); clear hx)) | ((with_reducible refine tM rfl ?_); refine mS ?_; try (clear M; (first | intro g w1 M | intro w1 M); try simp only [setC] at M))) <;> (try conv => arg 5; simp only [apS, setC]))
    go_ret
    exact ⟨rfl, M.below⟩
theorem Right18_c (L : Lm) (ov pv : Value) (w : World) (hL : L.fit) (hr : L.rng) (S : SeesL w 3 opV ov L.ops) (T : SeesL w 2 prV pv L.prs) : Calls Tryz.prog 102 #[.agg (msgC (L.ms ov pv)).toArray] w fun r w' => r = .returned (.int .i64 (bytesM L).2) ∧ Below w.heap.size w w' := by
 cases hk : isK L.k with
 | false => exact Right18_none L ov pv w hL hr S T hk
 | true =>
 by_cases hs : L = onlyL L
 rotate_left
 ·exact Right18_fail1 L ov pv w hL hr S T hk (.inl hs)
 by_cases ce : 0 ≤ L.e
 rotate_left
 ·exact Right18_fail1 L ov pv w hL hr S T hk (.inr (.inl ⟨hs, ce⟩))
 by_cases ca : 0 ≤ L.a
 rotate_left
 ·exact Right18_fail1 L ov pv w hL hr S T hk (.inr (.inr (.inl ⟨hs, ce, ca⟩)))
 by_cases co : 0 ≤ L.o
 rotate_left
 ·exact Right18_fail1 L ov pv w hL hr S T hk (.inr (.inr (.inr (.inl ⟨hs, ce, ca, co⟩))))
 by_cases cp : 0 ≤ L.p
 rotate_left
 ·exact Right18_fail1 L ov pv w hL hr S T hk (.inr (.inr (.inr (.inr (⟨hs, ce, ca, co, cp⟩)))))
 by_cases cv : 0 ≤ L.v
 rotate_left
 ·exact Right18_fail2 L ov pv w hL hr S T hk (.inl ⟨hs, ce, ca, co, cp, cv⟩)
 by_cases cv4 : L.v ≤ 4
 rotate_left
 ·exact Right18_fail2 L ov pv w hL hr S T hk (.inr (.inl ⟨hs, ce, ca, co, cp, cv, cv4⟩))
 by_cases ci : 0 ≤ L.i
 rotate_left
 ·exact Right18_fail2 L ov pv w hL hr S T hk (.inr (.inr (.inl ⟨hs, ce, ca, co, cp, cv, cv4, ci⟩)))
 by_cases ci15 : L.i ≤ 15
 rotate_left
 ·exact Right18_fail2 L ov pv w hL hr S T hk (.inr (.inr (.inr (.inl ⟨hs, ce, ca, co, cp, cv, cv4, ci, ci15⟩))))
 by_cases cn : L.prs.length ≤ 48
 rotate_left
 ·exact Right18_fail2 L ov pv w hL hr S T hk (.inr (.inr (.inr (.inr (⟨hs, ce, ca, co, cp, cv, cv4, ci, ci15, cn⟩)))))
 by_cases hq : L.k = 2
 ·exact Right18_two L ov pv w hL hr S T hk hs ce ca co cp cv cv4 ci ci15 cn hq
 ·exact Right18_rest L ov pv w hL hr S T hk hs ce ca co cp cv cv4 ci ci15 cn hq
end Go.Proofs.YtidadhbaomieiaaGreat

namespace Go
namespace TL
theorem OnS.hash {s : List UInt8} (h0 : List UInt8) {x : InS} (h : OnS s x) : ∀ n, OnS s (hashS h0 x n).1
 | 0 => h
 | n + 1 => (OnS.hash h0 h n).byte
end TL
end Go
namespace Go.Proofs.YtidadhbaomieiaaGreat
open Go.RowKit Go.TL
section
variable (g : Nat) (s : List UInt8) (x : InS) (w : World) (h : (Chunk.row g (irB s x)).ok w) (hx : OnS s x) (hs : s.length ≤ 1000000000)
include h hx hs
end
end Go.Proofs.YtidadhbaomieiaaGreat

namespace Go.Proofs.YtidadhbaomieiaaGreat
open Go.RowKit Go.TL
theorem num18_c (n : Nat) (a : Int) (ha : a = (n : Int)) (w : World) (h : n ≤ 9223372036854775807) :
  Calls Tryz.prog 103 #[.int .i64 a] w fun e w' => e = .returned (.string (mkS (numL n))) ∧ Below w.heap.size w w' := by
 subst ha
 have M := Mem.start [] w
 have e1 := I64_nat n yE
 go_enter Tryz.func103, Tryz.ntmps103
 go_wp2_with ((go_at_call 107; (refine (Num01_c n (n : Int) rfl _ yE).mono ?_; rintro e w1 ⟨rfl, hb⟩; replace M := M.call hb; clear hb)))
 go_ret
 exact ⟨rfl, M.below⟩
section
variable (g : Nat) (s : List UInt8) (x : InS) (w : World) (h : (Chunk.row g (irB s x)).ok w) (hx : OnS s x) (hs : s.length ≤ 1000000000)
include h hx hs
end
end Go.Proofs.YtidadhbaomieiaaGreat
