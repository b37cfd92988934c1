/- Texts of this seat, put together: Ref18R. Each begins with a remark that says what is proved in it, and under which conditions. -/
import Derived.Test.YtoaabclemeibhaaZf
/- The walk of layer 18's reference's Right: the rest. Conditions: lengths; the numbers are int's. -/
namespace Go.Proofs.Ytoaabclemeibhaa
open Go.RowKit Go.TL
set_option maxRecDepth 100000 in
set_option maxHeartbeats 32000000 in
theorem Right18_two (L : Lm) (ov pv : Value) (w : World) (hL : L.fit) (hr : L.rng) (S : SeesL w 3 opV ov L.ops) (T : SeesL w 2 prV pv L.prs) (hk : isK L.k = true) (hs : L = onlyL L) (ce : 0 ≤ L.e) (ca : 0 ≤ L.a) (co : 0 ≤ L.o) (cp : 0 ≤ L.p) (cv : 0 ≤ L.v) (cv4 : L.v ≤ 4) (ci : 0 ≤ L.i) (ci15 : L.i ≤ 15) (cn : L.prs.length ≤ 48) (hq : L.k = 2) : Calls Try.prog 20 #[.agg (msgC (L.ms ov pv)).toArray] w fun r w' => r = .returned (.int .i64 (bytesM L).2) ∧ Below w.heap.size w w' := by
  have M := Mem.start [] w
  obtain ⟨op, oc, rfl, _⟩ := S.form
  obtain ⟨pp, pc, rfl, _⟩ := T.form
  have X := msg_cells (Lm.ms_fit hL (ov := .slice op L.ops.length oc) (pv := .slice pp L.prs.length pc) rfl rfl)
  simp only [Lm.ms] at X
  have kne : ∀ j : UInt8, isK L.k = false → isK j = true → L.k ≠ j := fun j h1 h2 e => by rw [e, h2] at h1; cases h1
  have R10 : isK L.k = false → (bytesM L).2 = 10 := fun h => by rw [bytesM_kind h]
  have hkb : isK L.k = true ↔ 1 ≤ L.k.toNat ∧ L.k.toNat ≤ 7 := by unfold isK; exact decide_eq_true_iff
  obtain ⟨hk1, hk7⟩ := hkb.1 hk
  clear hkb R10 kne
  have OC := fun w S T => Only18_c L (.slice op L.ops.length oc) (.slice pp L.prs.length pc) w hL hk S T
  have hfo := onlyL_fit hL
  have SC := fun w ov' pv' S T S' T' => rSame18_c L (onlyL L) (.slice op L.ops.length oc) (.slice pp L.prs.length pc) ov' pv' w hL hfo S T S' T' (by have := hr.o1; omega) (by have := hr.p1; omega) (by have := (onlyL_lens hr).1; omega) (by have := (onlyL_lens hr).2; omega)
  have YC := fun w S => rBytes_c L.bi L.be hr.be L.ops (.slice op L.ops.length oc) w S hr.o1 (fun x hx => by have := hr.o2 x hx; omega)
  have RN := right_no hL hr hk
  have RY := right_yes hL hr hk
  have NOK := @num_ok L
  have POK := @prs_ok L
  have BOK := @bat_ok L
  have hp2 := hr.p2
  have hp1 := hr.p1
  obtain ⟨R, eR⟩ : ∃ R, R = (bytesM L).2 := ⟨_, rfl⟩
  rw [← eR] at RN RY ⊢
  clear eR hL
  obtain ⟨C, eC⟩ : ∃ C, C = msgC (L.ms (.slice op L.ops.length oc) (.slice pp L.prs.length pc)) := ⟨_, rfl⟩
  have eC' : C = msgC ⟨L.k, L.e, L.a, L.o, L.bi, L.be, .slice op L.ops.length oc, L.p, L.r, L.v, L.i, L.lf, L.rt, .slice pp L.prs.length pc⟩ := eC
  rw [← eC'] at X
  rw [← eC] at OC SC ⊢
  clear eC eC'
  obtain ⟨Nk, Ne, Na, No, Np, Nv, Ni, Npv, ⟨_, _, b1⟩, _, _, _, HLEN, _⟩ := X
  replace Nk := Lib.hid Nk
  replace Ne := Lib.hid Ne
  replace Na := Lib.hid Na
  replace No := Lib.hid No
  replace Np := Lib.hid Np
  replace Nv := Lib.hid Nv
  replace Ni := Lib.hid Ni
  replace Npv := Lib.hid Npv
  have B := Lib.hid b1
  replace HLEN := Lib.hid HLEN
  clear b1
  replace OC := Lib.hid OC
  rw [decide_eq_true hs] at SC
  replace SC := Lib.hid SC
  have HS := Lib.hid fun _ : Unit => hs
  clear hs
  have cn' : (L.prs.length : Int) ≤ 48 := by omega
  have hg1 : ¬ I8 L.k < 1 := by rw [I8_eq]; omega
  have hg2 : ¬ 7 < I8 L.k := by rw [I8_eq]; omega
  clear hk1 hk7 NOK
  replace POK := Lib.hid POK
  obtain ⟨⟨b, eb⟩, eY⟩ : ∃ Y, Y = bytesB L.bi L.be L.ops := ⟨_, rfl⟩
  rw [← eY] at YC BOK RY
  simp only at YC BOK RY
  clear eY
  replace YC := Lib.hid YC
  replace BOK := Lib.hid BOK
  replace RY := Lib.hid RY
  have hk2 : (I8 L.k == 2) = true := by rw [beq_iff_eq]; rw [hq]; rfl
  by_cases hb0 : eb = 0
  · subst hb0
    by_cases hb5 : b.length ≤ 512
    · have REND := fun hp => RY.out (HS.out ()).symm cv4 ci15 (fun q => by cases q <;> assumption) cn hp (fun _ => ⟨rfl, hb5⟩)
      replace REND := Lib.hid REND
      replace RN := Lib.hid RN
      clear hq
      go_enter Try.func20, Try.ntmps20
      go_wp2_with ((first | ((with_reducible refine tGuard ?_); (with_reducible refine w_stripE ?_ ?_); (focus (refine ⟨_, rfl, ?_⟩; first | (with_reducible rfl) | exact decide_eq_false (by omega) | exact decide_eq_true (by omega)))) | ((with_reducible refine tGuard ?_); first | ((with_reducible refine w_skip1 ?_ ?_); (focus (refine ⟨_, rfl, ?_⟩; first | (with_reducible rfl) | exact decide_eq_false (by omega) | exact decide_eq_true (by omega)))) | ((with_reducible refine w_skip0 ?_ ?_); (focus (refine ⟨_, rfl, ?_⟩; first | (with_reducible rfl) | exact decide_eq_false (by omega) | exact decide_eq_true (by omega))))) | ((with_reducible refine tBox (some 1) ?_); refine w_box M _ _ rfl rfl _ rfl (C) rfl ?_; clear M; intro gm w1 M) | (go_at_call 19; go_must (refine (OC.out _ (S.now M) (T.now M)).mono ?_; rintro e w1 ⟨ov', pv', rfl, hb, S1, T1⟩; replace M := M.call hb; clear hb)) | (go_at_call 13; go_must (refine (SC.out _ ov' pv' (S.now M) (T.now M) (S1 _ (S.now M)) (T1 _ (T.now M))).mono ?_; rintro e w1 ⟨rfl, hb⟩; replace M := M.call hb; clear hb)) | (go_at_call 37; go_must (refine (YC.out _ (S.now M)).mono ?_; rintro e w1 ⟨rfl, hb⟩; replace M := M.call hb; clear hb)) | ((with_reducible show Code.wp _ (Code.region 3 _ _) _ _ _); go_must (have MR := M; refine region_lowc [(0, false), (1, true), (2, true), (3, true), (4, true), (5, true), (6, true), (7, true), (8, true), (9, true), (10, true), (11, true), (12, true), (13, true), (14, true), (15, true), (16, true), (17, true), (18, true), (19, true), (20, true), (21, true), (22, true), (23, true), (24, true), (25, true), (26, true), (27, true), (28, true), (29, true), (30, true), (31, true), (32, true), (33, true), (34, true), (35, true), (36, true), (37, true), (38, true), (39, true), (40, true), (41, true), (42, true), (43, true), (44, true), (45, true), (46, true), (47, true), (48, true), (49, true), (50, true)] [] [(0, _)] (IxOk MR [0]) 50 (by kernel_rfl) (by kernel_rfl) rfl (by kernel_rfl) (lows_cons (stab_ixR MR 0 rfl rfl (by decide) (by decide +kernel) (by rw [HLEN.out]; kernel_rfl)) lows_nil) (ixOk_self MR _) ?_; replace M := M.drew; simp only [planC, opAt, List.getElem?_toArray, List.getElem?_cons_zero, List.getElem?_cons_succ, Option.getD_some])) | ((with_reducible refine tLoad ?_); go_must (refine w_at _ _ rfl (by exact ev_tmp rfl) ?_; intro hx; (first | refine w_load M 0 _ _ rfl rfl hx rfl (by decide +kernel) (by with_reducible first | exact Nk.out | exact Ne.out | exact Na.out | exact No.out | exact Np.out | exact Nv.out | exact Ni.out | exact Npv.out) ?_ | refine w_loadA M 0 _ _ rfl rfl hx rfl (by decide +kernel) _ _ _ B.out.1 B.out.2 (by kernel_rfl) ?_ | refine w_loadR M 0 _ _ rfl rfl hx rfl (by decide +kernel) (by rw [HLEN.out]; kernel_rfl) ?_); clear hx)) | ((with_reducible show Seg _ _ _ _); go_must (first | refine Seg.intro ⟨fun h => absurd rfl h, ?_⟩ | refine Seg.intro ⟨fun _ => (by repeat' (first | exact ixOk_nil M.kept | refine ixOk_cons rfl (by first | exact M.ok 0 _ rfl | exact M.ok 1 _ rfl) ?_)), ?_⟩ | refine Seg.intro ⟨(by repeat' (first | (with_reducible exact needs_nil) | refine needs_at rfl (by first | (show Shape.ok Shape.nums _ = true; exact nums_bs _) | rfl) ?_)), (by repeat' (first | (with_reducible exact ats_nil) | refine ats_cons (by first | exact ev_tmp rfl | rfl) ?_)), ?_⟩)) | ((with_reducible show OnlyN _ _ _ _ _); refine OnlyN.intro (by kernel_rfl) ?_) | ((with_reducible refine tGuard ?_); refine w_strip rfl (by with_reducible rfl) ?_) | fail | ((with_reducible refine tLoad ?_); go_must (refine w_at _ _ rfl (by exact ev_tmp rfl) ?_; intro hx; (first | refine w_load M _ _ _ rfl rfl hx rfl (by decide +kernel) (by exact rfl) ?_ | refine w_loadR M _ _ _ rfl rfl hx rfl (by decide +kernel) (by kernel_rfl) ?_); clear hx)) | ((with_reducible refine tStore ?_); go_must (refine w_at2 _ _ _ rfl (by exact ev_tmp rfl) (by first | exact ev_tmp rfl | exact ev_const) ?_; intro hx hy; (first | refine w_store M _ _ _ _ rfl rfl hx rfl hy rfl rfl (by decide +kernel) (by first | decide | simp | (simp; omega)) ?_ | refine w_storeR M _ _ _ _ rfl rfl hx rfl _ hy rfl (by kernel_rfl) (by simp [Value.oneCell']) (by first | rfl | assumption) ?_); clear hx hy M; intro w1 M; (try simp only [setC] at M))) | ((with_reducible refine tBox _ ?_); (refine w_box M _ _ rfl rfl _ rfl _ rfl ?_; clear M; intro g w1 M))) <;> (try conv => arg 5; simp only [Act.put, List.setIfInBounds_toArray, setC]))
      go_loopw [3, 6] (fun bv iv wr => ∃ j : Nat, j ≤ L.prs.length ∧ iv = .int .i64 j ∧ bv = .bool ((L.prs.take j).all okP) ∧ Mem [] w wr [.row gm C]) (fun _ iv _ => L.prs.length - (intOf iv).toNat)
      case atStart => exact ⟨0, by omega, rfl, by first | rfl | (rw [decide_eq_true (by omega)]; rfl), M⟩
      case round =>
        clear M
        obtain ⟨j, hj, rfl, rfl, M⟩ := hrel
        cases hb : (L.prs.take j).all okP with
        | false =>
          have e0 := RN.out (fun h => by
            have h1 := (POK.out h.2 h.1).2
            have h2 : (L.prs.take j).all okP = true := List.all_eq_true.2 fun x hx => List.all_eq_true.1 h1 x (List.mem_of_mem_take hx)
            rw [hb] at h2; cases h2)
          subst e0
          clear hb
          go_wp2_with ((first | ((with_reducible refine tGuard ?_); (with_reducible refine w_stripE ?_ ?_); (focus (refine ⟨_, rfl, ?_⟩; first | (with_reducible rfl) | exact decide_eq_false (by omega) | exact decide_eq_true (by omega)))) | ((with_reducible refine tGuard ?_); first | ((with_reducible refine w_skip1 ?_ ?_); (focus (refine ⟨_, rfl, ?_⟩; first | (with_reducible rfl) | exact decide_eq_false (by omega) | exact decide_eq_true (by omega)))) | ((with_reducible refine w_skip0 ?_ ?_); (focus (refine ⟨_, rfl, ?_⟩; first | (with_reducible rfl) | exact decide_eq_false (by omega) | exact decide_eq_true (by omega))))) | ((with_reducible refine tGuard ?_); refine w_strip rfl (by with_reducible rfl) ?_) | fail | ((with_reducible refine tLoad ?_); go_must (refine w_at _ _ rfl (by exact ev_tmp rfl) ?_; intro hx; (first | refine w_load M _ _ _ rfl rfl hx rfl (by decide +kernel) (by exact rfl) ?_ | refine w_loadR M _ _ _ rfl rfl hx rfl (by decide +kernel) (by kernel_rfl) ?_); clear hx)) | ((with_reducible refine tStore ?_); go_must (refine w_at2 _ _ _ rfl (by exact ev_tmp rfl) (by first | exact ev_tmp rfl | exact ev_const) ?_; intro hx hy; (first | refine w_store M _ _ _ _ rfl rfl hx rfl hy rfl rfl (by decide +kernel) (by first | decide | simp | (simp; omega)) ?_ | refine w_storeR M _ _ _ _ rfl rfl hx rfl _ hy rfl (by kernel_rfl) (by simp [Value.oneCell']) (by first | rfl | assumption) ?_); clear hx hy M; intro w1 M; (try simp only [setC] at M))) | ((with_reducible refine tBox _ ?_); (refine w_box M _ _ rfl rfl _ rfl _ rfl ?_; clear M; intro g w1 M))) <;> (try conv => arg 5; simp only [Act.put, List.setIfInBounds_toArray, setC]))
          go_ret
          exact ⟨rfl, M.below⟩
        | true =>
          have HB := Lib.hid hb
          clear hb
          by_cases hlt : j < L.prs.length
          · obtain ⟨gp, so, rfl⟩ := T.addr (by omega)
            obtain ⟨⟨x, y⟩, hx⟩ : ∃ x, L.prs[j]? = some x := ⟨_, List.getElem?_eq_getElem hlt⟩
            obtain ⟨hx1, hy1⟩ := hp2 (x, y) (List.mem_of_getElem? hx)
            simp only at hx1 hy1
            have HA : (L.prs.take (j + 1)).all okP = okP (x, y) := by
              obtain ⟨hk, e⟩ := List.getElem?_eq_some_iff.1 hx
              rw [List.take_succ_eq_append_getElem hk, List.all_append, HB.out, e]; simp
            replace HA := Lib.hid HA
            have HX := Lib.hid hx
            clear hx
            by_cases hx33 : x.length ≤ 33
            · go_wp2_with ((first | ((with_reducible refine tGuard ?_); (with_reducible refine w_stripE ?_ ?_); (focus (refine ⟨_, rfl, ?_⟩; first | (with_reducible rfl) | exact decide_eq_false (by omega) | exact decide_eq_true (by omega)))) | ((with_reducible refine tGuard ?_); first | ((with_reducible refine w_skip1 ?_ ?_); (focus (refine ⟨_, rfl, ?_⟩; first | (with_reducible rfl) | exact decide_eq_false (by omega) | exact decide_eq_true (by omega)))) | ((with_reducible refine w_skip0 ?_ ?_); (focus (refine ⟨_, rfl, ?_⟩; first | (with_reducible rfl) | exact decide_eq_false (by omega) | exact decide_eq_true (by omega))))) | ((with_reducible refine tLoad ?_); go_must (refine w_at _ _ rfl (by exact ev_tmp rfl) ?_; intro hx; (first | refine w_load M 0 _ _ rfl rfl hx rfl (by decide +kernel) (by with_reducible first | exact Nk.out | exact Ne.out | exact Na.out | exact No.out | exact Np.out | exact Nv.out | exact Ni.out | exact Npv.out) ?_ | refine w_loadA M 0 _ _ rfl rfl hx rfl (by decide +kernel) _ _ _ B.out.1 B.out.2 (by kernel_rfl) ?_ | refine w_loadR M 0 _ _ rfl rfl hx rfl (by decide +kernel) (by rw [HLEN.out]; kernel_rfl) ?_ | refine w_see M T HX.out _ _ rfl hx rfl (by decide +kernel) 0 (by first | (with_reducible rfl) | omega) rfl ?_ | refine w_see M T HX.out _ _ rfl hx rfl (by decide +kernel) 1 (by first | (with_reducible rfl) | omega) rfl ?_); clear hx)) | ((with_reducible refine tGuard ?_); refine w_strip rfl (by with_reducible rfl) ?_) | fail | ((with_reducible refine tLoad ?_); go_must (refine w_at _ _ rfl (by exact ev_tmp rfl) ?_; intro hx; (first | refine w_load M _ _ _ rfl rfl hx rfl (by decide +kernel) (by exact rfl) ?_ | refine w_loadR M _ _ _ rfl rfl hx rfl (by decide +kernel) (by kernel_rfl) ?_); clear hx)) | ((with_reducible refine tStore ?_); go_must (refine w_at2 _ _ _ rfl (by exact ev_tmp rfl) (by first | exact ev_tmp rfl | exact ev_const) ?_; intro hx hy; (first | refine w_store M _ _ _ _ rfl rfl hx rfl hy rfl rfl (by decide +kernel) (by first | decide | simp | (simp; omega)) ?_ | refine w_storeR M _ _ _ _ rfl rfl hx rfl _ hy rfl (by kernel_rfl) (by simp [Value.oneCell']) (by first | rfl | assumption) ?_); clear hx hy M; intro w1 M; (try simp only [setC] at M))) | ((with_reducible refine tBox _ ?_); (refine w_box M _ _ rfl rfl _ rfl _ rfl ?_; clear M; intro g w1 M))) <;> (try conv => arg 5; simp only [Act.put, List.setIfInBounds_toArray, setC]))
              go_roundw
              case rel => exact ⟨j + 1, by omega, by go_num, by rw [HA.out]; unfold okP; simp only; rw [decide_eq_true hx33, Bool.true_and]; simp; omega, M⟩
              case measure => simp [intOf]; omega
            · go_wp2_with ((first | ((with_reducible refine tGuard ?_); (with_reducible refine w_stripE ?_ ?_); (focus (refine ⟨_, rfl, ?_⟩; first | (with_reducible rfl) | exact decide_eq_false (by omega) | exact decide_eq_true (by omega)))) | ((with_reducible refine tGuard ?_); first | ((with_reducible refine w_skip1 ?_ ?_); (focus (refine ⟨_, rfl, ?_⟩; first | (with_reducible rfl) | exact decide_eq_false (by omega) | exact decide_eq_true (by omega)))) | ((with_reducible refine w_skip0 ?_ ?_); (focus (refine ⟨_, rfl, ?_⟩; first | (with_reducible rfl) | exact decide_eq_false (by omega) | exact decide_eq_true (by omega))))) | ((with_reducible refine tLoad ?_); go_must (refine w_at _ _ rfl (by exact ev_tmp rfl) ?_; intro hx; (first | refine w_load M 0 _ _ rfl rfl hx rfl (by decide +kernel) (by with_reducible first | exact Nk.out | exact Ne.out | exact Na.out | exact No.out | exact Np.out | exact Nv.out | exact Ni.out | exact Npv.out) ?_ | refine w_loadA M 0 _ _ rfl rfl hx rfl (by decide +kernel) _ _ _ B.out.1 B.out.2 (by kernel_rfl) ?_ | refine w_loadR M 0 _ _ rfl rfl hx rfl (by decide +kernel) (by rw [HLEN.out]; kernel_rfl) ?_ | refine w_see M T HX.out _ _ rfl hx rfl (by decide +kernel) 0 (by first | (with_reducible rfl) | omega) rfl ?_ | refine w_see M T HX.out _ _ rfl hx rfl (by decide +kernel) 1 (by first | (with_reducible rfl) | omega) rfl ?_); clear hx)) | ((with_reducible refine tGuard ?_); refine w_strip rfl (by with_reducible rfl) ?_) | fail | ((with_reducible refine tLoad ?_); go_must (refine w_at _ _ rfl (by exact ev_tmp rfl) ?_; intro hx; (first | refine w_load M _ _ _ rfl rfl hx rfl (by decide +kernel) (by exact rfl) ?_ | refine w_loadR M _ _ _ rfl rfl hx rfl (by decide +kernel) (by kernel_rfl) ?_); clear hx)) | ((with_reducible refine tStore ?_); go_must (refine w_at2 _ _ _ rfl (by exact ev_tmp rfl) (by first | exact ev_tmp rfl | exact ev_const) ?_; intro hx hy; (first | refine w_store M _ _ _ _ rfl rfl hx rfl hy rfl rfl (by decide +kernel) (by first | decide | simp | (simp; omega)) ?_ | refine w_storeR M _ _ _ _ rfl rfl hx rfl _ hy rfl (by kernel_rfl) (by simp [Value.oneCell']) (by first | rfl | assumption) ?_); clear hx hy M; intro w1 M; (try simp only [setC] at M))) | ((with_reducible refine tBox _ ?_); (refine w_box M _ _ rfl rfl _ rfl _ rfl ?_; clear M; intro g w1 M))) <;> (try conv => arg 5; simp only [Act.put, List.setIfInBounds_toArray, setC]))
              go_roundw
              case rel => exact ⟨j + 1, by omega, by go_num, by rw [HA.out]; unfold okP; simp only; rw [decide_eq_false hx33]; first | rfl | simp, M⟩
              case measure => simp [intOf]; omega
          · obtain rfl : j = L.prs.length := by omega
            rw [List.take_length] at HB
            have e0 := REND.out HB.out
            subst e0
            go_wp2_with ((first | ((with_reducible refine tGuard ?_); (with_reducible refine w_stripE ?_ ?_); (focus (refine ⟨_, rfl, ?_⟩; first | (with_reducible rfl) | exact decide_eq_false (by omega) | exact decide_eq_true (by omega)))) | ((with_reducible refine tGuard ?_); first | ((with_reducible refine w_skip1 ?_ ?_); (focus (refine ⟨_, rfl, ?_⟩; first | (with_reducible rfl) | exact decide_eq_false (by omega) | exact decide_eq_true (by omega)))) | ((with_reducible refine w_skip0 ?_ ?_); (focus (refine ⟨_, rfl, ?_⟩; first | (with_reducible rfl) | exact decide_eq_false (by omega) | exact decide_eq_true (by omega))))) | ((with_reducible refine tLoad ?_); go_must (refine w_at _ _ rfl (by exact ev_tmp rfl) ?_; intro hx; (first | refine w_load M 0 _ _ rfl rfl hx rfl (by decide +kernel) (by with_reducible first | exact Nk.out | exact Ne.out | exact Na.out | exact No.out | exact Np.out | exact Nv.out | exact Ni.out | exact Npv.out) ?_ | refine w_loadA M 0 _ _ rfl rfl hx rfl (by decide +kernel) _ _ _ B.out.1 B.out.2 (by kernel_rfl) ?_ | refine w_loadR M 0 _ _ rfl rfl hx rfl (by decide +kernel) (by rw [HLEN.out]; kernel_rfl) ?_); clear hx)) | ((with_reducible refine tGuard ?_); refine w_strip rfl (by with_reducible rfl) ?_) | fail | ((with_reducible refine tLoad ?_); go_must (refine w_at _ _ rfl (by exact ev_tmp rfl) ?_; intro hx; (first | refine w_load M _ _ _ rfl rfl hx rfl (by decide +kernel) (by exact rfl) ?_ | refine w_loadR M _ _ _ rfl rfl hx rfl (by decide +kernel) (by kernel_rfl) ?_); clear hx)) | ((with_reducible refine tStore ?_); go_must (refine w_at2 _ _ _ rfl (by exact ev_tmp rfl) (by first | exact ev_tmp rfl | exact ev_const) ?_; intro hx hy; (first | refine w_store M _ _ _ _ rfl rfl hx rfl hy rfl rfl (by decide +kernel) (by first | decide | simp | (simp; omega)) ?_ | refine w_storeR M _ _ _ _ rfl rfl hx rfl _ hy rfl (by kernel_rfl) (by simp [Value.oneCell']) (by first | rfl | assumption) ?_); clear hx hy M; intro w1 M; (try simp only [setC] at M))) | ((with_reducible refine tBox _ ?_); (refine w_box M _ _ rfl rfl _ rfl _ rfl ?_; clear M; intro g w1 M))) <;> (try conv => arg 5; simp only [Act.put, List.setIfInBounds_toArray, setC]))
            go_ret
            exact ⟨rfl, M.below⟩
    · have e0 := RN (fun h => hb5 (BOK.out h.1 hq).2)
      subst e0
      have hb6 : ¬ (b.length : Int) ≤ 512 := by omega
      clear hq RN
      go_enter Try.func20, Try.ntmps20
      go_wp2_with ((first | ((with_reducible refine tGuard ?_); (with_reducible refine w_stripE ?_ ?_); (focus (refine ⟨_, rfl, ?_⟩; first | (with_reducible rfl) | exact decide_eq_false (by omega) | exact decide_eq_true (by omega)))) | ((with_reducible refine tGuard ?_); first | ((with_reducible refine w_skip1 ?_ ?_); (focus (refine ⟨_, rfl, ?_⟩; first | (with_reducible rfl) | exact decide_eq_false (by omega) | exact decide_eq_true (by omega)))) | ((with_reducible refine w_skip0 ?_ ?_); (focus (refine ⟨_, rfl, ?_⟩; first | (with_reducible rfl) | exact decide_eq_false (by omega) | exact decide_eq_true (by omega))))) | ((with_reducible refine tBox (some 1) ?_); refine w_box M _ _ rfl rfl _ rfl (C) rfl ?_; clear M; intro gm w1 M) | (go_at_call 19; go_must (refine (OC.out _ (S.now M) (T.now M)).mono ?_; rintro e w1 ⟨ov', pv', rfl, hb, S1, T1⟩; replace M := M.call hb; clear hb)) | (go_at_call 13; go_must (refine (SC.out _ ov' pv' (S.now M) (T.now M) (S1 _ (S.now M)) (T1 _ (T.now M))).mono ?_; rintro e w1 ⟨rfl, hb⟩; replace M := M.call hb; clear hb)) | (go_at_call 37; go_must (refine (YC.out _ (S.now M)).mono ?_; rintro e w1 ⟨rfl, hb⟩; replace M := M.call hb; clear hb)) | ((with_reducible show Code.wp _ (Code.region 3 _ _) _ _ _); go_must (have MR := M; refine region_lowc [(0, false), (1, true), (2, true), (3, true), (4, true), (5, true), (6, true), (7, true), (8, true), (9, true), (10, true), (11, true), (12, true), (13, true), (14, true), (15, true), (16, true), (17, true), (18, true), (19, true), (20, true), (21, true), (22, true), (23, true), (24, true), (25, true), (26, true), (27, true), (28, true), (29, true), (30, true), (31, true), (32, true), (33, true), (34, true), (35, true), (36, true), (37, true), (38, true), (39, true), (40, true), (41, true), (42, true), (43, true), (44, true), (45, true), (46, true), (47, true), (48, true), (49, true), (50, true)] [] [(0, _)] (IxOk MR [0]) 50 (by kernel_rfl) (by kernel_rfl) rfl (by kernel_rfl) (lows_cons (stab_ixR MR 0 rfl rfl (by decide) (by decide +kernel) (by rw [HLEN.out]; kernel_rfl)) lows_nil) (ixOk_self MR _) ?_; replace M := M.drew; simp only [planC, opAt, List.getElem?_toArray, List.getElem?_cons_zero, List.getElem?_cons_succ, Option.getD_some])) | ((with_reducible refine tLoad ?_); go_must (refine w_at _ _ rfl (by exact ev_tmp rfl) ?_; intro hx; (first | refine w_load M 0 _ _ rfl rfl hx rfl (by decide +kernel) (by with_reducible first | exact Nk.out | exact Ne.out | exact Na.out | exact No.out | exact Np.out | exact Nv.out | exact Ni.out | exact Npv.out) ?_ | refine w_loadA M 0 _ _ rfl rfl hx rfl (by decide +kernel) _ _ _ B.out.1 B.out.2 (by kernel_rfl) ?_ | refine w_loadR M 0 _ _ rfl rfl hx rfl (by decide +kernel) (by rw [HLEN.out]; kernel_rfl) ?_); clear hx)) | ((with_reducible show Seg _ _ _ _); go_must (first | refine Seg.intro ⟨fun h => absurd rfl h, ?_⟩ | refine Seg.intro ⟨fun _ => (by repeat' (first | exact ixOk_nil M.kept | refine ixOk_cons rfl (by first | exact M.ok 0 _ rfl | exact M.ok 1 _ rfl) ?_)), ?_⟩ | refine Seg.intro ⟨(by repeat' (first | (with_reducible exact needs_nil) | refine needs_at rfl (by first | (show Shape.ok Shape.nums _ = true; exact nums_bs _) | rfl) ?_)), (by repeat' (first | (with_reducible exact ats_nil) | refine ats_cons (by first | exact ev_tmp rfl | rfl) ?_)), ?_⟩)) | ((with_reducible show OnlyN _ _ _ _ _); refine OnlyN.intro (by kernel_rfl) ?_) | ((with_reducible refine tGuard ?_); refine w_strip rfl (by with_reducible rfl) ?_) | fail | ((with_reducible refine tLoad ?_); go_must (refine w_at _ _ rfl (by exact ev_tmp rfl) ?_; intro hx; (first | refine w_load M _ _ _ rfl rfl hx rfl (by decide +kernel) (by exact rfl) ?_ | refine w_loadR M _ _ _ rfl rfl hx rfl (by decide +kernel) (by kernel_rfl) ?_); clear hx)) | ((with_reducible refine tStore ?_); go_must (refine w_at2 _ _ _ rfl (by exact ev_tmp rfl) (by first | exact ev_tmp rfl | exact ev_const) ?_; intro hx hy; (first | refine w_store M _ _ _ _ rfl rfl hx rfl hy rfl rfl (by decide +kernel) (by first | decide | simp | (simp; omega)) ?_ | refine w_storeR M _ _ _ _ rfl rfl hx rfl _ hy rfl (by kernel_rfl) (by simp [Value.oneCell']) (by first | rfl | assumption) ?_); clear hx hy M; intro w1 M; (try simp only [setC] at M))) | ((with_reducible refine tBox _ ?_); (refine w_box M _ _ rfl rfl _ rfl _ rfl ?_; clear M; intro g w1 M))) <;> (try conv => arg 5; simp only [Act.put, List.setIfInBounds_toArray, setC]))
      go_loopw [3, 6] (fun bv iv wr => bv = .bool false ∧ Mem [] w wr [.row gm C]) (fun _ _ _ => 0)
      case atStart => exact ⟨by first | rfl | (rw [decide_eq_false (by omega)]), M⟩
      case round =>
        clear M
        obtain ⟨rfl, M⟩ := hrel
        go_wp2_with ((first | ((with_reducible refine tGuard ?_); (with_reducible refine w_stripE ?_ ?_); (focus (refine ⟨_, rfl, ?_⟩; first | (with_reducible rfl) | exact decide_eq_false (by omega) | exact decide_eq_true (by omega)))) | ((with_reducible refine tGuard ?_); first | ((with_reducible refine w_skip1 ?_ ?_); (focus (refine ⟨_, rfl, ?_⟩; first | (with_reducible rfl) | exact decide_eq_false (by omega) | exact decide_eq_true (by omega)))) | ((with_reducible refine w_skip0 ?_ ?_); (focus (refine ⟨_, rfl, ?_⟩; first | (with_reducible rfl) | exact decide_eq_false (by omega) | exact decide_eq_true (by omega))))) | ((with_reducible refine tGuard ?_); refine w_strip rfl (by with_reducible rfl) ?_) | fail | ((with_reducible refine tLoad ?_); go_must (refine w_at _ _ rfl (by exact ev_tmp rfl) ?_; intro hx; (first | refine w_load M _ _ _ rfl rfl hx rfl (by decide +kernel) (by exact rfl) ?_ | refine w_loadR M _ _ _ rfl rfl hx rfl (by decide +kernel) (by kernel_rfl) ?_); clear hx)) | ((with_reducible refine tStore ?_); go_must (refine w_at2 _ _ _ rfl (by exact ev_tmp rfl) (by first | exact ev_tmp rfl | exact ev_const) ?_; intro hx hy; (first | refine w_store M _ _ _ _ rfl rfl hx rfl hy rfl rfl (by decide +kernel) (by first | decide | simp | (simp; omega)) ?_ | refine w_storeR M _ _ _ _ rfl rfl hx rfl _ hy rfl (by kernel_rfl) (by simp [Value.oneCell']) (by first | rfl | assumption) ?_); clear hx hy M; intro w1 M; (try simp only [setC] at M))) | ((with_reducible refine tBox _ ?_); (refine w_box M _ _ rfl rfl _ rfl _ rfl ?_; clear M; intro g w1 M))) <;> (try conv => arg 5; simp only [Act.put, List.setIfInBounds_toArray, setC]))
        go_ret
        exact ⟨rfl, M.below⟩
  · have e0 := RN (fun h => hb0 (BOK.out h.1 hq).1)
    subst e0
    have hz : ((eb : Int) == 0) = false := by simp; exact hb0
    have hz' : ((eb : Int) != 0) = true := by simp; exact hb0
    clear hq hb0 RN
    go_enter Try.func20, Try.ntmps20
    go_wp2_with ((first | ((with_reducible refine tGuard ?_); (with_reducible refine w_stripE ?_ ?_); (focus (refine ⟨_, rfl, ?_⟩; first | (with_reducible rfl) | exact decide_eq_false (by omega) | exact decide_eq_true (by omega)))) | ((with_reducible refine tGuard ?_); first | ((with_reducible refine w_skip1 ?_ ?_); (focus (refine ⟨_, rfl, ?_⟩; first | (with_reducible rfl) | exact decide_eq_false (by omega) | exact decide_eq_true (by omega)))) | ((with_reducible refine w_skip0 ?_ ?_); (focus (refine ⟨_, rfl, ?_⟩; first | (with_reducible rfl) | exact decide_eq_false (by omega) | exact decide_eq_true (by omega))))) | ((with_reducible refine tBox (some 1) ?_); refine w_box M _ _ rfl rfl _ rfl (C) rfl ?_; clear M; intro gm w1 M) | (go_at_call 19; go_must (refine (OC.out _ (S.now M) (T.now M)).mono ?_; rintro e w1 ⟨ov', pv', rfl, hb, S1, T1⟩; replace M := M.call hb; clear hb)) | (go_at_call 13; go_must (refine (SC.out _ ov' pv' (S.now M) (T.now M) (S1 _ (S.now M)) (T1 _ (T.now M))).mono ?_; rintro e w1 ⟨rfl, hb⟩; replace M := M.call hb; clear hb)) | (go_at_call 37; go_must (refine (YC.out _ (S.now M)).mono ?_; rintro e w1 ⟨rfl, hb⟩; replace M := M.call hb; clear hb)) | ((with_reducible show Code.wp _ (Code.region 3 _ _) _ _ _); go_must (have MR := M; refine region_lowc [(0, false), (1, true), (2, true), (3, true), (4, true), (5, true), (6, true), (7, true), (8, true), (9, true), (10, true), (11, true), (12, true), (13, true), (14, true), (15, true), (16, true), (17, true), (18, true), (19, true), (20, true), (21, true), (22, true), (23, true), (24, true), (25, true), (26, true), (27, true), (28, true), (29, true), (30, true), (31, true), (32, true), (33, true), (34, true), (35, true), (36, true), (37, true), (38, true), (39, true), (40, true), (41, true), (42, true), (43, true), (44, true), (45, true), (46, true), (47, true), (48, true), (49, true), (50, true)] [] [(0, _)] (IxOk MR [0]) 50 (by kernel_rfl) (by kernel_rfl) rfl (by kernel_rfl) (lows_cons (stab_ixR MR 0 rfl rfl (by decide) (by decide +kernel) (by rw [HLEN.out]; kernel_rfl)) lows_nil) (ixOk_self MR _) ?_; replace M := M.drew; simp only [planC, opAt, List.getElem?_toArray, List.getElem?_cons_zero, List.getElem?_cons_succ, Option.getD_some])) | ((with_reducible refine tLoad ?_); go_must (refine w_at _ _ rfl (by exact ev_tmp rfl) ?_; intro hx; (first | refine w_load M 0 _ _ rfl rfl hx rfl (by decide +kernel) (by with_reducible first | exact Nk.out | exact Ne.out | exact Na.out | exact No.out | exact Np.out | exact Nv.out | exact Ni.out | exact Npv.out) ?_ | refine w_loadA M 0 _ _ rfl rfl hx rfl (by decide +kernel) _ _ _ B.out.1 B.out.2 (by kernel_rfl) ?_ | refine w_loadR M 0 _ _ rfl rfl hx rfl (by decide +kernel) (by rw [HLEN.out]; kernel_rfl) ?_); clear hx)) | ((with_reducible show Seg _ _ _ _); go_must (first | refine Seg.intro ⟨fun h => absurd rfl h, ?_⟩ | refine Seg.intro ⟨fun _ => (by repeat' (first | exact ixOk_nil M.kept | refine ixOk_cons rfl (by first | exact M.ok 0 _ rfl | exact M.ok 1 _ rfl) ?_)), ?_⟩ | refine Seg.intro ⟨(by repeat' (first | (with_reducible exact needs_nil) | refine needs_at rfl (by first | (show Shape.ok Shape.nums _ = true; exact nums_bs _) | rfl) ?_)), (by repeat' (first | (with_reducible exact ats_nil) | refine ats_cons (by first | exact ev_tmp rfl | rfl) ?_)), ?_⟩)) | ((with_reducible show OnlyN _ _ _ _ _); refine OnlyN.intro (by kernel_rfl) ?_) | ((with_reducible refine tGuard ?_); refine w_strip rfl (by with_reducible rfl) ?_) | fail | ((with_reducible refine tLoad ?_); go_must (refine w_at _ _ rfl (by exact ev_tmp rfl) ?_; intro hx; (first | refine w_load M _ _ _ rfl rfl hx rfl (by decide +kernel) (by exact rfl) ?_ | refine w_loadR M _ _ _ rfl rfl hx rfl (by decide +kernel) (by kernel_rfl) ?_); clear hx)) | ((with_reducible refine tStore ?_); go_must (refine w_at2 _ _ _ rfl (by exact ev_tmp rfl) (by first | exact ev_tmp rfl | exact ev_const) ?_; intro hx hy; (first | refine w_store M _ _ _ _ rfl rfl hx rfl hy rfl rfl (by decide +kernel) (by first | decide | simp | (simp; omega)) ?_ | refine w_storeR M _ _ _ _ rfl rfl hx rfl _ hy rfl (by kernel_rfl) (by simp [Value.oneCell']) (by first | rfl | assumption) ?_); clear hx hy M; intro w1 M; (try simp only [setC] at M))) | ((with_reducible refine tBox _ ?_); (refine w_box M _ _ rfl rfl _ rfl _ rfl ?_; clear M; intro g w1 M))) <;> (try conv => arg 5; simp only [Act.put, List.setIfInBounds_toArray, setC]))
    go_loopw [3, 6] (fun bv iv wr => bv = .bool false ∧ Mem [] w wr [.row gm C]) (fun _ _ _ => 0)
    case atStart => exact ⟨by first | rfl | (rw [decide_eq_false (by omega)]), M⟩
    case round =>
      clear M
      obtain ⟨rfl, M⟩ := hrel
      go_wp2_with ((first | ((with_reducible refine tGuard ?_); (with_reducible refine w_stripE ?_ ?_); (focus (refine ⟨_, rfl, ?_⟩; first | (with_reducible rfl) | exact decide_eq_false (by omega) | exact decide_eq_true (by omega)))) | ((with_reducible refine tGuard ?_); first | ((with_reducible refine w_skip1 ?_ ?_); (focus (refine ⟨_, rfl, ?_⟩; first | (with_reducible rfl) | exact decide_eq_false (by omega) | exact decide_eq_true (by omega)))) | ((with_reducible refine w_skip0 ?_ ?_); (focus (refine ⟨_, rfl, ?_⟩; first | (with_reducible rfl) | exact decide_eq_false (by omega) | exact decide_eq_true (by omega))))) | ((with_reducible refine tGuard ?_); refine w_strip rfl (by with_reducible rfl) ?_) | fail | ((with_reducible refine tLoad ?_); go_must (refine w_at _ _ rfl (by exact ev_tmp rfl) ?_; intro hx; (first | refine w_load M _ _ _ rfl rfl hx rfl (by decide +kernel) (by exact rfl) ?_ | refine w_loadR M _ _ _ rfl rfl hx rfl (by decide +kernel) (by kernel_rfl) ?_); clear hx)) | ((with_reducible refine tStore ?_); go_must (refine w_at2 _ _ _ rfl (by exact ev_tmp rfl) (by first | exact ev_tmp rfl | exact ev_const) ?_; intro hx hy; (first | refine w_store M _ _ _ _ rfl rfl hx rfl hy rfl rfl (by decide +kernel) (by first | decide | simp | (simp; omega)) ?_ | refine w_storeR M _ _ _ _ rfl rfl hx rfl _ hy rfl (by kernel_rfl) (by simp [Value.oneCell']) (by first | rfl | assumption) ?_); clear hx hy M; intro w1 M; (try simp only [setC] at M))) | ((with_reducible refine tBox _ ?_); (refine w_box M _ _ rfl rfl _ rfl _ rfl ?_; clear M; intro g w1 M))) <;> (try conv => arg 5; simp only [Act.put, List.setIfInBounds_toArray, setC]))
      go_ret
      exact ⟨rfl, M.below⟩
set_option maxRecDepth 100000 in
set_option maxHeartbeats 32000000 in
theorem Right18_rest (L : Lm) (ov pv : Value) (w : World) (hL : L.fit) (hr : L.rng) (S : SeesL w 3 opV ov L.ops) (T : SeesL w 2 prV pv L.prs) (hk : isK L.k = true) (hs : L = onlyL L) (ce : 0 ≤ L.e) (ca : 0 ≤ L.a) (co : 0 ≤ L.o) (cp : 0 ≤ L.p) (cv : 0 ≤ L.v) (cv4 : L.v ≤ 4) (ci : 0 ≤ L.i) (ci15 : L.i ≤ 15) (cn : L.prs.length ≤ 48) (hq : ¬ L.k = 2) : Calls Try.prog 20 #[.agg (msgC (L.ms ov pv)).toArray] w fun r w' => r = .returned (.int .i64 (bytesM L).2) ∧ Below w.heap.size w w' := by
  have M := Mem.start [] w
  obtain ⟨op, oc, rfl, _⟩ := S.form
  obtain ⟨pp, pc, rfl, _⟩ := T.form
  have X := msg_cells (Lm.ms_fit hL (ov := .slice op L.ops.length oc) (pv := .slice pp L.prs.length pc) rfl rfl)
  simp only [Lm.ms] at X
  have kne : ∀ j : UInt8, isK L.k = false → isK j = true → L.k ≠ j := fun j h1 h2 e => by rw [e, h2] at h1; cases h1
  have R10 : isK L.k = false → (bytesM L).2 = 10 := fun h => by rw [bytesM_kind h]
  have hkb : isK L.k = true ↔ 1 ≤ L.k.toNat ∧ L.k.toNat ≤ 7 := by unfold isK; exact decide_eq_true_iff
  obtain ⟨hk1, hk7⟩ := hkb.1 hk
  clear hkb R10 kne
  have OC := fun w S T => Only18_c L (.slice op L.ops.length oc) (.slice pp L.prs.length pc) w hL hk S T
  have hfo := onlyL_fit hL
  have SC := fun w ov' pv' S T S' T' => rSame18_c L (onlyL L) (.slice op L.ops.length oc) (.slice pp L.prs.length pc) ov' pv' w hL hfo S T S' T' (by have := hr.o1; omega) (by have := hr.p1; omega) (by have := (onlyL_lens hr).1; omega) (by have := (onlyL_lens hr).2; omega)
  have YC := fun w S => rBytes_c L.bi L.be hr.be L.ops (.slice op L.ops.length oc) w S hr.o1 (fun x hx => by have := hr.o2 x hx; omega)
  have RN := right_no hL hr hk
  have RY := right_yes hL hr hk
  have NOK := @num_ok L
  have POK := @prs_ok L
  have BOK := @bat_ok L
  have hp2 := hr.p2
  have hp1 := hr.p1
  obtain ⟨R, eR⟩ : ∃ R, R = (bytesM L).2 := ⟨_, rfl⟩
  rw [← eR] at RN RY ⊢
  clear eR hL
  obtain ⟨C, eC⟩ : ∃ C, C = msgC (L.ms (.slice op L.ops.length oc) (.slice pp L.prs.length pc)) := ⟨_, rfl⟩
  have eC' : C = msgC ⟨L.k, L.e, L.a, L.o, L.bi, L.be, .slice op L.ops.length oc, L.p, L.r, L.v, L.i, L.lf, L.rt, .slice pp L.prs.length pc⟩ := eC
  rw [← eC'] at X
  rw [← eC] at OC SC ⊢
  clear eC eC'
  obtain ⟨Nk, Ne, Na, No, Np, Nv, Ni, Npv, ⟨_, _, b1⟩, _, _, _, HLEN, _⟩ := X
  replace Nk := Lib.hid Nk
  replace Ne := Lib.hid Ne
  replace Na := Lib.hid Na
  replace No := Lib.hid No
  replace Np := Lib.hid Np
  replace Nv := Lib.hid Nv
  replace Ni := Lib.hid Ni
  replace Npv := Lib.hid Npv
  have B := Lib.hid b1
  replace HLEN := Lib.hid HLEN
  clear b1
  replace OC := Lib.hid OC
  rw [decide_eq_true hs] at SC
  replace SC := Lib.hid SC
  have HS := Lib.hid fun _ : Unit => hs
  clear hs
  have cn' : (L.prs.length : Int) ≤ 48 := by omega
  have hg1 : ¬ I8 L.k < 1 := by rw [I8_eq]; omega
  have hg2 : ¬ 7 < I8 L.k := by rw [I8_eq]; omega
  clear hk1 hk7 NOK
  replace POK := Lib.hid POK
  obtain ⟨⟨b, eb⟩, eY⟩ : ∃ Y, Y = bytesB L.bi L.be L.ops := ⟨_, rfl⟩
  rw [← eY] at YC BOK RY
  simp only at YC BOK RY
  clear eY
  replace YC := Lib.hid YC
  replace BOK := Lib.hid BOK
  replace RY := Lib.hid RY
  have hk2 : (I8 L.k == 2) = false := by rw [beq_eq_false_iff_ne]; intro h; exact hq (I8_inj.1 h)
  have REND := fun hp => RY.out (HS.out ()).symm cv4 ci15 (fun q => by cases q <;> assumption) cn hp (fun h => absurd h hq)
  replace REND := Lib.hid REND
  replace RN := Lib.hid RN
  clear hq
  go_enter Try.func20, Try.ntmps20
  go_wp2_with ((first | ((with_reducible refine tGuard ?_); (with_reducible refine w_stripE ?_ ?_); (focus (refine ⟨_, rfl, ?_⟩; first | (with_reducible rfl) | exact decide_eq_false (by omega) | exact decide_eq_true (by omega)))) | ((with_reducible refine tGuard ?_); first | ((with_reducible refine w_skip1 ?_ ?_); (focus (refine ⟨_, rfl, ?_⟩; first | (with_reducible rfl) | exact decide_eq_false (by omega) | exact decide_eq_true (by omega)))) | ((with_reducible refine w_skip0 ?_ ?_); (focus (refine ⟨_, rfl, ?_⟩; first | (with_reducible rfl) | exact decide_eq_false (by omega) | exact decide_eq_true (by omega))))) | ((with_reducible refine tBox (some 1) ?_); refine w_box M _ _ rfl rfl _ rfl (C) rfl ?_; clear M; intro gm w1 M) | (go_at_call 19; go_must (refine (OC.out _ (S.now M) (T.now M)).mono ?_; rintro e w1 ⟨ov', pv', rfl, hb, S1, T1⟩; replace M := M.call hb; clear hb)) | (go_at_call 13; go_must (refine (SC.out _ ov' pv' (S.now M) (T.now M) (S1 _ (S.now M)) (T1 _ (T.now M))).mono ?_; rintro e w1 ⟨rfl, hb⟩; replace M := M.call hb; clear hb)) | (go_at_call 37; go_must (refine (YC.out _ (S.now M)).mono ?_; rintro e w1 ⟨rfl, hb⟩; replace M := M.call hb; clear hb)) | ((with_reducible show Code.wp _ (Code.region 3 _ _) _ _ _); go_must (have MR := M; refine region_lowc [(0, false), (1, true), (2, true), (3, true), (4, true), (5, true), (6, true), (7, true), (8, true), (9, true), (10, true), (11, true), (12, true), (13, true), (14, true), (15, true), (16, true), (17, true), (18, true), (19, true), (20, true), (21, true), (22, true), (23, true), (24, true), (25, true), (26, true), (27, true), (28, true), (29, true), (30, true), (31, true), (32, true), (33, true), (34, true), (35, true), (36, true), (37, true), (38, true), (39, true), (40, true), (41, true), (42, true), (43, true), (44, true), (45, true), (46, true), (47, true), (48, true), (49, true), (50, true)] [] [(0, _)] (IxOk MR [0]) 50 (by kernel_rfl) (by kernel_rfl) rfl (by kernel_rfl) (lows_cons (stab_ixR MR 0 rfl rfl (by decide) (by decide +kernel) (by rw [HLEN.out]; kernel_rfl)) lows_nil) (ixOk_self MR _) ?_; replace M := M.drew; simp only [planC, opAt, List.getElem?_toArray, List.getElem?_cons_zero, List.getElem?_cons_succ, Option.getD_some])) | ((with_reducible refine tLoad ?_); go_must (refine w_at _ _ rfl (by exact ev_tmp rfl) ?_; intro hx; (first | refine w_load M 0 _ _ rfl rfl hx rfl (by decide +kernel) (by with_reducible first | exact Nk.out | exact Ne.out | exact Na.out | exact No.out | exact Np.out | exact Nv.out | exact Ni.out | exact Npv.out) ?_ | refine w_loadA M 0 _ _ rfl rfl hx rfl (by decide +kernel) _ _ _ B.out.1 B.out.2 (by kernel_rfl) ?_ | refine w_loadR M 0 _ _ rfl rfl hx rfl (by decide +kernel) (by rw [HLEN.out]; kernel_rfl) ?_); clear hx)) | ((with_reducible show Seg _ _ _ _); go_must (first | refine Seg.intro ⟨fun h => absurd rfl h, ?_⟩ | refine Seg.intro ⟨fun _ => (by repeat' (first | exact ixOk_nil M.kept | refine ixOk_cons rfl (by first | exact M.ok 0 _ rfl | exact M.ok 1 _ rfl) ?_)), ?_⟩ | refine Seg.intro ⟨(by repeat' (first | (with_reducible exact needs_nil) | refine needs_at rfl (by first | (show Shape.ok Shape.nums _ = true; exact nums_bs _) | rfl) ?_)), (by repeat' (first | (with_reducible exact ats_nil) | refine ats_cons (by first | exact ev_tmp rfl | rfl) ?_)), ?_⟩)) | ((with_reducible show OnlyN _ _ _ _ _); refine OnlyN.intro (by kernel_rfl) ?_) | ((with_reducible refine tGuard ?_); refine w_strip rfl (by with_reducible rfl) ?_) | fail | ((with_reducible refine tLoad ?_); go_must (refine w_at _ _ rfl (by exact ev_tmp rfl) ?_; intro hx; (first | refine w_load M _ _ _ rfl rfl hx rfl (by decide +kernel) (by exact rfl) ?_ | refine w_loadR M _ _ _ rfl rfl hx rfl (by decide +kernel) (by kernel_rfl) ?_); clear hx)) | ((with_reducible refine tStore ?_); go_must (refine w_at2 _ _ _ rfl (by exact ev_tmp rfl) (by first | exact ev_tmp rfl | exact ev_const) ?_; intro hx hy; (first | refine w_store M _ _ _ _ rfl rfl hx rfl hy rfl rfl (by decide +kernel) (by first | decide | simp | (simp; omega)) ?_ | refine w_storeR M _ _ _ _ rfl rfl hx rfl _ hy rfl (by kernel_rfl) (by simp [Value.oneCell']) (by first | rfl | assumption) ?_); clear hx hy M; intro w1 M; (try simp only [setC] at M))) | ((with_reducible refine tBox _ ?_); (refine w_box M _ _ rfl rfl _ rfl _ rfl ?_; clear M; intro g w1 M))) <;> (try conv => arg 5; simp only [Act.put, List.setIfInBounds_toArray, setC]))
  go_loopw [3, 6] (fun bv iv wr => ∃ j : Nat, j ≤ L.prs.length ∧ iv = .int .i64 j ∧ bv = .bool ((L.prs.take j).all okP) ∧ Mem [] w wr [.row gm C]) (fun _ iv _ => L.prs.length - (intOf iv).toNat)
  case atStart => exact ⟨0, by omega, rfl, by first | rfl | (rw [decide_eq_true (by omega)]; rfl), M⟩
  case round =>
    clear M
    obtain ⟨j, hj, rfl, rfl, M⟩ := hrel
    cases hb : (L.prs.take j).all okP with
    | false =>
      have e0 := RN.out (fun h => by
        have h1 := (POK.out h.2 h.1).2
        have h2 : (L.prs.take j).all okP = true := List.all_eq_true.2 fun x hx => List.all_eq_true.1 h1 x (List.mem_of_mem_take hx)
        rw [hb] at h2; cases h2)
      subst e0
      clear hb
      go_wp2_with ((first | ((with_reducible refine tGuard ?_); (with_reducible refine w_stripE ?_ ?_); (focus (refine ⟨_, rfl, ?_⟩; first | (with_reducible rfl) | exact decide_eq_false (by omega) | exact decide_eq_true (by omega)))) | ((with_reducible refine tGuard ?_); first | ((with_reducible refine w_skip1 ?_ ?_); (focus (refine ⟨_, rfl, ?_⟩; first | (with_reducible rfl) | exact decide_eq_false (by omega) | exact decide_eq_true (by omega)))) | ((with_reducible refine w_skip0 ?_ ?_); (focus (refine ⟨_, rfl, ?_⟩; first | (with_reducible rfl) | exact decide_eq_false (by omega) | exact decide_eq_true (by omega))))) | ((with_reducible refine tGuard ?_); refine w_strip rfl (by with_reducible rfl) ?_) | fail | ((with_reducible refine tLoad ?_); go_must (refine w_at _ _ rfl (by exact ev_tmp rfl) ?_; intro hx; (first | refine w_load M _ _ _ rfl rfl hx rfl (by decide +kernel) (by exact rfl) ?_ | refine w_loadR M _ _ _ rfl rfl hx rfl (by decide +kernel) (by kernel_rfl) ?_); clear hx)) | ((with_reducible refine tStore ?_); go_must (refine w_at2 _ _ _ rfl (by exact ev_tmp rfl) (by first | exact ev_tmp rfl | exact ev_const) ?_; intro hx hy; (first | refine w_store M _ _ _ _ rfl rfl hx rfl hy rfl rfl (by decide +kernel) (by first | decide | simp | (simp; omega)) ?_ | refine w_storeR M _ _ _ _ rfl rfl hx rfl _ hy rfl (by kernel_rfl) (by simp [Value.oneCell']) (by first | rfl | assumption) ?_); clear hx hy M; intro w1 M; (try simp only [setC] at M))) | ((with_reducible refine tBox _ ?_); (refine w_box M _ _ rfl rfl _ rfl _ rfl ?_; clear M; intro g w1 M))) <;> (try conv => arg 5; simp only [Act.put, List.setIfInBounds_toArray, setC]))
      go_ret
      exact ⟨rfl, M.below⟩
    | true =>
      have HB := Lib.hid hb
      clear hb
      by_cases hlt : j < L.prs.length
      · obtain ⟨gp, so, rfl⟩ := T.addr (by omega)
        obtain ⟨⟨x, y⟩, hx⟩ : ∃ x, L.prs[j]? = some x := ⟨_, List.getElem?_eq_getElem hlt⟩
        obtain ⟨hx1, hy1⟩ := hp2 (x, y) (List.mem_of_getElem? hx)
        simp only at hx1 hy1
        have HA : (L.prs.take (j + 1)).all okP = okP (x, y) := by
          obtain ⟨hk, e⟩ := List.getElem?_eq_some_iff.1 hx
          rw [List.take_succ_eq_append_getElem hk, List.all_append, HB.out, e]; simp
        replace HA := Lib.hid HA
        have HX := Lib.hid hx
        clear hx
        by_cases hx33 : x.length ≤ 33
        · go_wp2_with ((first | ((with_reducible refine tGuard ?_); (with_reducible refine w_stripE ?_ ?_); (focus (refine ⟨_, rfl, ?_⟩; first | (with_reducible rfl) | exact decide_eq_false (by omega) | exact decide_eq_true (by omega)))) | ((with_reducible refine tGuard ?_); first | ((with_reducible refine w_skip1 ?_ ?_); (focus (refine ⟨_, rfl, ?_⟩; first | (with_reducible rfl) | exact decide_eq_false (by omega) | exact decide_eq_true (by omega)))) | ((with_reducible refine w_skip0 ?_ ?_); (focus (refine ⟨_, rfl, ?_⟩; first | (with_reducible rfl) | exact decide_eq_false (by omega) | exact decide_eq_true (by omega))))) | ((with_reducible refine tLoad ?_); go_must (refine w_at _ _ rfl (by exact ev_tmp rfl) ?_; intro hx; (first | refine w_load M 0 _ _ rfl rfl hx rfl (by decide +kernel) (by with_reducible first | exact Nk.out | exact Ne.out | exact Na.out | exact No.out | exact Np.out | exact Nv.out | exact Ni.out | exact Npv.out) ?_ | refine w_loadA M 0 _ _ rfl rfl hx rfl (by decide +kernel) _ _ _ B.out.1 B.out.2 (by kernel_rfl) ?_ | refine w_loadR M 0 _ _ rfl rfl hx rfl (by decide +kernel) (by rw [HLEN.out]; kernel_rfl) ?_ | refine w_see M T HX.out _ _ rfl hx rfl (by decide +kernel) 0 (by first | (with_reducible rfl) | omega) rfl ?_ | refine w_see M T HX.out _ _ rfl hx rfl (by decide +kernel) 1 (by first | (with_reducible rfl) | omega) rfl ?_); clear hx)) | ((with_reducible refine tGuard ?_); refine w_strip rfl (by with_reducible rfl) ?_) | fail | ((with_reducible refine tLoad ?_); go_must (refine w_at _ _ rfl (by exact ev_tmp rfl) ?_; intro hx; (first | refine w_load M _ _ _ rfl rfl hx rfl (by decide +kernel) (by exact rfl) ?_ | refine w_loadR M _ _ _ rfl rfl hx rfl (by decide +kernel) (by kernel_rfl) ?_); clear hx)) | ((with_reducible refine tStore ?_); go_must (refine w_at2 _ _ _ rfl (by exact ev_tmp rfl) (by first | exact ev_tmp rfl | exact ev_const) ?_; intro hx hy; (first | refine w_store M _ _ _ _ rfl rfl hx rfl hy rfl rfl (by decide +kernel) (by first | decide | simp | (simp; omega)) ?_ | refine w_storeR M _ _ _ _ rfl rfl hx rfl _ hy rfl (by kernel_rfl) (by simp [Value.oneCell']) (by first | rfl | assumption) ?_); clear hx hy M; intro w1 M; (try simp only [setC] at M))) | ((with_reducible refine tBox _ ?_); (refine w_box M _ _ rfl rfl _ rfl _ rfl ?_; clear M; intro g w1 M))) <;> (try conv => arg 5; simp only [Act.put, List.setIfInBounds_toArray, setC]))
          go_roundw
          case rel => exact ⟨j + 1, by omega, by go_num, by rw [HA.out]; unfold okP; simp only; rw [decide_eq_true hx33, Bool.true_and]; simp; omega, M⟩
          case measure => simp [intOf]; omega
        · go_wp2_with ((first | ((with_reducible refine tGuard ?_); (with_reducible refine w_stripE ?_ ?_); (focus (refine ⟨_, rfl, ?_⟩; first | (with_reducible rfl) | exact decide_eq_false (by omega) | exact decide_eq_true (by omega)))) | ((with_reducible refine tGuard ?_); first | ((with_reducible refine w_skip1 ?_ ?_); (focus (refine ⟨_, rfl, ?_⟩; first | (with_reducible rfl) | exact decide_eq_false (by omega) | exact decide_eq_true (by omega)))) | ((with_reducible refine w_skip0 ?_ ?_); (focus (refine ⟨_, rfl, ?_⟩; first | (with_reducible rfl) | exact decide_eq_false (by omega) | exact decide_eq_true (by omega))))) | ((with_reducible refine tLoad ?_); go_must (refine w_at _ _ rfl (by exact ev_tmp rfl) ?_; intro hx; (first | refine w_load M 0 _ _ rfl rfl hx rfl (by decide +kernel) (by with_reducible first | exact Nk.out | exact Ne.out | exact Na.out | exact No.out | exact Np.out | exact Nv.out | exact Ni.out | exact Npv.out) ?_ | refine w_loadA M 0 _ _ rfl rfl hx rfl (by decide +kernel) _ _ _ B.out.1 B.out.2 (by kernel_rfl) ?_ | refine w_loadR M 0 _ _ rfl rfl hx rfl (by decide +kernel) (by rw [HLEN.out]; kernel_rfl) ?_ | refine w_see M T HX.out _ _ rfl hx rfl (by decide +kernel) 0 (by first | (with_reducible rfl) | omega) rfl ?_ | refine w_see M T HX.out _ _ rfl hx rfl (by decide +kernel) 1 (by first | (with_reducible rfl) | omega) rfl ?_); clear hx)) | ((with_reducible refine tGuard ?_); refine w_strip rfl (by with_reducible rfl) ?_) | fail | ((with_reducible refine tLoad ?_); go_must (refine w_at _ _ rfl (by exact ev_tmp rfl) ?_; intro hx; (first | refine w_load M _ _ _ rfl rfl hx rfl (by decide +kernel) (by exact rfl) ?_ | refine w_loadR M _ _ _ rfl rfl hx rfl (by decide +kernel) (by kernel_rfl) ?_); clear hx)) | ((with_reducible refine tStore ?_); go_must (refine w_at2 _ _ _ rfl (by exact ev_tmp rfl) (by first | exact ev_tmp rfl | exact ev_const) ?_; intro hx hy; (first | refine w_store M _ _ _ _ rfl rfl hx rfl hy rfl rfl (by decide +kernel) (by first | decide | simp | (simp; omega)) ?_ | refine w_storeR M _ _ _ _ rfl rfl hx rfl _ hy rfl (by kernel_rfl) (by simp [Value.oneCell']) (by first | rfl | assumption) ?_); clear hx hy M; intro w1 M; (try simp only [setC] at M))) | ((with_reducible refine tBox _ ?_); (refine w_box M _ _ rfl rfl _ rfl _ rfl ?_; clear M; intro g w1 M))) <;> (try conv => arg 5; simp only [Act.put, List.setIfInBounds_toArray, setC]))
          go_roundw
          case rel => exact ⟨j + 1, by omega, by go_num, by rw [HA.out]; unfold okP; simp only; rw [decide_eq_false hx33]; first | rfl | simp, M⟩
          case measure => simp [intOf]; omega
      · obtain rfl : j = L.prs.length := by omega
        rw [List.take_length] at HB
        have e0 := REND.out HB.out
        subst e0
        go_wp2_with ((first | ((with_reducible refine tGuard ?_); (with_reducible refine w_stripE ?_ ?_); (focus (refine ⟨_, rfl, ?_⟩; first | (with_reducible rfl) | exact decide_eq_false (by omega) | exact decide_eq_true (by omega)))) | ((with_reducible refine tGuard ?_); first | ((with_reducible refine w_skip1 ?_ ?_); (focus (refine ⟨_, rfl, ?_⟩; first | (with_reducible rfl) | exact decide_eq_false (by omega) | exact decide_eq_true (by omega)))) | ((with_reducible refine w_skip0 ?_ ?_); (focus (refine ⟨_, rfl, ?_⟩; first | (with_reducible rfl) | exact decide_eq_false (by omega) | exact decide_eq_true (by omega))))) | ((with_reducible refine tLoad ?_); go_must (refine w_at _ _ rfl (by exact ev_tmp rfl) ?_; intro hx; (first | refine w_load M 0 _ _ rfl rfl hx rfl (by decide +kernel) (by with_reducible first | exact Nk.out | exact Ne.out | exact Na.out | exact No.out | exact Np.out | exact Nv.out | exact Ni.out | exact Npv.out) ?_ | refine w_loadA M 0 _ _ rfl rfl hx rfl (by decide +kernel) _ _ _ B.out.1 B.out.2 (by kernel_rfl) ?_ | refine w_loadR M 0 _ _ rfl rfl hx rfl (by decide +kernel) (by rw [HLEN.out]; kernel_rfl) ?_); clear hx)) | ((with_reducible refine tGuard ?_); refine w_strip rfl (by with_reducible rfl) ?_) | fail | ((with_reducible refine tLoad ?_); go_must (refine w_at _ _ rfl (by exact ev_tmp rfl) ?_; intro hx; (first | refine w_load M _ _ _ rfl rfl hx rfl (by decide +kernel) (by exact rfl) ?_ | refine w_loadR M _ _ _ rfl rfl hx rfl (by decide +kernel) (by kernel_rfl) ?_); clear hx)) | ((with_reducible refine tStore ?_); go_must (refine w_at2 _ _ _ rfl (by exact ev_tmp rfl) (by first | exact ev_tmp rfl | exact ev_const) ?_; intro hx hy; (first | refine w_store M _ _ _ _ rfl rfl hx rfl hy rfl rfl (by decide +kernel) (by first | decide | simp | (simp; omega)) ?_ | refine w_storeR M _ _ _ _ rfl rfl hx rfl _ hy rfl (by kernel_rfl) (by simp [Value.oneCell']) (by first | rfl | assumption) ?_); clear hx hy M; intro w1 M; (try simp only [setC] at M))) | ((with_reducible refine tBox _ ?_); (refine w_box M _ _ rfl rfl _ rfl _ rfl ?_; clear M; intro g w1 M))) <;> (try conv => arg 5; simp only [Act.put, List.setIfInBounds_toArray, setC]))
        go_ret
        exact ⟨rfl, M.below⟩
theorem Right18_c (L : Lm) (ov pv : Value) (w : World) (hL : L.fit) (hr : L.rng) (S : SeesL w 3 opV ov L.ops) (T : SeesL w 2 prV pv L.prs) : Calls Try.prog 20 #[.agg (msgC (L.ms ov pv)).toArray] w fun r w' => r = .returned (.int .i64 (bytesM L).2) ∧ Below w.heap.size w w' := by
  cases hk : isK L.k with
  | false => exact Right18_none L ov pv w hL hr S T hk
  | true =>
  by_cases hs : L = onlyL L
  rotate_left
  · exact Right18_fail1 L ov pv w hL hr S T hk (.inl hs)
  by_cases ce : 0 ≤ L.e
  rotate_left
  · exact Right18_fail1 L ov pv w hL hr S T hk (.inr (.inl ⟨hs, ce⟩))
  by_cases ca : 0 ≤ L.a
  rotate_left
  · exact Right18_fail1 L ov pv w hL hr S T hk (.inr (.inr (.inl ⟨hs, ce, ca⟩)))
  by_cases co : 0 ≤ L.o
  rotate_left
  · exact Right18_fail1 L ov pv w hL hr S T hk (.inr (.inr (.inr (.inl ⟨hs, ce, ca, co⟩))))
  by_cases cp : 0 ≤ L.p
  rotate_left
  · exact Right18_fail1 L ov pv w hL hr S T hk (.inr (.inr (.inr (.inr (⟨hs, ce, ca, co, cp⟩)))))
  by_cases cv : 0 ≤ L.v
  rotate_left
  · exact Right18_fail2 L ov pv w hL hr S T hk (.inl ⟨hs, ce, ca, co, cp, cv⟩)
  by_cases cv4 : L.v ≤ 4
  rotate_left
  · exact Right18_fail2 L ov pv w hL hr S T hk (.inr (.inl ⟨hs, ce, ca, co, cp, cv, cv4⟩))
  by_cases ci : 0 ≤ L.i
  rotate_left
  · exact Right18_fail2 L ov pv w hL hr S T hk (.inr (.inr (.inl ⟨hs, ce, ca, co, cp, cv, cv4, ci⟩)))
  by_cases ci15 : L.i ≤ 15
  rotate_left
  · exact Right18_fail2 L ov pv w hL hr S T hk (.inr (.inr (.inr (.inl ⟨hs, ce, ca, co, cp, cv, cv4, ci, ci15⟩))))
  by_cases cn : L.prs.length ≤ 48
  rotate_left
  · exact Right18_fail2 L ov pv w hL hr S T hk (.inr (.inr (.inr (.inr (⟨hs, ce, ca, co, cp, cv, cv4, ci, ci15, cn⟩)))))
  by_cases hq : L.k = 2
  · exact Right18_two L ov pv w hL hr S T hk hs ce ca co cp cv cv4 ci ci15 cn hq
  · exact Right18_rest L ov pv w hL hr S T hk hs ce ca co cp cv cv4 ci ci15 cn hq
end Go.Proofs.Ytoaabclemeibhaa
