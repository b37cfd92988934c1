/- The walk of layer 18's reference's Only. No conditions. -/
import Derived.Test.YtoaabclemeibhaaVMsgM
import Derived.Test.YtoaabclemeibhaaZe
namespace Go
namespace TL
open Go.RowKit
theorem Ms.fit_bt {m : Ms} (h : m.fit) (bi be : Int) {ov : Value} (ho : ov.oneCell' = true) : Ms.fit { m with bi := bi, be := be, ov := ov } := ⟨h.1, h.2.1, h.2.2.1, ho, h.2.2.2.2⟩
theorem Ms.fit_pv {m : Ms} (h : m.fit) {pv : Value} (hp : pv.oneCell' = true) : Ms.fit { m with pv := pv } := ⟨h.1, h.2.1, h.2.2.1, h.2.2.2.1, hp⟩
def kindE (k : UInt8) (e : Int) : Ms := ⟨k, e, 0, 0, 0, 0, .slice none 0 0, 0, zeroH, 0, 0, zeroH, zeroH, .slice none 0 0⟩
theorem kindE_fit (k : UInt8) (e : Int) : (kindE k e).fit := ⟨zeroH_len, zeroH_len, zeroH_len, rfl, rfl⟩
theorem cpAll_fit : ∀ (l : List Fld) {L A : Lm}, L.fit → A.fit → (cpAll l L A).fit
  | [], _, _, _, h => h
  | f :: l, L, A, hL, hA => by rw [cpAll_cons]; exact cpAll_fit l hL (f.cp_fit hL hA)
theorem onlyL_fit {L : Lm} (h : L.fit) : (onlyL L).fit := cpAll_fit _ h (kindL_fit _)
theorem cpAll_other : ∀ {l : List Fld} {f : Fld}, f ∉ l → ∀ (L A : Lm), f.eqv (cpAll l L A) A
  | [], f, _, L, A => f.eqv_refl A
  | g :: l, f, h, L, A => by
    have hg : f ≠ g := fun e => h (e ▸ List.mem_cons_self)
    rw [cpAll_cons]
    exact Fld.eqv_trans (cpAll_other (fun hm => h (List.mem_cons_of_mem _ hm)) L _) (Fld.cp_other hg L A)
theorem onlyL_other {L : Lm} (h : onlyL L = L) {f : Fld} (hf : f ∉ fdsL L.k) : f.eqv L (kindL L.k) := by
  have := cpAll_other hf L (kindL L.k)
  rw [show cpAll (fdsL L.k) L (kindL L.k) = onlyL L from rfl, h] at this
  exact this
theorem Fld.cp_ops (f : Fld) (L A : Lm) : (f.cp L A).ops = L.ops ∨ (f.cp L A).ops = A.ops := by
  cases f with
  | num q => exact .inr (by cases q <;> rfl)
  | hash q => exact .inr (by cases q <;> rfl)
  | bat => exact .inl rfl
  | prs => exact .inr rfl
theorem Fld.cp_prs (f : Fld) (L A : Lm) : (f.cp L A).prs = L.prs ∨ (f.cp L A).prs = A.prs := by
  cases f with
  | num q => exact .inr (by cases q <;> rfl)
  | hash q => exact .inr (by cases q <;> rfl)
  | bat => exact .inr rfl
  | prs => exact .inl rfl
theorem cpAll_ops : ∀ (l : List Fld) (L A : Lm), (cpAll l L A).ops = L.ops ∨ (cpAll l L A).ops = A.ops
  | [], _, _ => .inr rfl
  | f :: l, L, A => by
    rw [cpAll_cons]
    rcases cpAll_ops l L (f.cp L A) with h | h
    · exact .inl h
    · rw [h]; exact f.cp_ops L A
theorem cpAll_prs : ∀ (l : List Fld) (L A : Lm), (cpAll l L A).prs = L.prs ∨ (cpAll l L A).prs = A.prs
  | [], _, _ => .inr rfl
  | f :: l, L, A => by
    rw [cpAll_cons]
    rcases cpAll_prs l L (f.cp L A) with h | h
    · exact .inl h
    · rw [h]; exact f.cp_prs L A
theorem onlyL_ops (L : Lm) : (onlyL L).ops = L.ops ∨ (onlyL L).ops = [] := cpAll_ops _ _ _
theorem onlyL_prs (L : Lm) : (onlyL L).prs = L.prs ∨ (onlyL L).prs = [] := cpAll_prs _ _ _
theorem onlyL_lens {L : Lm} (h : L.rng) : (onlyL L).ops.length ≤ 1000 ∧ (onlyL L).prs.length ≤ 1000 := by
  constructor
  · rcases onlyL_ops L with e | e <;> rw [e]
    · exact h.o1
    · exact Nat.zero_le _
  · rcases onlyL_prs L with e | e <;> rw [e]
    · exact h.p1
    · exact Nat.zero_le _
theorem onlyL_rng {L : Lm} (h : L.rng) : (onlyL L).rng := by
  have hz : (kindL L.k).rng := ⟨fun q => by cases q <;> exact (by decide : (-9223372036854775808 : Int) ≤ 0 ∧ (0 : Int) ≤ 9223372036854775807), by simp [kindL], by simp [kindL], by simp [kindL], by simp [kindL], by simp [kindL], by simp [kindL]⟩
  unfold onlyL
  generalize kindL L.k = A at hz
  induction fdsL L.k generalizing A with
  | nil => exact hz
  | cons f l ih =>
    rw [cpAll_cons]
    refine ih _ ?_
    cases f with
    | num q =>
      refine ⟨fun q' => ?_, ?_, ?_, ?_, ?_, ?_, ?_⟩
      · by_cases e : q = q'
        · subst e; rw [show (Fld.num q).cp L A = q.sl A (q.gl L) from rfl, Mf.gl_sl]; exact h.num q
        · have : q'.gl ((Fld.num q).cp L A) = q'.gl A := Fld.cp_other (f := .num q') (g := .num q) (fun hh => e (by injection hh with hh; exact hh.symm)) L A
          rw [this]; exact hz.num q'
      all_goals cases q <;> first | exact hz.be | exact hz.o1 | exact hz.o2 | exact hz.p1 | exact hz.p2 | exact hz.p3
    | hash q => cases q <;> exact ⟨hz.num, hz.be, hz.o1, hz.o2, hz.p1, hz.p2, hz.p3⟩
    | bat => exact ⟨hz.num, h.be, h.o1, h.o2, hz.p1, hz.p2, hz.p3⟩
    | prs => exact ⟨hz.num, hz.be, hz.o1, hz.o2, h.p1, h.p2, h.p3⟩
theorem num_ok {L : Lm} (h : onlyL L = L) (ho : okL L = true) (q : Mf) : 0 ≤ q.gl L ∧ q.gl L ≤ q.most := by
  by_cases hm : Fld.num q ∈ fdsL L.k
  · have := okL_of ho _ hm
    simp only [Fld.ok, decide_eq_true_eq] at this
    exact this
  · have hq : q.gl L = q.gl (kindL L.k) := onlyL_other h hm
    have : q.gl (kindL L.k) = 0 := by cases q <;> rfl
    rw [hq, this]
    exact ⟨by omega, by omega⟩
theorem prs_ok {L : Lm} (h : onlyL L = L) (ho : okL L = true) : L.prs.length ≤ 48 ∧ L.prs.all okP = true := by
  by_cases hm : Fld.prs ∈ fdsL L.k
  · have := okL_of ho _ hm
    simp only [Fld.ok, Bool.and_eq_true, decide_eq_true_eq] at this
    exact this
  · have hq : L.prs = (kindL L.k).prs := onlyL_other h hm
    rw [hq]; exact ⟨Nat.zero_le 48, rfl⟩
theorem bat_ok {L : Lm} (ho : okL L = true) (hk : L.k = 2) : (bytesB L.bi L.be L.ops).2 = 0 ∧ (bytesB L.bi L.be L.ops).1.length ≤ 512 := by
  have hm : Fld.bat ∈ fdsL L.k := by rw [hk]; exact (show Fld.bat ∈ [Fld.num .e, .num .p, .bat] by simp)
  have := okL_of ho _ hm
  simp only [Fld.ok, Bool.and_eq_true, beq_iff_eq, decide_eq_true_eq] at this
  exact this
end TL
end Go
namespace Go.Proofs.Ytoaabclemeibhaa
open Go.RowKit Go.TL
set_option maxRecDepth 100000 in
set_option maxHeartbeats 16000000 in
theorem Only18_c (L : Lm) (ov pv : Value) (w : World) (hL : L.fit) (hk : isK L.k = true) (S : SeesL w 3 opV ov L.ops) (T : SeesL w 2 prV pv L.prs) :
    Calls Try.prog 19 #[.agg (msgC (L.ms ov pv)).toArray] w fun r w' => ∃ ov' pv', r = .returned (.agg (msgC ((onlyL L).ms ov' pv')).toArray) ∧ Below w.heap.size w w' ∧ (∀ w2 : World, SeesL w2 3 opV ov L.ops → SeesL w2 3 opV ov' (onlyL L).ops) ∧ ∀ w2 : World, SeesL w2 2 prV pv L.prs → SeesL w2 2 prV pv' (onlyL L).prs := by
  have M := Mem.start [] w
  obtain ⟨k, e, a, o, bi, be, ops, p, r, v, i, lf, rt, prs⟩ := L
  dsimp only at S T hk
  obtain ⟨op, oc, rfl, _⟩ := S.form
  obtain ⟨pp, pc, rfl, _⟩ := T.form
  have X := msg_cells (Lm.ms_fit hL (ov := .slice op ops.length oc) (pv := .slice pp prs.length pc) rfl rfl)
  simp only [Lm.ms] at X
  have hr : r.length = 32 := hL.1
  have hl : lf.length = 32 := hL.2.1
  have ht : rt.length = 32 := hL.2.2
  clear hL
  obtain ⟨C, eC⟩ : ∃ C, C = msgC ⟨k, e, a, o, bi, be, .slice op ops.length oc, p, r, v, i, lf, rt, .slice pp prs.length pc⟩ := ⟨_, rfl⟩
  rw [← eC] at X
  have eA : (msgC ((Lm.mk k e a o bi be ops p r v i lf rt prs).ms (.slice op ops.length oc) (.slice pp prs.length pc))).toArray = C.toArray := by rw [eC]; rfl
  rw [eA]
  clear eA eC
  obtain ⟨Nk, Ne, Na, No, Np, Nv, Ni, Npv, ⟨_, _, b1⟩, ⟨_, _, r1⟩, ⟨_, _, l1⟩, ⟨_, _, t1⟩, c1, _⟩ := X
  replace Nk := Lib.hid Nk
  replace Ne := Lib.hid Ne
  replace Na := Lib.hid Na
  replace No := Lib.hid No
  replace Np := Lib.hid Np
  replace Nv := Lib.hid Nv
  replace Ni := Lib.hid Ni
  replace Npv := Lib.hid Npv
  have B := Lib.hid b1
  have Hr := Lib.hid r1
  have Hlf := Lib.hid l1
  have Hrt := Lib.hid t1
  clear b1 r1 l1 t1 c1
  rcases kinds hk with rfl | rfl | rfl | rfl | rfl | rfl | rfl
  all_goals
    clear hk S T
    go_enter Try.func19, Try.ntmps19
    go_wp2_with ((first | ((with_reducible refine tGuard ?_); (with_reducible refine w_stripE ?_ ?_); (focus (refine ⟨_, rfl, ?_⟩; first | (with_reducible rfl) | exact decide_eq_false (by omega) | exact decide_eq_true (by omega)))) | ((with_reducible refine tGuard ?_); first | ((with_reducible refine w_skip1 ?_ ?_); (focus (refine ⟨_, rfl, ?_⟩; first | (with_reducible rfl) | exact decide_eq_false (by omega) | exact decide_eq_true (by omega)))) | ((with_reducible refine w_skip0 ?_ ?_); (focus (refine ⟨_, rfl, ?_⟩; first | (with_reducible rfl) | exact decide_eq_false (by omega) | exact decide_eq_true (by omega))))) | ((with_reducible refine tBox (some 1) ?_); refine w_box M _ _ rfl rfl _ rfl (C) rfl ?_; clear M; intro gm w1 M) | ((with_reducible refine tLoad ?_); go_must (refine w_at _ _ rfl (by exact ev_tmp rfl) ?_; intro hx; (first | refine w_load M 2 _ _ rfl rfl hx rfl (by decide +kernel) (by with_reducible first | exact Nk.out | exact Ne.out | exact Na.out | exact No.out | exact Np.out | exact Nv.out | exact Ni.out | exact Npv.out) ?_ | refine w_loadA M 2 _ _ rfl rfl hx rfl (by decide +kernel) _ _ _ Hr.out.1 Hr.out.2.1 (by rw [bs_length, Hr.out.2.2]; kernel_rfl) ?_ | refine w_loadA M 2 _ _ rfl rfl hx rfl (by decide +kernel) _ _ _ Hlf.out.1 Hlf.out.2.1 (by rw [bs_length, Hlf.out.2.2]; kernel_rfl) ?_ | refine w_loadA M 2 _ _ rfl rfl hx rfl (by decide +kernel) _ _ _ Hrt.out.1 Hrt.out.2.1 (by rw [bs_length, Hrt.out.2.2]; kernel_rfl) ?_ | refine w_loadA M 2 _ _ rfl rfl hx rfl (by decide +kernel) _ _ _ B.out.1 B.out.2 (by kernel_rfl) ?_ | refine w_load M 1 _ _ rfl rfl hx rfl (by decide +kernel) (by with_reducible first | exact Nk.out | exact Ne.out | exact Na.out | exact No.out | exact Np.out | exact Nv.out | exact Ni.out | exact Npv.out) ?_ | refine w_loadA M 1 _ _ rfl rfl hx rfl (by decide +kernel) _ _ _ Hr.out.1 Hr.out.2.1 (by rw [bs_length, Hr.out.2.2]; kernel_rfl) ?_ | refine w_loadA M 1 _ _ rfl rfl hx rfl (by decide +kernel) _ _ _ Hlf.out.1 Hlf.out.2.1 (by rw [bs_length, Hlf.out.2.2]; kernel_rfl) ?_ | refine w_loadA M 1 _ _ rfl rfl hx rfl (by decide +kernel) _ _ _ Hrt.out.1 Hrt.out.2.1 (by rw [bs_length, Hrt.out.2.2]; kernel_rfl) ?_ | refine w_loadA M 1 _ _ rfl rfl hx rfl (by decide +kernel) _ _ _ B.out.1 B.out.2 (by kernel_rfl) ?_ | refine w_loadMs M 0 _ _ rfl rfl hx rfl (by decide +kernel) (by kernel_rfl) (by repeat' (first | exact kindE_fit _ _ | refine Mf.set_fit ?_ _ _ | refine Hf.set_fit ?_ (by assumption) _ | refine Ms.fit_bt ?_ _ _ rfl | refine Ms.fit_pv ?_ rfl)) ?_); clear hx)) | ((with_reducible refine tAlloc (some 2) 30 ?_); refine w_alloc M _ rfl rfl (.agg (msgC zeroM).toArray) (msgC zeroM) (by kernel_rfl) rfl ?_; clear M; intro gr w1 M) | ((with_reducible refine tAlloc (some 3) 30 ?_); refine w_alloc M _ rfl rfl (.agg (msgC zeroM).toArray) (msgC zeroM) (by kernel_rfl) rfl ?_; clear M; intro gx w1 M) | ((with_reducible refine tStore ?_); go_must (refine w_at2 _ _ _ rfl (by exact ev_tmp rfl) (by first | exact ev_tmp rfl | exact ev_const) ?_; intro hx hy; (first | refine w_storeMs (m := kindE 1 e) M 0 _ _ _ rfl rfl hx rfl hy rfl (by kernel_rfl) (kindE_fit _ _) zeroM_fit ?_ | refine w_storeMs (m := kindE 2 e) M 0 _ _ _ rfl rfl hx rfl hy rfl (by kernel_rfl) (kindE_fit _ _) zeroM_fit ?_ | refine w_storeMs (m := kindE 3 e) M 0 _ _ _ rfl rfl hx rfl hy rfl (by kernel_rfl) (kindE_fit _ _) zeroM_fit ?_ | refine w_storeMs (m := kindE 4 e) M 0 _ _ _ rfl rfl hx rfl hy rfl (by kernel_rfl) (kindE_fit _ _) zeroM_fit ?_ | refine w_storeMs (m := kindE 5 e) M 0 _ _ _ rfl rfl hx rfl hy rfl (by kernel_rfl) (kindE_fit _ _) zeroM_fit ?_ | refine w_storeMs (m := kindE 6 e) M 0 _ _ _ rfl rfl hx rfl hy rfl (by kernel_rfl) (kindE_fit _ _) zeroM_fit ?_ | refine w_storeMs (m := kindE 7 e) M 0 _ _ _ rfl rfl hx rfl hy rfl (by kernel_rfl) (kindE_fit _ _) zeroM_fit ?_ | refine w_storeMf M 0 _ _ _ rfl rfl hx rfl hy (by decide +kernel) (by repeat' (first | exact kindE_fit _ _ | refine Mf.set_fit ?_ _ _ | refine Hf.set_fit ?_ (by assumption) _ | refine Ms.fit_bt ?_ _ _ rfl | refine Ms.fit_pv ?_ rfl)) .a rfl ?_ | refine w_storeMf M 0 _ _ _ rfl rfl hx rfl hy (by decide +kernel) (by repeat' (first | exact kindE_fit _ _ | refine Mf.set_fit ?_ _ _ | refine Hf.set_fit ?_ (by assumption) _ | refine Ms.fit_bt ?_ _ _ rfl | refine Ms.fit_pv ?_ rfl)) .o rfl ?_ | refine w_storeMf M 0 _ _ _ rfl rfl hx rfl hy (by decide +kernel) (by repeat' (first | exact kindE_fit _ _ | refine Mf.set_fit ?_ _ _ | refine Hf.set_fit ?_ (by assumption) _ | refine Ms.fit_bt ?_ _ _ rfl | refine Ms.fit_pv ?_ rfl)) .p rfl ?_ | refine w_storeMf M 0 _ _ _ rfl rfl hx rfl hy (by decide +kernel) (by repeat' (first | exact kindE_fit _ _ | refine Mf.set_fit ?_ _ _ | refine Hf.set_fit ?_ (by assumption) _ | refine Ms.fit_bt ?_ _ _ rfl | refine Ms.fit_pv ?_ rfl)) .v rfl ?_ | refine w_storeMf M 0 _ _ _ rfl rfl hx rfl hy (by decide +kernel) (by repeat' (first | exact kindE_fit _ _ | refine Mf.set_fit ?_ _ _ | refine Hf.set_fit ?_ (by assumption) _ | refine Ms.fit_bt ?_ _ _ rfl | refine Ms.fit_pv ?_ rfl)) .i rfl ?_ | refine w_storeHf M 0 _ _ _ rfl rfl hx rfl hy (by assumption) (by kernel_rfl) (by repeat' (first | exact kindE_fit _ _ | refine Mf.set_fit ?_ _ _ | refine Hf.set_fit ?_ (by assumption) _ | refine Ms.fit_bt ?_ _ _ rfl | refine Ms.fit_pv ?_ rfl)) .r rfl ?_ | refine w_storeHf M 0 _ _ _ rfl rfl hx rfl hy (by assumption) (by kernel_rfl) (by repeat' (first | exact kindE_fit _ _ | refine Mf.set_fit ?_ _ _ | refine Hf.set_fit ?_ (by assumption) _ | refine Ms.fit_bt ?_ _ _ rfl | refine Ms.fit_pv ?_ rfl)) .lf rfl ?_ | refine w_storeHf M 0 _ _ _ rfl rfl hx rfl hy (by assumption) (by kernel_rfl) (by repeat' (first | exact kindE_fit _ _ | refine Mf.set_fit ?_ _ _ | refine Hf.set_fit ?_ (by assumption) _ | refine Ms.fit_bt ?_ _ _ rfl | refine Ms.fit_pv ?_ rfl)) .rt rfl ?_ | refine w_storeBt M 0 _ _ _ rfl rfl hx rfl hy (by kernel_rfl) rfl ?_ | refine w_storePv M 0 _ _ _ rfl rfl hx rfl hy rfl rfl (by decide +kernel) (by repeat' (first | exact kindE_fit _ _ | refine Mf.set_fit ?_ _ _ | refine Hf.set_fit ?_ (by assumption) _ | refine Ms.fit_bt ?_ _ _ rfl | refine Ms.fit_pv ?_ rfl)) ?_ | refine w_storeMs M 1 _ _ _ rfl rfl hx rfl hy rfl (by kernel_rfl) (by repeat' (first | exact kindE_fit _ _ | refine Mf.set_fit ?_ _ _ | refine Hf.set_fit ?_ (by assumption) _ | refine Ms.fit_bt ?_ _ _ rfl | refine Ms.fit_pv ?_ rfl)) zeroM_fit ?_); clear hx hy M; intro w1 M; (try simp only [setC] at M))) | ((with_reducible refine tGuard ?_); refine w_strip rfl (by with_reducible rfl) ?_) | fail | ((with_reducible refine tLoad ?_); go_must (refine w_at _ _ rfl (by exact ev_tmp rfl) ?_; intro hx; (first | refine w_load M _ _ _ rfl rfl hx rfl (by decide +kernel) (by exact rfl) ?_ | refine w_loadR M _ _ _ rfl rfl hx rfl (by decide +kernel) (by kernel_rfl) ?_); clear hx)) | ((with_reducible refine tStore ?_); go_must (refine w_at2 _ _ _ rfl (by exact ev_tmp rfl) (by first | exact ev_tmp rfl | exact ev_const) ?_; intro hx hy; (first | refine w_store M _ _ _ _ rfl rfl hx rfl hy rfl rfl (by decide +kernel) (by first | decide | simp | (simp; omega)) ?_ | refine w_storeR M _ _ _ _ rfl rfl hx rfl _ hy rfl (by kernel_rfl) (by simp [Value.oneCell']) (by first | rfl | assumption) ?_); clear hx hy M; intro w1 M; (try simp only [setC] at M))) | ((with_reducible refine tBox _ ?_); (refine w_box M _ _ rfl rfl _ rfl _ rfl ?_; clear M; intro g w1 M))) <;> (try conv => arg 5; simp only [Act.put, List.setIfInBounds_toArray, setC]))
    first
      | exact bodyPost_ret (results_row rfl _ _ gr 0 _ _ rfl (M.ok 1 _ rfl).2.1 Try.underlying30 rfl (by rw [msgC_len (by repeat' (first | exact kindE_fit _ _ | refine Mf.set_fit ?_ _ _ | refine Hf.set_fit ?_ (by assumption) _ | refine Ms.fit_bt ?_ _ _ rfl | refine Ms.fit_pv ?_ rfl))]; kernel_rfl)) rfl ⟨.slice none 0 0, .slice none 0 0, rfl, M.below, fun w2 _ => seesL_nil _ _ opV_len w2, fun w2 _ => seesL_nil _ _ prV_len w2⟩
      | exact bodyPost_ret (results_row rfl _ _ gr 0 _ _ rfl (M.ok 1 _ rfl).2.1 Try.underlying30 rfl (by rw [msgC_len (by repeat' (first | exact kindE_fit _ _ | refine Mf.set_fit ?_ _ _ | refine Hf.set_fit ?_ (by assumption) _ | refine Ms.fit_bt ?_ _ _ rfl | refine Ms.fit_pv ?_ rfl))]; kernel_rfl)) rfl ⟨.slice op ops.length oc, .slice none 0 0, rfl, M.below, fun _ h => h, fun w2 _ => seesL_nil _ _ prV_len w2⟩
      | exact bodyPost_ret (results_row rfl _ _ gr 0 _ _ rfl (M.ok 1 _ rfl).2.1 Try.underlying30 rfl (by rw [msgC_len (by repeat' (first | exact kindE_fit _ _ | refine Mf.set_fit ?_ _ _ | refine Hf.set_fit ?_ (by assumption) _ | refine Ms.fit_bt ?_ _ _ rfl | refine Ms.fit_pv ?_ rfl))]; kernel_rfl)) rfl ⟨.slice none 0 0, .slice pp prs.length pc, rfl, M.below, fun w2 _ => seesL_nil _ _ opV_len w2, fun _ h => h⟩
end Go.Proofs.Ytoaabclemeibhaa
