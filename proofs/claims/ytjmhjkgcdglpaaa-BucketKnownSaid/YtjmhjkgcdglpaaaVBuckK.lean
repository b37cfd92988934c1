/- The walk of layer 14's law BucketKnown. No conditions. -/
import Derived.Test.YtjmhjkgcdglpaaaVBuckC
namespace Go
namespace TL
open Go.RowKit
/-- A slice literal of two pairs. -/
theorem w_buildPairs2 {P : Program} {ops : Array Oper} {rest : List Oper} {o : Oper} {a : Act} {w w0 : World} {Q : Exit → Act → World → Prop} {F : List Nat} {L : List Chunk} (M : Mem F w0 w L) {t e : TypeId} {bytes : Nat} (T : SliceT P t e 2 bytes) (x y : Operand) (ho : o.op = .buildSlice t 2 #[(0, x), (1, y)]) (hw : Region.wanted o (yielded ops a.tmps) = true) {p q r s : Value} (hx : a.eval x = .agg #[p, q]) (hy : a.eval y = .agg #[r, s])
    (h : ∀ (g : Nat) (w' : World), Mem F w0 w' (.row g [p, q, r, s] :: L) → wpList P ops Q rest (a.put o.dst (.slice (some ⟨g, 0, none⟩) 2 2)) w') : wpList P ops Q (o :: rest) a w := by
  have T' := T
  obtain ⟨ht, ⟨i, z', hi, hz', hsize, hby, hzs⟩, hsz⟩ := T'
  refine w_buildSlice M T 2 _ ho hw ⟨by omega, by omega⟩ z' (by simp [hi, hz']) [p, q, r, s] ?_ h
  have r4 : Array.range (2 * 2) = #[0, 1, 2, 3] := by decide
  rw [r4]
  simp only [List.map_toArray, List.map_cons, List.map_nil, hx, hy]
  generalize z'.cells[0 % z'.cells.size]! = c0
  generalize z'.cells[1 % z'.cells.size]! = c1
  generalize z'.cells[2 % z'.cells.size]! = c2
  generalize z'.cells[3 % z'.cells.size]! = c3
  rfl
theorem sees_nil (w : World) : SeesL w 2 prV (.slice none 0 0) ([] : List Pr) := SeesL.own ((Mem.start [] w).nil 2) 0 rfl rfl prV_len
/-- Bytes of pairs that are no page. -/
theorem read_bad {i : Int} {l : List Pr} (hi : inB i = true) (hf : ∀ x ∈ l, fitP x) (hl : l.length ≤ 48) (hp : (pageL i l).2 ≠ 0) : readL i (pageB l) = ([], 8) := by
  obtain ⟨k', e⟩ := rd_pairs l [] (0 + (numL l.length).length) hf
  have m := most_page (l := l) (r := []) hl
  rw [List.append_nil] at m
  unfold readL
  rw [if_pos hi, m]
  simp only
  rw [e]
  unfold InS.fin
  simp only [if_true, List.length_nil]
  rw [if_neg hp]
theorem read_many {i : Int} (hi : inB i = true) : readL i [49] = ([], 8) := by
  have m : (inStart [49]).most 48 = (0, ⟨[49], 0, 8⟩) := by
    have e := read_num 49 48 [] (by omega)
    rw [numL_small (by omega), if_pos (by omega)] at e
    unfold inStart InS.most InS.take
    simp only [if_true]
    rw [show ([49] : List UInt8) = [UInt8.ofNat 49] ++ [] from rfl, e]; rfl
  unfold readL
  rw [if_pos hi, m]
  simp only [rdPairs]
  rfl
def aP : Pr := ([97, 112, 112, 47, 97], [49])
theorem page1 : pageB [aP] = [1, 5, 97, 112, 112, 47, 97, 1, 49] := by
  unfold pageB; simp only [List.flatMap_cons, List.flatMap_nil, pairB, textL, aP, List.length_cons, List.length_nil]
  rw [numL_small (by omega), numL_small (by omega)]; rfl
theorem page2 : pageB [aP, aP] = [2, 5, 97, 112, 112, 47, 97, 1, 49, 5, 97, 112, 112, 47, 97, 1, 49] := by
  unfold pageB; simp only [List.flatMap_cons, List.flatMap_nil, pairB, textL, aP, List.length_cons, List.length_nil]
  rw [numL_small (by omega), numL_small (by omega), numL_small (by omega)]; rfl
theorem page0 : pageB [] = [0] := by unfold pageB; rw [List.length_nil, numL_small (by omega)]; rfl
theorem may1 : mayL [aP] = true := by decide +kernel
theorem mayaa : mayL [aP, aP] = false := by decide +kernel
theorem may0 : mayL [] = true := by decide +kernel
theorem mayba : mayL [([97, 112, 112, 47, 98], []), ([97, 112, 112, 47, 97], [])] = false := by decide +kernel
theorem mayaa0 : mayL [([97, 112, 112, 47, 97], []), ([97, 112, 112, 47, 97], [])] = false := by decide +kernel
theorem mayapp : mayL [([97, 112, 112], [])] = false := by decide +kernel
theorem p1_yes : partL [aP] (ofL [97, 112, 112, 47, 97] : Nat) = [aP] := by
  unfold partL; rw [List.filter_cons, if_pos (by rw [beq_iff_eq]; rfl)]; rfl
theorem p1_no {i : Int} (h : i ≠ (ofL [97, 112, 112, 47, 97] : Nat)) : partL [aP] i = [] := by
  unfold partL; rw [List.filter_cons, if_neg (by rw [beq_iff_eq]; intro e; exact h e.symm)]; rfl
theorem fit1 : ∀ x ∈ [aP], fitP x := by intro x hx; rw [List.mem_singleton] at hx; subst hx; exact ⟨by decide, by decide⟩
theorem fit2 : ∀ x ∈ [aP, aP], fitP x := by intro x hx; have : x = aP := by simpa using hx
                                            subst this; exact ⟨by decide, by decide⟩
end TL
end Go
namespace Go.Proofs.Ytjmhjkgcdglpaaa
open Go.RowKit Go.TL
set_option maxRecDepth 100000 in
set_option maxHeartbeats 8000000 in
theorem BucketKnown_any (w : World) :
    Calls Try.prog 7 #[] w fun e w' => e = .returned (.bool true) ∧ Below w.heap.size w w' := by
  have M := Mem.start [] w
  have O := fun w => bOf_c [97, 112, 112, 47, 97] w (by decide)
  have hn := ofL_lt [97, 112, 112, 47, 97]
  have hp1 := p1_yes
  have hp0 := @p1_no
  obtain ⟨n, en⟩ : ∃ n : Nat, n = ofL [97, 112, 112, 47, 97] := ⟨_, rfl⟩
  rw [← en] at O hn hp1
  simp only [← en] at hp0
  have hr1 := Int.emod_nonneg ((n : Int) + 1) (by decide : (16 : Int) ≠ 0)
  have hr2 := Int.emod_lt_of_pos ((n : Int) + 1) (by decide : (0 : Int) < 16)
  have hr3 : ((n : Int) + 1) % 16 ≠ (n : Int) := by omega
  have hr4 : ((n : Int) + 1).tmod 16 = ((n : Int) + 1) % 16 := Int.tmod_eq_emod_of_nonneg (by omega)
  obtain ⟨r, er⟩ : ∃ r : Int, r = ((n : Int) + 1) % 16 := ⟨_, rfl⟩
  rw [← er] at hr1 hr2 hr3 hr4
  have hib : inB n = true := by unfold inB; simp; omega
  have hir : inB r = true := by unfold inB; simp; omega
  have e3 : pageL 3 [] = ([0], 0) := by rw [← page0]; exact page_ok ⟨by decide, may0, rfl⟩ (by decide)
  have e16 : pageL 16 [] = ([], 1) := page_arg fun h => by have := h.1; revert this; decide
  have er1 : pageL r [aP] = ([], 1) := page_arg fun h => by have := h.2.2; rw [hp0 hr3] at this; simp at this
  have en1 : (pageL n [aP]).2 = 0 := by rw [page_ok ⟨hib, may1, by rw [hp1]⟩ (by decide)]
  have en2 : (pageL n [aP, aP]).2 ≠ 0 := by rw [page_arg fun h => by have := h.2.1; rw [mayaa] at this; cases this]; decide
  have P3 := fun w => Page_c 3 [] _ w (sees_nil w) (by decide) (by simp)
  have P16 := fun w => Page_c 16 [] _ w (sees_nil w) (by decide) (by simp)
  have small : ∀ x ∈ [aP], x.1.length ≤ 1000 ∧ x.2.length ≤ 1000 := fun x hx => by have := fit1 x hx; unfold fitP at this; omega
  have Pr := fun v w S => Page_c r [aP] v w S (by decide) small
  rw [e3] at P3
  rw [e16] at P16
  rw [er1] at Pr
  have R1 := fun w => Read_c 3 [0] w (by decide)
  have r1 := read_page (i := 3) (l := []) (by rw [e3]) []
  rw [page0, if_pos rfl, List.append_nil] at r1
  rw [r1] at R1
  have R2 := fun w => Read_c (-1) [0] w (by decide)
  rw [readL_arg (by decide)] at R2
  have e0 : pageL 0 [] = ([0], 0) := by rw [← page0]; exact page_ok ⟨by decide, may0, rfl⟩ (by decide)
  have R3 := fun w => Read_c 0 [] w (by decide)
  have r3 := read_cut (i := 0) (l := []) (by rw [e0]) (j := 0) (by rw [page0]; decide)
  rw [page0, List.take_zero] at r3
  rw [r3] at R3
  have R4 := fun w => Read_c n [1, 5, 97, 112, 112, 47, 97, 1, 49, 120] w (by decide)
  have r4 : readL n [1, 5, 97, 112, 112, 47, 97, 1, 49, 120] = ([], 8) := by
    have := read_page en1 [120]
    rw [page1, if_neg (by decide)] at this
    exact this
  rw [r4] at R4
  have R5 := fun w => Read_c r [1, 5, 97, 112, 112, 47, 97, 1, 49] w (by decide)
  have r5 := read_bad hir fit1 (by decide) (by rw [er1]; decide)
  rw [page1] at r5
  rw [r5] at R5
  have R6 := fun w => Read_c n [2, 5, 97, 112, 112, 47, 97, 1, 49, 5, 97, 112, 112, 47, 97, 1, 49] w (by decide)
  have r6 := read_bad hib fit2 (by decide) en2
  rw [page2] at r6
  rw [r6] at R6
  have R7 := fun w => Read_c n [49] w (by decide)
  rw [read_many hib] at R7
  have Y0 := fun w => May_c [] _ w (sees_nil w) (by decide) (by simp)
  rw [may0] at Y0
  have Y1 := fun v w S => May_c [aP] v w S (by decide) (fun x hx => by have := small x hx; omega)
  rw [may1] at Y1
  have Y2 := fun v w S => May_c [([97, 112, 112, 47, 98], []), ([97, 112, 112, 47, 97], [])] v w S (by decide) (by decide)
  rw [mayba] at Y2
  have Y3 := fun v w S => May_c [([97, 112, 112, 47, 97], []), ([97, 112, 112, 47, 97], [])] v w S (by decide) (by decide)
  rw [mayaa0] at Y3
  have Y4 := fun v w S => May_c [([97, 112, 112], [])] v w S (by decide) (by decide)
  rw [mayapp] at Y4
  have T1 := fun v w S => Part_c [aP] n v w S (by decide) (fun x hx => by have := small x hx; omega)
  rw [hp1] at T1
  have T2 := fun v w S => Part_c [aP] r v w S (by decide) (fun x hx => by have := small x hx; omega)
  rw [hp0 hr3] at T2
  replace O := Lib.hid O
  replace P3 := Lib.hid P3
  replace P16 := Lib.hid P16
  replace Pr := Lib.hid Pr
  replace R1 := Lib.hid R1
  replace R2 := Lib.hid R2
  replace R3 := Lib.hid R3
  replace R4 := Lib.hid R4
  replace R5 := Lib.hid R5
  replace R6 := Lib.hid R6
  replace R7 := Lib.hid R7
  replace Y0 := Lib.hid Y0
  replace Y1 := Lib.hid Y1
  replace Y2 := Lib.hid Y2
  replace Y3 := Lib.hid Y3
  replace Y4 := Lib.hid Y4
  replace T1 := Lib.hid T1
  replace T2 := Lib.hid T2
  clear hp1 hp0 e3 e16 er1 en1 en2 r1 r3 r4 r5 r6 e0 en er small hib hir hr3
  go_enter Try.func7, Try.ntmps7
  go_wp2_with (first | ((with_reducible show wpList _ _ _ (Oper.mk _ _ _ _ _ (some _) :: _) _ _); refine w_strip rfl (by first | (with_reducible rfl) | (simp only [decide_eq_false_iff_not, decide_eq_true_eq]; omega)) ?_) | (go_at_call 14; go_must (refine (O.out _).mono ?_; rintro e w1 ⟨rfl, hb⟩; replace M := M.call hb; clear hb)) | ((with_reducible show wpList _ _ _ (Oper.mk _ (Op.buildSlice _ 1 _) _ _ _ _ :: _) _ _); go_must (refine w_buildSlice1 M pairT (by decide) _ rfl rfl (by first | exact ev_tmp rfl | exact ev_const) _ rfl rfl ?_; clear M; intro g w1 M; replace M := M.toSl 2 1 rfl (by omega))) | ((with_reducible show wpList _ _ _ (Oper.mk _ (Op.buildSlice _ 2 _) _ _ _ _ :: _) _ _); go_must (refine w_buildPairs2 M pairT _ _ rfl rfl (by first | exact ev_tmp rfl | exact ev_const) (by first | exact ev_tmp rfl | exact ev_const) ?_; clear M; intro g w1 M; replace M := M.toSl 2 2 rfl (by omega))) | (go_at_call 16; go_must ((first | (with_reducible refine (P3.out _).mono ?_) | (with_reducible refine (P16.out _).mono ?_) | (have SB := SeesL.own (f := prV) (l := [aP]) M 0 rfl rfl prV_len; with_reducible refine (Pr.out _ _ SB).mono ?_)); rintro e w1 ⟨rfl, hb⟩; replace M := M.call hb; clear hb)) | (go_at_call 17; go_must ((first | (with_reducible refine (R1.out _).mono ?_) | (with_reducible refine (R2.out _).mono ?_) | (with_reducible refine (R3.out _).mono ?_) | (with_reducible refine (R4.out _).mono ?_) | (with_reducible refine (R5.out _).mono ?_) | (with_reducible refine (R6.out _).mono ?_) | (with_reducible refine (R7.out _).mono ?_)); rintro e w1 ⟨p2, c2, rfl, MP⟩; replace M := M.call MP.below; clear MP)) | (go_at_call 15; go_must ((first | (with_reducible refine (Y0.out _).mono ?_) | (have SB := SeesL.own (f := prV) (l := [aP]) M 0 rfl rfl prV_len; with_reducible refine (Y1.out _ _ SB).mono ?_) | (have SB := SeesL.own (f := prV) (l := [([97, 112, 112, 47, 98], []), ([97, 112, 112, 47, 97], [])]) M 0 rfl rfl prV_len; with_reducible refine (Y2.out _ _ SB).mono ?_) | (have SB := SeesL.own (f := prV) (l := [([97, 112, 112, 47, 97], []), ([97, 112, 112, 47, 97], [])]) M 0 rfl rfl prV_len; with_reducible refine (Y3.out _ _ SB).mono ?_) | (have SB := SeesL.own (f := prV) (l := [([97, 112, 112], [])]) M 0 rfl rfl prV_len; with_reducible refine (Y4.out _ _ SB).mono ?_)); rintro e w1 ⟨rfl, hb⟩; replace M := M.call hb; clear hb)) | (go_at_call 13; go_must (have SB := SeesL.own (f := prV) (l := [aP]) M 3 rfl rfl prV_len; (first | (with_reducible refine (T1.out _ _ SB).mono ?_) | (with_reducible refine (T2.out _ _ SB).mono ?_)); rintro e w1 ⟨p2, c2, rfl, MP⟩; replace M := M.call MP.below; clear MP)) | (go_at_call 12; go_must (refine (wakes14_c _).mono ?_; rintro e w1 ⟨rfl, hb⟩; replace M := M.call hb; clear hb)) | ((with_reducible show wpList _ _ _ (Oper.mk _ _ _ _ _ (some _) :: _) _ _); refine w_strip rfl (by with_reducible rfl) ?_) | ((with_reducible show wpList _ _ _ (Oper.mk _ (Op.convert 48 9 _) _ _ _ _ :: _) _ _); go_must (first | (refine w_stringW M 0 _ _ _ _ rfl rfl rfl rfl (by first | assumption | exact shaL_len _ | exact macL_len _ _ | exact words_len _ | exact List.length_replicate | (rw [List.length_set]; first | assumption | exact List.length_replicate) | rfl) (by decide) Try.underlying48 Try.underlying5 Try.underlying9 ?_; (try conv => arg 5; dsimp only [Act.put, List.setIfInBounds_toArray, List.set_cons_succ, List.set_cons_zero])) | (refine w_string M 0 _ _ _ _ rfl rfl rfl (by first | rfl | (simp; done) | assumption) rfl Try.underlying48 Try.underlying5 Try.underlying9 ?_; (try conv => arg 5; dsimp only [Act.put, List.setIfInBounds_toArray, List.set_cons_succ, List.set_cons_zero])))) | ((with_reducible show wpList _ _ _ (Oper.mk _ (Op.load _ _) _ _ _ _ :: _) _ _); go_must (refine w_at _ _ rfl (by first | exact ev_tmp rfl | exact ev_const) ?_; intro hx; first | (refine w_load M 0 _ _ rfl rfl hx rfl (by decide +kernel) rfl ?_; clear hx; (try conv => arg 5; dsimp only [Act.put, List.setIfInBounds_toArray, List.set_cons_succ, List.set_cons_zero])) | (refine w_loadB M 0 _ _ rfl rfl hx rfl (by decide +kernel) (by first | assumption | omega | (simp; omega)) ?_; clear hx; (try conv => arg 5; dsimp only [Act.put, List.setIfInBounds_toArray, List.set_cons_succ, List.set_cons_zero])) | (refine w_loadH M 0 _ _ rfl rfl hx rfl (by decide +kernel) (by first | assumption | exact shaL_len _ | exact macL_len _ _ | exact words_len _ | exact List.length_replicate | (rw [List.length_set]; first | assumption | exact List.length_replicate) | rfl) (by decide +kernel) ?_; clear hx; (try conv => arg 5; dsimp only [Act.put, List.setIfInBounds_toArray, List.set_cons_succ, List.set_cons_zero])) | (refine w_loadR M 0 _ _ rfl rfl hx rfl (by decide +kernel) (by kernel_rfl) ?_; clear hx; (try conv => arg 5; dsimp only [Act.put, List.setIfInBounds_toArray, List.set_cons_succ, List.set_cons_zero])))) | ((with_reducible show wpList _ _ _ (Oper.mk _ (Op.store _ _ _) _ _ _ _ :: _) _ _); go_must (refine w_at2 _ _ _ rfl (by first | exact ev_tmp rfl | exact ev_const) (by first | exact ev_tmp rfl | exact ev_const) ?_; intro hx hy; first | (refine w_storeB M 0 _ _ _ rfl rfl hx rfl hy (by decide +kernel) (by first | assumption | omega | (simp; omega)) ?_; clear hx hy M; intro w1 M; (try simp only [List.set_cons_zero] at M); (try conv => arg 5; dsimp only [Act.put, List.setIfInBounds_toArray, List.set_cons_succ, List.set_cons_zero])) | (refine w_storeH M 0 _ _ _ rfl rfl hx rfl hy (by first | assumption | exact shaL_len _ | exact macL_len _ _ | exact words_len _ | exact List.length_replicate | (rw [List.length_set]; first | assumption | exact List.length_replicate) | rfl) (by decide +kernel) (by first | assumption | exact shaL_len _ | exact macL_len _ _ | exact words_len _ | exact List.length_replicate | (rw [List.length_set]; first | assumption | exact List.length_replicate) | rfl) ?_; clear hx hy M; intro w1 M; (try simp only [List.set_cons_zero] at M); (try conv => arg 5; dsimp only [Act.put, List.setIfInBounds_toArray, List.set_cons_succ, List.set_cons_zero])) | (refine w_store M 0 _ _ _ rfl rfl hx rfl hy rfl rfl (by decide +kernel) (by first | decide | simp | (simp; omega)) ?_; clear hx hy M; intro w1 M; (try simp only [List.set_cons_zero] at M); (try conv => arg 5; dsimp only [Act.put, List.setIfInBounds_toArray, List.set_cons_succ, List.set_cons_zero])) | (refine w_storeR M 0 _ _ _ rfl rfl hx rfl _ hy rfl (by kernel_rfl) (by simp [Value.oneCell']) (by first | rfl | assumption) ?_; clear hx hy M; intro w1 M; (try simp only [List.set_cons_zero] at M); (try conv => arg 5; dsimp only [Act.put, List.setIfInBounds_toArray, List.set_cons_succ, List.set_cons_zero])))) | ((with_reducible show wpList _ _ _ (Oper.mk _ (Op.box _ _) _ _ _ _ :: _) _ _); (refine w_box M _ _ rfl rfl _ rfl _ rfl ?_; clear M; intro g w1 M; (try conv => arg 5; dsimp only [Act.put, List.setIfInBounds_toArray, List.set_cons_succ, List.set_cons_zero]))))
  go_ret
  exact ⟨rfl, M.below⟩
end Go.Proofs.Ytjmhjkgcdglpaaa
