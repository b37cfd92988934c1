/- Texts of this seat, put together: BatK. Each begins with a remark that says what is proved in it, and under which conditions. -/
import Derived.Test.YtepjillcmpmlkaaZf
/- The walk of layer 12's law BatchKnown. No conditions. -/
namespace Go
namespace TL
open Go.RowKit
theorem mv_run {P : Program} {a : Act} {x : Operand} {dst : Option Tmp} {ty : TypeId} {pos : String} {after : Array Edge} {v : Value} {w : World} (h : a.eval x = v) : (execOp a.eval (Oper.mk dst (.move x) ty pos after none)).run P w = .ok (.value v) w := by
  simp only [execOp, h]; rfl
theorem lit_run {P : Program} {t e : TypeId} {bytes : Nat} (T : SliceT P t e 3 bytes) (w : World) (l : List Opr) (h0 : 0 < l.length ∧ l.length ≤ 1000) {ρ : Operand → Value} {dst : Option Tmp} {ty : TypeId} {pos : String} {after : Array Edge} (parts : Array (Nat × Operand)) (hp : (parts.map fun (i, x) => (i, ρ x)).toList = (l.map opV).zipIdx.map fun x => (x.2, .agg x.1.toArray)) :
    (execOp ρ (Oper.mk dst (.buildSlice t l.length parts) ty pos after none)).run P w = .ok (.value (sA w.heap.size l.length)) (w.alloc (.cells (l.flatMap opV).toArray e)) := by
  have h := run_lits T w (l.map opV) (fun c hc => by obtain ⟨x, _, rfl⟩ := List.mem_map.1 hc; rfl) (by rw [List.length_map]; omega) _ hp
  rw [List.length_map] at h
  simp only [execOp, Sem.run_bind, h]
  rfl
theorem w_buildLits {P : Program} {ops : Array Oper} {rest : List Oper} {o : Oper} {a : Act} {w w0 : World} {Q : Exit → Act → World → Prop} {F : List Nat} {L : List Chunk} (M : Mem F w0 w L) {t e : TypeId} {size bytes : Nat} (T : SliceT P t e size bytes) {α : Type} (f : α → List Value) (hf : ∀ x, (f x).length = size) (l : List α) (h0 : 0 < l.length ∧ l.length * size ≤ 16777216) (parts : Array (Nat × Operand)) (ho : o.op = .buildSlice t l.length parts) (hw : Region.wanted o (yielded ops a.tmps) = true) (hp : (parts.map fun (i, x) => (i, a.eval x)).toList = (l.map f).zipIdx.map fun x => (x.2, .agg x.1.toArray))
    (h : ∀ (g so : Nat) (w' : World), so = 0 → Mem F w0 w' (.row g (l.flatMap f) :: L) → wpList P ops Q rest (a.put o.dst (.slice (some ⟨g, so, none⟩) l.length l.length)) w') : wpList P ops Q (o :: rest) a w :=
  wpW hw fun _ hK => by
    have hr := run_lits T w (l.map f) (fun c hc => by obtain ⟨x, _, rfl⟩ := List.mem_map.1 hc; exact hf x) (by rw [List.length_map]; exact h0) _ hp
    rw [List.length_map] at hr
    unfold Oper.wp execOp
    simp only [ho, Sem.run_bind, hr]
    exact hK _ _ (h _ 0 _ rfl (M.alloc (l.flatMap f).toArray e))
end TL
end Go
namespace Go.Proofs.Ytepjillcmpmlkaa
open Go.RowKit Go.TL
set_option maxRecDepth 100000 in
set_option maxHeartbeats 16000000 in
set_option maxRecDepth 1000000 in
theorem mayTT : SliceT Try.prog 49 48 2 32 := ⟨Try.underlying49, ⟨_, _, rfl, rfl, rfl, rfl, rfl⟩, by omega⟩
set_option maxRecDepth 1000000 in
theorem rdTT : SliceT Try.prog 52 51 2 24 := ⟨Try.underlying52, ⟨_, _, rfl, rfl, rfl, rfl, rfl⟩, by omega⟩
set_option maxRecDepth 100000 in
set_option maxHeartbeats 16000000 in
theorem BatchKnown_any (w : World) :
    Calls Try.prog 10 #[] w fun e w' => e = .returned (.bool true) ∧ Below w.heap.size w w' := by
  have M := Mem.start [] w
  have RP : ∀ w : World, Calls Try.prog 26 #[.string ⟨#[118]⟩, .int .i64 33] w fun e w' => e = .returned (.string (mkS longV)) ∧ Below w.heap.size w w' := fun w => Try.strings_Repeat ⟨#[118]⟩ 33 w (by decide) (by decide)
  replace RP := Lib.hid RP
  go_enter Try.func10, Try.ntmps10
  go_wp2_with ((first | ((with_reducible refine tAlloc (some 1) 44 ?_); refine w_alloc M _ rfl rfl (.agg #[.int .u8 0, .string ⟨#[]⟩, .string ⟨#[]⟩]) ([.int .u8 0, .string ⟨#[]⟩, .string ⟨#[]⟩]) (by kernel_rfl) rfl ?_; clear M; intro gp w1 M) | (go_at_call 26; go_must (refine (RP.out _).mono ?_; rintro e w1 ⟨rfl, hb⟩; replace M := M.call hb; clear hb)) | ((with_reducible refine tM rfl ?_); refine mS ?_; try (clear M; (first | intro g w1 M | intro w1 M); try simp only [setC] at M)) | ((with_reducible refine tGuard ?_); refine gdC ?_ ?_ <;> (intro hgd; rw [hgd]; try (exfalso; simp at hgd; omega)))) <;> (try conv => arg 5; simp only [apS, setC]))
  clear RP
  have M0 : Mem [] w _ [.row gp (opV (1, appA, [49]))] := M
  clear M
  have LD : ∀ (a : Act) (w1 : World), Mem [] w w1 [.row gp (opV (1, appA, [49]))] → a.eval (.tmp 1) = .pointer (some ⟨gp, 0, none⟩) → ∀ o : Oper, o.op = .load 44 (.tmp 1) → (execOp a.eval o).run Try.prog w1 = .ok (.value (oA (1, appA, [49]))) w1 := fun a w1 M1 e1 o ho => by
    have h := run_loadAt_mid (P := Try.prog) w1 gp 0 44 (opV (1, appA, [49])) _ (M1.ok 0 _ rfl).2.1 Try.underlying44 rfl (by kernel_rfl)
    unfold execOp
    simp only [ho, e1, Sem.run_bind, h]
    rfl
  refine region_lays M0 rfl kT 41 (by kernel_rfl) ?_ ?_ ?_
  · intro i hi hn g a w1 o ho hd hold M1
    have e1 : a.eval (.tmp 1) = .pointer (some ⟨gp, 0, none⟩) := hold 1 (fun i _ => by show 12 + i ≠ 1; omega)
    have e2 : a.eval (.tmp 2) = .string (mkS longV) := hold 2 (fun i _ => by show 12 + i ≠ 2; omega)
    clear hold
    have hi' : i ∈ [0, 2, 3, 4, 6, 7, 9, 10, 12, 13, 15, 16, 17, 18, 19, 21, 22, 23, 24, 25, 26, 28, 29, 30, 32, 33, 34, 35, 37, 38, 40] ∨ i ∈ kLits := by
      have : ∀ i < 41, i ∈ [0, 2, 3, 4, 6, 7, 9, 10, 12, 13, 15, 16, 17, 18, 19, 21, 22, 23, 24, 25, 26, 28, 29, 30, 32, 33, 34, 35, 37, 38, 40] ∨ i ∈ kLits := by decide +kernel
      exact this i hi
    replace hi' := hi'.resolve_right hn
    clear hn hi
    simp only [List.mem_cons, List.not_mem_nil, or_false] at hi'
    rcases hi' with rfl | rfl | rfl | rfl | rfl | rfl | rfl | rfl | rfl | rfl | rfl | rfl | rfl | rfl | rfl | rfl | rfl | rfl | rfl | rfl | rfl | rfl | rfl | rfl | rfl | rfl | rfl | rfl | rfl | rfl | rfl
    all_goals (simp only [List.getElem?_cons_zero, List.getElem?_cons_succ, Option.some.injEq] at ho; subst ho)
    · exact LD a w1 M1 e1 _ rfl
    · have e13 : a.eval (.tmp 13) = sA (g 1) 1 := hd 1 (by decide) (by kernel_rfl); simp only [execOp, List.map_toArray, List.map_cons, List.map_nil, e13]; show _ = _; kernel_rfl
    · show _ = _; kernel_rfl
    · show _ = _; kernel_rfl
    · have e17 : a.eval (.tmp 17) = sA (g 5) 1 := hd 5 (by decide) (by kernel_rfl); simp only [execOp, List.map_toArray, List.map_cons, List.map_nil, e17]; show _ = _; kernel_rfl
    · show _ = _; kernel_rfl
    · have e20 : a.eval (.tmp 20) = sA (g 8) 1 := hd 8 (by decide) (by kernel_rfl); simp only [execOp, List.map_toArray, List.map_cons, List.map_nil, e20]; show _ = _; kernel_rfl
    · show _ = _; kernel_rfl
    · have e23 : a.eval (.tmp 23) = sA (g 11) 1 := hd 11 (by decide) (by kernel_rfl); simp only [execOp, List.map_toArray, List.map_cons, List.map_nil, e23]; show _ = _; kernel_rfl
    · show _ = _; kernel_rfl
    · have e26 : a.eval (.tmp 26) = sA (g 14) 1 := hd 14 (by decide) (by kernel_rfl); simp only [execOp, List.map_toArray, List.map_cons, List.map_nil, e26]; show _ = _; kernel_rfl
    · exact LD a w1 M1 e1 _ rfl
    · exact LD a w1 M1 e1 _ rfl
    · exact LD a w1 M1 e1 _ rfl
    · exact LD a w1 M1 e1 _ rfl
    · have e32 : a.eval (.tmp 32) = sA (g 20) 4 := hd 20 (by decide) (by kernel_rfl); simp only [execOp, List.map_toArray, List.map_cons, List.map_nil, e32]; show _ = _; kernel_rfl
    · exact LD a w1 M1 e1 _ rfl
    · exact LD a w1 M1 e1 _ rfl
    · exact LD a w1 M1 e1 _ rfl
    · exact LD a w1 M1 e1 _ rfl
    · exact LD a w1 M1 e1 _ rfl
    · have e39 : a.eval (.tmp 39) = sA (g 27) 5 := hd 27 (by decide) (by kernel_rfl); simp only [execOp, List.map_toArray, List.map_cons, List.map_nil, e39]; show _ = _; kernel_rfl
    · exact mv_run e2
    · have e41 : a.eval (.tmp 41) = .string (mkS longV) := hd 29 (by decide) (by kernel_rfl); simp only [execOp, List.map_toArray, List.map_cons, List.map_nil, e41]; show _ = _; kernel_rfl
    · have e43 : a.eval (.tmp 43) = sA (g 31) 1 := hd 31 (by decide) (by kernel_rfl); simp only [execOp, List.map_toArray, List.map_cons, List.map_nil, e43]; show _ = _; kernel_rfl
    · exact mv_run e2
    · have e45 : a.eval (.tmp 45) = .string (mkS longV) := hd 33 (by decide) (by kernel_rfl); simp only [execOp, Option.map_some, Option.map_none, e45]; show _ = _; kernel_rfl
    · have e46 : a.eval (.tmp 46) = .string (mkS (longV.take 32)) := hd 34 (by decide) (by kernel_rfl); simp only [execOp, List.map_toArray, List.map_cons, List.map_nil, e46]; show _ = _; kernel_rfl
    · have e48 : a.eval (.tmp 48) = sA (g 36) 1 := hd 36 (by decide) (by kernel_rfl); simp only [execOp, List.map_toArray, List.map_cons, List.map_nil, e48]; show _ = _; kernel_rfl
    · show _ = _; kernel_rfl
    · have e51 : a.eval (.tmp 51) = sA (g 39) 1 := hd 39 (by decide) (by kernel_rfl); simp only [execOp, List.map_toArray, List.map_cons, List.map_nil, e51]; show _ = _; kernel_rfl
  · intro i hi g a w1 o ho hd _
    replace hi : i ∈ [1, 5, 8, 11, 14, 20, 27, 31, 36, 39] := hi
    simp only [List.mem_cons, List.not_mem_nil, or_false] at hi
    rcases hi with rfl | rfl | rfl | rfl | rfl | rfl | rfl | rfl | rfl | rfl
    all_goals (simp only [List.getElem?_cons_zero, List.getElem?_cons_succ, Option.some.injEq] at ho; subst ho)
    · have e12 : a.eval (.tmp 12) = oA (1, appA, [49]) := hd 0 (by decide) (by kernel_rfl); exact ⟨_, lit_run opT w1 (kL 1) ⟨by decide, by decide⟩ _ (by simp only [List.map_toArray, List.map_cons, List.map_nil, e12]; rfl)⟩
    · have e16 : a.eval (.tmp 16) = oA (1, webA, []) := hd 4 (by decide) (by kernel_rfl); exact ⟨_, lit_run opT w1 (kL 5) ⟨by decide, by decide⟩ _ (by simp only [List.map_toArray, List.map_cons, List.map_nil, e16]; rfl)⟩
    · have e19 : a.eval (.tmp 19) = oA (2, appA, [49]) := hd 7 (by decide) (by kernel_rfl); exact ⟨_, lit_run opT w1 (kL 8) ⟨by decide, by decide⟩ _ (by simp only [List.map_toArray, List.map_cons, List.map_nil, e19]; rfl)⟩
    · have e22 : a.eval (.tmp 22) = oA (3, appA, []) := hd 10 (by decide) (by kernel_rfl); exact ⟨_, lit_run opT w1 (kL 11) ⟨by decide, by decide⟩ _ (by simp only [List.map_toArray, List.map_cons, List.map_nil, e22]; rfl)⟩
    · have e25 : a.eval (.tmp 25) = oA (1, appS, []) := hd 13 (by decide) (by kernel_rfl); exact ⟨_, lit_run opT w1 (kL 14) ⟨by decide, by decide⟩ _ (by simp only [List.map_toArray, List.map_cons, List.map_nil, e25]; rfl)⟩
    · have e28 : a.eval (.tmp 28) = oA (1, appA, [49]) := hd 16 (by decide) (by kernel_rfl); have e29 : a.eval (.tmp 29) = oA (1, appA, [49]) := hd 17 (by decide) (by kernel_rfl); have e30 : a.eval (.tmp 30) = oA (1, appA, [49]) := hd 18 (by decide) (by kernel_rfl); have e31 : a.eval (.tmp 31) = oA (1, appA, [49]) := hd 19 (by decide) (by kernel_rfl); exact ⟨_, lit_run opT w1 (kL 20) ⟨by decide, by decide⟩ _ (by simp only [List.map_toArray, List.map_cons, List.map_nil, e28, e29, e30, e31]; rfl)⟩
    · have e34 : a.eval (.tmp 34) = oA (1, appA, [49]) := hd 22 (by decide) (by kernel_rfl); have e35 : a.eval (.tmp 35) = oA (1, appA, [49]) := hd 23 (by decide) (by kernel_rfl); have e36 : a.eval (.tmp 36) = oA (1, appA, [49]) := hd 24 (by decide) (by kernel_rfl); have e37 : a.eval (.tmp 37) = oA (1, appA, [49]) := hd 25 (by decide) (by kernel_rfl); have e38 : a.eval (.tmp 38) = oA (1, appA, [49]) := hd 26 (by decide) (by kernel_rfl); exact ⟨_, lit_run opT w1 (kL 27) ⟨by decide, by decide⟩ _ (by simp only [List.map_toArray, List.map_cons, List.map_nil, e34, e35, e36, e37, e38]; rfl)⟩
    · have e42 : a.eval (.tmp 42) = oA (1, opsA, longV) := hd 30 (by decide) (by kernel_rfl); exact ⟨_, lit_run opT w1 (kL 31) ⟨by decide, by decide⟩ _ (by simp only [List.map_toArray, List.map_cons, List.map_nil, e42]; rfl)⟩
    · have e47 : a.eval (.tmp 47) = oA (1, opsA, (longV.take 32)) := hd 35 (by decide) (by kernel_rfl); exact ⟨_, lit_run opT w1 (kL 36) ⟨by decide, by decide⟩ _ (by simp only [List.map_toArray, List.map_cons, List.map_nil, e47]; rfl)⟩
    · have e50 : a.eval (.tmp 50) = oA (2, opsA, []) := hd 38 (by decide) (by kernel_rfl); exact ⟨_, lit_run opT w1 (kL 39) ⟨by decide, by decide⟩ _ (by simp only [List.map_toArray, List.map_cons, List.map_nil, e50]; rfl)⟩
  · intro g w2 M
    replace M : Mem [] w w2 [.row (g 1) ((kL 1).flatMap opV), .row (g 5) ((kL 5).flatMap opV), .row (g 8) ((kL 8).flatMap opV), .row (g 11) ((kL 11).flatMap opV), .row (g 14) ((kL 14).flatMap opV), .row (g 20) ((kL 20).flatMap opV), .row (g 27) ((kL 27).flatMap opV), .row (g 31) ((kL 31).flatMap opV), .row (g 36) ((kL 36).flatMap opV), .row (g 39) ((kL 39).flatMap opV), .row gp (opV (1, appA, [49]))] := M
    clear M0 LD
    simp only [List.drop_succ_cons, List.drop_zero, Tab.fin, Act.put, List.setIfInBounds_toArray, kT, Nat.reduceAdd, List.getD_cons_zero, List.getD_cons_succ, setC]
    refine w_buildLits M mayTT mayV mayV_len (tabK g) ⟨by show 0 < 11; decide, by show 11 * 2 ≤ 16777216; decide⟩ _ rfl rfl (by simp only [List.map_toArray, List.map_cons, List.map_nil]; rfl) ?_
    clear M
    intro gt so w3 hso M
    simp only [apS, setC, tabK_len]
    have hb1 := M.below
    have SO : SeesL w3 2 mayV (.slice (some ⟨gt, so, none⟩) 11 11) (tabK g) := by
      rw [hso]; exact SeesL.row M 0 rfl rfl mayV_len (by decide)
    have SP : SeesL w3 3 opV (.slice (some ⟨gp, 0, none⟩) 1 1) [(1, appA, [49])] := SeesL.row M 11 rfl rfl opV_len (by decide)
    have HS : ∀ (k : Nat) (x : Value × Nat), (tabK g)[k]? = some x → ∃ l, mayT[k]? = some (l, x.2) ∧ SeesL w3 3 opV x.1 l := by
      intro k x hx
      have hk : k < 11 := (List.getElem?_eq_some_iff.1 hx).1
      obtain rfl | rfl | rfl | rfl | rfl | rfl | rfl | rfl | rfl | rfl | rfl : k = 0 ∨ k = 1 ∨ k = 2 ∨ k = 3 ∨ k = 4 ∨ k = 5 ∨ k = 6 ∨ k = 7 ∨ k = 8 ∨ k = 9 ∨ k = 10 := by omega
      all_goals (obtain rfl := Option.some.inj hx)
      · exact ⟨_, rfl, SeesL.row M 1 rfl rfl opV_len (by decide)⟩
      · exact ⟨_, rfl, seesL_nil _ _ opV_len _⟩
      · exact ⟨_, rfl, SeesL.row M 2 rfl rfl opV_len (by decide)⟩
      · exact ⟨_, rfl, SeesL.row M 3 rfl rfl opV_len (by decide)⟩
      · exact ⟨_, rfl, SeesL.row M 4 rfl rfl opV_len (by decide)⟩
      · exact ⟨_, rfl, SeesL.row M 5 rfl rfl opV_len (by decide)⟩
      · exact ⟨_, rfl, SeesL.row M 6 rfl rfl opV_len (by decide)⟩
      · exact ⟨_, rfl, SeesL.row M 7 rfl rfl opV_len (by decide)⟩
      · exact ⟨_, rfl, SeesL.row M 8 rfl rfl opV_len (by decide)⟩
      · exact ⟨_, rfl, SeesL.row M 9 rfl rfl opV_len (by decide)⟩
      · exact ⟨_, rfl, SeesL.row M 10 rfl rfl opV_len (by decide)⟩
    clear hso
    replace hb1 := Lib.hid hb1
    replace HS := Lib.hid HS
    clear M
    have M := Mem.start [] w3
    go_wp2_with ((first | ((with_reducible refine tM rfl ?_); refine mS ?_; try (clear M; (first | intro g w1 M | intro w1 M); try simp only [setC] at M)) | ((with_reducible refine tGuard ?_); refine gdC ?_ ?_ <;> (intro hgd; rw [hgd]; try (exfalso; simp at hgd; omega)))) <;> (try conv => arg 5; simp only [apS, setC]))
    go_loopw [4] (fun iv wr => ∃ k : Nat, k ≤ 11 ∧ iv = .int .i64 k ∧ Mem [] w3 wr []) (fun iv _ => 11 - (intOf iv).toNat)
    case atStart => exact ⟨0, by omega, rfl, M⟩
    case round =>
      clear M
      obtain ⟨k, hk, rfl, M⟩ := hrel
      by_cases hlt : k < 11
      · obtain ⟨⟨v, e⟩, hx⟩ : ∃ x, (tabK g)[k]? = some x := ⟨_, List.getElem?_eq_getElem (by rw [tabK_len]; exact hlt)⟩
        obtain ⟨l, hl, SS⟩ := HS.out k _ hx
        have hm := List.mem_of_getElem? hl
        have hok := mayT_ok _ hm
        obtain ⟨hs1, hs2⟩ := mayT_small _ hm
        simp only at hok hs1 hs2 SS
        have Y := fun u w U S => bMay_c wakeM l u v w U S (by decide) (by omega) (fun x hx => by have := hs2 x hx; omega)
        rw [hok] at Y
        replace Y := Lib.hid Y
        replace HX := Lib.hid hx
        clear hx hok hs1 hs2 hm hl
        go_wp2_with ((first | ((with_reducible refine tGuard ?_); first | ((with_reducible refine w_stripE ?_ ?_); exact dcd) | ((with_reducible refine w_skip1 ?_ ?_); exact dcd) | ((with_reducible refine w_skip0 ?_ ?_); exact dcd)) | (go_at_call 27; go_must (refine (two12_c _).mono ?_; rintro e w1 ⟨g2, rfl, MP⟩; replace M := M.join MP; clear MP; simp only [List.cons_append, List.nil_append] at M)) | (go_at_call 14; go_must (refine (Y.out _ _ (SeesL.row M 0 rfl rfl mtV_len (by decide)) (SeesL.now M SS)).mono ?_; rintro e w1 ⟨rfl, hb⟩; replace M := M.call hb; clear hb)) | ((with_reducible show Code.wp _ (Code.region 7 _ _) _ _ _); go_must (have MR := M; refine region_lowc [(1, false), (2, false), (3, false), (4, false), (7, false), (8, false), (9, false), (10, false), (5, false), (11, false), (0, true), (6, true), (12, false)] [(66, .int), (71, .int)] [(5, _), (11, _)] (IxOk MR []) 13 (by kernel_rfl) (by kernel_rfl) rfl (by kernel_rfl) (lows_cons (stab_see MR SO HX.out 0 rfl (by decide +kernel) rfl) (lows_cons (stab_see MR SO HX.out 1 rfl (by decide +kernel) rfl) lows_nil)) (ixOk_self MR _) ?_; replace M := M.drew; simp only [planC, opAt, List.getElem?_toArray, List.getElem?_cons_zero, List.getElem?_cons_succ, Option.getD_some])) | ((with_reducible refine tLoad ?_); refine w_at _ _ rfl (by exact ev_tmp rfl) ?_; intro hx; first | (refine w_seeA M SO HX.out _ _ rfl hx rfl (by decide +kernel) (by first | (with_reducible rfl) | omega) (by kernel_rfl) ?_; clear hx; (try conv => arg 5; simp only [Act.put, List.setIfInBounds_toArray, setC, mayV])) | (refine w_see M SO HX.out _ _ rfl hx rfl (by decide +kernel) 0 (by first | (with_reducible rfl) | omega) rfl ?_; clear hx) | (refine w_see M SO HX.out _ _ rfl hx rfl (by decide +kernel) 1 (by first | (with_reducible rfl) | omega) rfl ?_; clear hx) | (refine w_see M SO HX.out _ _ rfl hx rfl (by decide +kernel) 2 (by first | (with_reducible rfl) | omega) rfl ?_; clear hx)) | ((with_reducible refine tM rfl ?_); refine mS ?_; try (clear M; (first | intro g w1 M | intro w1 M); try simp only [setC] at M)) | ((with_reducible first | show Seg _ _ _ _ | show OnlyN _ _ _ _ _); refine rA ?_) | ((with_reducible refine tGuard ?_); refine gdC ?_ ?_ <;> (intro hgd; rw [hgd]; try (exfalso; simp at hgd; omega)))) <;> (try conv => arg 5; simp only [apS, setC]))
        go_roundw
        case rel => exact ⟨k + 1, by omega, by go_num, M.tail⟩
        case measure => simp [intOf]; omega
      · obtain rfl : k = 11 := by omega
        clear HS SO
        go_wp2_with ((first | ((with_reducible refine tGuard ?_); first | ((with_reducible refine w_stripE ?_ ?_); exact dcd) | ((with_reducible refine w_skip1 ?_ ?_); exact dcd) | ((with_reducible refine w_skip0 ?_ ?_); exact dcd)) | ((with_reducible show wpList _ _ _ (Oper.mk _ (Op.buildSlice _ 10 _) _ _ _ _ :: _) _ _); go_must (refine w_buildLits M rdTT rdV rdV_len readT ⟨by decide, by decide⟩ _ rfl rfl (by simp only [List.map_toArray, List.map_cons, List.map_nil]; rfl) ?_; clear M; intro gr sr w4 hsr M; simp only [readT_len])) | ((with_reducible refine tM rfl ?_); refine mS ?_; try (clear M; (first | intro g w1 M | intro w1 M); try simp only [setC] at M)) | ((with_reducible refine tGuard ?_); refine gdC ?_ ?_ <;> (intro hgd; rw [hgd]; try (exfalso; simp at hgd; omega)))) <;> (try conv => arg 5; simp only [apS, setC]))
        have hb2 := hb1.out.trans (M.below.mono hb1.out.size)
        have SR : SeesL w4 2 rdV (.slice (some ⟨gr, sr, none⟩) 10 10) readT := by
          rw [hsr]; exact SeesL.row M 0 rfl rfl rdV_len (by decide)
        replace SP := SP.now M
        clear M
        have M := Mem.start [] w4
        clear hsr
        replace hb2 := Lib.hid hb2
        clear hb1
        go_loopw [6] (fun iv wr => ∃ k : Nat, k ≤ 10 ∧ iv = .int .i64 k ∧ Mem [] w4 wr []) (fun iv _ => 10 - (intOf iv).toNat)
        case atStart => exact ⟨0, by omega, rfl, M⟩
        case round =>
          clear M
          obtain ⟨k, hk, rfl, M⟩ := hrel
          by_cases hlt : k < 10
          · obtain ⟨⟨s, e⟩, hx⟩ : ∃ x, readT[k]? = some x := ⟨_, List.getElem?_eq_getElem (by rw [readT_len]; exact hlt)⟩
            have hm := List.mem_of_getElem? hx
            have hok := readT_ok _ hm
            have hs := readT_small _ hm
            simp only at hok hs
            have R := fun w => bRead_c s w (by omega)
            obtain ⟨⟨⟨i1, i2, i3⟩, i4⟩, eR⟩ : ∃ z, z = readB s := ⟨_, rfl⟩
            rw [← eR] at R hok
            simp only at hok
            subst hok
            replace R := Lib.hid R
            replace HX := Lib.hid hx
            clear hx hs hm eR
            go_wp2_with ((first | ((with_reducible refine tGuard ?_); first | ((with_reducible refine w_stripE ?_ ?_); exact dcd) | ((with_reducible refine w_skip1 ?_ ?_); exact dcd) | ((with_reducible refine w_skip0 ?_ ?_); exact dcd)) | (go_at_call 16; go_must (refine (R.out _).mono ?_; rintro e w1 ⟨p1, c1, rfl, MP⟩; replace M := M.join MP; clear MP; simp only [List.cons_append, List.nil_append, batR] at M ⊢)) | ((with_reducible refine tAlloc (some 7) 31 ?_); refine w_alloc M _ rfl rfl (.agg #[.int .i64 0, .int .i64 0, .slice none 0 0]) ([.int .i64 0, .int .i64 0, .slice none 0 0]) (by kernel_rfl) rfl ?_; clear M; intro gb w1 M) | ((with_reducible refine tLoad ?_); refine w_at _ _ rfl (by exact ev_tmp rfl) ?_; intro hx; first | (refine w_seeA M SR HX.out _ _ rfl hx rfl (by decide +kernel) (by first | (with_reducible rfl) | omega) (by kernel_rfl) ?_; clear hx; (try conv => arg 5; simp only [Act.put, List.setIfInBounds_toArray, setC, rdV])) | (refine w_see M SR HX.out _ _ rfl hx rfl (by decide +kernel) 0 (by first | (with_reducible rfl) | omega) rfl ?_; clear hx) | (refine w_see M SR HX.out _ _ rfl hx rfl (by decide +kernel) 1 (by first | (with_reducible rfl) | omega) rfl ?_; clear hx) | (refine w_see M SR HX.out _ _ rfl hx rfl (by decide +kernel) 2 (by first | (with_reducible rfl) | omega) rfl ?_; clear hx)) | ((with_reducible refine tM rfl ?_); refine mS ?_; try (clear M; (first | intro g w1 M | intro w1 M); try simp only [setC] at M)) | ((with_reducible refine tGuard ?_); refine gdC ?_ ?_ <;> (intro hgd; rw [hgd]; try (exfalso; simp at hgd; omega)))) <;> (try conv => arg 5; simp only [apS, setC]))
            go_roundw
            case rel => exact ⟨k + 1, by omega, by go_num, M.pick [] id (fun _ _ h => by simp at h) (fun i c h => by simp at h)⟩
            case measure => simp [intOf]; omega
          · obtain rfl : k = 10 := by omega
            clear SR
            have HP : putO[0]? = some (1, appA, [49]) := rfl
            have FC := fun u v w U S => bFilter_c wakeM 3 1 twoO u v w U S (by decide) (by decide) (by decide)
            rw [filt_two] at FC
            replace FC := Lib.hid FC
            go_wp2_with ((first | ((with_reducible refine tGuard ?_); first | ((with_reducible refine w_stripE ?_ ?_); exact dcd) | ((with_reducible refine w_skip1 ?_ ?_); exact dcd) | ((with_reducible refine w_skip0 ?_ ?_); exact dcd)) | ((with_reducible refine tM rfl ?_); refine mS ?_; try (clear M; (first | intro g w1 M | intro w1 M); try simp only [setC] at M)) | ((with_reducible refine tGuard ?_); refine gdC ?_ ?_ <;> (intro hgd; rw [hgd]; try (exfalso; simp at hgd; omega)))) <;> (try conv => arg 5; simp only [apS, setC]))
            refine cut_at (R16 w4) ?_ ?_
            · go_wp2_with ((first | ((with_reducible refine tGuard ?_); first | ((with_reducible refine w_stripE ?_ ?_); exact dcd) | ((with_reducible refine w_skip1 ?_ ?_); exact dcd) | ((with_reducible refine w_skip0 ?_ ?_); exact dcd)) | ((with_reducible show Code.wp _ (Code.region 16 _ _) _ _ _); go_must (have MR := M; refine region_fork (.rd 1 (.alt 0 (.alt 2 (.alt 3 (.alt 4 (.alt 5 (.wr 6 (.wr 7 .nil)) (.wr 6 (.wr 5 (.wr 7 .nil)))) (.wr 6 (.wr 4 (.wr 5 (.wr 7 .nil))))) (.wr 6 (.wr 3 (.wr 4 (.wr 5 (.wr 7 .nil)))))) (.wr 6 (.wr 2 (.wr 3 (.wr 4 (.wr 5 (.wr 7 .nil))))))) (.alt 2 (.alt 0 (.alt 3 (.alt 4 (.alt 5 (.wr 6 (.wr 7 .nil)) (.wr 6 (.wr 5 (.wr 7 .nil)))) (.wr 6 (.wr 4 (.wr 5 (.wr 7 .nil))))) (.wr 6 (.wr 3 (.wr 4 (.wr 5 (.wr 7 .nil)))))) (.alt 3 (.alt 0 (.alt 4 (.alt 5 (.wr 6 (.wr 7 .nil)) (.wr 6 (.wr 5 (.wr 7 .nil)))) (.wr 6 (.wr 4 (.wr 5 (.wr 7 .nil))))) (.alt 4 (.alt 0 (.alt 5 (.wr 6 (.wr 7 .nil)) (.wr 6 (.wr 5 (.wr 7 .nil)))) (.wr 6 (.wr 0 (.wr 5 (.wr 7 .nil))))) (.wr 6 (.alt 0 (.wr 4 (.wr 5 (.wr 7 .nil))) (.wr 4 (.wr 0 (.wr 5 (.wr 7 .nil)))))))) (.wr 6 (.alt 0 (.wr 3 (.wr 4 (.wr 5 (.wr 7 .nil)))) (.wr 3 (.alt 0 (.wr 4 (.wr 5 (.wr 7 .nil))) (.wr 4 (.wr 0 (.wr 5 (.wr 7 .nil)))))))))) (.wr 6 (.alt 0 (.wr 2 (.wr 3 (.wr 4 (.wr 5 (.wr 7 .nil))))) (.wr 2 (.alt 0 (.wr 3 (.wr 4 (.wr 5 (.wr 7 .nil)))) (.wr 3 (.alt 0 (.wr 4 (.wr 5 (.wr 7 .nil))) (.wr 4 (.wr 0 (.wr 5 (.wr 7 .nil))))))))))))) [] [(1, _)] (IxOk MR []) 8 (by kernel_rfl) (by kernel_rfl) rfl (by kernel_rfl) (lows_cons (stab_seeA MR SP HP rfl (by decide +kernel) (by kernel_rfl)) lows_nil) (ixOk_self MR _) ?_; replace M := M.drew; simp only [planT, opAt, List.getElem?_toArray, List.getElem?_cons_zero, List.getElem?_cons_succ, Option.getD_some])) | (go_at_call 27; go_must (refine (two12_c _).mono ?_; rintro e w1 ⟨g2, rfl, MP⟩; replace M := M.join MP; clear MP; simp only [List.cons_append, List.nil_append] at M)) | ((with_reducible show wpList _ _ _ (Oper.mk _ (Op.buildSlice _ 2 _) _ _ _ _ :: _) _ _); go_must (refine w_buildLits M opT opV opV_len twoO ⟨by decide, by decide⟩ _ rfl rfl (by simp only [List.map_toArray, List.map_cons, List.map_nil]; rfl) ?_; clear M; intro gl sl w1 hsl M; subst hsl)) | (go_at_call 23; go_must (refine (FC.out _ _ _ (by first | exact SeesL.row M 0 rfl rfl mtV_len (by decide) | exact SeesL.row M 1 rfl rfl mtV_len (by decide) | exact SeesL.row M 2 rfl rfl mtV_len (by decide)) (by first | exact SeesL.row M 0 rfl rfl opV_len (by decide) | exact SeesL.row M 1 rfl rfl opV_len (by decide) | exact SeesL.row M 2 rfl rfl opV_len (by decide))).mono ?_; rintro e w1 ⟨q, c, rfl, MP⟩; replace M := M.join MP; clear MP; simp only [List.cons_append, List.nil_append] at M)) | ((with_reducible refine tAlloc (some 9) 31 ?_); refine w_alloc M _ rfl rfl (.agg #[.int .i64 0, .int .i64 0, .slice none 0 0]) ([.int .i64 0, .int .i64 0, .slice none 0 0]) (by kernel_rfl) rfl ?_; clear M; intro gv w1 M) | ((with_reducible refine tLoad ?_); refine w_at _ _ rfl (by exact ev_tmp rfl) ?_; intro hx; first | (refine w_seeA M SP HP _ _ rfl hx rfl (by decide +kernel) (by first | (with_reducible rfl) | omega) (by kernel_rfl) ?_; clear hx; (try conv => arg 5; simp only [Act.put, List.setIfInBounds_toArray, setC, opV])) | (refine w_see M SP HP _ _ rfl hx rfl (by decide +kernel) 0 (by first | (with_reducible rfl) | omega) rfl ?_; clear hx) | (refine w_see M SP HP _ _ rfl hx rfl (by decide +kernel) 1 (by first | (with_reducible rfl) | omega) rfl ?_; clear hx) | (refine w_see M SP HP _ _ rfl hx rfl (by decide +kernel) 2 (by first | (with_reducible rfl) | omega) rfl ?_; clear hx)) | (with_reducible refine Seg.alt ?_ ?_) | ((with_reducible refine tM rfl ?_); refine mS ?_; try (clear M; (first | intro g w1 M | intro w1 M); try simp only [setC] at M)) | ((with_reducible first | show Seg _ _ _ _ | show OnlyN _ _ _ _ _); refine rA ?_) | ((with_reducible refine tGuard ?_); refine gdC ?_ ?_ <;> (intro hgd; rw [hgd]; try (exfalso; simp at hgd; omega)))) <;> (try conv => arg 5; simp only [apS, setC]))
              all_goals
                refine Seg.intro ⟨g2, gl, gv, q, c, ?_, M.below, ?_, ?_⟩
                · simp only [Act.put, List.setIfInBounds_toArray, setC]
                  rfl
                · first | exact SeesL.own M 0 rfl rfl opV_len | exact SeesL.own M 1 rfl rfl opV_len | exact SeesL.own M 2 rfl rfl opV_len | exact SeesL.own M 3 rfl rfl opV_len
                · first | exact SeesL.row M 0 rfl rfl batV_len (by decide) | exact SeesL.row M 1 rfl rfl batV_len (by decide) | exact SeesL.row M 2 rfl rfl batV_len (by decide) | exact SeesL.row M 3 rfl rfl batV_len (by decide)
            · rintro a' w5 ⟨gm, gl, gv, q, c, rfl, hb3, SF, SB⟩
              clear M FC
              replace SP := SP.below hb3
              have hb4 := hb2.out.trans (hb3.mono hb2.out.size)
              replace hb4 := Lib.hid hb4
              clear hb2 hb3
              have M := Mem.start [] w5
              obtain ⟨gq, sq, rfl⟩ := SF.addr (by decide)
              have HB : ([.slice (some ⟨gq, sq, none⟩) 1 c] : List Value)[0]? = some (.slice (some ⟨gq, sq, none⟩) 1 c) := rfl
              have RC : ∀ (i e : Int) (r : Nat), rightB i e [] = r → ∀ w : World, Calls Try.prog 21 #[.agg #[.int .i64 i, .int .i64 e, .slice none 0 0]] w fun e' w' => e' = .returned (.int .i64 r) ∧ Below w.heap.size w w' := fun i e r hr w => by
                have := bRight_c i e [] _ w (seesL_nil _ _ opV_len _) (by decide) (by decide)
                rwa [hr] at this
              have R1 := RC 1 1 0 kright_1
              have R2 := RC 0 1 1 kright_2
              have R3 := RC 4611686018427387904 9223372036854775807 0 kright_3
              have R4 := RC 4611686018427387905 1 1 kright_4
              have SC := fun v u w S T => bSame_c 1 2 3 1 wakeO putO v u w S T (by decide) (by decide)
              rw [same_no] at SC
              replace R1 := Lib.hid R1
              replace R2 := Lib.hid R2
              replace R3 := Lib.hid R3
              replace R4 := Lib.hid R4
              replace SC := Lib.hid SC
              clear RC
              simp only [Act.put, List.setIfInBounds_toArray, setC]
              go_wp2_with ((first | ((with_reducible refine tGuard ?_); first | ((with_reducible refine w_stripE ?_ ?_); exact dcd) | ((with_reducible refine w_skip1 ?_ ?_); exact dcd) | ((with_reducible refine w_skip0 ?_ ?_); exact dcd)) | ((with_reducible show Code.wp _ (Code.region 17 _ _) _ _ _); go_must (have MR := M; refine region_lowc [(0, true), (1, true), (2, true), (3, true), (4, true), (5, false), (6, false), (7, false), (8, false), (9, true), (10, true), (11, true), (12, true), (13, true), (14, true), (15, true), (16, true), (17, true), (18, true), (19, true), (20, true), (21, true), (22, true), (23, true), (24, true), (25, true), (26, true), (27, true), (28, true), (29, true), (30, true), (31, true), (32, true), (33, true), (34, true), (35, true), (36, true), (37, true), (39, false), (38, true), (40, true), (41, true), (42, true), (43, true), (44, true), (45, true), (46, true)] [] [(6, _), (8, _), (39, _)] (IxOk MR []) 46 (by kernel_rfl) (by kernel_rfl) rfl (by kernel_rfl) (lows_cons (stab_see MR SB HB 2 rfl (by decide +kernel) rfl) (lows_cons (stab_seeA MR SF HP rfl (by decide +kernel) (by kernel_rfl)) (lows_cons (stab_seeA MR SB HB rfl (by decide +kernel) (by kernel_rfl)) lows_nil))) (ixOk_self MR _) ?_; replace M := M.drew; simp only [planC, opAt, List.getElem?_toArray, List.getElem?_cons_zero, List.getElem?_cons_succ, Option.getD_some])) | (go_at_call 21; go_must ((first | (with_reducible refine (R1.out _).mono ?_) | (with_reducible refine (R2.out _).mono ?_) | (with_reducible refine (R3.out _).mono ?_) | (with_reducible refine (R4.out _).mono ?_)); rintro e w1 ⟨rfl, hb⟩; replace M := M.call hb; clear hb)) | (go_at_call 28; go_must (refine (one12_c _).mono ?_; rintro e w1 ⟨g1, rfl, MP⟩; replace M := M.join MP; clear MP; simp only [List.cons_append, List.nil_append] at M)) | (go_at_call 20; go_must (refine (SC.out _ _ _ (SeesL.row M 0 rfl rfl opV_len (by decide)) (SF.now M)).mono ?_; rintro e w1 ⟨rfl, hb⟩; replace M := M.call hb; clear hb)) | (go_at_call 13; go_must (refine (wakes12_c _).mono ?_; rintro e w1 ⟨rfl, hb⟩; replace M := M.call hb; clear hb)) | ((with_reducible refine tLoad ?_); refine w_at _ _ rfl (by exact ev_tmp rfl) ?_; intro hx; first | (refine w_seeA M SB HB _ _ rfl hx rfl (by decide +kernel) (by first | (with_reducible rfl) | omega) (by kernel_rfl) ?_; clear hx; (try conv => arg 5; simp only [Act.put, List.setIfInBounds_toArray, setC, batV, opV])) | (refine w_see M SB HB _ _ rfl hx rfl (by decide +kernel) 0 (by first | (with_reducible rfl) | omega) rfl ?_; clear hx) | (refine w_see M SB HB _ _ rfl hx rfl (by decide +kernel) 1 (by first | (with_reducible rfl) | omega) rfl ?_; clear hx) | (refine w_see M SB HB _ _ rfl hx rfl (by decide +kernel) 2 (by first | (with_reducible rfl) | omega) rfl ?_; clear hx) | (refine w_seeA M SF HP _ _ rfl hx rfl (by decide +kernel) (by first | (with_reducible rfl) | omega) (by kernel_rfl) ?_; clear hx; (try conv => arg 5; simp only [Act.put, List.setIfInBounds_toArray, setC, batV, opV])) | (refine w_see M SF HP _ _ rfl hx rfl (by decide +kernel) 0 (by first | (with_reducible rfl) | omega) rfl ?_; clear hx) | (refine w_see M SF HP _ _ rfl hx rfl (by decide +kernel) 1 (by first | (with_reducible rfl) | omega) rfl ?_; clear hx) | (refine w_see M SF HP _ _ rfl hx rfl (by decide +kernel) 2 (by first | (with_reducible rfl) | omega) rfl ?_; clear hx) | (refine w_seeA M SP HP _ _ rfl hx rfl (by decide +kernel) (by first | (with_reducible rfl) | omega) (by kernel_rfl) ?_; clear hx; (try conv => arg 5; simp only [Act.put, List.setIfInBounds_toArray, setC, batV, opV])) | (refine w_see M SP HP _ _ rfl hx rfl (by decide +kernel) 0 (by first | (with_reducible rfl) | omega) rfl ?_; clear hx) | (refine w_see M SP HP _ _ rfl hx rfl (by decide +kernel) 1 (by first | (with_reducible rfl) | omega) rfl ?_; clear hx) | (refine w_see M SP HP _ _ rfl hx rfl (by decide +kernel) 2 (by first | (with_reducible rfl) | omega) rfl ?_; clear hx)) | ((with_reducible refine tM rfl ?_); refine mS ?_; try (clear M; (first | intro g w1 M | intro w1 M); try simp only [setC] at M)) | ((with_reducible first | show Seg _ _ _ _ | show OnlyN _ _ _ _ _); refine rA ?_) | ((with_reducible refine tGuard ?_); refine gdC ?_ ?_ <;> (intro hgd; rw [hgd]; try (exfalso; simp at hgd; omega)))) <;> (try conv => arg 5; simp only [apS, setC]))
              go_ret
              exact ⟨rfl, hb4.out.trans (M.below.mono hb4.out.size)⟩
end Go.Proofs.Ytepjillcmpmlkaa
