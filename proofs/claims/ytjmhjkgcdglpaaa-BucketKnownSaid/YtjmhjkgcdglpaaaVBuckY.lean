/- The walks of layer 14's laws BucketReads and BucketPages. No conditions but the bounds of lengths that every machine has. -/
import Derived.Test.YtjmhjkgcdglpaaaVBuckX
namespace Go
namespace TL
open Go.RowKit
theorem prs_one (l : List Pr) : ∀ q ∈ l.flatMap prV, q.oneCell' = true := by
  intro q hq
  obtain ⟨x, _, hx⟩ := List.mem_flatMap.1 hq
  simp only [prV, List.mem_cons, List.not_mem_nil, or_false] at hx
  rcases hx with rfl | rfl <;> rfl
/-- A new row, taken for a slice. -/
theorem Mem.toSl {F : List Nat} {w0 w : World} {g : Nat} {cs : List Value} {L : List Chunk} (M : Mem F w0 w (.row g cs :: L)) (size n : Nat) (hn : cs.length = n * size) (hm : n ≤ 1000000) : Mem F w0 w (.sl size (.slice (some ⟨g, 0, none⟩) n n) n cs :: L) := by
  have hok := M.ok 0 _ rfl
  have := M.upd 0 rfl (c' := .sl size (.slice (some ⟨g, 0, none⟩) n n) n cs) ⟨Kept.refl _ _, ⟨hn, .inr ⟨g, 0, n, rfl, Nat.zero_le _, hok.1, Nat.le_refl _, by simp only [maxLen]; omega, hok.2.1, hn ▸ hok.2.2⟩⟩, fun k hk => .inl (by simpa [Chunk.fp, Value.ownBlock] using hk)⟩
  simpa using this
/-- An empty slice literal. -/
theorem w_buildSlice0 {P : Program} {ops : Array Oper} {rest : List Oper} {o : Oper} {a : Act} {w w0 : World} {Q : Exit → Act → World → Prop} {F : List Nat} {L : List Chunk} (M : Mem F w0 w L) {t e : TypeId} {size bytes : Nat} (T : SliceT P t e size bytes) (ho : o.op = .buildSlice t 0 #[]) (hw : Region.wanted o (yielded ops a.tmps) = true)
    (h : ∀ (g : Nat) (w' : World), Mem F w0 w' (.sl size (.slice (some ⟨g, 0, none⟩) 0 0) 0 [] :: L) → wpList P ops Q rest (a.put o.dst (.slice (some ⟨g, 0, none⟩) 0 0)) w') : wpList P ops Q (o :: rest) a w :=
  wpW hw fun _ hK => by
    obtain ⟨ht, ⟨i, z', hi, hz', hsize, hby, hzs⟩, hsz⟩ := T
    have hr : (Instr.buildSlice t 0 #[]).run P w = .ok (.slice (some ⟨w.heap.size, 0, none⟩) 0 0) (w.alloc (.cells #[] e)) := by
      have r0 : Array.range 0 = (#[] : Array Nat) := by decide
      simp [Instr.buildSlice, run_underlying ht, sizeOf, typeInfo, hi, Instr.fill, newRow, r0]
    unfold Oper.wp execOp
    simp only [ho, Sem.run_bind]
    have e0 : (Array.map (fun x : Nat × Operand => (x.1, a.eval x.2)) #[]) = #[] := by simp
    simp only [e0, hr, Result.andThen_ok]
    refine hK _ _ (h _ _ ?_)
    have M1 := M.alloc #[] e
    exact M1.toSl size 0 (by simp) (by omega)
end TL
end Go
namespace Go.Proofs.Ytjmhjkgcdglpaaa
open Go.RowKit Go.TL
set_option maxRecDepth 100000 in
set_option maxHeartbeats 4000000 in
theorem BucketReads_any (i : Int) (s : List UInt8) (w : World) :
    Calls Try.prog 10 #[.int .i64 i, .string (mkS s)] w fun e w' => e = .returned (.bool true) ∧ Below w.heap.size w w' := by
  have M := Mem.start [] w
  have key : ∀ s' : List UInt8, s'.length ≤ 5000 → ∃ (d : List Pr) (er : Nat), d.length ≤ 48 ∧ (∀ w, Calls Try.prog 17 #[.int .i64 i, .string (mkS s')] w (Gives 2 prV d (fun u => .tuple #[u, .int .i64 er]) w)) ∧
      (∀ w, Calls Try.prog 24 #[.int .i64 i, .string (mkS s')] w (Gives 2 prV d (fun u => .tuple #[u, .int .i64 er]) w)) := fun s' hs' => by
    refine ⟨(readL i s').1, (readL i s').2, ?_, fun w => Read_c i s' w (by omega), fun w => rRead_c i s' w (by omega)⟩
    by_cases he : (readL i s').2 = 0
    · have h2 := (read_only (i := i) (s := s') (l := (readL i s').1) (Prod.ext rfl he)).2
      exact (page_of h2).2.2.2.2
    · rw [readL_err he]; simp
  by_cases hs : s.length ≤ 5000
  · obtain ⟨d, er, hd, R, R'⟩ := key s hs
    replace R := Lib.hid R
    replace R' := Lib.hid R'
    clear key
    have hs' : (s.length : Int) ≤ 5000 := by omega
    go_enter Try.func10, Try.ntmps10
    go_wp2_with (first | (go_at_call 17; go_must (refine (R.out _).mono ?_; rintro e w1 ⟨p1, c1, rfl, MP⟩; replace M := M.join MP; clear MP; simp only [List.cons_append, List.nil_append] at M)) | (go_at_call 24; go_must (refine (R'.out _).mono ?_; rintro e w1 ⟨p2, c2, rfl, MP⟩; replace M := M.join MP; clear MP; simp only [List.cons_append, List.nil_append] at M)) | (go_at_call 18; go_must (refine (Same13_c d d _ _ _ (SeesL.own M 1 rfl rfl prV_len) (SeesL.own M 0 rfl rfl prV_len) (by omega) (by omega)).mono ?_; rintro e w1 ⟨rfl, hb⟩; replace M := M.call hb; clear hb)) | (go_at_call 12; go_must (refine (wakes14_c _).mono ?_; rintro e w1 ⟨rfl, hb⟩; replace M := M.call hb; clear hb)) | ((with_reducible show wpList _ _ _ (Oper.mk _ _ _ _ _ (some _) :: _) _ _); refine w_strip rfl (by with_reducible rfl) ?_) | ((with_reducible show wpList _ _ _ (Oper.mk _ (Op.convert 48 9 _) _ _ _ _ :: _) _ _); go_must (first | (refine w_stringW M 0 _ _ _ _ rfl rfl rfl rfl (by first | assumption | exact shaL_len _ | exact macL_len _ _ | exact words_len _ | exact List.length_replicate | (rw [List.length_set]; first | assumption | exact List.length_replicate) | rfl) (by decide) Try.underlying48 Try.underlying5 Try.underlying9 ?_; (try conv => arg 5; dsimp only [Act.put, List.setIfInBounds_toArray, List.set_cons_succ, List.set_cons_zero])) | (refine w_string M 0 _ _ _ _ rfl rfl rfl (by first | rfl | (simp; done) | assumption) rfl Try.underlying48 Try.underlying5 Try.underlying9 ?_; (try conv => arg 5; dsimp only [Act.put, List.setIfInBounds_toArray, List.set_cons_succ, List.set_cons_zero])))) | ((with_reducible show wpList _ _ _ (Oper.mk _ (Op.load _ _) _ _ _ _ :: _) _ _); go_must (refine w_at _ _ rfl (by first | exact ev_tmp rfl | exact ev_const) ?_; intro hx; first | (refine w_load M 0 _ _ rfl rfl hx rfl (by decide +kernel) rfl ?_; clear hx; (try conv => arg 5; dsimp only [Act.put, List.setIfInBounds_toArray, List.set_cons_succ, List.set_cons_zero])) | (refine w_loadB M 0 _ _ rfl rfl hx rfl (by decide +kernel) (by first | assumption | omega | (simp; omega)) ?_; clear hx; (try conv => arg 5; dsimp only [Act.put, List.setIfInBounds_toArray, List.set_cons_succ, List.set_cons_zero])) | (refine w_loadH M 0 _ _ rfl rfl hx rfl (by decide +kernel) (by first | assumption | exact shaL_len _ | exact macL_len _ _ | exact words_len _ | exact List.length_replicate | (rw [List.length_set]; first | assumption | exact List.length_replicate) | rfl) (by decide +kernel) ?_; clear hx; (try conv => arg 5; dsimp only [Act.put, List.setIfInBounds_toArray, List.set_cons_succ, List.set_cons_zero])) | (refine w_loadR M 0 _ _ rfl rfl hx rfl (by decide +kernel) (by kernel_rfl) ?_; clear hx; (try conv => arg 5; dsimp only [Act.put, List.setIfInBounds_toArray, List.set_cons_succ, List.set_cons_zero])))) | ((with_reducible show wpList _ _ _ (Oper.mk _ (Op.store _ _ _) _ _ _ _ :: _) _ _); go_must (refine w_at2 _ _ _ rfl (by first | exact ev_tmp rfl | exact ev_const) (by first | exact ev_tmp rfl | exact ev_const) ?_; intro hx hy; first | (refine w_storeB M 0 _ _ _ rfl rfl hx rfl hy (by decide +kernel) (by first | assumption | omega | (simp; omega)) ?_; clear hx hy M; intro w1 M; (try simp only [List.set_cons_zero] at M); (try conv => arg 5; dsimp only [Act.put, List.setIfInBounds_toArray, List.set_cons_succ, List.set_cons_zero])) | (refine w_storeH M 0 _ _ _ rfl rfl hx rfl hy (by first | assumption | exact shaL_len _ | exact macL_len _ _ | exact words_len _ | exact List.length_replicate | (rw [List.length_set]; first | assumption | exact List.length_replicate) | rfl) (by decide +kernel) (by first | assumption | exact shaL_len _ | exact macL_len _ _ | exact words_len _ | exact List.length_replicate | (rw [List.length_set]; first | assumption | exact List.length_replicate) | rfl) ?_; clear hx hy M; intro w1 M; (try simp only [List.set_cons_zero] at M); (try conv => arg 5; dsimp only [Act.put, List.setIfInBounds_toArray, List.set_cons_succ, List.set_cons_zero])) | (refine w_store M 0 _ _ _ rfl rfl hx rfl hy rfl rfl (by decide +kernel) (by first | decide | simp | (simp; omega)) ?_; clear hx hy M; intro w1 M; (try simp only [List.set_cons_zero] at M); (try conv => arg 5; dsimp only [Act.put, List.setIfInBounds_toArray, List.set_cons_succ, List.set_cons_zero])) | (refine w_storeR M 0 _ _ _ rfl rfl hx rfl _ hy rfl (by kernel_rfl) (by simp [Value.oneCell']) (by first | rfl | assumption) ?_; clear hx hy M; intro w1 M; (try simp only [List.set_cons_zero] at M); (try conv => arg 5; dsimp only [Act.put, List.setIfInBounds_toArray, List.set_cons_succ, List.set_cons_zero])))) | ((with_reducible show wpList _ _ _ (Oper.mk _ (Op.box _ _) _ _ _ _ :: _) _ _); (refine w_box M _ _ rfl rfl _ rfl _ rfl ?_; clear M; intro g w1 M; (try conv => arg 5; dsimp only [Act.put, List.setIfInBounds_toArray, List.set_cons_succ, List.set_cons_zero]))))
    go_ret
    exact ⟨rfl, M.below⟩
  · obtain ⟨d, er, hd, R, R'⟩ := key (s.take 5000) (by simp; omega)
    replace R := Lib.hid R
    replace R' := Lib.hid R'
    clear key
    have hs' : (5000 : Int) < (s.length : Int) := by omega
    have hs2 : 5000 ≤ s.length := by omega
    go_enter Try.func10, Try.ntmps10
    go_wp2_with (first | (go_at_call 17; go_must (refine (R.out _).mono ?_; rintro e w1 ⟨p1, c1, rfl, MP⟩; replace M := M.join MP; clear MP; simp only [List.cons_append, List.nil_append] at M)) | (go_at_call 24; go_must (refine (R'.out _).mono ?_; rintro e w1 ⟨p2, c2, rfl, MP⟩; replace M := M.join MP; clear MP; simp only [List.cons_append, List.nil_append] at M)) | (go_at_call 18; go_must (refine (Same13_c d d _ _ _ (SeesL.own M 1 rfl rfl prV_len) (SeesL.own M 0 rfl rfl prV_len) (by omega) (by omega)).mono ?_; rintro e w1 ⟨rfl, hb⟩; replace M := M.call hb; clear hb)) | (go_at_call 12; go_must (refine (wakes14_c _).mono ?_; rintro e w1 ⟨rfl, hb⟩; replace M := M.call hb; clear hb)) | ((with_reducible show wpList _ _ _ (Oper.mk _ _ _ _ _ (some _) :: _) _ _); refine w_strip rfl (by with_reducible rfl) ?_) | ((with_reducible show wpList _ _ _ (Oper.mk _ (Op.convert 48 9 _) _ _ _ _ :: _) _ _); go_must (first | (refine w_stringW M 0 _ _ _ _ rfl rfl rfl rfl (by first | assumption | exact shaL_len _ | exact macL_len _ _ | exact words_len _ | exact List.length_replicate | (rw [List.length_set]; first | assumption | exact List.length_replicate) | rfl) (by decide) Try.underlying48 Try.underlying5 Try.underlying9 ?_; (try conv => arg 5; dsimp only [Act.put, List.setIfInBounds_toArray, List.set_cons_succ, List.set_cons_zero])) | (refine w_string M 0 _ _ _ _ rfl rfl rfl (by first | rfl | (simp; done) | assumption) rfl Try.underlying48 Try.underlying5 Try.underlying9 ?_; (try conv => arg 5; dsimp only [Act.put, List.setIfInBounds_toArray, List.set_cons_succ, List.set_cons_zero])))) | ((with_reducible show wpList _ _ _ (Oper.mk _ (Op.load _ _) _ _ _ _ :: _) _ _); go_must (refine w_at _ _ rfl (by first | exact ev_tmp rfl | exact ev_const) ?_; intro hx; first | (refine w_load M 0 _ _ rfl rfl hx rfl (by decide +kernel) rfl ?_; clear hx; (try conv => arg 5; dsimp only [Act.put, List.setIfInBounds_toArray, List.set_cons_succ, List.set_cons_zero])) | (refine w_loadB M 0 _ _ rfl rfl hx rfl (by decide +kernel) (by first | assumption | omega | (simp; omega)) ?_; clear hx; (try conv => arg 5; dsimp only [Act.put, List.setIfInBounds_toArray, List.set_cons_succ, List.set_cons_zero])) | (refine w_loadH M 0 _ _ rfl rfl hx rfl (by decide +kernel) (by first | assumption | exact shaL_len _ | exact macL_len _ _ | exact words_len _ | exact List.length_replicate | (rw [List.length_set]; first | assumption | exact List.length_replicate) | rfl) (by decide +kernel) ?_; clear hx; (try conv => arg 5; dsimp only [Act.put, List.setIfInBounds_toArray, List.set_cons_succ, List.set_cons_zero])) | (refine w_loadR M 0 _ _ rfl rfl hx rfl (by decide +kernel) (by kernel_rfl) ?_; clear hx; (try conv => arg 5; dsimp only [Act.put, List.setIfInBounds_toArray, List.set_cons_succ, List.set_cons_zero])))) | ((with_reducible show wpList _ _ _ (Oper.mk _ (Op.store _ _ _) _ _ _ _ :: _) _ _); go_must (refine w_at2 _ _ _ rfl (by first | exact ev_tmp rfl | exact ev_const) (by first | exact ev_tmp rfl | exact ev_const) ?_; intro hx hy; first | (refine w_storeB M 0 _ _ _ rfl rfl hx rfl hy (by decide +kernel) (by first | assumption | omega | (simp; omega)) ?_; clear hx hy M; intro w1 M; (try simp only [List.set_cons_zero] at M); (try conv => arg 5; dsimp only [Act.put, List.setIfInBounds_toArray, List.set_cons_succ, List.set_cons_zero])) | (refine w_storeH M 0 _ _ _ rfl rfl hx rfl hy (by first | assumption | exact shaL_len _ | exact macL_len _ _ | exact words_len _ | exact List.length_replicate | (rw [List.length_set]; first | assumption | exact List.length_replicate) | rfl) (by decide +kernel) (by first | assumption | exact shaL_len _ | exact macL_len _ _ | exact words_len _ | exact List.length_replicate | (rw [List.length_set]; first | assumption | exact List.length_replicate) | rfl) ?_; clear hx hy M; intro w1 M; (try simp only [List.set_cons_zero] at M); (try conv => arg 5; dsimp only [Act.put, List.setIfInBounds_toArray, List.set_cons_succ, List.set_cons_zero])) | (refine w_store M 0 _ _ _ rfl rfl hx rfl hy rfl rfl (by decide +kernel) (by first | decide | simp | (simp; omega)) ?_; clear hx hy M; intro w1 M; (try simp only [List.set_cons_zero] at M); (try conv => arg 5; dsimp only [Act.put, List.setIfInBounds_toArray, List.set_cons_succ, List.set_cons_zero])) | (refine w_storeR M 0 _ _ _ rfl rfl hx rfl _ hy rfl (by kernel_rfl) (by simp [Value.oneCell']) (by first | rfl | assumption) ?_; clear hx hy M; intro w1 M; (try simp only [List.set_cons_zero] at M); (try conv => arg 5; dsimp only [Act.put, List.setIfInBounds_toArray, List.set_cons_succ, List.set_cons_zero])))) | ((with_reducible show wpList _ _ _ (Oper.mk _ (Op.box _ _) _ _ _ _ :: _) _ _); (refine w_box M _ _ rfl rfl _ rfl _ rfl ?_; clear M; intro g w1 M; (try conv => arg 5; dsimp only [Act.put, List.setIfInBounds_toArray, List.set_cons_succ, List.set_cons_zero]))))
    go_ret
    exact ⟨rfl, M.below⟩
set_option maxRecDepth 100000 in
set_option maxHeartbeats 4000000 in
theorem BucketPages_any (l : List Pr) (i : Int) (v : Value) (w : World) (S : SeesL w 2 prV v l) (hm : ∀ x ∈ l, x.1.length ≤ maxLen ∧ x.2.length ≤ maxLen) :
    Calls Try.prog 9 #[v, .int .i64 i] w fun e w' => e = .returned (.bool true) ∧ Below w.heap.size w w' := by
  have M := Mem.start [] w
  have G := GreatPairs_c l v w S hm
  by_cases hg : greatP l = true
  · rw [hg] at G
    replace G := Lib.hid G
    clear hm
    go_enter Try.func9, Try.ntmps9
    go_wp2_with (first | (go_at_call 11; go_must (refine (G.out).mono ?_; rintro e w1 ⟨rfl, rfl⟩)) | (go_at_call 12; go_must (refine (wakes14_c _).mono ?_; rintro e w1 ⟨rfl, hb⟩; replace M := M.call hb; clear hb)))
    go_ret
    exact ⟨rfl, M.below⟩
  · rw [Bool.not_eq_true] at hg
    rw [hg] at G
    obtain ⟨hl, hs⟩ := greatP_small hg
    replace G := Lib.hid G
    clear hm hg
    have hpl := part_len l i
    have hs' : ∀ x ∈ partL l i, x.1.length ≤ 1000 ∧ x.2.length ≤ 1000 := fun x hx => hs x (List.mem_filter.1 hx).1
    have A := fun w S => Page_c i l v w S (by omega) hs
    have A' := fun w S => rPage_c i l v w S (by omega) hs
    have P' := fun w S => rPart_c l i v w S (by omega) (fun x hx => by have := hs x hx; omega)
    obtain ⟨d, ed⟩ : ∃ d, d = partL l i := ⟨_, rfl⟩
    rw [← ed] at P' hs' hpl
    have B := fun v w S => Page_c i d v w S (by omega) hs'
    have B' := fun v w S => rPage_c i d v w S (by omega) hs'
    obtain ⟨⟨a, e⟩, ea⟩ : ∃ R, R = pageL i l := ⟨_, rfl⟩
    obtain ⟨⟨b, f⟩, eb⟩ : ∃ R, R = pageL i d := ⟨_, rfl⟩
    rw [← ea] at A A'
    rw [← eb] at B B'
    replace A := Lib.hid A
    replace A' := Lib.hid A'
    replace B := Lib.hid B
    replace B' := Lib.hid B'
    replace P' := Lib.hid P'
    clear ea eb ed hs hs'
    obtain ⟨q, cap, rfl, hc⟩ := S.form
    go_enter Try.func9, Try.ntmps9
    go_wp2_with (first | (go_at_call 11; go_must (refine (G.out).mono ?_; rintro e w1 ⟨rfl, rfl⟩)) | ((with_reducible show wpList _ _ _ (Oper.mk _ (Op.buildSlice _ 0 _) _ _ _ _ :: _) _ _); go_must (refine w_buildSlice0 M pairT rfl rfl ?_; clear M; intro g0 w1 M)) | ((with_reducible show wpList _ _ _ (Oper.mk _ (Op.call ⟨Callee.builtin Builtin.append, _, _⟩) _ _ _ _ :: _) _ _); go_must (refine w_append M 0 pairT _ _ _ rfl (.inr ⟨_, Try.underlying22⟩) rfl rfl rfl rfl l.length (l.flatMap prV) (Src_of_sees (S.now M).sees (prs_one l)) (by simp only [maxLen]; omega) (by omega) ?_; clear M; intro q3 c3 w1 M; simp only [List.set_cons_zero, List.nil_append, Nat.zero_add] at M)) | (go_at_call 22; go_must (refine (P'.out _ (S.now M)).mono ?_; rintro e w1 ⟨p2, c2, rfl, MP⟩; replace M := M.join MP; clear MP; simp only [List.cons_append, List.nil_append] at M)) | (go_at_call 16; go_must ((first | (with_reducible refine (A.out _ (S.now M)).mono ?_) | (have SB := SeesL.own (f := prV) (l := d) M 0 rfl rfl prV_len; with_reducible refine (B.out _ _ SB).mono ?_)); rintro e w1 ⟨rfl, hb⟩; replace M := M.call hb; clear hb)) | (go_at_call 23; go_must ((first | (with_reducible refine (A'.out _ (S.now M)).mono ?_) | (have SB := SeesL.own (f := prV) (l := d) M 0 rfl rfl prV_len; with_reducible refine (B'.out _ _ SB).mono ?_)); rintro e w1 ⟨rfl, hb⟩; replace M := M.call hb; clear hb)) | (go_at_call 18; go_must (refine (Same13_c l l _ _ _ (S.now M) (SeesL.own M 2 rfl rfl prV_len) (by omega) (by omega)).mono ?_; rintro e w1 ⟨rfl, hb⟩; replace M := M.call hb; clear hb)) | (go_at_call 12; go_must (refine (wakes14_c _).mono ?_; rintro e w1 ⟨rfl, hb⟩; replace M := M.call hb; clear hb)) | ((with_reducible show wpList _ _ _ (Oper.mk _ _ _ _ _ (some _) :: _) _ _); refine w_strip rfl (by with_reducible rfl) ?_) | ((with_reducible show wpList _ _ _ (Oper.mk _ (Op.convert 48 9 _) _ _ _ _ :: _) _ _); go_must (first | (refine w_stringW M 0 _ _ _ _ rfl rfl rfl rfl (by first | assumption | exact shaL_len _ | exact macL_len _ _ | exact words_len _ | exact List.length_replicate | (rw [List.length_set]; first | assumption | exact List.length_replicate) | rfl) (by decide) Try.underlying48 Try.underlying5 Try.underlying9 ?_; (try conv => arg 5; dsimp only [Act.put, List.setIfInBounds_toArray, List.set_cons_succ, List.set_cons_zero])) | (refine w_string M 0 _ _ _ _ rfl rfl rfl (by first | rfl | (simp; done) | assumption) rfl Try.underlying48 Try.underlying5 Try.underlying9 ?_; (try conv => arg 5; dsimp only [Act.put, List.setIfInBounds_toArray, List.set_cons_succ, List.set_cons_zero])))) | ((with_reducible show wpList _ _ _ (Oper.mk _ (Op.load _ _) _ _ _ _ :: _) _ _); go_must (refine w_at _ _ rfl (by first | exact ev_tmp rfl | exact ev_const) ?_; intro hx; first | (refine w_load M 0 _ _ rfl rfl hx rfl (by decide +kernel) rfl ?_; clear hx; (try conv => arg 5; dsimp only [Act.put, List.setIfInBounds_toArray, List.set_cons_succ, List.set_cons_zero])) | (refine w_loadB M 0 _ _ rfl rfl hx rfl (by decide +kernel) (by first | assumption | omega | (simp; omega)) ?_; clear hx; (try conv => arg 5; dsimp only [Act.put, List.setIfInBounds_toArray, List.set_cons_succ, List.set_cons_zero])) | (refine w_loadH M 0 _ _ rfl rfl hx rfl (by decide +kernel) (by first | assumption | exact shaL_len _ | exact macL_len _ _ | exact words_len _ | exact List.length_replicate | (rw [List.length_set]; first | assumption | exact List.length_replicate) | rfl) (by decide +kernel) ?_; clear hx; (try conv => arg 5; dsimp only [Act.put, List.setIfInBounds_toArray, List.set_cons_succ, List.set_cons_zero])) | (refine w_loadR M 0 _ _ rfl rfl hx rfl (by decide +kernel) (by kernel_rfl) ?_; clear hx; (try conv => arg 5; dsimp only [Act.put, List.setIfInBounds_toArray, List.set_cons_succ, List.set_cons_zero])))) | ((with_reducible show wpList _ _ _ (Oper.mk _ (Op.store _ _ _) _ _ _ _ :: _) _ _); go_must (refine w_at2 _ _ _ rfl (by first | exact ev_tmp rfl | exact ev_const) (by first | exact ev_tmp rfl | exact ev_const) ?_; intro hx hy; first | (refine w_storeB M 0 _ _ _ rfl rfl hx rfl hy (by decide +kernel) (by first | assumption | omega | (simp; omega)) ?_; clear hx hy M; intro w1 M; (try simp only [List.set_cons_zero] at M); (try conv => arg 5; dsimp only [Act.put, List.setIfInBounds_toArray, List.set_cons_succ, List.set_cons_zero])) | (refine w_storeH M 0 _ _ _ rfl rfl hx rfl hy (by first | assumption | exact shaL_len _ | exact macL_len _ _ | exact words_len _ | exact List.length_replicate | (rw [List.length_set]; first | assumption | exact List.length_replicate) | rfl) (by decide +kernel) (by first | assumption | exact shaL_len _ | exact macL_len _ _ | exact words_len _ | exact List.length_replicate | (rw [List.length_set]; first | assumption | exact List.length_replicate) | rfl) ?_; clear hx hy M; intro w1 M; (try simp only [List.set_cons_zero] at M); (try conv => arg 5; dsimp only [Act.put, List.setIfInBounds_toArray, List.set_cons_succ, List.set_cons_zero])) | (refine w_store M 0 _ _ _ rfl rfl hx rfl hy rfl rfl (by decide +kernel) (by first | decide | simp | (simp; omega)) ?_; clear hx hy M; intro w1 M; (try simp only [List.set_cons_zero] at M); (try conv => arg 5; dsimp only [Act.put, List.setIfInBounds_toArray, List.set_cons_succ, List.set_cons_zero])) | (refine w_storeR M 0 _ _ _ rfl rfl hx rfl _ hy rfl (by kernel_rfl) (by simp [Value.oneCell']) (by first | rfl | assumption) ?_; clear hx hy M; intro w1 M; (try simp only [List.set_cons_zero] at M); (try conv => arg 5; dsimp only [Act.put, List.setIfInBounds_toArray, List.set_cons_succ, List.set_cons_zero])))) | ((with_reducible show wpList _ _ _ (Oper.mk _ (Op.box _ _) _ _ _ _ :: _) _ _); (refine w_box M _ _ rfl rfl _ rfl _ rfl ?_; clear M; intro g w1 M; (try conv => arg 5; dsimp only [Act.put, List.setIfInBounds_toArray, List.set_cons_succ, List.set_cons_zero]))))
    go_ret
    exact ⟨rfl, M.below⟩
end Go.Proofs.Ytjmhjkgcdglpaaa
