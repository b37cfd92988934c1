/- Texts of this seat, put together: RowsW, TokW, TokK. Each begins with a remark that says what is proved in it, and under which conditions. -/
import Derived.Test.YtjlkiopncclomaaZb
import Derived.Test.YtjlkiopncclomaaZc
import Derived.Test.YtjlkiopncclomaaZe
/- Slices of rows of bytes: each row is a slice of its own. No conditions but those each law names. -/
namespace Go
namespace TL
open Go.RowKit
/-- What rows show: each slice value, a list of bytes. -/
def InnerW (w : World) (vs : List Value) (ls : List (List UInt8)) : Prop := vs.length = ls.length ∧ ∀ (i : Nat) (v : Value) (l : List UInt8), vs[i]? = some v → ls[i]? = some l → SeesB w v l
def fpW (vs : List Value) : List Nat := vs.flatMap fun v => v.ownBlock.toList
def rowsC (vs : List Value) (ls : List (List UInt8)) : Chunk := .obj (fpW vs) (fun w => InnerW w vs ls)
theorem seesB_stay {w w' : World} {v : Value} {l : List UInt8} (S : SeesB w v l) (hs : w.heap.size ≤ w'.heap.size) (hb : ∀ k, v.ownBlock = some k → w'.heap[k]? = w.heap[k]?) : SeesB w' v l := by
  refine ⟨S.1, S.2.imp id ?_⟩
  rintro ⟨g, o, cap, rfl, hlt, hn, hc, hr⟩
  exact ⟨g, o, cap, rfl, Nat.lt_of_lt_of_le hlt hs, hn, hc, rangeAt_of_block hr (hb g rfl)⟩
theorem seesB_lt {w : World} {v : Value} {l : List UInt8} (S : SeesB w v l) : ∀ k, v.ownBlock = some k → k < w.heap.size := by
  intro k hk
  rcases S.2 with ⟨rfl, _⟩ | ⟨g, o, cap, rfl, hlt, _⟩
  · cases hk
  · cases hk; exact hlt
theorem seesB_addr {w : World} {v : Value} {l : List UInt8} (S : SeesB w v l) (h : 0 < l.length) : ∃ g so c, v = .slice (some ⟨g, so, none⟩) l.length c := by
  rcases S.2 with ⟨_, h0⟩ | ⟨g, so, c, hv, _⟩
  · omega
  · exact ⟨g, so, c, hv⟩
theorem mem_fpW {vs : List Value} {i : Nat} {v : Value} {k : Nat} (hi : vs[i]? = some v) (hk : v.ownBlock = some k) : k ∈ fpW vs := by
  unfold fpW
  exact List.mem_flatMap.2 ⟨v, List.mem_of_getElem? hi, by rw [hk]; simp⟩
theorem fpW_snoc (vs : List Value) (v : Value) : fpW (vs ++ [v]) = fpW vs ++ v.ownBlock.toList := by unfold fpW; simp
theorem rows_ok {w : World} {vs : List Value} {ls : List (List UInt8)} (h : InnerW w vs ls) : (rowsC vs ls).ok w := by
  refine ⟨fun k hk => ?_, h, fun w' hs hb => ⟨h.1, fun i v l hv hl => seesB_stay (h.2 i v l hv hl) hs fun k hk => hb k (mem_fpW hv hk)⟩⟩
  obtain ⟨v, hv, hk⟩ := List.mem_flatMap.1 hk
  obtain ⟨i, hi⟩ := List.mem_iff_getElem?.1 hv
  have hlt : i < ls.length := by rw [← h.1]; exact (List.getElem?_eq_some_iff.1 hi).1
  exact seesB_lt (h.2 i v _ hi (List.getElem?_eq_getElem hlt)) k (by simpa using hk)
theorem inner_snoc {w : World} {vs : List Value} {ls : List (List UInt8)} (h : InnerW w vs ls) {v : Value} {l : List UInt8} (S : SeesB w v l) : InnerW w (vs ++ [v]) (ls ++ [l]) := by
  refine ⟨by simp [h.1], fun i u m hu hm => ?_⟩
  by_cases e : i < vs.length
  · rw [List.getElem?_append_left e] at hu
    rw [List.getElem?_append_left (by rw [← h.1]; exact e)] at hm
    exact h.2 i u m hu hm
  · rw [List.getElem?_append_right (by omega)] at hu
    rw [List.getElem?_append_right (by rw [← h.1]; omega), ← h.1] at hm
    obtain ⟨j, ej⟩ : ∃ j, j = i - vs.length := ⟨_, rfl⟩
    rw [← ej] at hu hm
    cases j with
    | zero => simp at hu hm; subst hu; subst hm; exact S
    | succ j => simp at hu
/-- An empty row of rows. -/
theorem Mem.rows0 {F : List Nat} {w0 w : World} {L : List Chunk} (M : Mem F w0 w L) : Mem F w0 w (rowsC [] [] :: L) :=
  M.add _ (Kept.refl _ _) (rows_ok ⟨rfl, fun i v l h => by simp at h⟩) (by simp [rowsC, Chunk.fp, fpW])
/-- A piece goes into the rows. -/
theorem Mem.gather {F : List Nat} {w0 w : World} {c o d e : Chunk} {L : List Chunk} (M : Mem F w0 w (c :: o :: d :: L)) (hok : e.ok w) (hfp : ∀ k ∈ e.fp, k ∈ c.fp ∨ k ∈ d.fp) : Mem F w0 w (o :: e :: L) := by
  have key : ∀ (i : Nat) (x : Chunk), (o :: e :: L)[i]? = some x → (i = 1 ∧ x = e) ∨ (i ≠ 1 ∧ (c :: o :: d :: L)[i + 1]? = some x) := by
    intro i x hx
    match i with
    | 0 => exact .inr ⟨by omega, by simpa using hx⟩
    | 1 => exact .inl ⟨rfl, by simp at hx; exact hx.symm⟩
    | i + 2 => exact .inr ⟨by omega, by simpa using hx⟩
  have me : ∀ k ∈ e.fp, ∃ (j : Nat) (y : Chunk), (j = 0 ∨ j = 2) ∧ (c :: o :: d :: L)[j]? = some y ∧ k ∈ y.fp := fun k hk => by
    rcases hfp k hk with h | h
    · exact ⟨0, c, .inl rfl, rfl, h⟩
    · exact ⟨2, d, .inr rfl, rfl, h⟩
  refine ⟨M.kept, fun i x hx => ?_, fun i x hx k hk => ?_, fun i j x y hij hi hj k hk hk2 => ?_⟩
  · rcases key i x hx with ⟨_, rfl⟩ | ⟨_, h⟩
    · exact hok
    · exact M.ok _ x h
  · rcases key i x hx with ⟨_, rfl⟩ | ⟨_, h⟩
    · obtain ⟨j, y, _, hy, hky⟩ := me k hk
      exact M.own j y hy k hky
    · exact M.own _ x h k hk
  · rcases key i x hi with ⟨e1, rfl⟩ | ⟨n1, h1⟩ <;> rcases key j y hj with ⟨e2, rfl⟩ | ⟨n2, h2⟩
    · omega
    · obtain ⟨m, z, hm, hz, hkz⟩ := me k hk
      exact M.nd m (j + 1) z y (by omega) hz h2 k hkz hk2
    · obtain ⟨m, z, hm, hz, hkz⟩ := me k hk2
      exact M.nd (i + 1) m x z (by omega) h1 hz k hk hkz
    · exact M.nd _ _ x y (by omega) h1 h2 k hk hk2
/-- One more row: the piece that it lies in goes into the rows. -/
theorem Mem.rowIn {F : List Nat} {w0 w : World} {c o : Chunk} {vs : List Value} {ls : List (List UInt8)} {L : List Chunk} (M : Mem F w0 w (c :: o :: rowsC vs ls :: L)) {v : Value} {l : List UInt8} (S : SeesB w v l) (hv : ∀ k, v.ownBlock = some k → k ∈ c.fp) : Mem F w0 w (o :: rowsC (vs ++ [v]) (ls ++ [l]) :: L) := by
  refine M.gather (rows_ok (inner_snoc (M.ok 2 _ rfl).2.1 S)) fun k hk => ?_
  have hk' : k ∈ fpW (vs ++ [v]) := hk
  rw [fpW_snoc, List.mem_append] at hk'
  rcases hk' with h | h
  · exact .inr h
  · exact .inl (hv k (by simpa using h))
theorem own_addr {w : World} {size n m cap : Nat} {p : Option Addr} {xs : List Value} (h : (Chunk.sl size (.slice p m cap) n xs).ok w) (hn : 0 < n) : ∃ g so, p = some ⟨g, so, none⟩ := by
  rcases h.2 with ⟨_, h0⟩ | ⟨g, so, c, hv, _⟩
  · omega
  · injection hv with h1 _ _; exact ⟨g, so, h1⟩
section
variable {P : Program} {ops : Array Oper} {rest : List Oper} {o : Oper} {a : Act} {w w0 : World} {Q : Exit → Act → World → Prop} {F : List Nat} {L : List Chunk}
/-- A cell of a slice that is seen now. -/
theorem w_seenC {g so n m c : Nat} {vs : List Value} (S : Sees w 1 (.slice (some ⟨g, so, none⟩) m c) n vs) (t : TypeId) (x : Operand) (ho : o.op = .load t x) {off : Nat} (hx : a.eval x = .pointer (some ⟨g, off, none⟩)) (hw : Region.wanted o (yielded ops a.tmps) = true)
    (ht : scalarT P t = true) (k : Nat) (hoff : off = so + k) {v : Value} (hv : vs[k]? = some v) (h : wpList P ops Q rest (a.put o.dst v) w) : wpList P ops Q (o :: rest) a w :=
  wpW hw fun _ hK => by
    subst hoff
    have hc : w.cell? ⟨g, so + k, none⟩ = some v := by
      rcases S.2 with ⟨h0, _⟩ | ⟨g', o', c', hv', _, _, _, hr⟩
      · cases h0
      · injection hv' with h1 _ _; injection h1 with h1; injection h1 with h1 h2; subst h1; subst h2; exact hr k v hv
    unfold Oper.wp execOp
    simp only [ho, hx, Instr.loadAt, Instr.sureAddr, Sem.run_bind, Sem.run_pure, Result.andThen_ok, run_loadVar_scalar ht w g _ v hc]
    exact hK _ _ h
/-- A byte of a slice that is seen now. -/
theorem w_seenB {g so m c : Nat} {l : List UInt8} (S : SeesB w (.slice (some ⟨g, so, none⟩) m c) l) (t : TypeId) (x : Operand) (ho : o.op = .load t x) {off : Nat} (hx : a.eval x = .pointer (some ⟨g, off, none⟩)) (hw : Region.wanted o (yielded ops a.tmps) = true)
    (ht : scalarT P t = true) (k : Nat) (hoff : off = so + k) (hlt : k < l.length) (h : wpList P ops Q rest (a.put o.dst (.int .u8 (I8 (l.getD k 0)))) w) : wpList P ops Q (o :: rest) a w :=
  w_seenC S t x ho hx hw ht k hoff (getD_some hlt) h
/-- A slice literal of four bytes. -/
theorem w_build4 (M : Mem F w0 w L) {t e : TypeId} {bytes : Nat} (T : SliceT P t e 1 bytes) (x y z u : Operand) (ho : o.op = .buildSlice t 4 #[(0, x), (1, y), (2, z), (3, u)]) (hw : Region.wanted o (yielded ops a.tmps) = true) {b0 b1 b2 b3 : UInt8} (hx : a.eval x = .int .u8 (I8 b0)) (hy : a.eval y = .int .u8 (I8 b1)) (hz : a.eval z = .int .u8 (I8 b2)) (hu : a.eval u = .int .u8 (I8 b3))
    (h : ∀ (g : Nat) (w' : World), Mem F w0 w' (.sl 1 (.slice (some ⟨g, 0, none⟩) 4 4) 4 (bs [b0, b1, b2, b3]) :: L) → wpList P ops Q rest (a.put o.dst (.slice (some ⟨g, 0, none⟩) 4 4)) w') : wpList P ops Q (o :: rest) a w := by
  have T' := T
  obtain ⟨ht, ⟨i, z', hi, hz', hsize, hby, hzs⟩, hsz⟩ := T'
  refine w_buildSlice M T 4 _ ho hw ⟨by omega, by omega⟩ z' (by simp [hi, hz']) (bs [b0, b1, b2, b3]) ?_ fun g w' M' => h g w' ?_
  · have r4 : Array.range (4 * 1) = #[0, 1, 2, 3] := by decide
    rw [r4]
    simp only [List.map_toArray, List.map_cons, List.map_nil, hx, hy, hz, hu]
    generalize z'.cells[0 % z'.cells.size]! = c0
    generalize z'.cells[1 % z'.cells.size]! = c1
    generalize z'.cells[2 % z'.cells.size]! = c2
    generalize z'.cells[3 % z'.cells.size]! = c3
    rfl
  · have hok := M'.ok 0 _ rfl
    have := M'.upd 0 rfl (c' := .sl 1 (.slice (some ⟨g, 0, none⟩) 4 4) 4 (bs [b0, b1, b2, b3])) ⟨Kept.refl _ _, ⟨rfl, .inr ⟨g, 0, 4, rfl, Nat.zero_le _, hok.1, Nat.le_refl _, by simp only [maxLen]; omega, hok.2.1, hok.2.2⟩⟩, fun k hk => .inl (by simpa [Chunk.fp, Value.ownBlock] using hk)⟩
    simpa using this
/-- An empty slice literal. -/
theorem w_build0 (M : Mem F w0 w L) {t e : TypeId} {size bytes : Nat} (T : SliceT P t e size bytes) (ho : o.op = .buildSlice t 0 #[]) (hw : Region.wanted o (yielded ops a.tmps) = true)
    (h : ∀ (g : Nat) (w' : World), Mem F w0 w' (.sl size (.slice (some ⟨g, 0, none⟩) 0 0) 0 [] :: L) → wpList P ops Q rest (a.put o.dst (.slice (some ⟨g, 0, none⟩) 0 0)) w') : wpList P ops Q (o :: rest) a w :=
  wpW hw fun _ hK => by
    obtain ⟨ht, ⟨i, z', hi, hz', hsize, hby, hzs⟩, hsz⟩ := T
    have hr : (Instr.buildSlice t 0 #[]).run P w = .ok (.slice (some ⟨w.heap.size, 0, none⟩) 0 0) (w.alloc (.cells #[] e)) := by
      have r0 : Array.range 0 = (#[] : Array Nat) := by decide
      simp [Instr.buildSlice, run_underlying ht, sizeOf, typeInfo, hi, Instr.fill, newRow, r0]
    unfold Oper.wp execOp
    simp only [ho, Sem.run_bind]
    have e0 : (Array.map (fun x : Nat × Operand => (x.1, a.eval x.2)) #[]) = #[] := by simp
    simp only [e0, hr, Result.andThen_ok]
    refine hK _ _ (h _ _ ?_)
    have M' := M.alloc #[] e
    have hok := M'.ok 0 _ rfl
    have := M'.upd 0 rfl (c' := .sl size (.slice (some ⟨w.heap.size, 0, none⟩) 0 0) 0 []) ⟨Kept.refl _ _, ⟨by simp, .inr ⟨w.heap.size, 0, 0, rfl, Nat.zero_le _, hok.1, Nat.le_refl _, by simp only [maxLen]; omega, hok.2.1, by rw [Nat.zero_mul]; exact hok.2.2⟩⟩, fun k hk => .inl (by simpa [Chunk.fp, Value.ownBlock] using hk)⟩
    simpa using this
end
end TL
end Go

/- The walks of layer 24's example, awake, of the reference's Same, and of the laws TokenSame and TokenBack. No conditions but those each lemma names. -/
namespace Go
namespace TL
open Go.RowKit
theorem sees_cap {α : Type} {w : World} {size : Nat} {f : α → List Value} {p : Option Addr} {n cap : Nat} {l : List α} (S : SeesL w size f (.slice p n cap) l) : l.length ≤ maxLen := by
  rcases S.sees.2 with ⟨_, h0⟩ | ⟨g, o, c, hv, _, hc, hm, _⟩
  · rw [h0]; exact Nat.zero_le _
  · exact Nat.le_trans hc hm
end TL
end Go
namespace Go
namespace TL
open Go.RowKit
/-- A slice literal of two structs of two cells. -/
theorem w_buildTwo2 {P : Program} {ops : Array Oper} {rest : List Oper} {o : Oper} {a : Act} {w w0 : World} {Q : Exit → Act → World → Prop} {F : List Nat} {L : List Chunk} (M : Mem F w0 w L) {t e : TypeId} {bytes : Nat} (T : SliceT P t e 2 bytes) (x y : Operand) (ho : o.op = .buildSlice t 2 #[(0, x), (1, y)]) (hw : Region.wanted o (yielded ops a.tmps) = true) {p q r s : Value} (hx : a.eval x = .agg #[p, q]) (hy : a.eval y = .agg #[r, s])
    (h : ∀ (g : Nat) (w' : World), Mem F w0 w' (.sl 2 (.slice (some ⟨g, 0, none⟩) 2 2) 2 [p, q, r, s] :: L) → wpList P ops Q rest (a.put o.dst (.slice (some ⟨g, 0, none⟩) 2 2)) w') : wpList P ops Q (o :: rest) a w := by
  have T' := T
  obtain ⟨ht, ⟨i, z', hi, hz', hsize, hby, hzs⟩, hsz⟩ := T'
  refine w_buildSlice M T 2 _ ho hw ⟨by omega, by omega⟩ z' (by simp [hi, hz']) [p, q, r, s] ?_ fun g w' M' => h g w' ?_
  · have r4 : Array.range (2 * 2) = #[0, 1, 2, 3] := by decide
    rw [r4]
    simp only [List.map_toArray, List.map_cons, List.map_nil, hx, hy]
    generalize z'.cells[0 % z'.cells.size]! = c0
    generalize z'.cells[1 % z'.cells.size]! = c1
    generalize z'.cells[2 % z'.cells.size]! = c2
    generalize z'.cells[3 % z'.cells.size]! = c3
    rfl
  · have hok := M'.ok 0 _ rfl
    have := M'.upd 0 rfl (c' := .sl 2 (.slice (some ⟨g, 0, none⟩) 2 2) 2 [p, q, r, s]) ⟨Kept.refl _ _, ⟨rfl, .inr ⟨g, 0, 2, rfl, Nat.zero_le _, hok.1, Nat.le_refl _, by simp only [maxLen]; omega, hok.2.1, hok.2.2⟩⟩, fun k hk => .inl (by simpa [Chunk.fp, Value.ownBlock] using hk)⟩
    simpa using this
end TL
end Go
namespace Go.Proofs.Ytjlkiopncclomaa
open Go.RowKit Go.TL
set_option maxRecDepth 100000 in
set_option maxHeartbeats 2000000 in
theorem example_c (w : World) : Calls Try.prog 34 #[] w fun r w' => ∃ g, r = .returned (.agg #[.int .i64 3, .int .i64 1, .slice (some ⟨g, 0, none⟩) 2 2, .string (mkS [115])]) ∧ Mem [] w w' [.sl 2 (.slice (some ⟨g, 0, none⟩) 2 2) 2 (exM.flatMap mtV)] := by
  have M := Mem.start [] w
  go_enter Try.func34, Try.ntmps34
  go_wp2_with ((first | ((with_reducible refine tAlloc (some 0) 53 ?_); refine w_alloc M _ rfl rfl (.agg #[.int .i64 0, .int .i64 0, .slice none 0 0, .string (mkS [])]) ([.int .i64 0, .int .i64 0, .slice none 0 0, .string (mkS [])]) (by kernel_rfl) rfl ?_; clear M; intro gr w1 M) | ((with_reducible show wpList _ _ _ (Oper.mk _ (Op.buildSlice _ 2 _) _ _ _ _ :: _) _ _); go_must (refine w_buildTwo2 M mtT _ _ rfl rfl (by first | exact ev_tmp rfl | exact ev_const) (by first | exact ev_tmp rfl | exact ev_const) ?_; clear M; intro g w1 M)) | ((with_reducible refine tGuard ?_); first | refine w_strip rfl (by with_reducible rfl) ?_ | ((fail_if_success (refine w_lit false rfl (by with_reducible rfl) ?_)); (fail_if_success (refine w_lit true rfl (by with_reducible rfl) ?_)); refine w_case rfl ?_ ?_ <;> (intro hgd; rw [hgd]; try (exfalso; simp at hgd; omega)))) | fail | ((with_reducible refine tLoad ?_); go_must (refine w_at _ _ rfl (by exact ev_tmp rfl) ?_; intro hx; (first | refine w_load M _ _ _ rfl (by first | exact at0 | exact at1) hx rfl (by decide +kernel) (by exact rfl) ?_ | refine w_loadR M _ _ _ rfl (by first | exact at0 | exact at1) hx rfl (by decide +kernel) (by kernel_rfl) ?_); clear hx)) | ((with_reducible refine tStore ?_); go_must (refine w_at2 _ _ _ rfl (by exact ev_tmp rfl) (by first | exact ev_tmp rfl | exact ev_const) ?_; intro hx hy; (first | refine w_store M _ _ _ _ rfl (by first | exact at0 | exact at1) hx rfl hy rfl rfl (by decide +kernel) (by first | decide | simp | (simp; omega)) ?_ | refine w_storeR M _ _ _ _ rfl (by first | exact at0 | exact at1) hx rfl _ hy rfl (by kernel_rfl) (by simp [Value.oneCell']) (by first | rfl | assumption) ?_); clear hx hy M; intro w1 M; (try simp only [setC] at M))) | ((with_reducible refine tBox _ ?_); (refine w_box M _ _ rfl rfl _ rfl _ rfl ?_; clear M; intro g w1 M))) <;> (try conv => arg 5; simp only [Act.put, List.setIfInBounds_toArray, setC]))
  exact bodyPost_ret (results_row rfl _ _ gr 0 [.int .i64 3, .int .i64 1, .slice (some ⟨g, 0, none⟩) 2 2, .string (mkS [115])] _ rfl (M.ok 1 _ rfl).2.1 Try.underlying53 rfl (by kernel_rfl)) rfl ⟨g, rfl, M.pick _ id (fun _ _ _ _ h => h) (fun i x h => by cases i with | zero => (simp only [List.getElem?_cons_zero, Option.some.injEq] at h; subst h; rfl) | succ i => simp at h)⟩
set_option maxRecDepth 100000 in
set_option maxHeartbeats 4000000 in
theorem awake24_c (w : World) : Calls Try.prog 25 #[] w fun r w' => r = .returned (.bool true) ∧ Below w.heap.size w w' := by
  have M := Mem.start [] w
  have hrt : rightT 3 1 exM [115] = true := by decide
  have WC : ∀ v w, SeesL w 2 mtV v exM → Calls Try.prog 27 #[.string (mkS [120]), .int .u32 1, .int .u64 0, .agg #[.int .i64 3, .int .i64 1, v, .string (mkS [115])]] w fun r w' => r = .returned (.tuple #[.string (mkS (envB (wrapE [120] 1 0 ⟨3, 1, exM, [115]⟩))), .int .i64 0]) ∧ Below w.heap.size w w' := fun v w S => Wrap_ok [120] 1 0 3 1 exM [115] v w S (by decide) (by decide) (by decide) hrt
  have OC := fun w => Open_wrap [120] 1 0 3 1 exM [115] w (by decide) (by decide) (by decide) hrt
  obtain ⟨B, eB⟩ : ∃ B, B = envB (wrapE [120] 1 0 ⟨3, 1, exM, [115]⟩) := ⟨_, rfl⟩
  rw [← eB] at WC OC
  replace WC := Lib.hid WC
  have OC' : ∀ w, Calls Try.prog 33 #[.string (mkS [120]), .string (mkS B)] w fun r w' => ∃ p c, r = .returned (.tuple #[.agg #[.int .i64 3, .int .i64 1, .slice p 2 c, .string (mkS [115])], .int .i64 0]) ∧ Mem [] w w' [.sl 2 (.slice p 2 c) 2 (exM.flatMap mtV)] := OC
  replace OC' := Lib.hid OC'
  have HX0 : Hid (exM[0]? = some ([97, 112, 112], true)) := Lib.hid rfl
  have HX1 : Hid (exM[1]? = some ([111, 112, 115], false)) := Lib.hid rfl
  clear eB OC hrt
  go_enter Try.func25, Try.ntmps25
  go_wp2_with ((first | ((with_reducible refine tGuard ?_); (with_reducible refine w_stripE ?_ ?_); (focus (refine ⟨_, rfl, ?_⟩; first | (with_reducible rfl) | exact decide_eq_false (by omega) | exact decide_eq_true (by omega)))) | ((with_reducible refine tGuard ?_); first | ((with_reducible refine w_skip1 ?_ ?_); (focus (refine ⟨_, rfl, ?_⟩; first | (with_reducible rfl) | exact decide_eq_false (by omega) | exact decide_eq_true (by omega)))) | ((with_reducible refine w_skip0 ?_ ?_); (focus (refine ⟨_, rfl, ?_⟩; first | (with_reducible rfl) | exact decide_eq_false (by omega) | exact decide_eq_true (by omega))))) | ((with_reducible refine tAlloc (some 3) 53 ?_); refine w_alloc M _ rfl rfl (.agg #[.int .i64 0, .int .i64 0, .slice none 0 0, .string (mkS [])]) ([.int .i64 0, .int .i64 0, .slice none 0 0, .string (mkS [])]) (by kernel_rfl) rfl ?_; clear M; intro gt w1 M) | (go_at_call 34; go_must (refine (example_c _).mono ?_; rintro r w1 ⟨ge, rfl, MP⟩; replace M := M.join MP; clear MP; simp only [List.cons_append, List.nil_append] at M)) | (go_at_call 27; go_must (refine (WC.out _ _ (SeesL.own M 0 rfl rfl mtV_len)).mono ?_; rintro e w1 ⟨rfl, hb⟩; replace M := M.call hb; clear hb)) | (go_at_call 33; go_must (refine (OC'.out _).mono ?_; rintro r w1 ⟨p, c, rfl, MP⟩; replace M := M.join MP; clear MP; simp only [List.cons_append, List.nil_append] at M; have HA := M.ok 0 _ rfl; obtain ⟨gm, om, rfl⟩ := own_addr HA (by decide); clear HA)) | ((with_reducible refine tLoad ?_); refine w_at _ _ rfl (by exact ev_tmp rfl) ?_; intro hx; first | (refine w_ownA M 1 mtV_len rfl HX0.out _ _ rfl hx rfl (by decide +kernel) (by first | (with_reducible rfl) | omega) (by kernel_rfl) ?_; clear hx; (try conv => arg 5; simp only [Act.put, List.setIfInBounds_toArray, setC, mtV_eq])) | (refine w_own M 1 mtV_len rfl HX0.out _ _ rfl hx rfl (by decide +kernel) 0 (by first | (with_reducible rfl) | omega) rfl ?_; clear hx) | (refine w_own M 1 mtV_len rfl HX0.out _ _ rfl hx rfl (by decide +kernel) 1 (by first | (with_reducible rfl) | omega) rfl ?_; clear hx) | (refine w_own M 1 mtV_len rfl HX0.out _ _ rfl hx rfl (by decide +kernel) 2 (by first | (with_reducible rfl) | omega) rfl ?_; clear hx)) | ((with_reducible refine tLoad ?_); refine w_at _ _ rfl (by exact ev_tmp rfl) ?_; intro hx; first | (refine w_ownA M 1 mtV_len rfl HX1.out _ _ rfl hx rfl (by decide +kernel) (by first | (with_reducible rfl) | omega) (by kernel_rfl) ?_; clear hx; (try conv => arg 5; simp only [Act.put, List.setIfInBounds_toArray, setC, mtV_eq])) | (refine w_own M 1 mtV_len rfl HX1.out _ _ rfl hx rfl (by decide +kernel) 0 (by first | (with_reducible rfl) | omega) rfl ?_; clear hx) | (refine w_own M 1 mtV_len rfl HX1.out _ _ rfl hx rfl (by decide +kernel) 1 (by first | (with_reducible rfl) | omega) rfl ?_; clear hx) | (refine w_own M 1 mtV_len rfl HX1.out _ _ rfl hx rfl (by decide +kernel) 2 (by first | (with_reducible rfl) | omega) rfl ?_; clear hx)) | ((with_reducible refine tGuard ?_); refine w_strip rfl (by with_reducible rfl) ?_) | fail | ((with_reducible refine tLoad ?_); go_must (refine w_at _ _ rfl (by exact ev_tmp rfl) ?_; intro hx; (first | refine w_load M _ _ _ rfl (by first | exact at0 | exact at1) hx rfl (by decide +kernel) (by exact rfl) ?_ | refine w_loadR M _ _ _ rfl (by first | exact at0 | exact at1) hx rfl (by decide +kernel) (by kernel_rfl) ?_); clear hx)) | ((with_reducible refine tStore ?_); go_must (refine w_at2 _ _ _ rfl (by exact ev_tmp rfl) (by first | exact ev_tmp rfl | exact ev_const) ?_; intro hx hy; (first | refine w_store M _ _ _ _ rfl (by first | exact at0 | exact at1) hx rfl hy rfl rfl (by decide +kernel) (by first | decide | simp | (simp; omega)) ?_ | refine w_storeR M _ _ _ _ rfl (by first | exact at0 | exact at1) hx rfl _ hy rfl (by kernel_rfl) (by simp [Value.oneCell']) (by first | rfl | assumption) ?_); clear hx hy M; intro w1 M; (try simp only [setC] at M))) | ((with_reducible refine tBox _ ?_); (refine w_box M _ _ rfl rfl _ rfl _ rfl ?_; clear M; intro g w1 M))) <;> (try conv => arg 5; simp only [Act.put, List.setIfInBounds_toArray, setC]))
  go_ret
  exact ⟨by first | rfl | simp, M.below⟩
end Go.Proofs.Ytjlkiopncclomaa

/- The walk of layer 24's law TokenKnown. No conditions. -/
namespace Go
namespace TL
open Go.RowKit
theorem Mem.drop2 {F : List Nat} {w0 w : World} {c d : Chunk} {L : List Chunk} (M : Mem F w0 w (c :: d :: L)) : Mem F w0 w (c :: L) :=
  M.pick _ (fun i => if i = 0 then 0 else i + 1) (fun i j _ _ h => by (try dsimp only at h); split at h <;> split at h <;> omega) (fun i c' h => by cases i with | zero => simpa using h | succ i => simpa using h)
theorem Mem.swap2 {F : List Nat} {w0 w : World} {c d : Chunk} {L : List Chunk} (M : Mem F w0 w (c :: d :: L)) : Mem F w0 w (d :: c :: L) :=
  M.pick _ (fun i => if i = 0 then 1 else if i = 1 then 0 else i) (fun i j _ _ h => by (try dsimp only at h); split at h <;> split at h <;> (try split at h) <;> (try split at h) <;> omega) (fun i c' h => by
    match i with
    | 0 => simpa using h
    | 1 => simpa using h
    | i + 2 => simpa using h)
theorem Mem.drop67 {F : List Nat} {w0 w : World} {a0 a1 a2 a3 a4 a5 d e : Chunk} {L : List Chunk} (M : Mem F w0 w (a0 :: a1 :: a2 :: a3 :: a4 :: a5 :: d :: e :: L)) : Mem F w0 w (a0 :: a1 :: a2 :: a3 :: a4 :: a5 :: L) :=
  M.pick _ (fun i => if i < 6 then i else i + 2) (fun i j _ _ h => by (try dsimp only at h); split at h <;> split at h <;> omega) (fun i c' h => by
    match i with
    | 0 => simpa using h
    | 1 => simpa using h
    | 2 => simpa using h
    | 3 => simpa using h
    | 4 => simpa using h
    | 5 => simpa using h
    | i + 6 => rw [if_neg (by omega)]; simpa using h)
theorem fill4 {place : Nat → Option (Nat × Nat)} {C : Array Value} {i off : Nat} {a b c d : Value} {rest : List (Nat × Value)} (hp : place i = some (off, 4)) (h : off + 4 ≤ C.size) : Instr.fill place C ((i, .agg #[a, b, c, d]) :: rest) = Instr.fill place ((((C.setIfInBounds (off + 0) a).setIfInBounds (off + 1) b).setIfInBounds (off + 2) c).setIfInBounds (off + 3) d) rest := by
  rw [Instr.fill]
  simp only [hp]
  rw [if_neg (by simp [Value.cells]; omega)]
  rfl
set_option maxRecDepth 100000 in
set_option maxHeartbeats 4000000 in
/-- A slice literal of five structs of four cells. -/
theorem w_buildFive4 {P : Program} {ops : Array Oper} {rest : List Oper} {o : Oper} {a : Act} {w w0 : World} {Q : Exit → Act → World → Prop} {F : List Nat} {L : List Chunk} (M : Mem F w0 w L) {t e : TypeId} {bytes : Nat} (T : SliceT P t e 4 bytes) {z0 z1 z2 z3 : Value} (hz : (P.info? e).bind (·.zero) = some (.agg #[z0, z1, z2, z3])) (x0 x1 x2 x3 x4 : Operand) (ho : o.op = .buildSlice t 5 #[(0, x0), (1, x1), (2, x2), (3, x3), (4, x4)]) (hw : Region.wanted o (yielded ops a.tmps) = true)
    {a0 a1 a2 a3 b0 b1 b2 b3 c0 c1 c2 c3 d0 d1 d2 d3 e0 e1 e2 e3 : Value} (h0 : a.eval x0 = .agg #[a0, a1, a2, a3]) (h1 : a.eval x1 = .agg #[b0, b1, b2, b3]) (h2 : a.eval x2 = .agg #[c0, c1, c2, c3]) (h3 : a.eval x3 = .agg #[d0, d1, d2, d3]) (h4 : a.eval x4 = .agg #[e0, e1, e2, e3])
    (h : ∀ (g : Nat) (w' : World), Mem F w0 w' (.row g [a0, a1, a2, a3, b0, b1, b2, b3, c0, c1, c2, c3, d0, d1, d2, d3, e0, e1, e2, e3] :: L) → wpList P ops Q rest (a.put o.dst (.slice (some ⟨g, 0, none⟩) 5 5)) w') : wpList P ops Q (o :: rest) a w := by
  refine w_buildSlice M T 5 _ ho hw ⟨by omega, by omega⟩ _ hz _ ?_ h
  have r : Array.range (5 * 4) = #[0, 1, 2, 3, 4, 5, 6, 7, 8, 9, 10, 11, 12, 13, 14, 15, 16, 17, 18, 19] := by decide
  rw [r]
  simp only [List.map_toArray, List.map_cons, List.map_nil, h0, h1, h2, h3, h4]
  generalize (Value.agg #[z0, z1, z2, z3]).cells = Z
  generalize Z[0 % Z.size]! = y0
  generalize Z[1 % Z.size]! = y1
  generalize Z[2 % Z.size]! = y2
  generalize Z[3 % Z.size]! = y3
  generalize Z[4 % Z.size]! = y4
  generalize Z[5 % Z.size]! = y5
  generalize Z[6 % Z.size]! = y6
  generalize Z[7 % Z.size]! = y7
  generalize Z[8 % Z.size]! = y8
  generalize Z[9 % Z.size]! = y9
  generalize Z[10 % Z.size]! = y10
  generalize Z[11 % Z.size]! = y11
  generalize Z[12 % Z.size]! = y12
  generalize Z[13 % Z.size]! = y13
  generalize Z[14 % Z.size]! = y14
  generalize Z[15 % Z.size]! = y15
  generalize Z[16 % Z.size]! = y16
  generalize Z[17 % Z.size]! = y17
  generalize Z[18 % Z.size]! = y18
  generalize Z[19 % Z.size]! = y19
  rw [fill4 (off := 0) rfl (by simp), fill4 (off := 4) rfl (by simp), fill4 (off := 8) rfl (by simp), fill4 (off := 12) rfl (by simp), fill4 (off := 16) rfl (by simp), Instr.fill]
  simp only [List.setIfInBounds_toArray, setC, Nat.reduceAdd]
end TL
end Go
namespace Go.Proofs.Ytjlkiopncclomaa
open Go.RowKit Go.TL
theorem Repeat_i (b : UInt8) (c : Nat) (r : List UInt8) (hr : r = List.replicate c b) (i : Int) (hi : i = c) (w : World) (h2 : 2 ≤ c) (h : c ≤ 1000000) :
    Calls Try.prog 35 #[.string (mkS [b]), .int .i64 i] w fun e w' => e = .returned (.string (mkS r)) ∧ Below w.heap.size w w' := by
  subst hi hr
  have h1 := Go.Proofs.Try.strings_Repeat_main (mkS [b]) c w h2 (by omega) (by rw [mkS_size]; simp; omega) (by rw [mkS_size]; simp)
  have e : Lib.repeatL [b] c = List.replicate c b := by simpa using Lib.repeatL_replicate b 1 c
  have e2 : (mkS [b]).data.toList = [b] := rfl
  rw [e2, e] at h1
  exact h1
set_option maxRecDepth 1000000 in
theorem tkT : SliceT Try.prog 66 53 4 56 := ⟨Try.underlying66, ⟨_, _, rfl, rfl, rfl, rfl, rfl⟩, by omega⟩
set_option maxRecDepth 100000 in
set_option maxHeartbeats 4000000 in
theorem Open_short (secret E : List UInt8) (w : World) (hE : E.length ≤ 1000000) (h : readS E = (zeroE, 7)) :
    Calls Try.prog 33 #[.string (mkS secret), .string (mkS E)] w fun r w' => r = .returned (.tuple #[.agg #[.int .i64 0, .int .i64 0, .slice none 0 0, .string (mkS [])], .int .i64 7]) ∧ Below w.heap.size w w' := by
  have M := Mem.start [] w
  have RC := fun w => sealRead_c E w hE
  rw [h] at RC
  have RC' : ∀ w, Calls Try.prog 22 #[.string (mkS E)] w fun r w' => r = .returned (.tuple #[.agg (envC 0 0 0 [] zeroT).toArray, .int .i64 7]) ∧ Below w.heap.size w w' := RC
  replace RC' := Lib.hid RC'
  clear RC h
  go_enter Try.func33, Try.ntmps33
  go_wp2_with ((first | ((with_reducible refine tAlloc (some 4) 53 ?_); refine w_alloc M _ rfl rfl (.agg #[.int .i64 0, .int .i64 0, .slice none 0 0, .string (mkS [])]) ([.int .i64 0, .int .i64 0, .slice none 0 0, .string (mkS [])]) (by kernel_rfl) rfl ?_; clear M; intro gr w1 M) | ((with_reducible refine tAlloc (some 6) 29 ?_); refine w_alloc M _ rfl rfl (.agg (envC 0 0 0 [] zeroT).toArray) (envC 0 0 0 [] zeroT) (by kernel_rfl) rfl ?_; clear M; intro gx w1 M) | (go_at_call 22; go_must (refine (RC'.out _).mono ?_; rintro e w1 ⟨rfl, hb⟩; replace M := M.call hb; clear hb)) | ((with_reducible refine tLoad ?_); refine w_at _ _ rfl (by exact ev_tmp rfl) ?_; intro hx; (first | refine w_loadE M _ _ _ rfl (by first | exact at0) hx rfl (by decide +kernel) (by decide +kernel) (by first | assumption | exact zeroT_len | exact macL_len _ _) ?_ | refine w_loadTag M _ _ _ rfl (by first | exact at0) hx rfl (by decide +kernel) (by decide +kernel) (by first | assumption | exact zeroT_len | exact macL_len _ _) ?_); clear hx) | ((with_reducible refine tStore ?_); refine w_at2 _ _ _ rfl (by first | exact ev_tmp rfl | exact ev_const) (by first | exact ev_tmp rfl | exact ev_const) ?_; intro hx hy; (first | refine w_storeE M _ _ _ _ rfl (by first | exact at0) hx rfl hy rfl (by decide +kernel) (by first | assumption | exact zeroT_len | exact macL_len _ _) (by first | assumption | exact zeroT_len | exact macL_len _ _) ?_ | refine w_storeE (k := 0) (b := 0) (n := 0) (d := []) (tg := zeroT) M _ _ _ _ rfl (by first | exact at0) hx rfl hy rfl (by decide +kernel) zeroT_len (by first | assumption | exact zeroT_len | exact macL_len _ _) ?_ | refine w_storeE (tg := zeroT) M _ _ _ _ rfl (by first | exact at0) hx rfl hy rfl (by decide +kernel) zeroT_len (by first | assumption | exact zeroT_len | exact macL_len _ _) ?_ | refine w_storeTag M _ _ _ _ rfl (by first | exact at0) hx rfl hy (by decide +kernel) (by first | assumption | exact zeroT_len | exact macL_len _ _) (by first | assumption | exact zeroT_len | exact macL_len _ _) ?_ | refine w_storeData M _ _ _ _ rfl (by first | exact at0) hx rfl hy (by decide +kernel) ?_ | refine w_storeNum M _ _ _ _ rfl (by first | exact at0) hx rfl hy (by decide +kernel) ?_); clear hx hy M; intro w1 M; (try simp only [setC] at M)) | ((with_reducible refine tConv _ 45 9 ?_); (first | refine w_stringTag M _ _ _ _ _ rfl rfl (by first | exact at0) rfl (by first | assumption | exact zeroT_len | exact macL_len _ _) Try.underlying45 Try.underlying5 Try.underlying9 ?_)) | ((with_reducible refine tGuard ?_); first | refine w_strip rfl (by with_reducible rfl) ?_ | ((fail_if_success (refine w_lit false rfl (by with_reducible rfl) ?_)); (fail_if_success (refine w_lit true rfl (by with_reducible rfl) ?_)); refine w_case rfl ?_ ?_ <;> (intro hgd; rw [hgd]; try (exfalso; simp at hgd; omega)))) | fail | ((with_reducible refine tLoad ?_); go_must (refine w_at _ _ rfl (by exact ev_tmp rfl) ?_; intro hx; (first | refine w_load M _ _ _ rfl (by first | exact at0 | exact at1 | exact at2) hx rfl (by decide +kernel) (by exact rfl) ?_ | refine w_loadR M _ _ _ rfl (by first | exact at0 | exact at1 | exact at2) hx rfl (by decide +kernel) (by kernel_rfl) ?_); clear hx)) | ((with_reducible refine tStore ?_); go_must (refine w_at2 _ _ _ rfl (by exact ev_tmp rfl) (by first | exact ev_tmp rfl | exact ev_const) ?_; intro hx hy; (first | refine w_store M _ _ _ _ rfl (by first | exact at0 | exact at1 | exact at2) hx rfl hy rfl rfl (by decide +kernel) (by first | decide | simp | (simp; omega)) ?_ | refine w_storeR M _ _ _ _ rfl (by first | exact at0 | exact at1 | exact at2) hx rfl _ hy rfl (by kernel_rfl) (by simp [Value.oneCell']) (by first | rfl | assumption) ?_); clear hx hy M; intro w1 M; (try simp only [setC] at M))) | ((with_reducible refine tBox _ ?_); (refine w_box M _ _ rfl rfl _ rfl _ rfl ?_; clear M; intro g w1 M))) <;> (try conv => arg 5; simp only [Act.put, List.setIfInBounds_toArray, setC]))
  refine bodyPost_ret (results_two rfl _ _ gr 0 [.int .i64 0, .int .i64 0, .slice none 0 0, .string (mkS [])] _ (.int .i64 7) rfl rfl (M.ok 1 _ rfl).2.1 Try.underlying53 rfl (by kernel_rfl)) rfl ⟨rfl, M.below⟩
set_option maxRecDepth 100000 in
set_option maxHeartbeats 4000000 in
theorem Open_far (secret : List UInt8) (b : UInt32) (n : UInt64) (d t : List UInt8) (w : World) (hsec : secret.length ≤ 1000000) (hE : rightEnv ⟨0, b, n, d, t⟩) (hne : t ≠ tagL (macL secret aboutT) 0 b n aboutT d) :
    Calls Try.prog 33 #[.string (mkS secret), .string (mkS (envB ⟨0, b, n, d, t⟩))] w fun r w' => r = .returned (.tuple #[.agg #[.int .i64 0, .int .i64 0, .slice none 0 0, .string (mkS [])], .int .i64 13]) ∧ Below w.heap.size w w' := by
  have M := Mem.start [] w
  have KC := fun w => tokKey_c secret w hsec
  have hK := macL_len secret aboutT
  have ht : t.length = 32 := hE.2.2
  have hd : d.length ≤ 8192 := hE.2.1
  have hRd := read_env ⟨0, b, n, d, t⟩ hE []
  rw [List.append_nil, if_pos rfl] at hRd
  have hEl := envB_len hE
  obtain ⟨K, eK⟩ : ∃ K, K = macL secret aboutT := ⟨_, rfl⟩
  rw [← eK] at hK KC hne
  have hrt : rightE ((0 : Nat) : Int) d = true := rightE_of (by omega) (by omega)
  have OC := fun w => Open_mac K 0 b n d t aboutT w hK ht hrt (by decide) hne
  obtain ⟨E, eE⟩ : ∃ E, E = envB ⟨0, b, n, d, t⟩ := ⟨_, rfl⟩
  rw [← eE] at hRd hEl ⊢
  have RC := fun w => sealRead_c E w hEl
  rw [hRd] at RC
  have RC' : ∀ w, Calls Try.prog 22 #[.string (mkS E)] w fun r w' => r = .returned (.tuple #[.agg (envC 0 b n d t).toArray, .int .i64 0]) ∧ Below w.heap.size w w' := RC
  have OC' : ∀ w, Calls Try.prog 16 #[.agg (bs K).toArray, .agg (envC 0 b n d t).toArray, .string (mkS [116, 111, 107, 101, 110])] w fun r w' => r = .returned (.tuple #[.string (mkS []), .int .i64 13]) ∧ Below w.heap.size w w' := OC
  replace KC := Lib.hid KC
  replace RC' := Lib.hid RC'
  replace OC' := Lib.hid OC'
  clear RC OC eK eE hE hRd hEl hne hrt
  go_enter Try.func33, Try.ntmps33
  go_wp2_with ((first | ((with_reducible refine tAlloc (some 4) 53 ?_); refine w_alloc M _ rfl rfl (.agg #[.int .i64 0, .int .i64 0, .slice none 0 0, .string (mkS [])]) ([.int .i64 0, .int .i64 0, .slice none 0 0, .string (mkS [])]) (by kernel_rfl) rfl ?_; clear M; intro gr w1 M) | ((with_reducible refine tAlloc (some 6) 29 ?_); refine w_alloc M _ rfl rfl (.agg (envC 0 0 0 [] zeroT).toArray) (envC 0 0 0 [] zeroT) (by kernel_rfl) rfl ?_; clear M; intro gx w1 M) | (go_at_call 22; go_must (refine (RC'.out _).mono ?_; rintro e w1 ⟨rfl, hb⟩; replace M := M.call hb; clear hb)) | (go_at_call 63; go_must (refine (KC.out _).mono ?_; rintro e w1 ⟨rfl, hb⟩; replace M := M.call hb; clear hb)) | (go_at_call 16; go_must (refine (OC'.out _).mono ?_; rintro e w1 ⟨rfl, hb⟩; replace M := M.call hb; clear hb)) | ((with_reducible show Code.wp _ (Code.region 6 _ _) _ _ _); go_must (have MR := M; refine region_lowc [(0, false), (2, false), (1, true), (3, true), (4, false), (5, false), (6, false), (7, false), (8, false)] [] [(2, _)] (IxOk MR [0]) 9 (by kernel_rfl) (by kernel_rfl) rfl (by kernel_rfl) (lows_cons (stab_env MR 0 rfl rfl (by decide) (by decide +kernel) (by decide +kernel) (by first | assumption | exact zeroT_len)) lows_nil) (ixOk_self MR _) ?_; replace M := M.drew; simp only [planC, opAt, List.getElem?_toArray, List.getElem?_cons_zero, List.getElem?_cons_succ, Option.getD_some])) | ((with_reducible refine tLoad ?_); refine w_at _ _ rfl (by exact ev_tmp rfl) ?_; intro hx; (first | refine w_loadE M _ _ _ rfl (by first | exact at0) hx rfl (by decide +kernel) (by decide +kernel) (by first | assumption | exact zeroT_len | exact macL_len _ _) ?_ | refine w_loadTag M _ _ _ rfl (by first | exact at0) hx rfl (by decide +kernel) (by decide +kernel) (by first | assumption | exact zeroT_len | exact macL_len _ _) ?_); clear hx) | ((with_reducible refine tStore ?_); refine w_at2 _ _ _ rfl (by first | exact ev_tmp rfl | exact ev_const) (by first | exact ev_tmp rfl | exact ev_const) ?_; intro hx hy; (first | refine w_storeE M _ _ _ _ rfl (by first | exact at0) hx rfl hy rfl (by decide +kernel) (by first | assumption | exact zeroT_len | exact macL_len _ _) (by first | assumption | exact zeroT_len | exact macL_len _ _) ?_ | refine w_storeE (k := 0) (b := 0) (n := 0) (d := []) (tg := zeroT) M _ _ _ _ rfl (by first | exact at0) hx rfl hy rfl (by decide +kernel) zeroT_len (by first | assumption | exact zeroT_len | exact macL_len _ _) ?_ | refine w_storeE (tg := zeroT) M _ _ _ _ rfl (by first | exact at0) hx rfl hy rfl (by decide +kernel) zeroT_len (by first | assumption | exact zeroT_len | exact macL_len _ _) ?_ | refine w_storeTag M _ _ _ _ rfl (by first | exact at0) hx rfl hy (by decide +kernel) (by first | assumption | exact zeroT_len | exact macL_len _ _) (by first | assumption | exact zeroT_len | exact macL_len _ _) ?_ | refine w_storeData M _ _ _ _ rfl (by first | exact at0) hx rfl hy (by decide +kernel) ?_ | refine w_storeNum M _ _ _ _ rfl (by first | exact at0) hx rfl hy (by decide +kernel) ?_); clear hx hy M; intro w1 M; (try simp only [setC] at M)) | ((with_reducible refine tConv _ 45 9 ?_); (first | refine w_stringTag M _ _ _ _ _ rfl rfl (by first | exact at0) rfl (by first | assumption | exact zeroT_len | exact macL_len _ _) Try.underlying45 Try.underlying5 Try.underlying9 ?_)) | ((with_reducible show Seg _ _ _ _); go_must (first | refine Seg.intro ⟨fun h => absurd rfl h, ?_⟩ | refine Seg.intro ⟨fun _ => (by repeat' (first | exact ixOk_nil M.kept | refine ixOk_cons rfl (by first | exact M.ok 0 _ rfl | exact M.ok 1 _ rfl | exact M.ok 2 _ rfl | exact M.ok 3 _ rfl | exact M.ok 4 _ rfl) ?_)), ?_⟩ | refine Seg.intro ⟨(by repeat' (first | (with_reducible exact needs_nil) | refine needs_at rfl (by first | (show Shape.ok Shape.nums _ = true; exact nums_bs _) | rfl) ?_)), (by repeat' (first | (with_reducible exact ats_nil) | refine ats_cons (by first | exact ev_tmp rfl | rfl) ?_)), ?_⟩)) | ((with_reducible show OnlyN _ _ _ _ _); refine OnlyN.intro (by kernel_rfl) ?_) | ((with_reducible refine tGuard ?_); first | refine w_strip rfl (by with_reducible rfl) ?_ | ((fail_if_success (refine w_lit false rfl (by with_reducible rfl) ?_)); (fail_if_success (refine w_lit true rfl (by with_reducible rfl) ?_)); refine w_case rfl ?_ ?_ <;> (intro hgd; rw [hgd]; try (exfalso; simp at hgd; omega)))) | fail | ((with_reducible refine tLoad ?_); go_must (refine w_at _ _ rfl (by exact ev_tmp rfl) ?_; intro hx; (first | refine w_load M _ _ _ rfl (by first | exact at0 | exact at1 | exact at2) hx rfl (by decide +kernel) (by exact rfl) ?_ | refine w_loadR M _ _ _ rfl (by first | exact at0 | exact at1 | exact at2) hx rfl (by decide +kernel) (by kernel_rfl) ?_); clear hx)) | ((with_reducible refine tStore ?_); go_must (refine w_at2 _ _ _ rfl (by exact ev_tmp rfl) (by first | exact ev_tmp rfl | exact ev_const) ?_; intro hx hy; (first | refine w_store M _ _ _ _ rfl (by first | exact at0 | exact at1 | exact at2) hx rfl hy rfl rfl (by decide +kernel) (by first | decide | simp | (simp; omega)) ?_ | refine w_storeR M _ _ _ _ rfl (by first | exact at0 | exact at1 | exact at2) hx rfl _ hy rfl (by kernel_rfl) (by simp [Value.oneCell']) (by first | rfl | assumption) ?_); clear hx hy M; intro w1 M; (try simp only [setC] at M))) | ((with_reducible refine tBox _ ?_); (refine w_box M _ _ rfl rfl _ rfl _ rfl ?_; clear M; intro g w1 M))) <;> (try conv => arg 5; simp only [Act.put, List.setIfInBounds_toArray, setC]))
  refine bodyPost_ret (results_two rfl _ _ gr 0 [.int .i64 0, .int .i64 0, .slice none 0 0, .string (mkS [])] _ (.int .i64 13) rfl rfl (M.ok 1 _ rfl).2.1 Try.underlying53 rfl (by kernel_rfl)) rfl ⟨rfl, M.below⟩
set_option maxRecDepth 100000 in
set_option maxHeartbeats 16000000 in
theorem TokenKnown_any (w : World) : Calls Try.prog 13 #[] w fun r w' => r = .returned (.bool true) ∧ Below w.heap.size w w' := by
  have M := Mem.start [] w
  have hrt : rightT 3 1 exM [115] = true := by decide
  have WC : ∀ v w, SeesL w 2 mtV v exM → Calls Try.prog 27 #[.string (mkS [120]), .int .u32 1, .int .u64 0, .agg #[.int .i64 3, .int .i64 1, v, .string (mkS [115])]] w fun r w' => r = .returned (.tuple #[.string (mkS (envB (wrapE [120] 1 0 ⟨3, 1, exM, [115]⟩))), .int .i64 0]) ∧ Below w.heap.size w w' := fun v w S => Wrap_ok [120] 1 0 3 1 exM [115] v w S (by decide) (by decide) (by decide) hrt
  have OC := fun w => Open_wrap [120] 1 0 3 1 exM [115] w (by decide) (by decide) (by decide) hrt
  have hE : rightEnv (wrapE [120] 1 0 ⟨3, 1, exM, [115]⟩) := wrap_right [120] 1 0 (by decide) (by decide) hrt
  have eW : wrapE [120] 1 0 ⟨3, 1, exM, [115]⟩ = ⟨0, 1, 0, exD, tagL (macL [120] aboutT) 0 1 0 aboutT exD⟩ := rfl
  have hEl := envB_len hE
  have hS := read_envless _ hE
  have hEp : 2 ≤ (envB (wrapE [120] 1 0 ⟨3, 1, exM, [115]⟩)).length := by
    rw [eW]; unfold envB textL; simp only [List.length_append]
    have := numL_pos 0
    have h32 : (tagL (macL [120] aboutT) 0 1 0 aboutT exD).length = 32 := macL_len _ _
    omega
  have tf := tok_far
  rw [eW] at hE
  have OF := fun w => Open_far [121] 1 0 exD (tagL (macL [120] aboutT) 0 1 0 aboutT exD) w (by decide) hE (fun h => by rw [← h] at tf; simp at tf)
  rw [← eW] at OF
  obtain ⟨B, eB⟩ : ∃ B, B = envB (wrapE [120] 1 0 ⟨3, 1, exM, [115]⟩) := ⟨_, rfl⟩
  rw [← eB] at WC OC OF hEl hS hEp
  have OS := fun w => Open_short [120] (B.take (B.length - 1)) w (by rw [List.length_take]; omega) hS
  have OC' : ∀ w, Calls Try.prog 33 #[.string (mkS [120]), .string (mkS B)] w fun r w' => ∃ p c, r = .returned (.tuple #[.agg #[.int .i64 3, .int .i64 1, .slice p 2 c, .string (mkS [115])], .int .i64 0]) ∧ Mem [] w w' [.sl 2 (.slice p 2 c) 2 (exM.flatMap mtV)] := OC
  obtain ⟨S65, e65⟩ : ∃ S65, S65 = List.replicate 65 (115 : UInt8) := ⟨_, rfl⟩
  obtain ⟨S64, e64⟩ : ∃ S64, S64 = List.replicate 64 (115 : UInt8) := ⟨_, rfl⟩
  have R65 : ∀ w, Calls Try.prog 35 #[.string (mkS [115]), .int .i64 65] w fun e w' => e = .returned (.string (mkS S65)) ∧ Below w.heap.size w w' := fun w => Repeat_i 115 65 S65 e65 65 rfl w (by omega) (by omega)
  have R64 : ∀ w, Calls Try.prog 35 #[.string (mkS [115]), .int .i64 64] w fun e w' => e = .returned (.string (mkS S64)) ∧ Below w.heap.size w w' := fun w => Repeat_i 115 64 S64 e64 64 rfl w (by omega) (by omega)
  have l65 : S65.length = 65 := by rw [e65]; exact List.length_replicate
  have l64 : S64.length = 64 := by rw [e64]; exact List.length_replicate
  have hx : ∀ x ∈ exM, x.1.length ≤ 1000000000 := by decide
  have hn : ∀ x ∈ ([] : List Mt), x.1.length ≤ 1000000000 := by decide
  have f0 : rightT (-1) 1 exM [115] = false := by decide
  have f1 : rightT 3 0 exM [115] = false := by decide
  have f2 : rightT 3 1 [] [115] = false := by decide
  have f3 : rightT 3 1 exM S65 = false := by unfold rightT; rw [decide_eq_false (show ¬ S65.length ≤ 64 by omega)]; simp
  have f4 : rightT 3 1 exM [] = false := by decide
  have f5 : rightT 9223372036854775807 9223372036854775807 exM S64 = true := by unfold rightT; rw [l64]; decide
  have W0 : ∀ v w, SeesL w 2 mtV v exM → Calls Try.prog 27 #[.string (mkS [120]), .int .u32 0, .int .u64 0, .agg #[.int .i64 (-1), .int .i64 1, v, .string (mkS [115])]] w fun r w' => r = .returned (.tuple #[.string (mkS []), .int .i64 1]) ∧ Below w.heap.size w w' := fun v w S => Wrap_no [120] 0 0 (-1) 1 exM [115] v w S (by decide) hx f0
  have W1 : ∀ v w, SeesL w 2 mtV v exM → Calls Try.prog 27 #[.string (mkS [120]), .int .u32 0, .int .u64 0, .agg #[.int .i64 3, .int .i64 0, v, .string (mkS [115])]] w fun r w' => r = .returned (.tuple #[.string (mkS []), .int .i64 1]) ∧ Below w.heap.size w w' := fun v w S => Wrap_no [120] 0 0 3 0 exM [115] v w S (by decide) hx f1
  have W2 : ∀ w, Calls Try.prog 27 #[.string (mkS [120]), .int .u32 0, .int .u64 0, .agg #[.int .i64 3, .int .i64 1, .slice none 0 0, .string (mkS [115])]] w fun r w' => r = .returned (.tuple #[.string (mkS []), .int .i64 1]) ∧ Below w.heap.size w w' := fun w => Wrap_no [120] 0 0 3 1 [] [115] _ w (seesL_nil 2 mtV mtV_len w) (by decide) hn f2
  have W3 : ∀ v w, SeesL w 2 mtV v exM → Calls Try.prog 27 #[.string (mkS [120]), .int .u32 0, .int .u64 0, .agg #[.int .i64 3, .int .i64 1, v, .string (mkS S65)]] w fun r w' => r = .returned (.tuple #[.string (mkS []), .int .i64 1]) ∧ Below w.heap.size w w' := fun v w S => Wrap_no [120] 0 0 3 1 exM S65 v w S (by decide) hx f3
  have W4 : ∀ v w, SeesL w 2 mtV v exM → Calls Try.prog 27 #[.string (mkS [120]), .int .u32 0, .int .u64 0, .agg #[.int .i64 3, .int .i64 1, v, .string (mkS [])]] w fun r w' => r = .returned (.tuple #[.string (mkS []), .int .i64 1]) ∧ Below w.heap.size w w' := fun v w S => Wrap_no [120] 0 0 3 1 exM [] v w S (by decide) hx f4
  have Q0 := fun v w S => tokRight_c (-1) 1 exM [115] v w S (by decide) hx
  have Q1 := fun v w S => tokRight_c 3 0 exM [115] v w S (by decide) hx
  have Q2 := fun w => tokRight_c 3 1 [] [115] _ w (seesL_nil 2 mtV mtV_len w) (by decide) hn
  have Q3 := fun v w S => tokRight_c 3 1 exM S65 v w S (by decide) hx
  have Q4 := fun v w S => tokRight_c 3 1 exM [] v w S (by decide) hx
  have Q5 := fun v w S => tokRight_c 9223372036854775807 9223372036854775807 exM S64 v w S (by decide) hx
  rw [f0, if_neg (by decide)] at Q0
  rw [f1, if_neg (by decide)] at Q1
  rw [f2, if_neg (by decide)] at Q2
  rw [f3, if_neg (by decide)] at Q3
  rw [f4, if_neg (by decide)] at Q4
  rw [f5, if_pos rfl] at Q5
  have SC := fun v v' w S T => tokSame_c 3 1 3 1 exM exM [115] [115] v v' w S T (by decide) (by decide)
  rw [sameT_self] at SC
  have hB2 : 0 ≤ (B.length : Int) - 1 := by omega
  have hB3 : ((B.length : Int) - 1).toNat = B.length - 1 := by omega
  have hB4 : ¬ (B.length : Int) < 2 := by omega
  have hB5 : (B.length : Int) - 1 ≤ (B.length : Int) := by omega
  replace WC := Lib.hid WC
  replace OC := Lib.hid OC'
  replace OF := Lib.hid OF
  replace OS := Lib.hid OS
  replace R65 := Lib.hid R65
  replace R64 := Lib.hid R64
  replace SC := Lib.hid SC
  replace W0 := Lib.hid W0
  replace W1 := Lib.hid W1
  replace W2 := Lib.hid W2
  replace W3 := Lib.hid W3
  replace W4 := Lib.hid W4
  replace Q0 := Lib.hid Q0
  replace Q1 := Lib.hid Q1
  replace Q2 := Lib.hid Q2
  replace Q3 := Lib.hid Q3
  replace Q4 := Lib.hid Q4
  replace Q5 := Lib.hid Q5
  clear OC' eB hE eW hrt tf e65 e64 hx hn f0 f1 f2 f3 f4 f5 hEp hS
  go_enter Try.func13, Try.ntmps13
  go_wp2_with ((first | ((with_reducible refine tGuard ?_); (with_reducible refine w_stripE ?_ ?_); (focus (refine ⟨_, rfl, ?_⟩; first | (with_reducible rfl) | exact decide_eq_false (by omega) | exact decide_eq_true (by omega)))) | ((with_reducible refine tGuard ?_); first | ((with_reducible refine w_skip1 ?_ ?_); (focus (refine ⟨_, rfl, ?_⟩; first | (with_reducible rfl) | exact decide_eq_false (by omega) | exact decide_eq_true (by omega)))) | ((with_reducible refine w_skip0 ?_ ?_); (focus (refine ⟨_, rfl, ?_⟩; first | (with_reducible rfl) | exact decide_eq_false (by omega) | exact decide_eq_true (by omega))))) | (go_at_call 34; go_must (refine (example_c _).mono ?_; rintro r w1 ⟨ge, rfl, MP⟩; replace M := M.join MP; clear MP; simp only [List.cons_append, List.nil_append] at M)) | (go_at_call 33; go_must (first | (with_reducible refine (OF.out _).mono ?_; rintro r w1 ⟨rfl, hb⟩; replace M := M.call hb; clear hb) | (with_reducible refine (OS.out _).mono ?_; rintro r w1 ⟨rfl, hb⟩; replace M := M.call hb; clear hb) | (with_reducible refine (OC.out _).mono ?_; rintro r w1 ⟨p, c, rfl, MP⟩; replace M := M.join MP; clear MP; simp only [List.cons_append, List.nil_append] at M; replace M := M.drop2))) | ((with_reducible refine tAlloc (some 3) 53 ?_); refine w_alloc M _ rfl rfl (.agg #[.int .i64 0, .int .i64 0, .slice none 0 0, .string (mkS [])]) ([.int .i64 0, .int .i64 0, .slice none 0 0, .string (mkS [])]) (by kernel_rfl) rfl ?_; clear M; intro gt w1 M) | ((with_reducible refine tAlloc (some 5) 53 ?_); refine w_alloc M _ rfl rfl (.agg #[.int .i64 0, .int .i64 0, .slice none 0 0, .string (mkS [])]) ([.int .i64 0, .int .i64 0, .slice none 0 0, .string (mkS [])]) (by kernel_rfl) rfl ?_; clear M; intro g5 w1 M) | ((with_reducible refine tAlloc (some 7) 53 ?_); refine w_alloc M _ rfl rfl (.agg #[.int .i64 0, .int .i64 0, .slice none 0 0, .string (mkS [])]) ([.int .i64 0, .int .i64 0, .slice none 0 0, .string (mkS [])]) (by kernel_rfl) rfl ?_; clear M; intro g7 w1 M) | (go_at_call 27; go_must (refine (WC.out _ _ (SeesL.own M 0 rfl rfl mtV_len)).mono ?_; rintro e w1 ⟨rfl, hb⟩; replace M := M.call hb; clear hb)) | (go_at_call 35; go_must (first | (with_reducible refine (R65.out _).mono ?_) | (with_reducible refine (R64.out _).mono ?_)); rintro e w1 ⟨rfl, hb⟩; replace M := M.call hb; clear hb) | ((with_reducible show wpList _ _ _ (Oper.mk _ (Op.buildSlice _ 5 _) _ _ _ _ :: _) _ _); go_must (refine w_buildFive4 M tkT (z0 := .int .i64 0) (z1 := .int .i64 0) (z2 := .slice none 0 0) (z3 := .string (mkS [])) (by kernel_rfl) _ _ _ _ _ rfl rfl (by exact ev_tmp rfl) (by exact ev_tmp rfl) (by exact ev_tmp rfl) (by exact ev_tmp rfl) (by exact ev_tmp rfl) ?_; clear M; intro gB w1 M)) | ((with_reducible refine tGuard ?_); refine w_strip rfl (by with_reducible rfl) ?_) | fail | ((with_reducible refine tLoad ?_); go_must (refine w_at _ _ rfl (by exact ev_tmp rfl) ?_; intro hx; (first | refine w_load M _ _ _ rfl (by first | exact at0 | exact at1 | exact at2 | exact at3 | exact at4 | exact at5 | exact at6 | exact at7 | exact at8) hx rfl (by decide +kernel) (by exact rfl) ?_ | refine w_loadR M _ _ _ rfl (by first | exact at0 | exact at1 | exact at2 | exact at3 | exact at4 | exact at5 | exact at6 | exact at7 | exact at8) hx rfl (by decide +kernel) (by kernel_rfl) ?_); clear hx)) | ((with_reducible refine tStore ?_); go_must (refine w_at2 _ _ _ rfl (by exact ev_tmp rfl) (by first | exact ev_tmp rfl | exact ev_const) ?_; intro hx hy; (first | refine w_store M _ _ _ _ rfl (by first | exact at0 | exact at1 | exact at2 | exact at3 | exact at4 | exact at5 | exact at6 | exact at7 | exact at8) hx rfl hy rfl rfl (by decide +kernel) (by first | decide | simp | (simp; omega)) ?_ | refine w_storeR M _ _ _ _ rfl (by first | exact at0 | exact at1 | exact at2 | exact at3 | exact at4 | exact at5 | exact at6 | exact at7 | exact at8) hx rfl _ hy rfl (by kernel_rfl) (by simp [Value.oneCell']) (by first | rfl | assumption) ?_); clear hx hy M; intro w1 M; (try simp only [setC] at M))) | ((with_reducible refine tBox _ ?_); (refine w_box M _ _ rfl rfl _ rfl _ rfl ?_; clear M; intro g w1 M))) <;> (try conv => arg 5; simp only [Act.put, List.setIfInBounds_toArray, setC]))
  obtain ⟨g1, g2, g3, g4, g5, M⟩ : ∃ g1 g2 g3 g4 g5, Mem [] w w1 [.row gB [.int .i64 (-1), .int .i64 1, .slice (some ⟨g1, 0, none⟩) 2 2, .string (mkS [115]), .int .i64 3, .int .i64 0, .slice (some ⟨g2, 0, none⟩) 2 2, .string (mkS [115]), .int .i64 3, .int .i64 1, .slice none 0 0, .string (mkS [115]), .int .i64 3, .int .i64 1, .slice (some ⟨g4, 0, none⟩) 2 2, .string (mkS S65), .int .i64 3, .int .i64 1, .slice (some ⟨g5, 0, none⟩) 2 2, .string (mkS [])], .sl 2 (.slice (some ⟨g5, 0, none⟩) 2 2) 2 (exM.flatMap mtV), .sl 2 (.slice (some ⟨g4, 0, none⟩) 2 2) 2 (exM.flatMap mtV), .sl 2 (.slice (some ⟨g3, 0, none⟩) 2 2) 2 (exM.flatMap mtV), .sl 2 (.slice (some ⟨g2, 0, none⟩) 2 2) 2 (exM.flatMap mtV), .sl 2 (.slice (some ⟨g1, 0, none⟩) 2 2) 2 (exM.flatMap mtV), .row gt [.int .i64 3, .int .i64 1, .slice p 2 c, .string (mkS [115])], .sl 2 (.slice p 2 c) 2 (exM.flatMap mtV)] := ⟨_, _, _, _, _, M.drop67⟩
  go_loopw [10] (fun iv wr => ∃ z : Int, 0 ≤ z ∧ z ≤ 5 ∧ iv = .int .i64 z ∧ Mem [] w wr [.row gB [.int .i64 (-1), .int .i64 1, .slice (some ⟨g1, 0, none⟩) 2 2, .string (mkS [115]), .int .i64 3, .int .i64 0, .slice (some ⟨g2, 0, none⟩) 2 2, .string (mkS [115]), .int .i64 3, .int .i64 1, .slice none 0 0, .string (mkS [115]), .int .i64 3, .int .i64 1, .slice (some ⟨g4, 0, none⟩) 2 2, .string (mkS S65), .int .i64 3, .int .i64 1, .slice (some ⟨g5, 0, none⟩) 2 2, .string (mkS [])], .sl 2 (.slice (some ⟨g5, 0, none⟩) 2 2) 2 (exM.flatMap mtV), .sl 2 (.slice (some ⟨g4, 0, none⟩) 2 2) 2 (exM.flatMap mtV), .sl 2 (.slice (some ⟨g3, 0, none⟩) 2 2) 2 (exM.flatMap mtV), .sl 2 (.slice (some ⟨g2, 0, none⟩) 2 2) 2 (exM.flatMap mtV), .sl 2 (.slice (some ⟨g1, 0, none⟩) 2 2) 2 (exM.flatMap mtV), .row gt [.int .i64 3, .int .i64 1, .slice p 2 c, .string (mkS [115])], .sl 2 (.slice p 2 c) 2 (exM.flatMap mtV)]) (fun iv _ => (5 - intOf iv).toNat)
  case atStart => exact ⟨0, by omega, by omega, rfl, M⟩
  case round =>
    clear M
    obtain ⟨z, hz0, hz5, rfl, M⟩ := hrel
    rcases (by omega : z = 0 ∨ z = 1 ∨ z = 2 ∨ z = 3 ∨ z = 4 ∨ z = 5) with rfl | rfl | rfl | rfl | rfl | rfl
    · go_wp2_with ((first | ((with_reducible refine tLoad ?_); go_must (refine w_at _ _ rfl (by exact ev_tmp rfl) ?_; intro hx; refine w_loadA M 0 _ _ rfl rfl hx rfl (by decide +kernel) [] [.int .i64 (-1), .int .i64 1, .slice (some ⟨g1, 0, none⟩) 2 2, .string (mkS [115])] [.int .i64 3, .int .i64 0, .slice (some ⟨g2, 0, none⟩) 2 2, .string (mkS [115]), .int .i64 3, .int .i64 1, .slice none 0 0, .string (mkS [115]), .int .i64 3, .int .i64 1, .slice (some ⟨g4, 0, none⟩) 2 2, .string (mkS S65), .int .i64 3, .int .i64 1, .slice (some ⟨g5, 0, none⟩) 2 2, .string (mkS [])] rfl rfl (by kernel_rfl) ?_; clear hx)) | (go_at_call 27; go_must (refine (W0.out _ _ (SeesL.own M 5 rfl rfl mtV_len)).mono ?_; rintro e w1 ⟨rfl, hb⟩; replace M := M.call hb; clear hb)) | (go_at_call 30; go_must (refine (Q0.out _ _ (SeesL.own M 5 rfl rfl mtV_len)).mono ?_; rintro e w1 ⟨rfl, hb⟩; replace M := M.call hb; clear hb)) | ((with_reducible refine tGuard ?_); first | refine w_strip rfl (by with_reducible rfl) ?_ | ((fail_if_success (refine w_lit false rfl (by with_reducible rfl) ?_)); (fail_if_success (refine w_lit true rfl (by with_reducible rfl) ?_)); refine w_case rfl ?_ ?_ <;> (intro hgd; rw [hgd]; try (exfalso; simp at hgd; omega)))) | fail | ((with_reducible refine tLoad ?_); go_must (refine w_at _ _ rfl (by exact ev_tmp rfl) ?_; intro hx; (first | refine w_load M _ _ _ rfl (by first | exact at0) hx rfl (by decide +kernel) (by exact rfl) ?_ | refine w_loadR M _ _ _ rfl (by first | exact at0) hx rfl (by decide +kernel) (by kernel_rfl) ?_); clear hx)) | ((with_reducible refine tStore ?_); go_must (refine w_at2 _ _ _ rfl (by exact ev_tmp rfl) (by first | exact ev_tmp rfl | exact ev_const) ?_; intro hx hy; (first | refine w_store M _ _ _ _ rfl (by first | exact at0) hx rfl hy rfl rfl (by decide +kernel) (by first | decide | simp | (simp; omega)) ?_ | refine w_storeR M _ _ _ _ rfl (by first | exact at0) hx rfl _ hy rfl (by kernel_rfl) (by simp [Value.oneCell']) (by first | rfl | assumption) ?_); clear hx hy M; intro w1 M; (try simp only [setC] at M))) | ((with_reducible refine tBox _ ?_); (refine w_box M _ _ rfl rfl _ rfl _ rfl ?_; clear M; intro g w1 M))) <;> (try conv => arg 5; simp only [Act.put, List.setIfInBounds_toArray, setC]))
      go_roundw
      case rel => exact ⟨1, by omega, by omega, rfl, M⟩
      case measure => simp [intOf]
    · go_wp2_with ((first | ((with_reducible refine tLoad ?_); go_must (refine w_at _ _ rfl (by exact ev_tmp rfl) ?_; intro hx; refine w_loadA M 0 _ _ rfl rfl hx rfl (by decide +kernel) [.int .i64 (-1), .int .i64 1, .slice (some ⟨g1, 0, none⟩) 2 2, .string (mkS [115])] [.int .i64 3, .int .i64 0, .slice (some ⟨g2, 0, none⟩) 2 2, .string (mkS [115])] [.int .i64 3, .int .i64 1, .slice none 0 0, .string (mkS [115]), .int .i64 3, .int .i64 1, .slice (some ⟨g4, 0, none⟩) 2 2, .string (mkS S65), .int .i64 3, .int .i64 1, .slice (some ⟨g5, 0, none⟩) 2 2, .string (mkS [])] rfl rfl (by kernel_rfl) ?_; clear hx)) | (go_at_call 27; go_must (refine (W1.out _ _ (SeesL.own M 4 rfl rfl mtV_len)).mono ?_; rintro e w1 ⟨rfl, hb⟩; replace M := M.call hb; clear hb)) | (go_at_call 30; go_must (refine (Q1.out _ _ (SeesL.own M 4 rfl rfl mtV_len)).mono ?_; rintro e w1 ⟨rfl, hb⟩; replace M := M.call hb; clear hb)) | ((with_reducible refine tGuard ?_); first | refine w_strip rfl (by with_reducible rfl) ?_ | ((fail_if_success (refine w_lit false rfl (by with_reducible rfl) ?_)); (fail_if_success (refine w_lit true rfl (by with_reducible rfl) ?_)); refine w_case rfl ?_ ?_ <;> (intro hgd; rw [hgd]; try (exfalso; simp at hgd; omega)))) | fail | ((with_reducible refine tLoad ?_); go_must (refine w_at _ _ rfl (by exact ev_tmp rfl) ?_; intro hx; (first | refine w_load M _ _ _ rfl (by first | exact at0) hx rfl (by decide +kernel) (by exact rfl) ?_ | refine w_loadR M _ _ _ rfl (by first | exact at0) hx rfl (by decide +kernel) (by kernel_rfl) ?_); clear hx)) | ((with_reducible refine tStore ?_); go_must (refine w_at2 _ _ _ rfl (by exact ev_tmp rfl) (by first | exact ev_tmp rfl | exact ev_const) ?_; intro hx hy; (first | refine w_store M _ _ _ _ rfl (by first | exact at0) hx rfl hy rfl rfl (by decide +kernel) (by first | decide | simp | (simp; omega)) ?_ | refine w_storeR M _ _ _ _ rfl (by first | exact at0) hx rfl _ hy rfl (by kernel_rfl) (by simp [Value.oneCell']) (by first | rfl | assumption) ?_); clear hx hy M; intro w1 M; (try simp only [setC] at M))) | ((with_reducible refine tBox _ ?_); (refine w_box M _ _ rfl rfl _ rfl _ rfl ?_; clear M; intro g w1 M))) <;> (try conv => arg 5; simp only [Act.put, List.setIfInBounds_toArray, setC]))
      go_roundw
      case rel => exact ⟨2, by omega, by omega, rfl, M⟩
      case measure => simp [intOf]
    · go_wp2_with ((first | ((with_reducible refine tLoad ?_); go_must (refine w_at _ _ rfl (by exact ev_tmp rfl) ?_; intro hx; refine w_loadA M 0 _ _ rfl rfl hx rfl (by decide +kernel) [.int .i64 (-1), .int .i64 1, .slice (some ⟨g1, 0, none⟩) 2 2, .string (mkS [115]), .int .i64 3, .int .i64 0, .slice (some ⟨g2, 0, none⟩) 2 2, .string (mkS [115])] [.int .i64 3, .int .i64 1, .slice none 0 0, .string (mkS [115])] [.int .i64 3, .int .i64 1, .slice (some ⟨g4, 0, none⟩) 2 2, .string (mkS S65), .int .i64 3, .int .i64 1, .slice (some ⟨g5, 0, none⟩) 2 2, .string (mkS [])] rfl rfl (by kernel_rfl) ?_; clear hx)) | (go_at_call 27; go_must (refine (W2.out _).mono ?_; rintro e w1 ⟨rfl, hb⟩; replace M := M.call hb; clear hb)) | (go_at_call 30; go_must (refine (Q2.out _).mono ?_; rintro e w1 ⟨rfl, hb⟩; replace M := M.call hb; clear hb)) | ((with_reducible refine tGuard ?_); first | refine w_strip rfl (by with_reducible rfl) ?_ | ((fail_if_success (refine w_lit false rfl (by with_reducible rfl) ?_)); (fail_if_success (refine w_lit true rfl (by with_reducible rfl) ?_)); refine w_case rfl ?_ ?_ <;> (intro hgd; rw [hgd]; try (exfalso; simp at hgd; omega)))) | fail | ((with_reducible refine tLoad ?_); go_must (refine w_at _ _ rfl (by exact ev_tmp rfl) ?_; intro hx; (first | refine w_load M _ _ _ rfl (by first | exact at0) hx rfl (by decide +kernel) (by exact rfl) ?_ | refine w_loadR M _ _ _ rfl (by first | exact at0) hx rfl (by decide +kernel) (by kernel_rfl) ?_); clear hx)) | ((with_reducible refine tStore ?_); go_must (refine w_at2 _ _ _ rfl (by exact ev_tmp rfl) (by first | exact ev_tmp rfl | exact ev_const) ?_; intro hx hy; (first | refine w_store M _ _ _ _ rfl (by first | exact at0) hx rfl hy rfl rfl (by decide +kernel) (by first | decide | simp | (simp; omega)) ?_ | refine w_storeR M _ _ _ _ rfl (by first | exact at0) hx rfl _ hy rfl (by kernel_rfl) (by simp [Value.oneCell']) (by first | rfl | assumption) ?_); clear hx hy M; intro w1 M; (try simp only [setC] at M))) | ((with_reducible refine tBox _ ?_); (refine w_box M _ _ rfl rfl _ rfl _ rfl ?_; clear M; intro g w1 M))) <;> (try conv => arg 5; simp only [Act.put, List.setIfInBounds_toArray, setC]))
      go_roundw
      case rel => exact ⟨3, by omega, by omega, rfl, M⟩
      case measure => simp [intOf]
    · go_wp2_with ((first | ((with_reducible refine tLoad ?_); go_must (refine w_at _ _ rfl (by exact ev_tmp rfl) ?_; intro hx; refine w_loadA M 0 _ _ rfl rfl hx rfl (by decide +kernel) [.int .i64 (-1), .int .i64 1, .slice (some ⟨g1, 0, none⟩) 2 2, .string (mkS [115]), .int .i64 3, .int .i64 0, .slice (some ⟨g2, 0, none⟩) 2 2, .string (mkS [115]), .int .i64 3, .int .i64 1, .slice none 0 0, .string (mkS [115])] [.int .i64 3, .int .i64 1, .slice (some ⟨g4, 0, none⟩) 2 2, .string (mkS S65)] [.int .i64 3, .int .i64 1, .slice (some ⟨g5, 0, none⟩) 2 2, .string (mkS [])] rfl rfl (by kernel_rfl) ?_; clear hx)) | (go_at_call 27; go_must (refine (W3.out _ _ (SeesL.own M 2 rfl rfl mtV_len)).mono ?_; rintro e w1 ⟨rfl, hb⟩; replace M := M.call hb; clear hb)) | (go_at_call 30; go_must (refine (Q3.out _ _ (SeesL.own M 2 rfl rfl mtV_len)).mono ?_; rintro e w1 ⟨rfl, hb⟩; replace M := M.call hb; clear hb)) | ((with_reducible refine tGuard ?_); first | refine w_strip rfl (by with_reducible rfl) ?_ | ((fail_if_success (refine w_lit false rfl (by with_reducible rfl) ?_)); (fail_if_success (refine w_lit true rfl (by with_reducible rfl) ?_)); refine w_case rfl ?_ ?_ <;> (intro hgd; rw [hgd]; try (exfalso; simp at hgd; omega)))) | fail | ((with_reducible refine tLoad ?_); go_must (refine w_at _ _ rfl (by exact ev_tmp rfl) ?_; intro hx; (first | refine w_load M _ _ _ rfl (by first | exact at0) hx rfl (by decide +kernel) (by exact rfl) ?_ | refine w_loadR M _ _ _ rfl (by first | exact at0) hx rfl (by decide +kernel) (by kernel_rfl) ?_); clear hx)) | ((with_reducible refine tStore ?_); go_must (refine w_at2 _ _ _ rfl (by exact ev_tmp rfl) (by first | exact ev_tmp rfl | exact ev_const) ?_; intro hx hy; (first | refine w_store M _ _ _ _ rfl (by first | exact at0) hx rfl hy rfl rfl (by decide +kernel) (by first | decide | simp | (simp; omega)) ?_ | refine w_storeR M _ _ _ _ rfl (by first | exact at0) hx rfl _ hy rfl (by kernel_rfl) (by simp [Value.oneCell']) (by first | rfl | assumption) ?_); clear hx hy M; intro w1 M; (try simp only [setC] at M))) | ((with_reducible refine tBox _ ?_); (refine w_box M _ _ rfl rfl _ rfl _ rfl ?_; clear M; intro g w1 M))) <;> (try conv => arg 5; simp only [Act.put, List.setIfInBounds_toArray, setC]))
      go_roundw
      case rel => exact ⟨4, by omega, by omega, rfl, M⟩
      case measure => simp [intOf]
    · go_wp2_with ((first | ((with_reducible refine tLoad ?_); go_must (refine w_at _ _ rfl (by exact ev_tmp rfl) ?_; intro hx; refine w_loadA M 0 _ _ rfl rfl hx rfl (by decide +kernel) [.int .i64 (-1), .int .i64 1, .slice (some ⟨g1, 0, none⟩) 2 2, .string (mkS [115]), .int .i64 3, .int .i64 0, .slice (some ⟨g2, 0, none⟩) 2 2, .string (mkS [115]), .int .i64 3, .int .i64 1, .slice none 0 0, .string (mkS [115]), .int .i64 3, .int .i64 1, .slice (some ⟨g4, 0, none⟩) 2 2, .string (mkS S65)] [.int .i64 3, .int .i64 1, .slice (some ⟨g5, 0, none⟩) 2 2, .string (mkS [])] [] rfl rfl (by kernel_rfl) ?_; clear hx)) | (go_at_call 27; go_must (refine (W4.out _ _ (SeesL.own M 1 rfl rfl mtV_len)).mono ?_; rintro e w1 ⟨rfl, hb⟩; replace M := M.call hb; clear hb)) | (go_at_call 30; go_must (refine (Q4.out _ _ (SeesL.own M 1 rfl rfl mtV_len)).mono ?_; rintro e w1 ⟨rfl, hb⟩; replace M := M.call hb; clear hb)) | ((with_reducible refine tGuard ?_); first | refine w_strip rfl (by with_reducible rfl) ?_ | ((fail_if_success (refine w_lit false rfl (by with_reducible rfl) ?_)); (fail_if_success (refine w_lit true rfl (by with_reducible rfl) ?_)); refine w_case rfl ?_ ?_ <;> (intro hgd; rw [hgd]; try (exfalso; simp at hgd; omega)))) | fail | ((with_reducible refine tLoad ?_); go_must (refine w_at _ _ rfl (by exact ev_tmp rfl) ?_; intro hx; (first | refine w_load M _ _ _ rfl (by first | exact at0) hx rfl (by decide +kernel) (by exact rfl) ?_ | refine w_loadR M _ _ _ rfl (by first | exact at0) hx rfl (by decide +kernel) (by kernel_rfl) ?_); clear hx)) | ((with_reducible refine tStore ?_); go_must (refine w_at2 _ _ _ rfl (by exact ev_tmp rfl) (by first | exact ev_tmp rfl | exact ev_const) ?_; intro hx hy; (first | refine w_store M _ _ _ _ rfl (by first | exact at0) hx rfl hy rfl rfl (by decide +kernel) (by first | decide | simp | (simp; omega)) ?_ | refine w_storeR M _ _ _ _ rfl (by first | exact at0) hx rfl _ hy rfl (by kernel_rfl) (by simp [Value.oneCell']) (by first | rfl | assumption) ?_); clear hx hy M; intro w1 M; (try simp only [setC] at M))) | ((with_reducible refine tBox _ ?_); (refine w_box M _ _ rfl rfl _ rfl _ rfl ?_; clear M; intro g w1 M))) <;> (try conv => arg 5; simp only [Act.put, List.setIfInBounds_toArray, setC]))
      go_roundw
      case rel => exact ⟨5, by omega, by omega, rfl, M⟩
      case measure => simp [intOf]
    · go_wp2_with fail
      replace M := M.tail.tail.tail.tail.tail.tail
      go_wp2_with ((first | ((with_reducible refine tGuard ?_); (with_reducible refine w_stripE ?_ ?_); (focus (refine ⟨_, rfl, ?_⟩; first | (with_reducible rfl) | exact decide_eq_false (by omega) | exact decide_eq_true (by omega)))) | ((with_reducible refine tGuard ?_); first | ((with_reducible refine w_skip1 ?_ ?_); (focus (refine ⟨_, rfl, ?_⟩; first | (with_reducible rfl) | exact decide_eq_false (by omega) | exact decide_eq_true (by omega)))) | ((with_reducible refine w_skip0 ?_ ?_); (focus (refine ⟨_, rfl, ?_⟩; first | (with_reducible rfl) | exact decide_eq_false (by omega) | exact decide_eq_true (by omega))))) | (go_at_call 34; go_must (refine (example_c _).mono ?_; rintro r w1 ⟨ge, rfl, MP⟩; replace M := M.join MP; clear MP; simp only [List.cons_append, List.nil_append] at M)) | ((with_reducible refine tAlloc (some 13) 53 ?_); refine w_alloc M _ rfl rfl (.agg #[.int .i64 0, .int .i64 0, .slice none 0 0, .string (mkS [])]) ([.int .i64 0, .int .i64 0, .slice none 0 0, .string (mkS [])]) (by kernel_rfl) rfl ?_; clear M; intro gm w1 M) | (go_at_call 35; go_must (first | (with_reducible refine (R65.out _).mono ?_) | (with_reducible refine (R64.out _).mono ?_)); rintro e w1 ⟨rfl, hb⟩; replace M := M.call hb; clear hb) | ((with_reducible show Code.wp _ (Code.region 23 _ _) _ _ _); go_must (have MR := M; refine region_lowc [(0, true), (1, false), (2, false), (3, false), (4, false), (5, false), (6, false), (7, false), (8, false), (9, false), (10, false), (11, true), (12, true), (13, false), (14, false), (15, false), (16, false), (17, false), (18, false), (19, false), (20, false), (21, false), (22, false), (23, false), (24, true), (25, false), (26, false), (27, false)] [(94, .int), (98, .int), (107, .int), (111, .int), (116, .int)] [(10, _), (23, _)] (IxOk MR [2, 0]) 28 (by kernel_rfl) (by kernel_rfl) rfl (by kernel_rfl) (lows_cons (by first | exact stab_ix MR 2 0 rfl rfl (by decide) (by decide +kernel) rfl | exact stab_ixB MR 2 0 rfl rfl (by decide) (by decide +kernel) (by first | assumption | omega) | exact stab_ix32 MR 2 0 rfl rfl (by decide) (by decide +kernel) (by first | assumption | omega | (simp; omega)) | exact stab_ixH MR 2 rfl rfl (by decide) (by decide +kernel) (by first | assumption | exact lenI | exact lenS ‹_› | rfl) (by decide +kernel) | exact stab_ixW32 MR 2 rfl rfl (by decide) (by decide +kernel) (by first | assumption | exact lenI | exact lenS ‹_› | rfl) (by decide +kernel) | exact stab_ixR MR 2 rfl rfl (by decide) (by decide +kernel) (by kernel_rfl) | exact stab_ixW MR 2 rfl rfl (by decide) (by first | assumption | exact lenI | exact lenS ‹_› | rfl) (by decide) Try.underlying45 Try.underlying5 Try.underlying9 | exact stab_ixS MR 2 rfl rfl (by decide) (by first | rfl | simp | assumption) Try.underlying45 Try.underlying5 Try.underlying9) (lows_cons (by first | exact stab_ix MR 0 0 rfl rfl (by decide) (by decide +kernel) rfl | exact stab_ixB MR 0 0 rfl rfl (by decide) (by decide +kernel) (by first | assumption | omega) | exact stab_ix32 MR 0 0 rfl rfl (by decide) (by decide +kernel) (by first | assumption | omega | (simp; omega)) | exact stab_ixH MR 0 rfl rfl (by decide) (by decide +kernel) (by first | assumption | exact lenI | exact lenS ‹_› | rfl) (by decide +kernel) | exact stab_ixW32 MR 0 rfl rfl (by decide) (by decide +kernel) (by first | assumption | exact lenI | exact lenS ‹_› | rfl) (by decide +kernel) | exact stab_ixR MR 0 rfl rfl (by decide) (by decide +kernel) (by kernel_rfl) | exact stab_ixW MR 0 rfl rfl (by decide) (by first | assumption | exact lenI | exact lenS ‹_› | rfl) (by decide) Try.underlying45 Try.underlying5 Try.underlying9 | exact stab_ixS MR 0 rfl rfl (by decide) (by first | rfl | simp | assumption) Try.underlying45 Try.underlying5 Try.underlying9) lows_nil)) (ixOk_self MR _) ?_; replace M := M.drew; simp only [planC, opAt, List.getElem?_toArray, List.getElem?_cons_zero, List.getElem?_cons_succ, Option.getD_some])) | (go_at_call 25; go_must (refine (awake24_c _).mono ?_; rintro e w1 ⟨rfl, hb⟩; replace M := M.call hb; clear hb)) | (go_at_call 31; go_must (refine (SC.out _ _ _ (SeesL.own M 4 rfl rfl mtV_len) (SeesL.own M 0 rfl rfl mtV_len)).mono ?_; rintro e w1 ⟨rfl, hb⟩; replace M := M.call hb; clear hb)) | (go_at_call 30; go_must (refine (Q5.out _ _ (SeesL.own M 2 rfl rfl mtV_len)).mono ?_; rintro e w1 ⟨rfl, hb⟩; replace M := M.call hb; clear hb)) | ((with_reducible show Seg _ _ _ _); go_must (first | refine Seg.intro ⟨fun h => absurd rfl h, ?_⟩ | refine Seg.intro ⟨fun _ => (by repeat' (first | exact ixOk_nil M.kept | refine ixOk_cons rfl (by first | exact M.ok 0 _ rfl | exact M.ok 1 _ rfl | exact M.ok 2 _ rfl | exact M.ok 3 _ rfl | exact M.ok 4 _ rfl) ?_)), ?_⟩ | refine Seg.intro ⟨(by repeat' (first | (with_reducible exact needs_nil) | refine needs_at rfl (by first | (show Shape.ok Shape.nums _ = true; exact nums_bs _) | rfl) ?_)), (by repeat' (first | (with_reducible exact ats_nil) | refine ats_cons (by first | exact ev_tmp rfl | rfl) ?_)), ?_⟩)) | ((with_reducible show OnlyN _ _ _ _ _); refine OnlyN.intro (by kernel_rfl) ?_) | ((with_reducible refine tGuard ?_); refine w_strip rfl (by with_reducible rfl) ?_) | fail | ((with_reducible refine tLoad ?_); go_must (refine w_at _ _ rfl (by exact ev_tmp rfl) ?_; intro hx; (first | refine w_load M _ _ _ rfl (by first | exact at0 | exact at1 | exact at2) hx rfl (by decide +kernel) (by exact rfl) ?_ | refine w_loadR M _ _ _ rfl (by first | exact at0 | exact at1 | exact at2) hx rfl (by decide +kernel) (by kernel_rfl) ?_); clear hx)) | ((with_reducible refine tStore ?_); go_must (refine w_at2 _ _ _ rfl (by exact ev_tmp rfl) (by first | exact ev_tmp rfl | exact ev_const) ?_; intro hx hy; (first | refine w_store M _ _ _ _ rfl (by first | exact at0 | exact at1 | exact at2) hx rfl hy rfl rfl (by decide +kernel) (by first | decide | simp | (simp; omega)) ?_ | refine w_storeR M _ _ _ _ rfl (by first | exact at0 | exact at1 | exact at2) hx rfl _ hy rfl (by kernel_rfl) (by simp [Value.oneCell']) (by first | rfl | assumption) ?_); clear hx hy M; intro w1 M; (try simp only [setC] at M))) | ((with_reducible refine tBox _ ?_); (refine w_box M _ _ rfl rfl _ rfl _ rfl ?_; clear M; intro g w1 M))) <;> (try conv => arg 5; simp only [Act.put, List.setIfInBounds_toArray, setC]))
      go_ret
      exact ⟨by first | rfl | simp, M.below⟩
end Go.Proofs.Ytjlkiopncclomaa
