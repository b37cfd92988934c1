/- Slices of rows of bytes: each row is a slice of its own. No conditions but those each law names. -/
import Derived.Test.YtidadhbaomieiaaGreatZb
namespace Go
namespace TL
open Go.RowKit
/-- What rows show: each slice value, a list of bytes. -/
def InnerW (w : World) (vs : List Value) (ls : List (List UInt8)) : Prop := vs.length = ls.length ∧ ∀ (i : Nat) (v : Value) (l : List UInt8), vs[i]? = some v → ls[i]? = some l → SeesB w v l
def fpW (vs : List Value) : List Nat := vs.flatMap fun v => v.ownBlock.toList
def rowsC (vs : List Value) (ls : List (List UInt8)) : Chunk := .obj (fpW vs) (fun w => InnerW w vs ls)
theorem seesB_stay {w w' : World} {v : Value} {l : List UInt8} (S : SeesB w v l) (hs : w.heap.size ≤ w'.heap.size) (hb : ∀ k, v.ownBlock = some k → w'.heap[k]? = w.heap[k]?) : SeesB w' v l := by
  refine ⟨S.1, S.2.imp id ?_⟩
  rintro ⟨g, o, cap, rfl, hlt, hn, hc, hr⟩
  exact ⟨g, o, cap, rfl, Nat.lt_of_lt_of_le hlt hs, hn, hc, rangeAt_of_block hr (hb g rfl)⟩
theorem seesB_lt {w : World} {v : Value} {l : List UInt8} (S : SeesB w v l) : ∀ k, v.ownBlock = some k → k < w.heap.size := by
  intro k hk
  rcases S.2 with ⟨rfl, _⟩ | ⟨g, o, cap, rfl, hlt, _⟩
  · cases hk
  · cases hk; exact hlt
theorem seesB_addr {w : World} {v : Value} {l : List UInt8} (S : SeesB w v l) (h : 0 < l.length) : ∃ g so c, v = .slice (some ⟨g, so, none⟩) l.length c := by
  rcases S.2 with ⟨_, h0⟩ | ⟨g, so, c, hv, _⟩
  · omega
  · exact ⟨g, so, c, hv⟩
theorem mem_fpW {vs : List Value} {i : Nat} {v : Value} {k : Nat} (hi : vs[i]? = some v) (hk : v.ownBlock = some k) : k ∈ fpW vs := by
  unfold fpW
  exact List.mem_flatMap.2 ⟨v, List.mem_of_getElem? hi, by rw [hk]; simp⟩
theorem fpW_snoc (vs : List Value) (v : Value) : fpW (vs ++ [v]) = fpW vs ++ v.ownBlock.toList := by unfold fpW; simp
theorem rows_ok {w : World} {vs : List Value} {ls : List (List UInt8)} (h : InnerW w vs ls) : (rowsC vs ls).ok w := by
  refine ⟨fun k hk => ?_, h, fun w' hs hb => ⟨h.1, fun i v l hv hl => seesB_stay (h.2 i v l hv hl) hs fun k hk => hb k (mem_fpW hv hk)⟩⟩
  obtain ⟨v, hv, hk⟩ := List.mem_flatMap.1 hk
  obtain ⟨i, hi⟩ := List.mem_iff_getElem?.1 hv
  have hlt : i < ls.length := by rw [← h.1]; exact (List.getElem?_eq_some_iff.1 hi).1
  exact seesB_lt (h.2 i v _ hi (List.getElem?_eq_getElem hlt)) k (by simpa using hk)
theorem inner_snoc {w : World} {vs : List Value} {ls : List (List UInt8)} (h : InnerW w vs ls) {v : Value} {l : List UInt8} (S : SeesB w v l) : InnerW w (vs ++ [v]) (ls ++ [l]) := by
  refine ⟨by simp [h.1], fun i u m hu hm => ?_⟩
  by_cases e : i < vs.length
  · rw [List.getElem?_append_left e] at hu
    rw [List.getElem?_append_left (by rw [← h.1]; exact e)] at hm
    exact h.2 i u m hu hm
  · rw [List.getElem?_append_right (by omega)] at hu
    rw [List.getElem?_append_right (by rw [← h.1]; omega), ← h.1] at hm
    obtain ⟨j, ej⟩ : ∃ j, j = i - vs.length := ⟨_, rfl⟩
    rw [← ej] at hu hm
    cases j with
    | zero => simp at hu hm; subst hu; subst hm; exact S
    | succ j => simp at hu
/-- An empty row of rows. -/
theorem Mem.rows0 {F : List Nat} {w0 w : World} {L : List Chunk} (M : Mem F w0 w L) : Mem F w0 w (rowsC [] [] :: L) :=
  M.add _ (Kept.refl _ _) (rows_ok ⟨rfl, fun i v l h => by simp at h⟩) (by simp [rowsC, Chunk.fp, fpW])
/-- A piece goes into the rows. -/
theorem Mem.gather {F : List Nat} {w0 w : World} {c o d e : Chunk} {L : List Chunk} (M : Mem F w0 w (c :: o :: d :: L)) (hok : e.ok w) (hfp : ∀ k ∈ e.fp, k ∈ c.fp ∨ k ∈ d.fp) : Mem F w0 w (o :: e :: L) := by
  have key : ∀ (i : Nat) (x : Chunk), (o :: e :: L)[i]? = some x → (i = 1 ∧ x = e) ∨ (i ≠ 1 ∧ (c :: o :: d :: L)[i + 1]? = some x) := by
    intro i x hx
    match i with
    | 0 => exact .inr ⟨by omega, by simpa using hx⟩
    | 1 => exact .inl ⟨rfl, by simp at hx; exact hx.symm⟩
    | i + 2 => exact .inr ⟨by omega, by simpa using hx⟩
  have me : ∀ k ∈ e.fp, ∃ (j : Nat) (y : Chunk), (j = 0 ∨ j = 2) ∧ (c :: o :: d :: L)[j]? = some y ∧ k ∈ y.fp := fun k hk => by
    rcases hfp k hk with h | h
    · exact ⟨0, c, .inl rfl, rfl, h⟩
    · exact ⟨2, d, .inr rfl, rfl, h⟩
  refine ⟨M.kept, fun i x hx => ?_, fun i x hx k hk => ?_, fun i j x y hij hi hj k hk hk2 => ?_⟩
  · rcases key i x hx with ⟨_, rfl⟩ | ⟨_, h⟩
    · exact hok
    · exact M.ok _ x h
  · rcases key i x hx with ⟨_, rfl⟩ | ⟨_, h⟩
    · obtain ⟨j, y, _, hy, hky⟩ := me k hk
      exact M.own j y hy k hky
    · exact M.own _ x h k hk
  · rcases key i x hi with ⟨e1, rfl⟩ | ⟨n1, h1⟩ <;> rcases key j y hj with ⟨e2, rfl⟩ | ⟨n2, h2⟩
    · omega
    · obtain ⟨m, z, hm, hz, hkz⟩ := me k hk
      exact M.nd m (j + 1) z y (by omega) hz h2 k hkz hk2
    · obtain ⟨m, z, hm, hz, hkz⟩ := me k hk2
      exact M.nd (i + 1) m x z (by omega) h1 hz k hk hkz
    · exact M.nd _ _ x y (by omega) h1 h2 k hk hk2
/-- One more row: the piece that it lies in goes into the rows. -/
theorem Mem.rowIn {F : List Nat} {w0 w : World} {c o : Chunk} {vs : List Value} {ls : List (List UInt8)} {L : List Chunk} (M : Mem F w0 w (c :: o :: rowsC vs ls :: L)) {v : Value} {l : List UInt8} (S : SeesB w v l) (hv : ∀ k, v.ownBlock = some k → k ∈ c.fp) : Mem F w0 w (o :: rowsC (vs ++ [v]) (ls ++ [l]) :: L) := by
  refine M.gather (rows_ok (inner_snoc (M.ok 2 _ rfl).2.1 S)) fun k hk => ?_
  have hk' : k ∈ fpW (vs ++ [v]) := hk
  rw [fpW_snoc, List.mem_append] at hk'
  rcases hk' with h | h
  · exact .inr h
  · exact .inl (hv k (by simpa using h))
theorem own_addr {w : World} {size n m cap : Nat} {p : Option Addr} {xs : List Value} (h : (Chunk.sl size (.slice p m cap) n xs).ok w) (hn : 0 < n) : ∃ g so, p = some ⟨g, so, none⟩ := by
  rcases h.2 with ⟨_, h0⟩ | ⟨g, so, c, hv, _⟩
  · omega
  · injection hv with h1 _ _; exact ⟨g, so, h1⟩
section
variable {P : Program} {ops : Array Oper} {rest : List Oper} {o : Oper} {a : Act} {w w0 : World} {Q : Exit → Act → World → Prop} {F : List Nat} {L : List Chunk}
/-- A cell of a slice that is seen now. -/
theorem w_seenC {g so n m c : Nat} {vs : List Value} (S : Sees w 1 (.slice (some ⟨g, so, none⟩) m c) n vs) (t : TypeId) (x : Operand) (ho : o.op = .load t x) {off : Nat} (hx : a.eval x = .pointer (some ⟨g, off, none⟩)) (hw : Region.wanted o (yielded ops a.tmps) = true)
    (ht : scalarT P t = true) (k : Nat) (hoff : off = so + k) {v : Value} (hv : vs[k]? = some v) (h : wpList P ops Q rest (a.put o.dst v) w) : wpList P ops Q (o :: rest) a w :=
  wpW hw fun _ hK => by
    subst hoff
    have hc : w.cell? ⟨g, so + k, none⟩ = some v := by
      rcases S.2 with ⟨h0, _⟩ | ⟨g', o', c', hv', _, _, _, hr⟩
      · cases h0
      · injection hv' with h1 _ _; injection h1 with h1; injection h1 with h1 h2; subst h1; subst h2; exact hr k v hv
    unfold Oper.wp execOp
    simp only [ho, hx, Instr.loadAt, Instr.sureAddr, Sem.run_bind, Sem.run_pure, Result.andThen_ok, run_loadVar_scalar ht w g _ v hc]
    exact hK _ _ h
/-- A byte of a slice that is seen now. -/
theorem w_seenB {g so m c : Nat} {l : List UInt8} (S : SeesB w (.slice (some ⟨g, so, none⟩) m c) l) (t : TypeId) (x : Operand) (ho : o.op = .load t x) {off : Nat} (hx : a.eval x = .pointer (some ⟨g, off, none⟩)) (hw : Region.wanted o (yielded ops a.tmps) = true)
    (ht : scalarT P t = true) (k : Nat) (hoff : off = so + k) (hlt : k < l.length) (h : wpList P ops Q rest (a.put o.dst (.int .u8 (I8 (l.getD k 0)))) w) : wpList P ops Q (o :: rest) a w :=
  w_seenC S t x ho hx hw ht k hoff (getD_some hlt) h
/-- A slice literal of four bytes. -/
theorem w_build4 (M : Mem F w0 w L) {t e : TypeId} {bytes : Nat} (T : SliceT P t e 1 bytes) (x y z u : Operand) (ho : o.op = .buildSlice t 4 #[(0, x), (1, y), (2, z), (3, u)]) (hw : Region.wanted o (yielded ops a.tmps) = true) {b0 b1 b2 b3 : UInt8} (hx : a.eval x = .int .u8 (I8 b0)) (hy : a.eval y = .int .u8 (I8 b1)) (hz : a.eval z = .int .u8 (I8 b2)) (hu : a.eval u = .int .u8 (I8 b3))
    (h : ∀ (g : Nat) (w' : World), Mem F w0 w' (.sl 1 (.slice (some ⟨g, 0, none⟩) 4 4) 4 (bs [b0, b1, b2, b3]) :: L) → wpList P ops Q rest (a.put o.dst (.slice (some ⟨g, 0, none⟩) 4 4)) w') : wpList P ops Q (o :: rest) a w := by
  have T' := T
  obtain ⟨ht, ⟨i, z', hi, hz', hsize, hby, hzs⟩, hsz⟩ := T'
  refine w_buildSlice M T 4 _ ho hw ⟨by omega, by omega⟩ z' (by simp [hi, hz']) (bs [b0, b1, b2, b3]) ?_ fun g w' M' => h g w' ?_
  · have r4 : Array.range (4 * 1) = #[0, 1, 2, 3] := by decide
    rw [r4]
    simp only [List.map_toArray, List.map_cons, List.map_nil, hx, hy, hz, hu]
    generalize z'.cells[0 % z'.cells.size]! = c0
    generalize z'.cells[1 % z'.cells.size]! = c1
    generalize z'.cells[2 % z'.cells.size]! = c2
    generalize z'.cells[3 % z'.cells.size]! = c3
    rfl
  · have hok := M'.ok 0 _ rfl
    have := M'.upd 0 rfl (c' := .sl 1 (.slice (some ⟨g, 0, none⟩) 4 4) 4 (bs [b0, b1, b2, b3])) ⟨Kept.refl _ _, ⟨rfl, .inr ⟨g, 0, 4, rfl, Nat.zero_le _, hok.1, Nat.le_refl _, by simp only [maxLen]; omega, hok.2.1, hok.2.2⟩⟩, fun k hk => .inl (by simpa [Chunk.fp, Value.ownBlock] using hk)⟩
    simpa using this
/-- An empty slice literal. -/
theorem w_build0 (M : Mem F w0 w L) {t e : TypeId} {size bytes : Nat} (T : SliceT P t e size bytes) (ho : o.op = .buildSlice t 0 #[]) (hw : Region.wanted o (yielded ops a.tmps) = true)
    (h : ∀ (g : Nat) (w' : World), Mem F w0 w' (.sl size (.slice (some ⟨g, 0, none⟩) 0 0) 0 [] :: L) → wpList P ops Q rest (a.put o.dst (.slice (some ⟨g, 0, none⟩) 0 0)) w') : wpList P ops Q (o :: rest) a w :=
  wpW hw fun _ hK => by
    obtain ⟨ht, ⟨i, z', hi, hz', hsize, hby, hzs⟩, hsz⟩ := T
    have hr : (Instr.buildSlice t 0 #[]).run P w = .ok (.slice (some ⟨w.heap.size, 0, none⟩) 0 0) (w.alloc (.cells #[] e)) := by
      have r0 : Array.range 0 = (#[] : Array Nat) := by decide
      simp [Instr.buildSlice, run_underlying ht, sizeOf, typeInfo, hi, Instr.fill, newRow, r0]
    unfold Oper.wp execOp
    simp only [ho, Sem.run_bind]
    have e0 : (Array.map (fun x : Nat × Operand => (x.1, a.eval x.2)) #[]) = #[] := by simp
    simp only [e0, hr, Result.andThen_ok]
    refine hK _ _ (h _ _ ?_)
    have M' := M.alloc #[] e
    have hok := M'.ok 0 _ rfl
    have := M'.upd 0 rfl (c' := .sl size (.slice (some ⟨w.heap.size, 0, none⟩) 0 0) 0 []) ⟨Kept.refl _ _, ⟨by simp, .inr ⟨w.heap.size, 0, 0, rfl, Nat.zero_le _, hok.1, Nat.le_refl _, by simp only [maxLen]; omega, hok.2.1, by rw [Nat.zero_mul]; exact hok.2.2⟩⟩, fun k hk => .inl (by simpa [Chunk.fp, Value.ownBlock] using hk)⟩
    simpa using this
end
end TL
end Go
