/- Texts of this seat, put together: RowsW, TokW, TokC, TokB, Frame, FrameS, FrameT. Each begins with a remark that says what is proved in it, and under which conditions. -/
import Derived.ProofKit
import Derived.OpenShut
import Derived.ShutString
import Derived.ChangeOld
import Derived.Below
import Derived.Deep.Slices
import Derived.ChangeArms
import Derived.Test.YtjlkiopncclomaaZa
import Derived.Test.YtjlkiopncclomaaZb
import Derived.Test.YtjlkiopncclomaaZc
import Derived.Test.YtjlkiopncclomaaZe
/- Slices of rows of bytes: each row is a slice of its own. No conditions but those each law names. -/
namespace Go
namespace TL
open Go.RowKit
/-- What rows show: each slice value, a list of bytes. -/
def InnerW (w : World) (vs : List Value) (ls : List (List UInt8)) : Prop := vs.length = ls.length ∧ ∀ (i : Nat) (v : Value) (l : List UInt8), vs[i]? = some v → ls[i]? = some l → SeesB w v l
def fpW (vs : List Value) : List Nat := vs.flatMap fun v => v.ownBlock.toList
def rowsC (vs : List Value) (ls : List (List UInt8)) : Chunk := .obj (fpW vs) (fun w => InnerW w vs ls)
theorem seesB_stay {w w' : World} {v : Value} {l : List UInt8} (S : SeesB w v l) (hs : w.heap.size ≤ w'.heap.size) (hb : ∀ k, v.ownBlock = some k → w'.heap[k]? = w.heap[k]?) : SeesB w' v l := by
  refine ⟨S.1, S.2.imp id ?_⟩
  rintro ⟨g, o, cap, rfl, hlt, hn, hc, hr⟩
  exact ⟨g, o, cap, rfl, Nat.lt_of_lt_of_le hlt hs, hn, hc, rangeAt_of_block hr (hb g rfl)⟩
theorem seesB_lt {w : World} {v : Value} {l : List UInt8} (S : SeesB w v l) : ∀ k, v.ownBlock = some k → k < w.heap.size := by
  intro k hk
  rcases S.2 with ⟨rfl, _⟩ | ⟨g, o, cap, rfl, hlt, _⟩
  · cases hk
  · cases hk; exact hlt
theorem seesB_addr {w : World} {v : Value} {l : List UInt8} (S : SeesB w v l) (h : 0 < l.length) : ∃ g so c, v = .slice (some ⟨g, so, none⟩) l.length c := by
  rcases S.2 with ⟨_, h0⟩ | ⟨g, so, c, hv, _⟩
  · omega
  · exact ⟨g, so, c, hv⟩
theorem mem_fpW {vs : List Value} {i : Nat} {v : Value} {k : Nat} (hi : vs[i]? = some v) (hk : v.ownBlock = some k) : k ∈ fpW vs := by
  unfold fpW
  exact List.mem_flatMap.2 ⟨v, List.mem_of_getElem? hi, by rw [hk]; simp⟩
theorem fpW_snoc (vs : List Value) (v : Value) : fpW (vs ++ [v]) = fpW vs ++ v.ownBlock.toList := by unfold fpW; simp
theorem rows_ok {w : World} {vs : List Value} {ls : List (List UInt8)} (h : InnerW w vs ls) : (rowsC vs ls).ok w := by
  refine ⟨fun k hk => ?_, h, fun w' hs hb => ⟨h.1, fun i v l hv hl => seesB_stay (h.2 i v l hv hl) hs fun k hk => hb k (mem_fpW hv hk)⟩⟩
  obtain ⟨v, hv, hk⟩ := List.mem_flatMap.1 hk
  obtain ⟨i, hi⟩ := List.mem_iff_getElem?.1 hv
  have hlt : i < ls.length := by rw [← h.1]; exact (List.getElem?_eq_some_iff.1 hi).1
  exact seesB_lt (h.2 i v _ hi (List.getElem?_eq_getElem hlt)) k (by simpa using hk)
theorem inner_snoc {w : World} {vs : List Value} {ls : List (List UInt8)} (h : InnerW w vs ls) {v : Value} {l : List UInt8} (S : SeesB w v l) : InnerW w (vs ++ [v]) (ls ++ [l]) := by
  refine ⟨by simp [h.1], fun i u m hu hm => ?_⟩
  by_cases e : i < vs.length
  · rw [List.getElem?_append_left e] at hu
    rw [List.getElem?_append_left (by rw [← h.1]; exact e)] at hm
    exact h.2 i u m hu hm
  · rw [List.getElem?_append_right (by omega)] at hu
    rw [List.getElem?_append_right (by rw [← h.1]; omega), ← h.1] at hm
    obtain ⟨j, ej⟩ : ∃ j, j = i - vs.length := ⟨_, rfl⟩
    rw [← ej] at hu hm
    cases j with
    | zero => simp at hu hm; subst hu; subst hm; exact S
    | succ j => simp at hu
/-- An empty row of rows. -/
theorem Mem.rows0 {F : List Nat} {w0 w : World} {L : List Chunk} (M : Mem F w0 w L) : Mem F w0 w (rowsC [] [] :: L) :=
  M.add _ (Kept.refl _ _) (rows_ok ⟨rfl, fun i v l h => by simp at h⟩) (by simp [rowsC, Chunk.fp, fpW])
/-- A piece goes into the rows. -/
theorem Mem.gather {F : List Nat} {w0 w : World} {c o d e : Chunk} {L : List Chunk} (M : Mem F w0 w (c :: o :: d :: L)) (hok : e.ok w) (hfp : ∀ k ∈ e.fp, k ∈ c.fp ∨ k ∈ d.fp) : Mem F w0 w (o :: e :: L) := by
  have key : ∀ (i : Nat) (x : Chunk), (o :: e :: L)[i]? = some x → (i = 1 ∧ x = e) ∨ (i ≠ 1 ∧ (c :: o :: d :: L)[i + 1]? = some x) := by
    intro i x hx
    match i with
    | 0 => exact .inr ⟨by omega, by simpa using hx⟩
    | 1 => exact .inl ⟨rfl, by simp at hx; exact hx.symm⟩
    | i + 2 => exact .inr ⟨by omega, by simpa using hx⟩
  have me : ∀ k ∈ e.fp, ∃ (j : Nat) (y : Chunk), (j = 0 ∨ j = 2) ∧ (c :: o :: d :: L)[j]? = some y ∧ k ∈ y.fp := fun k hk => by
    rcases hfp k hk with h | h
    · exact ⟨0, c, .inl rfl, rfl, h⟩
    · exact ⟨2, d, .inr rfl, rfl, h⟩
  refine ⟨M.kept, fun i x hx => ?_, fun i x hx k hk => ?_, fun i j x y hij hi hj k hk hk2 => ?_⟩
  · rcases key i x hx with ⟨_, rfl⟩ | ⟨_, h⟩
    · exact hok
    · exact M.ok _ x h
  · rcases key i x hx with ⟨_, rfl⟩ | ⟨_, h⟩
    · obtain ⟨j, y, _, hy, hky⟩ := me k hk
      exact M.own j y hy k hky
    · exact M.own _ x h k hk
  · rcases key i x hi with ⟨e1, rfl⟩ | ⟨n1, h1⟩ <;> rcases key j y hj with ⟨e2, rfl⟩ | ⟨n2, h2⟩
    · omega
    · obtain ⟨m, z, hm, hz, hkz⟩ := me k hk
      exact M.nd m (j + 1) z y (by omega) hz h2 k hkz hk2
    · obtain ⟨m, z, hm, hz, hkz⟩ := me k hk2
      exact M.nd (i + 1) m x z (by omega) h1 hz k hk hkz
    · exact M.nd _ _ x y (by omega) h1 h2 k hk hk2
/-- One more row: the piece that it lies in goes into the rows. -/
theorem Mem.rowIn {F : List Nat} {w0 w : World} {c o : Chunk} {vs : List Value} {ls : List (List UInt8)} {L : List Chunk} (M : Mem F w0 w (c :: o :: rowsC vs ls :: L)) {v : Value} {l : List UInt8} (S : SeesB w v l) (hv : ∀ k, v.ownBlock = some k → k ∈ c.fp) : Mem F w0 w (o :: rowsC (vs ++ [v]) (ls ++ [l]) :: L) := by
  refine M.gather (rows_ok (inner_snoc (M.ok 2 _ rfl).2.1 S)) fun k hk => ?_
  have hk' : k ∈ fpW (vs ++ [v]) := hk
  rw [fpW_snoc, List.mem_append] at hk'
  rcases hk' with h | h
  · exact .inr h
  · exact .inl (hv k (by simpa using h))
theorem own_addr {w : World} {size n m cap : Nat} {p : Option Addr} {xs : List Value} (h : (Chunk.sl size (.slice p m cap) n xs).ok w) (hn : 0 < n) : ∃ g so, p = some ⟨g, so, none⟩ := by
  rcases h.2 with ⟨_, h0⟩ | ⟨g, so, c, hv, _⟩
  · omega
  · injection hv with h1 _ _; exact ⟨g, so, h1⟩
section
variable {P : Program} {ops : Array Oper} {rest : List Oper} {o : Oper} {a : Act} {w w0 : World} {Q : Exit → Act → World → Prop} {F : List Nat} {L : List Chunk}
/-- A cell of a slice that is seen now. -/
theorem w_seenC {g so n m c : Nat} {vs : List Value} (S : Sees w 1 (.slice (some ⟨g, so, none⟩) m c) n vs) (t : TypeId) (x : Operand) (ho : o.op = .load t x) {off : Nat} (hx : a.eval x = .pointer (some ⟨g, off, none⟩)) (hw : Region.wanted o (yielded ops a.tmps) = true)
    (ht : scalarT P t = true) (k : Nat) (hoff : off = so + k) {v : Value} (hv : vs[k]? = some v) (h : wpList P ops Q rest (a.put o.dst v) w) : wpList P ops Q (o :: rest) a w :=
  wpW hw fun _ hK => by
    subst hoff
    have hc : w.cell? ⟨g, so + k, none⟩ = some v := by
      rcases S.2 with ⟨h0, _⟩ | ⟨g', o', c', hv', _, _, _, hr⟩
      · cases h0
      · injection hv' with h1 _ _; injection h1 with h1; injection h1 with h1 h2; subst h1; subst h2; exact hr k v hv
    unfold Oper.wp execOp
    simp only [ho, hx, Instr.loadAt, Instr.sureAddr, Sem.run_bind, Sem.run_pure, Result.andThen_ok, run_loadVar_scalar ht w g _ v hc]
    exact hK _ _ h
/-- A byte of a slice that is seen now. -/
theorem w_seenB {g so m c : Nat} {l : List UInt8} (S : SeesB w (.slice (some ⟨g, so, none⟩) m c) l) (t : TypeId) (x : Operand) (ho : o.op = .load t x) {off : Nat} (hx : a.eval x = .pointer (some ⟨g, off, none⟩)) (hw : Region.wanted o (yielded ops a.tmps) = true)
    (ht : scalarT P t = true) (k : Nat) (hoff : off = so + k) (hlt : k < l.length) (h : wpList P ops Q rest (a.put o.dst (.int .u8 (I8 (l.getD k 0)))) w) : wpList P ops Q (o :: rest) a w :=
  w_seenC S t x ho hx hw ht k hoff (getD_some hlt) h
/-- A slice literal of four bytes. -/
theorem w_build4 (M : Mem F w0 w L) {t e : TypeId} {bytes : Nat} (T : SliceT P t e 1 bytes) (x y z u : Operand) (ho : o.op = .buildSlice t 4 #[(0, x), (1, y), (2, z), (3, u)]) (hw : Region.wanted o (yielded ops a.tmps) = true) {b0 b1 b2 b3 : UInt8} (hx : a.eval x = .int .u8 (I8 b0)) (hy : a.eval y = .int .u8 (I8 b1)) (hz : a.eval z = .int .u8 (I8 b2)) (hu : a.eval u = .int .u8 (I8 b3))
    (h : ∀ (g : Nat) (w' : World), Mem F w0 w' (.sl 1 (.slice (some ⟨g, 0, none⟩) 4 4) 4 (bs [b0, b1, b2, b3]) :: L) → wpList P ops Q rest (a.put o.dst (.slice (some ⟨g, 0, none⟩) 4 4)) w') : wpList P ops Q (o :: rest) a w := by
  have T' := T
  obtain ⟨ht, ⟨i, z', hi, hz', hsize, hby, hzs⟩, hsz⟩ := T'
  refine w_buildSlice M T 4 _ ho hw ⟨by omega, by omega⟩ z' (by simp [hi, hz']) (bs [b0, b1, b2, b3]) ?_ fun g w' M' => h g w' ?_
  · have r4 : Array.range (4 * 1) = #[0, 1, 2, 3] := by decide
    rw [r4]
    simp only [List.map_toArray, List.map_cons, List.map_nil, hx, hy, hz, hu]
    generalize z'.cells[0 % z'.cells.size]! = c0
    generalize z'.cells[1 % z'.cells.size]! = c1
    generalize z'.cells[2 % z'.cells.size]! = c2
    generalize z'.cells[3 % z'.cells.size]! = c3
    rfl
  · have hok := M'.ok 0 _ rfl
    have := M'.upd 0 rfl (c' := .sl 1 (.slice (some ⟨g, 0, none⟩) 4 4) 4 (bs [b0, b1, b2, b3])) ⟨Kept.refl _ _, ⟨rfl, .inr ⟨g, 0, 4, rfl, Nat.zero_le _, hok.1, Nat.le_refl _, by simp only [maxLen]; omega, hok.2.1, hok.2.2⟩⟩, fun k hk => .inl (by simpa [Chunk.fp, Value.ownBlock] using hk)⟩
    simpa using this
/-- An empty slice literal. -/
theorem w_build0 (M : Mem F w0 w L) {t e : TypeId} {size bytes : Nat} (T : SliceT P t e size bytes) (ho : o.op = .buildSlice t 0 #[]) (hw : Region.wanted o (yielded ops a.tmps) = true)
    (h : ∀ (g : Nat) (w' : World), Mem F w0 w' (.sl size (.slice (some ⟨g, 0, none⟩) 0 0) 0 [] :: L) → wpList P ops Q rest (a.put o.dst (.slice (some ⟨g, 0, none⟩) 0 0)) w') : wpList P ops Q (o :: rest) a w :=
  wpW hw fun _ hK => by
    obtain ⟨ht, ⟨i, z', hi, hz', hsize, hby, hzs⟩, hsz⟩ := T
    have hr : (Instr.buildSlice t 0 #[]).run P w = .ok (.slice (some ⟨w.heap.size, 0, none⟩) 0 0) (w.alloc (.cells #[] e)) := by
      have r0 : Array.range 0 = (#[] : Array Nat) := by decide
      simp [Instr.buildSlice, run_underlying ht, sizeOf, typeInfo, hi, Instr.fill, newRow, r0]
    unfold Oper.wp execOp
    simp only [ho, Sem.run_bind]
    have e0 : (Array.map (fun x : Nat × Operand => (x.1, a.eval x.2)) #[]) = #[] := by simp
    simp only [e0, hr, Result.andThen_ok]
    refine hK _ _ (h _ _ ?_)
    have M' := M.alloc #[] e
    have hok := M'.ok 0 _ rfl
    have := M'.upd 0 rfl (c' := .sl size (.slice (some ⟨w.heap.size, 0, none⟩) 0 0) 0 []) ⟨Kept.refl _ _, ⟨by simp, .inr ⟨w.heap.size, 0, 0, rfl, Nat.zero_le _, hok.1, Nat.le_refl _, by simp only [maxLen]; omega, hok.2.1, by rw [Nat.zero_mul]; exact hok.2.2⟩⟩, fun k hk => .inl (by simpa [Chunk.fp, Value.ownBlock] using hk)⟩
    simpa using this
end
end TL
end Go

/- The walks of layer 24's example, awake, of the reference's Same, and of the laws TokenSame and TokenBack. No conditions but those each lemma names. -/
namespace Go
namespace TL
open Go.RowKit
def exM : List Mt := [([97, 112, 112], true), ([111, 112, 115], false)]
/-- A slice literal of two structs of two cells. -/
theorem w_buildTwo2 {P : Program} {ops : Array Oper} {rest : List Oper} {o : Oper} {a : Act} {w w0 : World} {Q : Exit → Act → World → Prop} {F : List Nat} {L : List Chunk} (M : Mem F w0 w L) {t e : TypeId} {bytes : Nat} (T : SliceT P t e 2 bytes) (x y : Operand) (ho : o.op = .buildSlice t 2 #[(0, x), (1, y)]) (hw : Region.wanted o (yielded ops a.tmps) = true) {p q r s : Value} (hx : a.eval x = .agg #[p, q]) (hy : a.eval y = .agg #[r, s])
    (h : ∀ (g : Nat) (w' : World), Mem F w0 w' (.sl 2 (.slice (some ⟨g, 0, none⟩) 2 2) 2 [p, q, r, s] :: L) → wpList P ops Q rest (a.put o.dst (.slice (some ⟨g, 0, none⟩) 2 2)) w') : wpList P ops Q (o :: rest) a w := by
  have T' := T
  obtain ⟨ht, ⟨i, z', hi, hz', hsize, hby, hzs⟩, hsz⟩ := T'
  refine w_buildSlice M T 2 _ ho hw ⟨by omega, by omega⟩ z' (by simp [hi, hz']) [p, q, r, s] ?_ fun g w' M' => h g w' ?_
  · have r4 : Array.range (2 * 2) = #[0, 1, 2, 3] := by decide
    rw [r4]
    simp only [List.map_toArray, List.map_cons, List.map_nil, hx, hy]
    generalize z'.cells[0 % z'.cells.size]! = c0
    generalize z'.cells[1 % z'.cells.size]! = c1
    generalize z'.cells[2 % z'.cells.size]! = c2
    generalize z'.cells[3 % z'.cells.size]! = c3
    rfl
  · have hok := M'.ok 0 _ rfl
    have := M'.upd 0 rfl (c' := .sl 2 (.slice (some ⟨g, 0, none⟩) 2 2) 2 [p, q, r, s]) ⟨Kept.refl _ _, ⟨rfl, .inr ⟨g, 0, 2, rfl, Nat.zero_le _, hok.1, Nat.le_refl _, by simp only [maxLen]; omega, hok.2.1, hok.2.2⟩⟩, fun k hk => .inl (by simpa [Chunk.fp, Value.ownBlock] using hk)⟩
    simpa using this
end TL
end Go
namespace Go.Proofs.Ytjlkiopncclomaa
open Go.RowKit Go.TL
set_option maxRecDepth 100000 in
set_option maxHeartbeats 2000000 in
theorem example_c (w : World) : Calls Try.prog 34 #[] w fun r w' => ∃ g, r = .returned (.agg #[.int .i64 3, .int .i64 1, .slice (some ⟨g, 0, none⟩) 2 2, .string (mkS [115])]) ∧ Mem [] w w' [.sl 2 (.slice (some ⟨g, 0, none⟩) 2 2) 2 (exM.flatMap mtV)] := by
  have M := Mem.start [] w
  go_enter Try.func34, Try.ntmps34
  go_wp2_with ((first | ((with_reducible refine tAlloc (some 0) 53 ?_); refine w_alloc M _ rfl rfl (.agg #[.int .i64 0, .int .i64 0, .slice none 0 0, .string (mkS [])]) ([.int .i64 0, .int .i64 0, .slice none 0 0, .string (mkS [])]) (by kernel_rfl) rfl ?_; clear M; intro gr w1 M) | ((with_reducible show wpList _ _ _ (Oper.mk _ (Op.buildSlice _ 2 _) _ _ _ _ :: _) _ _); go_must (refine w_buildTwo2 M mtT _ _ rfl rfl (by first | exact ev_tmp rfl | exact ev_const) (by first | exact ev_tmp rfl | exact ev_const) ?_; clear M; intro g w1 M)) | ((with_reducible refine tGuard ?_); first | refine w_strip rfl (by with_reducible rfl) ?_ | ((fail_if_success (refine w_lit false rfl (by with_reducible rfl) ?_)); (fail_if_success (refine w_lit true rfl (by with_reducible rfl) ?_)); refine w_case rfl ?_ ?_ <;> (intro hgd; rw [hgd]; try (exfalso; simp at hgd; omega)))) | fail | ((with_reducible refine tLoad ?_); go_must (refine w_at _ _ rfl (by exact ev_tmp rfl) ?_; intro hx; (first | refine w_load M _ _ _ rfl (by first | exact at0 | exact at1) hx rfl (by decide +kernel) (by exact rfl) ?_ | refine w_loadR M _ _ _ rfl (by first | exact at0 | exact at1) hx rfl (by decide +kernel) (by kernel_rfl) ?_); clear hx)) | ((with_reducible refine tStore ?_); go_must (refine w_at2 _ _ _ rfl (by exact ev_tmp rfl) (by first | exact ev_tmp rfl | exact ev_const) ?_; intro hx hy; (first | refine w_store M _ _ _ _ rfl (by first | exact at0 | exact at1) hx rfl hy rfl rfl (by decide +kernel) (by first | decide | simp | (simp; omega)) ?_ | refine w_storeR M _ _ _ _ rfl (by first | exact at0 | exact at1) hx rfl _ hy rfl (by kernel_rfl) (by simp [Value.oneCell']) (by first | rfl | assumption) ?_); clear hx hy M; intro w1 M; (try simp only [setC] at M))) | ((with_reducible refine tBox _ ?_); (refine w_box M _ _ rfl rfl _ rfl _ rfl ?_; clear M; intro g w1 M))) <;> (try conv => arg 5; simp only [Act.put, List.setIfInBounds_toArray, setC]))
  exact bodyPost_ret (results_row rfl _ _ gr 0 [.int .i64 3, .int .i64 1, .slice (some ⟨g, 0, none⟩) 2 2, .string (mkS [115])] _ rfl (M.ok 1 _ rfl).2.1 Try.underlying53 rfl (by kernel_rfl)) rfl ⟨g, rfl, M.pick _ id (fun _ _ _ _ h => h) (fun i x h => by cases i with | zero => (simp only [List.getElem?_cons_zero, Option.some.injEq] at h; subst h; rfl) | succ i => simp at h)⟩
set_option maxRecDepth 100000 in
set_option maxHeartbeats 4000000 in
theorem awake24_c (w : World) : Calls Try.prog 25 #[] w fun r w' => r = .returned (.bool true) ∧ Below w.heap.size w w' := by
  have M := Mem.start [] w
  have hrt : rightT 3 1 exM [115] = true := by decide
  have WC : ∀ v w, SeesL w 2 mtV v exM → Calls Try.prog 27 #[.string (mkS [120]), .int .u32 1, .int .u64 0, .agg #[.int .i64 3, .int .i64 1, v, .string (mkS [115])]] w fun r w' => r = .returned (.tuple #[.string (mkS (envB (wrapE [120] 1 0 ⟨3, 1, exM, [115]⟩))), .int .i64 0]) ∧ Below w.heap.size w w' := fun v w S => Wrap_ok [120] 1 0 3 1 exM [115] v w S (by decide) (by decide) (by decide) hrt
  have OC := fun w => Open_wrap [120] 1 0 3 1 exM [115] w (by decide) (by decide) (by decide) hrt
  obtain ⟨B, eB⟩ : ∃ B, B = envB (wrapE [120] 1 0 ⟨3, 1, exM, [115]⟩) := ⟨_, rfl⟩
  rw [← eB] at WC OC
  replace WC := Lib.hid WC
  have OC' : ∀ w, Calls Try.prog 33 #[.string (mkS [120]), .string (mkS B)] w fun r w' => ∃ p c, r = .returned (.tuple #[.agg #[.int .i64 3, .int .i64 1, .slice p 2 c, .string (mkS [115])], .int .i64 0]) ∧ Mem [] w w' [.sl 2 (.slice p 2 c) 2 (exM.flatMap mtV)] := OC
  replace OC' := Lib.hid OC'
  have HX0 : Hid (exM[0]? = some ([97, 112, 112], true)) := Lib.hid rfl
  have HX1 : Hid (exM[1]? = some ([111, 112, 115], false)) := Lib.hid rfl
  clear eB OC hrt
  go_enter Try.func25, Try.ntmps25
  go_wp2_with ((first | ((with_reducible refine tGuard ?_); (with_reducible refine w_stripE ?_ ?_); (focus (refine ⟨_, rfl, ?_⟩; first | (with_reducible rfl) | exact decide_eq_false (by omega) | exact decide_eq_true (by omega)))) | ((with_reducible refine tGuard ?_); first | ((with_reducible refine w_skip1 ?_ ?_); (focus (refine ⟨_, rfl, ?_⟩; first | (with_reducible rfl) | exact decide_eq_false (by omega) | exact decide_eq_true (by omega)))) | ((with_reducible refine w_skip0 ?_ ?_); (focus (refine ⟨_, rfl, ?_⟩; first | (with_reducible rfl) | exact decide_eq_false (by omega) | exact decide_eq_true (by omega))))) | ((with_reducible refine tAlloc (some 3) 53 ?_); refine w_alloc M _ rfl rfl (.agg #[.int .i64 0, .int .i64 0, .slice none 0 0, .string (mkS [])]) ([.int .i64 0, .int .i64 0, .slice none 0 0, .string (mkS [])]) (by kernel_rfl) rfl ?_; clear M; intro gt w1 M) | (go_at_call 34; go_must (refine (example_c _).mono ?_; rintro r w1 ⟨ge, rfl, MP⟩; replace M := M.join MP; clear MP; simp only [List.cons_append, List.nil_append] at M)) | (go_at_call 27; go_must (refine (WC.out _ _ (SeesL.own M 0 rfl rfl mtV_len)).mono ?_; rintro e w1 ⟨rfl, hb⟩; replace M := M.call hb; clear hb)) | (go_at_call 33; go_must (refine (OC'.out _).mono ?_; rintro r w1 ⟨p, c, rfl, MP⟩; replace M := M.join MP; clear MP; simp only [List.cons_append, List.nil_append] at M; have HA := M.ok 0 _ rfl; obtain ⟨gm, om, rfl⟩ := own_addr HA (by decide); clear HA)) | ((with_reducible refine tLoad ?_); refine w_at _ _ rfl (by exact ev_tmp rfl) ?_; intro hx; first | (refine w_ownA M 1 mtV_len rfl HX0.out _ _ rfl hx rfl (by decide +kernel) (by first | (with_reducible rfl) | omega) (by kernel_rfl) ?_; clear hx; (try conv => arg 5; simp only [Act.put, List.setIfInBounds_toArray, setC, mtV_eq])) | (refine w_own M 1 mtV_len rfl HX0.out _ _ rfl hx rfl (by decide +kernel) 0 (by first | (with_reducible rfl) | omega) rfl ?_; clear hx) | (refine w_own M 1 mtV_len rfl HX0.out _ _ rfl hx rfl (by decide +kernel) 1 (by first | (with_reducible rfl) | omega) rfl ?_; clear hx) | (refine w_own M 1 mtV_len rfl HX0.out _ _ rfl hx rfl (by decide +kernel) 2 (by first | (with_reducible rfl) | omega) rfl ?_; clear hx)) | ((with_reducible refine tLoad ?_); refine w_at _ _ rfl (by exact ev_tmp rfl) ?_; intro hx; first | (refine w_ownA M 1 mtV_len rfl HX1.out _ _ rfl hx rfl (by decide +kernel) (by first | (with_reducible rfl) | omega) (by kernel_rfl) ?_; clear hx; (try conv => arg 5; simp only [Act.put, List.setIfInBounds_toArray, setC, mtV_eq])) | (refine w_own M 1 mtV_len rfl HX1.out _ _ rfl hx rfl (by decide +kernel) 0 (by first | (with_reducible rfl) | omega) rfl ?_; clear hx) | (refine w_own M 1 mtV_len rfl HX1.out _ _ rfl hx rfl (by decide +kernel) 1 (by first | (with_reducible rfl) | omega) rfl ?_; clear hx) | (refine w_own M 1 mtV_len rfl HX1.out _ _ rfl hx rfl (by decide +kernel) 2 (by first | (with_reducible rfl) | omega) rfl ?_; clear hx)) | ((with_reducible refine tGuard ?_); refine w_strip rfl (by with_reducible rfl) ?_) | fail | ((with_reducible refine tLoad ?_); go_must (refine w_at _ _ rfl (by exact ev_tmp rfl) ?_; intro hx; (first | refine w_load M _ _ _ rfl (by first | exact at0 | exact at1) hx rfl (by decide +kernel) (by exact rfl) ?_ | refine w_loadR M _ _ _ rfl (by first | exact at0 | exact at1) hx rfl (by decide +kernel) (by kernel_rfl) ?_); clear hx)) | ((with_reducible refine tStore ?_); go_must (refine w_at2 _ _ _ rfl (by exact ev_tmp rfl) (by first | exact ev_tmp rfl | exact ev_const) ?_; intro hx hy; (first | refine w_store M _ _ _ _ rfl (by first | exact at0 | exact at1) hx rfl hy rfl rfl (by decide +kernel) (by first | decide | simp | (simp; omega)) ?_ | refine w_storeR M _ _ _ _ rfl (by first | exact at0 | exact at1) hx rfl _ hy rfl (by kernel_rfl) (by simp [Value.oneCell']) (by first | rfl | assumption) ?_); clear hx hy M; intro w1 M; (try simp only [setC] at M))) | ((with_reducible refine tBox _ ?_); (refine w_box M _ _ rfl rfl _ rfl _ rfl ?_; clear M; intro g w1 M))) <;> (try conv => arg 5; simp only [Act.put, List.setIfInBounds_toArray, setC]))
  go_ret
  exact ⟨by first | rfl | simp, M.below⟩
end Go.Proofs.Ytjlkiopncclomaa

/- The walk of layer 24's law TokenBack. No conditions but the bounds that every machine has. -/
namespace Go
namespace TL
open Go.RowKit
theorem sees_capM {w : World} {p : Option Addr} {n cap : Nat} {l : List Mt} (S : SeesL w 2 mtV (.slice p n cap) l) : l.length ≤ maxLen := by
  rcases S.sees.2 with ⟨_, h0⟩ | ⟨g, o, c, hv, _, hc, hm, _⟩
  · rw [h0]; exact Nat.zero_le _
  · exact Nat.le_trans hc hm
end TL
end Go
namespace Go.Proofs.Ytjlkiopncclomaa
open Go.RowKit Go.TL
set_option maxRecDepth 100000 in
set_option maxHeartbeats 8000000 in
theorem TokenBack_any (secret : List UInt8) (b : UInt32) (n : UInt64) (k e : Int) (l : List Mt) (s : List UInt8) (v : Value) (w : World) (hk : k ≤ 9223372036854775807) (he : e ≤ 9223372036854775807) (_hs : s.length ≤ maxLen) (S : SeesL w 2 mtV v l) (hm : ∀ x ∈ l, x.1.length ≤ maxLen) :
    Calls Try.prog 12 #[.string (mkS secret), .int .u32 (I32 b), .int .u64 (I64 n), .agg #[.int .i64 k, .int .i64 e, v, .string (mkS s)]] w fun r w' => r = .returned (.bool true) ∧ Below w.heap.size w w' := by
  obtain ⟨p, cap, rfl, hc⟩ := S.form
  have hcl := sees_capM S
  have M := Mem.start [] w
  by_cases h0 : (300 : Int) < (secret.length : Int)
  · go_enter Try.func12, Try.ntmps12
    go_wp2_with ((first | ((with_reducible refine tBox (some 7) ?_); refine w_box M _ _ rfl rfl _ rfl ([.int .i64 k, .int .i64 e, .slice p l.length cap, .string (mkS s)]) rfl ?_; clear M; intro gt w1 M) | ((with_reducible refine tGuard ?_); (with_reducible refine w_stripE ?_ ?_); (focus (refine ⟨_, rfl, ?_⟩; first | (with_reducible rfl) | exact decide_eq_false (by omega) | exact decide_eq_true (by omega)))) | ((with_reducible refine tGuard ?_); first | ((with_reducible refine w_skip1 ?_ ?_); (focus (refine ⟨_, rfl, ?_⟩; first | (with_reducible rfl) | exact decide_eq_false (by omega) | exact decide_eq_true (by omega)))) | ((with_reducible refine w_skip0 ?_ ?_); (focus (refine ⟨_, rfl, ?_⟩; first | (with_reducible rfl) | exact decide_eq_false (by omega) | exact decide_eq_true (by omega))))) | (go_at_call 25; go_must (refine (awake24_c _).mono ?_; rintro e w1 ⟨rfl, hb⟩; replace M := M.call hb; clear hb)) | ((with_reducible refine tGuard ?_); refine w_strip rfl (by with_reducible rfl) ?_) | fail | ((with_reducible refine tLoad ?_); go_must (refine w_at _ _ rfl (by exact ev_tmp rfl) ?_; intro hx; (first | refine w_load M _ _ _ rfl (by first | exact at0) hx rfl (by decide +kernel) (by exact rfl) ?_ | refine w_loadR M _ _ _ rfl (by first | exact at0) hx rfl (by decide +kernel) (by kernel_rfl) ?_); clear hx)) | ((with_reducible refine tStore ?_); go_must (refine w_at2 _ _ _ rfl (by exact ev_tmp rfl) (by first | exact ev_tmp rfl | exact ev_const) ?_; intro hx hy; (first | refine w_store M _ _ _ _ rfl (by first | exact at0) hx rfl hy rfl rfl (by decide +kernel) (by first | decide | simp | (simp; omega)) ?_ | refine w_storeR M _ _ _ _ rfl (by first | exact at0) hx rfl _ hy rfl (by kernel_rfl) (by simp [Value.oneCell']) (by first | rfl | assumption) ?_); clear hx hy M; intro w1 M; (try simp only [setC] at M))) | ((with_reducible refine tBox _ ?_); (refine w_box M _ _ rfl rfl _ rfl _ rfl ?_; clear M; intro g w1 M))) <;> (try conv => arg 5; simp only [Act.put, List.setIfInBounds_toArray, setC]))
    go_ret
    exact ⟨by first | rfl | simp, M.below⟩
  have G1 := fun w S => Great24_c k e l s (.slice p l.length cap) w S (by omega) hm
  cases h1 : greatT l s with
  | true =>
    rw [h1] at G1
    replace G1 := Lib.hid G1
    clear h1
    go_enter Try.func12, Try.ntmps12
    go_wp2_with ((first | ((with_reducible refine tBox (some 7) ?_); refine w_box M _ _ rfl rfl _ rfl ([.int .i64 k, .int .i64 e, .slice p l.length cap, .string (mkS s)]) rfl ?_; clear M; intro gt w1 M) | ((with_reducible refine tGuard ?_); (with_reducible refine w_stripE ?_ ?_); (focus (refine ⟨_, rfl, ?_⟩; first | (with_reducible rfl) | exact decide_eq_false (by omega) | exact decide_eq_true (by omega)))) | ((with_reducible refine tGuard ?_); first | ((with_reducible refine w_skip1 ?_ ?_); (focus (refine ⟨_, rfl, ?_⟩; first | (with_reducible rfl) | exact decide_eq_false (by omega) | exact decide_eq_true (by omega)))) | ((with_reducible refine w_skip0 ?_ ?_); (focus (refine ⟨_, rfl, ?_⟩; first | (with_reducible rfl) | exact decide_eq_false (by omega) | exact decide_eq_true (by omega))))) | (go_at_call 25; go_must (refine (awake24_c _).mono ?_; rintro e w1 ⟨rfl, hb⟩; replace M := M.call hb; clear hb)) | (go_at_call 26; go_must (refine (G1.out _ (S.now M)).mono ?_; rintro e w1 ⟨rfl, hb⟩; replace M := M.call hb; clear hb)) | ((with_reducible refine tGuard ?_); refine w_strip rfl (by with_reducible rfl) ?_) | fail | ((with_reducible refine tLoad ?_); go_must (refine w_at _ _ rfl (by exact ev_tmp rfl) ?_; intro hx; (first | refine w_load M _ _ _ rfl (by first | exact at0) hx rfl (by decide +kernel) (by exact rfl) ?_ | refine w_loadR M _ _ _ rfl (by first | exact at0) hx rfl (by decide +kernel) (by kernel_rfl) ?_); clear hx)) | ((with_reducible refine tStore ?_); go_must (refine w_at2 _ _ _ rfl (by exact ev_tmp rfl) (by first | exact ev_tmp rfl | exact ev_const) ?_; intro hx hy; (first | refine w_store M _ _ _ _ rfl (by first | exact at0) hx rfl hy rfl rfl (by decide +kernel) (by first | decide | simp | (simp; omega)) ?_ | refine w_storeR M _ _ _ _ rfl (by first | exact at0) hx rfl _ hy rfl (by kernel_rfl) (by simp [Value.oneCell']) (by first | rfl | assumption) ?_); clear hx hy M; intro w1 M; (try simp only [setC] at M))) | ((with_reducible refine tBox _ ?_); (refine w_box M _ _ rfl rfl _ rfl _ rfl ?_; clear M; intro g w1 M))) <;> (try conv => arg 5; simp only [Act.put, List.setIfInBounds_toArray, setC]))
    go_ret
    exact ⟨by first | rfl | simp, M.below⟩
  | false =>
    obtain ⟨hl, hsl, hn⟩ := greatT_of h1
    rw [h1] at G1
    replace G1 := Lib.hid G1
    clear h1
    have hn9 : ∀ x ∈ l, x.1.length ≤ 1000000000 := fun x hx => by have := hn x hx; omega
    have RC := fun v w S => tokRight_c k e l s v w S (by omega) hn9
    cases hr : rightT k e l s with
    | false =>
      have WC := fun w S => Wrap_no secret b n k e l s (.slice p l.length cap) w S (by omega) hn9 hr
      rw [hr, if_neg (by decide)] at RC
      replace RC := Lib.hid RC
      replace WC := Lib.hid WC
      clear hr
      go_enter Try.func12, Try.ntmps12
      go_wp2_with ((first | ((with_reducible refine tBox (some 7) ?_); refine w_box M _ _ rfl rfl _ rfl ([.int .i64 k, .int .i64 e, .slice p l.length cap, .string (mkS s)]) rfl ?_; clear M; intro gt w1 M) | ((with_reducible refine tGuard ?_); (with_reducible refine w_stripE ?_ ?_); (focus (refine ⟨_, rfl, ?_⟩; first | (with_reducible rfl) | exact decide_eq_false (by omega) | exact decide_eq_true (by omega)))) | ((with_reducible refine tGuard ?_); first | ((with_reducible refine w_skip1 ?_ ?_); (focus (refine ⟨_, rfl, ?_⟩; first | (with_reducible rfl) | exact decide_eq_false (by omega) | exact decide_eq_true (by omega)))) | ((with_reducible refine w_skip0 ?_ ?_); (focus (refine ⟨_, rfl, ?_⟩; first | (with_reducible rfl) | exact decide_eq_false (by omega) | exact decide_eq_true (by omega))))) | (go_at_call 25; go_must (refine (awake24_c _).mono ?_; rintro e w1 ⟨rfl, hb⟩; replace M := M.call hb; clear hb)) | (go_at_call 26; go_must (refine (G1.out _ (S.now M)).mono ?_; rintro e w1 ⟨rfl, hb⟩; replace M := M.call hb; clear hb)) | (go_at_call 27; go_must (refine (WC.out _ (S.now M)).mono ?_; rintro e w1 ⟨rfl, hb⟩; replace M := M.call hb; clear hb)) | (go_at_call 30; go_must (refine (RC.out _ _ (S.now M)).mono ?_; rintro e w1 ⟨rfl, hb⟩; replace M := M.call hb; clear hb)) | ((with_reducible refine tGuard ?_); refine w_strip rfl (by with_reducible rfl) ?_) | fail | ((with_reducible refine tLoad ?_); go_must (refine w_at _ _ rfl (by exact ev_tmp rfl) ?_; intro hx; (first | refine w_load M _ _ _ rfl (by first | exact at0) hx rfl (by decide +kernel) (by exact rfl) ?_ | refine w_loadR M _ _ _ rfl (by first | exact at0) hx rfl (by decide +kernel) (by kernel_rfl) ?_); clear hx)) | ((with_reducible refine tStore ?_); go_must (refine w_at2 _ _ _ rfl (by exact ev_tmp rfl) (by first | exact ev_tmp rfl | exact ev_const) ?_; intro hx hy; (first | refine w_store M _ _ _ _ rfl (by first | exact at0) hx rfl hy rfl rfl (by decide +kernel) (by first | decide | simp | (simp; omega)) ?_ | refine w_storeR M _ _ _ _ rfl (by first | exact at0) hx rfl _ hy rfl (by kernel_rfl) (by simp [Value.oneCell']) (by first | rfl | assumption) ?_); clear hx hy M; intro w1 M; (try simp only [setC] at M))) | ((with_reducible refine tBox _ ?_); (refine w_box M _ _ rfl rfl _ rfl _ rfl ?_; clear M; intro g w1 M))) <;> (try conv => arg 5; simp only [Act.put, List.setIfInBounds_toArray, setC]))
      go_ret
      exact ⟨by first | rfl | simp, M.below⟩
    | true =>
      obtain ⟨hk0, he1, _⟩ := rightT_of hr
      obtain ⟨k, rfl⟩ : ∃ m : Nat, k = m := ⟨k.toNat, by omega⟩
      obtain ⟨e, rfl⟩ : ∃ m : Nat, e = m := ⟨e.toNat, by omega⟩
      have hk' : k < 9223372036854775808 := by omega
      have he' : e < 9223372036854775808 := by omega
      have WC := fun w S => Wrap_ok secret b n k e l s (.slice p l.length cap) w S (by omega) hk' he' hr
      have OC := fun w => Open_wrap secret b n k e l s w (by omega) hk' he' hr
      have SC := fun v v' w S T => tokSame_c (k : Int) (e : Int) (k : Int) (e : Int) l l s s v v' w S T (by omega) (by omega)
      rw [sameT_self] at SC
      rw [hr, if_pos rfl] at RC
      have hE := wrap_right secret b n hk' he' hr
      have hRd := read_env _ hE []
      rw [List.append_nil, if_pos rfl] at hRd
      have hEl := envB_len hE
      have ht := hE.2.2
      have eW : wrapE secret b n ⟨k, e, l, s⟩ = ⟨0, b, n, (wrapE secret b n ⟨k, e, l, s⟩).d, (wrapE secret b n ⟨k, e, l, s⟩).t⟩ := rfl
      have DC := fun w => sealRead_c (envB (wrapE secret b n ⟨k, e, l, s⟩)) w hEl
      rw [hRd] at DC
      have DC' : ∀ w, Calls Try.prog 22 #[.string (mkS (envB (wrapE secret b n ⟨k, e, l, s⟩)))] w fun r w' => r = .returned (.tuple #[.agg (envC 0 b n (wrapE secret b n ⟨k, e, l, s⟩).d (wrapE secret b n ⟨k, e, l, s⟩).t).toArray, .int .i64 0]) ∧ Below w.heap.size w w' := DC
      obtain ⟨B, eB⟩ : ∃ B, B = envB (wrapE secret b n ⟨k, e, l, s⟩) := ⟨_, rfl⟩
      rw [← eB] at WC OC DC'
      obtain ⟨d, ed⟩ : ∃ d, d = (wrapE secret b n ⟨k, e, l, s⟩).d := ⟨_, rfl⟩
      obtain ⟨t, et⟩ : ∃ t, t = (wrapE secret b n ⟨k, e, l, s⟩).t := ⟨_, rfl⟩
      rw [← ed, ← et] at DC'
      rw [← et] at ht
      have OC' : ∀ w, Calls Try.prog 33 #[.string (mkS secret), .string (mkS B)] w fun r w' => ∃ p c, r = .returned (.tuple #[.agg #[.int .i64 k, .int .i64 e, .slice p l.length c, .string (mkS s)], .int .i64 0]) ∧ Mem [] w w' [.sl 2 (.slice p l.length c) l.length (l.flatMap mtV)] := OC
      replace RC := Lib.hid RC
      replace WC := Lib.hid WC
      replace OC' := Lib.hid OC'
      replace SC := Lib.hid SC
      replace DC' := Lib.hid DC'
      clear hr OC DC hE hRd hEl eW eB ed et hk0 he1 hk he
      go_enter Try.func12, Try.ntmps12
      go_wp2_with ((first | ((with_reducible refine tBox (some 7) ?_); refine w_box M _ _ rfl rfl _ rfl ([.int .i64 k, .int .i64 e, .slice p l.length cap, .string (mkS s)]) rfl ?_; clear M; intro gt w1 M) | ((with_reducible refine tGuard ?_); (with_reducible refine w_stripE ?_ ?_); (focus (refine ⟨_, rfl, ?_⟩; first | (with_reducible rfl) | exact decide_eq_false (by omega) | exact decide_eq_true (by omega)))) | ((with_reducible refine tGuard ?_); first | ((with_reducible refine w_skip1 ?_ ?_); (focus (refine ⟨_, rfl, ?_⟩; first | (with_reducible rfl) | exact decide_eq_false (by omega) | exact decide_eq_true (by omega)))) | ((with_reducible refine w_skip0 ?_ ?_); (focus (refine ⟨_, rfl, ?_⟩; first | (with_reducible rfl) | exact decide_eq_false (by omega) | exact decide_eq_true (by omega))))) | (go_at_call 25; go_must (refine (awake24_c _).mono ?_; rintro e w1 ⟨rfl, hb⟩; replace M := M.call hb; clear hb)) | (go_at_call 26; go_must (refine (G1.out _ (S.now M)).mono ?_; rintro e w1 ⟨rfl, hb⟩; replace M := M.call hb; clear hb)) | (go_at_call 27; go_must (refine (WC.out _ (S.now M)).mono ?_; rintro e w1 ⟨rfl, hb⟩; replace M := M.call hb; clear hb)) | (go_at_call 22; go_must (refine (DC'.out _).mono ?_; rintro e w1 ⟨rfl, hb⟩; replace M := M.call hb; clear hb)) | ((with_reducible refine tAlloc (some 11) 29 ?_); refine w_alloc M _ rfl rfl (.agg (envC 0 0 0 [] zeroT).toArray) (envC 0 0 0 [] zeroT) (by kernel_rfl) rfl ?_; clear M; intro gx w1 M) | ((with_reducible refine tAlloc (some 13) 53 ?_); refine w_alloc M _ rfl rfl (.agg #[.int .i64 0, .int .i64 0, .slice none 0 0, .string (mkS [])]) ([.int .i64 0, .int .i64 0, .slice none 0 0, .string (mkS [])]) (by kernel_rfl) rfl ?_; clear M; intro g13 w1 M) | ((with_reducible refine tAlloc (some 15) 53 ?_); refine w_alloc M _ rfl rfl (.agg #[.int .i64 0, .int .i64 0, .slice none 0 0, .string (mkS [])]) ([.int .i64 0, .int .i64 0, .slice none 0 0, .string (mkS [])]) (by kernel_rfl) rfl ?_; clear M; intro g15 w1 M) | (go_at_call 33; go_must (refine (OC'.out _).mono ?_; rintro r w1 ⟨p1, c1, rfl, MP⟩; replace M := M.join MP; clear MP; simp only [List.cons_append, List.nil_append] at M)) | (go_at_call 31; go_must ((first | (with_reducible refine (SC.out _ _ _ (S.now M) (SeesL.own M 3 rfl rfl mtV_len)).mono ?_) | (with_reducible refine (SC.out _ _ _ (S.now M) (SeesL.own M 1 rfl rfl mtV_len)).mono ?_)); rintro r w1 ⟨rfl, hb⟩; replace M := M.call hb; clear hb)) | (go_at_call 30; go_must (refine (RC.out _ _ (SeesL.own M 3 rfl rfl mtV_len)).mono ?_; rintro e w1 ⟨rfl, hb⟩; replace M := M.call hb; clear hb)) | ((with_reducible refine tLoad ?_); refine w_at _ _ rfl (by exact ev_tmp rfl) ?_; intro hx; (first | refine w_loadE M _ _ _ rfl (by first | exact at0) hx rfl (by decide +kernel) (by decide +kernel) (by first | assumption | exact zeroT_len | exact macL_len _ _) ?_ | refine w_loadTag M _ _ _ rfl (by first | exact at0) hx rfl (by decide +kernel) (by decide +kernel) (by first | assumption | exact zeroT_len | exact macL_len _ _) ?_); clear hx) | ((with_reducible refine tStore ?_); refine w_at2 _ _ _ rfl (by first | exact ev_tmp rfl | exact ev_const) (by first | exact ev_tmp rfl | exact ev_const) ?_; intro hx hy; (first | refine w_storeE M _ _ _ _ rfl (by first | exact at0) hx rfl hy rfl (by decide +kernel) (by first | assumption | exact zeroT_len | exact macL_len _ _) (by first | assumption | exact zeroT_len | exact macL_len _ _) ?_ | refine w_storeE (k := 0) (b := 0) (n := 0) (d := []) (tg := zeroT) M _ _ _ _ rfl (by first | exact at0) hx rfl hy rfl (by decide +kernel) zeroT_len (by first | assumption | exact zeroT_len | exact macL_len _ _) ?_ | refine w_storeE (tg := zeroT) M _ _ _ _ rfl (by first | exact at0) hx rfl hy rfl (by decide +kernel) zeroT_len (by first | assumption | exact zeroT_len | exact macL_len _ _) ?_ | refine w_storeTag M _ _ _ _ rfl (by first | exact at0) hx rfl hy (by decide +kernel) (by first | assumption | exact zeroT_len | exact macL_len _ _) (by first | assumption | exact zeroT_len | exact macL_len _ _) ?_ | refine w_storeData M _ _ _ _ rfl (by first | exact at0) hx rfl hy (by decide +kernel) ?_ | refine w_storeNum M _ _ _ _ rfl (by first | exact at0) hx rfl hy (by decide +kernel) ?_); clear hx hy M; intro w1 M; (try simp only [setC] at M)) | ((with_reducible refine tConv _ 45 9 ?_); (first | refine w_stringTag M _ _ _ _ _ rfl rfl (by first | exact at0) rfl (by first | assumption | exact zeroT_len | exact macL_len _ _) Try.underlying45 Try.underlying5 Try.underlying9 ?_)) | ((with_reducible refine tGuard ?_); refine w_strip rfl (by with_reducible rfl) ?_) | fail | ((with_reducible refine tLoad ?_); go_must (refine w_at _ _ rfl (by exact ev_tmp rfl) ?_; intro hx; (first | refine w_load M _ _ _ rfl (by first | exact at0 | exact at1 | exact at2 | exact at3 | exact at4 | exact at5) hx rfl (by decide +kernel) (by exact rfl) ?_ | refine w_loadR M _ _ _ rfl (by first | exact at0 | exact at1 | exact at2 | exact at3 | exact at4 | exact at5) hx rfl (by decide +kernel) (by kernel_rfl) ?_); clear hx)) | ((with_reducible refine tStore ?_); go_must (refine w_at2 _ _ _ rfl (by exact ev_tmp rfl) (by first | exact ev_tmp rfl | exact ev_const) ?_; intro hx hy; (first | refine w_store M _ _ _ _ rfl (by first | exact at0 | exact at1 | exact at2 | exact at3 | exact at4 | exact at5) hx rfl hy rfl rfl (by decide +kernel) (by first | decide | simp | (simp; omega)) ?_ | refine w_storeR M _ _ _ _ rfl (by first | exact at0 | exact at1 | exact at2 | exact at3 | exact at4 | exact at5) hx rfl _ hy rfl (by kernel_rfl) (by simp [Value.oneCell']) (by first | rfl | assumption) ?_); clear hx hy M; intro w1 M; (try simp only [setC] at M))) | ((with_reducible refine tBox _ ?_); (refine w_box M _ _ rfl rfl _ rfl _ rfl ?_; clear M; intro g w1 M))) <;> (try conv => arg 5; simp only [Act.put, List.setIfInBounds_toArray, setC]))
      go_ret
      exact ⟨by first | rfl | simp, M.below⟩
end Go.Proofs.Ytjlkiopncclomaa

/- The walks of layer 24's reference's Same, and of the law TokenSame. No conditions but the bounds that every machine has. -/
namespace Go
namespace TL
open Go.RowKit
theorem sees_cap {α : Type} {w : World} {size : Nat} {f : α → List Value} {p : Option Addr} {n cap : Nat} {l : List α} (S : SeesL w size f (.slice p n cap) l) : l.length ≤ maxLen := by
  rcases S.sees.2 with ⟨_, h0⟩ | ⟨g, o, c, hv, _, hc, hm, _⟩
  · rw [h0]; exact Nat.zero_le _
  · exact Nat.le_trans hc hm
end TL
end Go
namespace Go.Proofs.Ytjlkiopncclomaa
open Go.RowKit Go.TL
set_option maxRecDepth 100000 in
set_option maxHeartbeats 4000000 in
theorem ref24Same_c (k e k' e' : Int) (l l' : List Mt) (s s' : List UInt8) (v v' : Value) (w : World) (S : SeesL w 2 mtV v l) (T : SeesL w 2 mtV v' l') (hl : l.length ≤ 1000000) (_hl' : l'.length ≤ 1000000) :
    Calls Try.prog 32 #[.agg #[.int .i64 k, .int .i64 e, v, .string (mkS s)], .agg #[.int .i64 k', .int .i64 e', v', .string (mkS s')]] w fun r w' => r = .returned (.bool (sameT k e l s k' e' l' s')) ∧ Below w.heap.size w w' := by
  obtain ⟨p, cap, rfl, hc⟩ := S.form
  obtain ⟨p', cap', rfl, hc'⟩ := T.form
  have M := Mem.start [] w
  have hne := @eqM_ne l l'
  have heq := @eqM_eq l l'
  have hln := @eqM_len l l'
  have SL := @sameT_l k e k' e' l l' s s'
  have SK := @sameT_k k e k' e' l l' s s'
  have SE := @sameT_e k e k' e' l l' s s'
  have SS : (l == l') = true → k = k' → e = e' → sameT k e l s k' e' l' s' = (s == s') := fun h h1 h2 => by subst h1; subst h2; exact sameT_s h
  obtain ⟨R, eR⟩ : ∃ R, R = sameT k e l s k' e' l' s' := ⟨_, rfl⟩
  rw [← eR] at SL SK SE SS
  rw [← eR]
  have HNE := Lib.hid fun k x y h1 h2 h => SL (hne k x y h1 h2 h)
  replace heq := Lib.hid heq
  replace SS := Lib.hid SS
  replace SK := Lib.hid SK
  replace SE := Lib.hid SE
  clear eR hne
  by_cases hn : l.length = l'.length
  · have hq : ((l.length : Int) != (l'.length : Int)) = false := by simp; omega
    clear SL hln
    go_enter Try.func32, Try.ntmps32
    replace hn := Lib.hid hn
    go_wp2_with ((first | ((with_reducible refine tBox (some 2) ?_); refine w_box M _ _ rfl rfl _ rfl ([.int .i64 k, .int .i64 e, .slice p l.length cap, .string (mkS s)]) rfl ?_; clear M; intro ga w1 M) | ((with_reducible refine tBox (some 3) ?_); refine w_box M _ _ rfl rfl _ rfl ([.int .i64 k', .int .i64 e', .slice p' l'.length cap', .string (mkS s')]) rfl ?_; clear M; intro gb w1 M) | ((with_reducible refine tGuard ?_); first | refine w_strip rfl (by with_reducible rfl) ?_ | ((fail_if_success (refine w_lit false rfl (by with_reducible rfl) ?_)); (fail_if_success (refine w_lit true rfl (by with_reducible rfl) ?_)); refine w_case rfl ?_ ?_ <;> (intro hgd; rw [hgd]; try (exfalso; simp at hgd; omega)))) | fail | ((with_reducible refine tLoad ?_); go_must (refine w_at _ _ rfl (by exact ev_tmp rfl) ?_; intro hx; (first | refine w_load M _ _ _ rfl (by first | exact at0 | exact at1) hx rfl (by decide +kernel) (by exact rfl) ?_ | refine w_loadR M _ _ _ rfl (by first | exact at0 | exact at1) hx rfl (by decide +kernel) (by kernel_rfl) ?_); clear hx)) | ((with_reducible refine tStore ?_); go_must (refine w_at2 _ _ _ rfl (by exact ev_tmp rfl) (by first | exact ev_tmp rfl | exact ev_const) ?_; intro hx hy; (first | refine w_store M _ _ _ _ rfl (by first | exact at0 | exact at1) hx rfl hy rfl rfl (by decide +kernel) (by first | decide | simp | (simp; omega)) ?_ | refine w_storeR M _ _ _ _ rfl (by first | exact at0 | exact at1) hx rfl _ hy rfl (by kernel_rfl) (by simp [Value.oneCell']) (by first | rfl | assumption) ?_); clear hx hy M; intro w1 M; (try simp only [setC] at M))) | ((with_reducible refine tBox _ ?_); (refine w_box M _ _ rfl rfl _ rfl _ rfl ?_; clear M; intro g w1 M))) <;> (try conv => arg 5; simp only [Act.put, List.setIfInBounds_toArray, setC]))
    go_loopw [5] (fun iv wr => ∃ j : Nat, j ≤ l.length ∧ iv = .int .i64 j ∧ Hid (∀ (i : Nat), i < j → l[i]? = l'[i]?) ∧ Mem [] w wr [.row gb [.int .i64 k', .int .i64 e', .slice p' l'.length cap', .string (mkS s')], .row ga [.int .i64 k, .int .i64 e, .slice p l.length cap, .string (mkS s)]]) (fun iv _ => l.length - (intOf iv).toNat)
    case atStart => exact ⟨0, by omega, rfl, Lib.hid (by omega), M⟩
    case round =>
      clear M
      obtain ⟨j, hj, rfl, HK, M⟩ := hrel
      by_cases hlt : j < l.length
      · obtain ⟨g, so, rfl⟩ := S.addr (by omega)
        obtain ⟨g', so', rfl⟩ := T.addr (by have := hn.out; omega)
        have hkm : j < l'.length := by have := hn.out; omega
        obtain ⟨⟨a, b⟩, hx⟩ : ∃ x, l[j]? = some x := ⟨_, List.getElem?_eq_getElem hlt⟩
        obtain ⟨⟨c, d⟩, hy⟩ : ∃ x, l'[j]? = some x := ⟨_, List.getElem?_eq_getElem hkm⟩
        have HX := Lib.hid hx; clear hx
        have HY := Lib.hid hy; clear hy
        by_cases hab : (a, b) = (c, d)
        · simp only [Prod.mk.injEq] at hab
          obtain ⟨rfl, rfl⟩ := hab
          go_wp2_with ((first | ((with_reducible refine tLoad ?_); refine w_at _ _ rfl (by exact ev_tmp rfl) ?_; intro hx; first | (refine w_seeA M S HX.out _ _ rfl hx rfl (by decide +kernel) (by first | (with_reducible rfl) | omega) (by kernel_rfl) ?_; clear hx; (try conv => arg 5; simp only [Act.put, List.setIfInBounds_toArray, setC, mtV_eq])) | (refine w_see M S HX.out _ _ rfl hx rfl (by decide +kernel) 0 (by first | (with_reducible rfl) | omega) rfl ?_; clear hx) | (refine w_see M S HX.out _ _ rfl hx rfl (by decide +kernel) 1 (by first | (with_reducible rfl) | omega) rfl ?_; clear hx) | (refine w_see M S HX.out _ _ rfl hx rfl (by decide +kernel) 2 (by first | (with_reducible rfl) | omega) rfl ?_; clear hx) | (refine w_seeA M T HY.out _ _ rfl hx rfl (by decide +kernel) (by first | (with_reducible rfl) | omega) (by kernel_rfl) ?_; clear hx; (try conv => arg 5; simp only [Act.put, List.setIfInBounds_toArray, setC, mtV_eq])) | (refine w_see M T HY.out _ _ rfl hx rfl (by decide +kernel) 0 (by first | (with_reducible rfl) | omega) rfl ?_; clear hx) | (refine w_see M T HY.out _ _ rfl hx rfl (by decide +kernel) 1 (by first | (with_reducible rfl) | omega) rfl ?_; clear hx) | (refine w_see M T HY.out _ _ rfl hx rfl (by decide +kernel) 2 (by first | (with_reducible rfl) | omega) rfl ?_; clear hx)) | ((with_reducible show Code.wp _ (Code.region 6 _ _) _ _ _); go_must (refine region_det [(0, false), (2, false), (5, false), (7, false), (1, false), (3, false), (4, false), (6, false), (8, false), (9, false), (10, false)] [(24, .cells), (29, .cells)] (by kernel_rfl) (by kernel_rfl) rfl (by kernel_rfl) ?_; replace M := M.drew; simp only [reord, opAt, List.map_cons, List.map_nil, List.getElem?_toArray, List.getElem?_cons_zero, List.getElem?_cons_succ, Option.getD_some])) | ((with_reducible show Seg _ _ _ _); go_must (first | refine Seg.intro ⟨fun h => absurd rfl h, ?_⟩ | refine Seg.intro ⟨fun _ => (by repeat' (first | exact ixOk_nil M.kept | refine ixOk_cons rfl (by first | exact M.ok 0 _ rfl | exact M.ok 1 _ rfl | exact M.ok 2 _ rfl | exact M.ok 3 _ rfl) ?_)), ?_⟩ | refine Seg.intro ⟨(by repeat' (first | (with_reducible exact needs_nil) | refine needs_at rfl (by first | (show Shape.ok Shape.nums _ = true; exact nums_bs _) | rfl) ?_)), (by repeat' (first | (with_reducible exact ats_nil) | refine ats_cons (by first | exact ev_tmp rfl | rfl) ?_)), ?_⟩)) | ((with_reducible show OnlyN _ _ _ _ _); refine OnlyN.intro (by kernel_rfl) ?_) | ((with_reducible refine tGuard ?_); refine w_strip rfl (by with_reducible rfl) ?_) | fail | ((with_reducible refine tLoad ?_); go_must (refine w_at _ _ rfl (by exact ev_tmp rfl) ?_; intro hx; (first | refine w_load M _ _ _ rfl (by first | exact at0 | exact at1) hx rfl (by decide +kernel) (by exact rfl) ?_ | refine w_loadR M _ _ _ rfl (by first | exact at0 | exact at1) hx rfl (by decide +kernel) (by kernel_rfl) ?_); clear hx)) | ((with_reducible refine tStore ?_); go_must (refine w_at2 _ _ _ rfl (by exact ev_tmp rfl) (by first | exact ev_tmp rfl | exact ev_const) ?_; intro hx hy; (first | refine w_store M _ _ _ _ rfl (by first | exact at0 | exact at1) hx rfl hy rfl rfl (by decide +kernel) (by first | decide | simp | (simp; omega)) ?_ | refine w_storeR M _ _ _ _ rfl (by first | exact at0 | exact at1) hx rfl _ hy rfl (by kernel_rfl) (by simp [Value.oneCell']) (by first | rfl | assumption) ?_); clear hx hy M; intro w1 M; (try simp only [setC] at M))) | ((with_reducible refine tBox _ ?_); (refine w_box M _ _ rfl rfl _ rfl _ rfl ?_; clear M; intro g w1 M))) <;> (try conv => arg 5; simp only [Act.put, List.setIfInBounds_toArray, setC]))
          go_roundw
          case rel => exact ⟨j + 1, by omega, by go_num, Lib.hid fun i hi => by
            rcases Nat.lt_succ_iff_lt_or_eq.1 hi with hi | rfl
            · exact HK.out i hi
            · exact HX.out.trans HY.out.symm, M⟩
          case measure => simp [intOf]; omega
        · have e0 : R = false := HNE.out j _ _ HX.out HY.out hab
          subst e0
          have hab := Lib.hid (mtV_ne hab)
          go_wp2_with ((first | ((with_reducible refine tLoad ?_); refine w_at _ _ rfl (by exact ev_tmp rfl) ?_; intro hx; first | (refine w_seeA M S HX.out _ _ rfl hx rfl (by decide +kernel) (by first | (with_reducible rfl) | omega) (by kernel_rfl) ?_; clear hx; (try conv => arg 5; simp only [Act.put, List.setIfInBounds_toArray, setC, mtV_eq])) | (refine w_see M S HX.out _ _ rfl hx rfl (by decide +kernel) 0 (by first | (with_reducible rfl) | omega) rfl ?_; clear hx) | (refine w_see M S HX.out _ _ rfl hx rfl (by decide +kernel) 1 (by first | (with_reducible rfl) | omega) rfl ?_; clear hx) | (refine w_see M S HX.out _ _ rfl hx rfl (by decide +kernel) 2 (by first | (with_reducible rfl) | omega) rfl ?_; clear hx) | (refine w_seeA M T HY.out _ _ rfl hx rfl (by decide +kernel) (by first | (with_reducible rfl) | omega) (by kernel_rfl) ?_; clear hx; (try conv => arg 5; simp only [Act.put, List.setIfInBounds_toArray, setC, mtV_eq])) | (refine w_see M T HY.out _ _ rfl hx rfl (by decide +kernel) 0 (by first | (with_reducible rfl) | omega) rfl ?_; clear hx) | (refine w_see M T HY.out _ _ rfl hx rfl (by decide +kernel) 1 (by first | (with_reducible rfl) | omega) rfl ?_; clear hx) | (refine w_see M T HY.out _ _ rfl hx rfl (by decide +kernel) 2 (by first | (with_reducible rfl) | omega) rfl ?_; clear hx)) | ((with_reducible show Code.wp _ (Code.region 6 _ _) _ _ _); go_must (refine region_det [(0, false), (2, false), (5, false), (7, false), (1, false), (3, false), (4, false), (6, false), (8, false), (9, false), (10, false)] [(24, .cells), (29, .cells)] (by kernel_rfl) (by kernel_rfl) rfl (by kernel_rfl) ?_; replace M := M.drew; simp only [reord, opAt, List.map_cons, List.map_nil, List.getElem?_toArray, List.getElem?_cons_zero, List.getElem?_cons_succ, Option.getD_some])) | ((with_reducible show Seg _ _ _ _); go_must (first | refine Seg.intro ⟨fun h => absurd rfl h, ?_⟩ | refine Seg.intro ⟨fun _ => (by repeat' (first | exact ixOk_nil M.kept | refine ixOk_cons rfl (by first | exact M.ok 0 _ rfl | exact M.ok 1 _ rfl | exact M.ok 2 _ rfl | exact M.ok 3 _ rfl) ?_)), ?_⟩ | refine Seg.intro ⟨(by repeat' (first | (with_reducible exact needs_nil) | refine needs_at rfl (by first | (show Shape.ok Shape.nums _ = true; exact nums_bs _) | rfl) ?_)), (by repeat' (first | (with_reducible exact ats_nil) | refine ats_cons (by first | exact ev_tmp rfl | rfl) ?_)), ?_⟩)) | ((with_reducible show OnlyN _ _ _ _ _); refine OnlyN.intro (by kernel_rfl) ?_) | ((with_reducible refine tGuard ?_); refine w_strip rfl (by with_reducible rfl) ?_) | fail | ((with_reducible refine tLoad ?_); go_must (refine w_at _ _ rfl (by exact ev_tmp rfl) ?_; intro hx; (first | refine w_load M _ _ _ rfl (by first | exact at0 | exact at1) hx rfl (by decide +kernel) (by exact rfl) ?_ | refine w_loadR M _ _ _ rfl (by first | exact at0 | exact at1) hx rfl (by decide +kernel) (by kernel_rfl) ?_); clear hx)) | ((with_reducible refine tStore ?_); go_must (refine w_at2 _ _ _ rfl (by exact ev_tmp rfl) (by first | exact ev_tmp rfl | exact ev_const) ?_; intro hx hy; (first | refine w_store M _ _ _ _ rfl (by first | exact at0 | exact at1) hx rfl hy rfl rfl (by decide +kernel) (by first | decide | simp | (simp; omega)) ?_ | refine w_storeR M _ _ _ _ rfl (by first | exact at0 | exact at1) hx rfl _ hy rfl (by kernel_rfl) (by simp [Value.oneCell']) (by first | rfl | assumption) ?_); clear hx hy M; intro w1 M; (try simp only [setC] at M))) | ((with_reducible refine tBox _ ?_); (refine w_box M _ _ rfl rfl _ rfl _ rfl ?_; clear M; intro g w1 M))) <;> (try conv => arg 5; simp only [Act.put, List.setIfInBounds_toArray, setC]))
          all_goals (first | exact absurd ⟨‹a = c›, ‹b = d›⟩ hab.out | (go_ret; exact ⟨rfl, M.below⟩))
      · obtain rfl : j = l.length := by omega
        have heq' := heq.out hn.out HK.out
        have hkm : ¬ l.length < l'.length := by have := hn.out; omega
        by_cases h1 : k = k'
        rotate_left
        · have e0 : R = false := SK.out h1
          subst e0
          have h1' : (k == k') = false := beq_eq_false_iff_ne.2 h1
          clear h1 heq'
          go_wp2_with ((first | ((with_reducible refine tGuard ?_); (with_reducible refine w_stripE ?_ ?_); (focus (refine ⟨_, rfl, ?_⟩; first | (with_reducible rfl) | exact decide_eq_false (by omega) | exact decide_eq_true (by omega)))) | ((with_reducible refine tGuard ?_); first | ((with_reducible refine w_skip1 ?_ ?_); (focus (refine ⟨_, rfl, ?_⟩; first | (with_reducible rfl) | exact decide_eq_false (by omega) | exact decide_eq_true (by omega)))) | ((with_reducible refine w_skip0 ?_ ?_); (focus (refine ⟨_, rfl, ?_⟩; first | (with_reducible rfl) | exact decide_eq_false (by omega) | exact decide_eq_true (by omega))))) | ((with_reducible refine tGuard ?_); refine w_strip rfl (by with_reducible rfl) ?_) | fail | ((with_reducible refine tLoad ?_); go_must (refine w_at _ _ rfl (by exact ev_tmp rfl) ?_; intro hx; (first | refine w_load M _ _ _ rfl (by first | exact at0 | exact at1) hx rfl (by decide +kernel) (by exact rfl) ?_ | refine w_loadR M _ _ _ rfl (by first | exact at0 | exact at1) hx rfl (by decide +kernel) (by kernel_rfl) ?_); clear hx)) | ((with_reducible refine tStore ?_); go_must (refine w_at2 _ _ _ rfl (by exact ev_tmp rfl) (by first | exact ev_tmp rfl | exact ev_const) ?_; intro hx hy; (first | refine w_store M _ _ _ _ rfl (by first | exact at0 | exact at1) hx rfl hy rfl rfl (by decide +kernel) (by first | decide | simp | (simp; omega)) ?_ | refine w_storeR M _ _ _ _ rfl (by first | exact at0 | exact at1) hx rfl _ hy rfl (by kernel_rfl) (by simp [Value.oneCell']) (by first | rfl | assumption) ?_); clear hx hy M; intro w1 M; (try simp only [setC] at M))) | ((with_reducible refine tBox _ ?_); (refine w_box M _ _ rfl rfl _ rfl _ rfl ?_; clear M; intro g w1 M))) <;> (try conv => arg 5; simp only [Act.put, List.setIfInBounds_toArray, setC]))
          go_ret
          exact ⟨by first | rfl | simp, M.below⟩
        by_cases h2 : e = e'
        rotate_left
        · have e0 : R = false := SE.out h2
          subst e0
          subst h1
          have h2' : (e == e') = false := beq_eq_false_iff_ne.2 h2
          clear h2 heq'
          go_wp2_with ((first | ((with_reducible refine tGuard ?_); (with_reducible refine w_stripE ?_ ?_); (focus (refine ⟨_, rfl, ?_⟩; first | (with_reducible rfl) | exact decide_eq_false (by omega) | exact decide_eq_true (by omega)))) | ((with_reducible refine tGuard ?_); first | ((with_reducible refine w_skip1 ?_ ?_); (focus (refine ⟨_, rfl, ?_⟩; first | (with_reducible rfl) | exact decide_eq_false (by omega) | exact decide_eq_true (by omega)))) | ((with_reducible refine w_skip0 ?_ ?_); (focus (refine ⟨_, rfl, ?_⟩; first | (with_reducible rfl) | exact decide_eq_false (by omega) | exact decide_eq_true (by omega))))) | ((with_reducible refine tGuard ?_); refine w_strip rfl (by with_reducible rfl) ?_) | fail | ((with_reducible refine tLoad ?_); go_must (refine w_at _ _ rfl (by exact ev_tmp rfl) ?_; intro hx; (first | refine w_load M _ _ _ rfl (by first | exact at0 | exact at1) hx rfl (by decide +kernel) (by exact rfl) ?_ | refine w_loadR M _ _ _ rfl (by first | exact at0 | exact at1) hx rfl (by decide +kernel) (by kernel_rfl) ?_); clear hx)) | ((with_reducible refine tStore ?_); go_must (refine w_at2 _ _ _ rfl (by exact ev_tmp rfl) (by first | exact ev_tmp rfl | exact ev_const) ?_; intro hx hy; (first | refine w_store M _ _ _ _ rfl (by first | exact at0 | exact at1) hx rfl hy rfl rfl (by decide +kernel) (by first | decide | simp | (simp; omega)) ?_ | refine w_storeR M _ _ _ _ rfl (by first | exact at0 | exact at1) hx rfl _ hy rfl (by kernel_rfl) (by simp [Value.oneCell']) (by first | rfl | assumption) ?_); clear hx hy M; intro w1 M; (try simp only [setC] at M))) | ((with_reducible refine tBox _ ?_); (refine w_box M _ _ rfl rfl _ rfl _ rfl ?_; clear M; intro g w1 M))) <;> (try conv => arg 5; simp only [Act.put, List.setIfInBounds_toArray, setC]))
          go_ret
          exact ⟨by first | rfl | simp, M.below⟩
        have e0 : R = (s == s') := SS.out heq' h1 h2
        subst e0
        subst h1
        subst h2
        clear heq'
        go_wp2_with ((first | ((with_reducible refine tGuard ?_); (with_reducible refine w_stripE ?_ ?_); (focus (refine ⟨_, rfl, ?_⟩; first | (with_reducible rfl) | exact decide_eq_false (by omega) | exact decide_eq_true (by omega)))) | ((with_reducible refine tGuard ?_); first | ((with_reducible refine w_skip1 ?_ ?_); (focus (refine ⟨_, rfl, ?_⟩; first | (with_reducible rfl) | exact decide_eq_false (by omega) | exact decide_eq_true (by omega)))) | ((with_reducible refine w_skip0 ?_ ?_); (focus (refine ⟨_, rfl, ?_⟩; first | (with_reducible rfl) | exact decide_eq_false (by omega) | exact decide_eq_true (by omega))))) | ((with_reducible refine tGuard ?_); refine w_strip rfl (by with_reducible rfl) ?_) | fail | ((with_reducible refine tLoad ?_); go_must (refine w_at _ _ rfl (by exact ev_tmp rfl) ?_; intro hx; (first | refine w_load M _ _ _ rfl (by first | exact at0 | exact at1) hx rfl (by decide +kernel) (by exact rfl) ?_ | refine w_loadR M _ _ _ rfl (by first | exact at0 | exact at1) hx rfl (by decide +kernel) (by kernel_rfl) ?_); clear hx)) | ((with_reducible refine tStore ?_); go_must (refine w_at2 _ _ _ rfl (by exact ev_tmp rfl) (by first | exact ev_tmp rfl | exact ev_const) ?_; intro hx hy; (first | refine w_store M _ _ _ _ rfl (by first | exact at0 | exact at1) hx rfl hy rfl rfl (by decide +kernel) (by first | decide | simp | (simp; omega)) ?_ | refine w_storeR M _ _ _ _ rfl (by first | exact at0 | exact at1) hx rfl _ hy rfl (by kernel_rfl) (by simp [Value.oneCell']) (by first | rfl | assumption) ?_); clear hx hy M; intro w1 M; (try simp only [setC] at M))) | ((with_reducible refine tBox _ ?_); (refine w_box M _ _ rfl rfl _ rfl _ rfl ?_; clear M; intro g w1 M))) <;> (try conv => arg 5; simp only [Act.put, List.setIfInBounds_toArray, setC]))
        go_ret
        exact ⟨by first | rfl | simp, M.below⟩
  · have hq : ((l.length : Int) != (l'.length : Int)) = true := by simp; omega
    obtain rfl : R = false := SL (hln hn)
    clear SL hln
    go_enter Try.func32, Try.ntmps32
    go_wp2_with ((first | ((with_reducible refine tBox (some 2) ?_); refine w_box M _ _ rfl rfl _ rfl ([.int .i64 k, .int .i64 e, .slice p l.length cap, .string (mkS s)]) rfl ?_; clear M; intro ga w1 M) | ((with_reducible refine tBox (some 3) ?_); refine w_box M _ _ rfl rfl _ rfl ([.int .i64 k', .int .i64 e', .slice p' l'.length cap', .string (mkS s')]) rfl ?_; clear M; intro gb w1 M) | ((with_reducible refine tGuard ?_); first | refine w_strip rfl (by with_reducible rfl) ?_ | ((fail_if_success (refine w_lit false rfl (by with_reducible rfl) ?_)); (fail_if_success (refine w_lit true rfl (by with_reducible rfl) ?_)); refine w_case rfl ?_ ?_ <;> (intro hgd; rw [hgd]; try (exfalso; simp at hgd; omega)))) | fail | ((with_reducible refine tLoad ?_); go_must (refine w_at _ _ rfl (by exact ev_tmp rfl) ?_; intro hx; (first | refine w_load M _ _ _ rfl (by first | exact at0 | exact at1) hx rfl (by decide +kernel) (by exact rfl) ?_ | refine w_loadR M _ _ _ rfl (by first | exact at0 | exact at1) hx rfl (by decide +kernel) (by kernel_rfl) ?_); clear hx)) | ((with_reducible refine tStore ?_); go_must (refine w_at2 _ _ _ rfl (by exact ev_tmp rfl) (by first | exact ev_tmp rfl | exact ev_const) ?_; intro hx hy; (first | refine w_store M _ _ _ _ rfl (by first | exact at0 | exact at1) hx rfl hy rfl rfl (by decide +kernel) (by first | decide | simp | (simp; omega)) ?_ | refine w_storeR M _ _ _ _ rfl (by first | exact at0 | exact at1) hx rfl _ hy rfl (by kernel_rfl) (by simp [Value.oneCell']) (by first | rfl | assumption) ?_); clear hx hy M; intro w1 M; (try simp only [setC] at M))) | ((with_reducible refine tBox _ ?_); (refine w_box M _ _ rfl rfl _ rfl _ rfl ?_; clear M; intro g w1 M))) <;> (try conv => arg 5; simp only [Act.put, List.setIfInBounds_toArray, setC]))
    go_ret
    exact ⟨rfl, M.below⟩
set_option maxRecDepth 100000 in
set_option maxHeartbeats 8000000 in
theorem TokenSame_any (k e : Int) (l : List Mt) (s : List UInt8) (k' e' : Int) (l' : List Mt) (s' : List UInt8) (v v' : Value) (w : World) (_hk : k ≤ 9223372036854775807) (_he : e ≤ 9223372036854775807) (_hs : s.length ≤ maxLen) (S : SeesL w 2 mtV v l) (hm : ∀ x ∈ l, x.1.length ≤ maxLen) (_hk' : k' ≤ 9223372036854775807) (_he' : e' ≤ 9223372036854775807) (_hs' : s'.length ≤ maxLen) (T : SeesL w 2 mtV v' l') (hm' : ∀ x ∈ l', x.1.length ≤ maxLen) :
    Calls Try.prog 11 #[.agg #[.int .i64 k, .int .i64 e, v, .string (mkS s)], .agg #[.int .i64 k', .int .i64 e', v', .string (mkS s')]] w fun r w' => r = .returned (.bool true) ∧ Below w.heap.size w w' := by
  obtain ⟨p, cap, rfl, hc⟩ := S.form
  obtain ⟨p', cap', rfl, hc'⟩ := T.form
  have hcl := sees_cap S
  have hcl' := sees_cap T
  have M := Mem.start [] w
  have G1 := fun w S => Great24_c k e l s (.slice p l.length cap) w S (by omega) hm
  have G2 := fun w T => Great24_c k' e' l' s' (.slice p' l'.length cap') w T (by omega) hm'
  cases h1 : greatT l s with
  | true =>
    rw [h1] at G1
    replace G1 := Lib.hid G1
    clear h1 G2
    go_enter Try.func11, Try.ntmps11
    go_wp2_with ((first | ((with_reducible refine tBox (some 2) ?_); refine w_box M _ _ rfl rfl _ rfl ([.int .i64 k, .int .i64 e, .slice p l.length cap, .string (mkS s)]) rfl ?_; clear M; intro ga w1 M) | ((with_reducible refine tBox (some 3) ?_); refine w_box M _ _ rfl rfl _ rfl ([.int .i64 k', .int .i64 e', .slice p' l'.length cap', .string (mkS s')]) rfl ?_; clear M; intro gb w1 M) | ((with_reducible refine tGuard ?_); (with_reducible refine w_stripE ?_ ?_); (focus (refine ⟨_, rfl, ?_⟩; first | (with_reducible rfl) | exact decide_eq_false (by omega) | exact decide_eq_true (by omega)))) | ((with_reducible refine tGuard ?_); first | ((with_reducible refine w_skip1 ?_ ?_); (focus (refine ⟨_, rfl, ?_⟩; first | (with_reducible rfl) | exact decide_eq_false (by omega) | exact decide_eq_true (by omega)))) | ((with_reducible refine w_skip0 ?_ ?_); (focus (refine ⟨_, rfl, ?_⟩; first | (with_reducible rfl) | exact decide_eq_false (by omega) | exact decide_eq_true (by omega))))) | (go_at_call 25; go_must (refine (awake24_c _).mono ?_; rintro e w1 ⟨rfl, hb⟩; replace M := M.call hb; clear hb)) | (go_at_call 26; go_must (refine (G1.out _ (S.now M)).mono ?_; rintro e w1 ⟨rfl, hb⟩; replace M := M.call hb; clear hb)) | ((with_reducible refine tGuard ?_); refine w_strip rfl (by with_reducible rfl) ?_) | fail | ((with_reducible refine tLoad ?_); go_must (refine w_at _ _ rfl (by exact ev_tmp rfl) ?_; intro hx; (first | refine w_load M _ _ _ rfl (by first | exact at0 | exact at1) hx rfl (by decide +kernel) (by exact rfl) ?_ | refine w_loadR M _ _ _ rfl (by first | exact at0 | exact at1) hx rfl (by decide +kernel) (by kernel_rfl) ?_); clear hx)) | ((with_reducible refine tStore ?_); go_must (refine w_at2 _ _ _ rfl (by exact ev_tmp rfl) (by first | exact ev_tmp rfl | exact ev_const) ?_; intro hx hy; (first | refine w_store M _ _ _ _ rfl (by first | exact at0 | exact at1) hx rfl hy rfl rfl (by decide +kernel) (by first | decide | simp | (simp; omega)) ?_ | refine w_storeR M _ _ _ _ rfl (by first | exact at0 | exact at1) hx rfl _ hy rfl (by kernel_rfl) (by simp [Value.oneCell']) (by first | rfl | assumption) ?_); clear hx hy M; intro w1 M; (try simp only [setC] at M))) | ((with_reducible refine tBox _ ?_); (refine w_box M _ _ rfl rfl _ rfl _ rfl ?_; clear M; intro g w1 M))) <;> (try conv => arg 5; simp only [Act.put, List.setIfInBounds_toArray, setC]))
    go_ret
    exact ⟨by first | rfl | simp, M.below⟩
  | false =>
    obtain ⟨hl, hsl, _⟩ := greatT_of h1
    rw [h1] at G1
    cases h2 : greatT l' s' with
    | true =>
      rw [h2] at G2
      replace G1 := Lib.hid G1
      replace G2 := Lib.hid G2
      clear h1 h2
      go_enter Try.func11, Try.ntmps11
      go_wp2_with ((first | ((with_reducible refine tBox (some 2) ?_); refine w_box M _ _ rfl rfl _ rfl ([.int .i64 k, .int .i64 e, .slice p l.length cap, .string (mkS s)]) rfl ?_; clear M; intro ga w1 M) | ((with_reducible refine tBox (some 3) ?_); refine w_box M _ _ rfl rfl _ rfl ([.int .i64 k', .int .i64 e', .slice p' l'.length cap', .string (mkS s')]) rfl ?_; clear M; intro gb w1 M) | ((with_reducible refine tGuard ?_); (with_reducible refine w_stripE ?_ ?_); (focus (refine ⟨_, rfl, ?_⟩; first | (with_reducible rfl) | exact decide_eq_false (by omega) | exact decide_eq_true (by omega)))) | ((with_reducible refine tGuard ?_); first | ((with_reducible refine w_skip1 ?_ ?_); (focus (refine ⟨_, rfl, ?_⟩; first | (with_reducible rfl) | exact decide_eq_false (by omega) | exact decide_eq_true (by omega)))) | ((with_reducible refine w_skip0 ?_ ?_); (focus (refine ⟨_, rfl, ?_⟩; first | (with_reducible rfl) | exact decide_eq_false (by omega) | exact decide_eq_true (by omega))))) | (go_at_call 25; go_must (refine (awake24_c _).mono ?_; rintro e w1 ⟨rfl, hb⟩; replace M := M.call hb; clear hb)) | (go_at_call 26; go_must ((first | (with_reducible refine (G1.out _ (S.now M)).mono ?_) | (with_reducible refine (G2.out _ (T.now M)).mono ?_)); rintro r w1 ⟨rfl, hb⟩; replace M := M.call hb; clear hb)) | ((with_reducible refine tGuard ?_); refine w_strip rfl (by with_reducible rfl) ?_) | fail | ((with_reducible refine tLoad ?_); go_must (refine w_at _ _ rfl (by exact ev_tmp rfl) ?_; intro hx; (first | refine w_load M _ _ _ rfl (by first | exact at0 | exact at1) hx rfl (by decide +kernel) (by exact rfl) ?_ | refine w_loadR M _ _ _ rfl (by first | exact at0 | exact at1) hx rfl (by decide +kernel) (by kernel_rfl) ?_); clear hx)) | ((with_reducible refine tStore ?_); go_must (refine w_at2 _ _ _ rfl (by exact ev_tmp rfl) (by first | exact ev_tmp rfl | exact ev_const) ?_; intro hx hy; (first | refine w_store M _ _ _ _ rfl (by first | exact at0 | exact at1) hx rfl hy rfl rfl (by decide +kernel) (by first | decide | simp | (simp; omega)) ?_ | refine w_storeR M _ _ _ _ rfl (by first | exact at0 | exact at1) hx rfl _ hy rfl (by kernel_rfl) (by simp [Value.oneCell']) (by first | rfl | assumption) ?_); clear hx hy M; intro w1 M; (try simp only [setC] at M))) | ((with_reducible refine tBox _ ?_); (refine w_box M _ _ rfl rfl _ rfl _ rfl ?_; clear M; intro g w1 M))) <;> (try conv => arg 5; simp only [Act.put, List.setIfInBounds_toArray, setC]))
      go_ret
      exact ⟨by first | rfl | simp, M.below⟩
    | false =>
      obtain ⟨hl', hsl', _⟩ := greatT_of h2
      rw [h2] at G2
      have C1 := fun w S T => tokSame_c k e k' e' l l' s s' (.slice p l.length cap) (.slice p' l'.length cap') w S T (by omega) (by omega)
      have C2 := fun w S T => tokSame_c k e k e l l s s (.slice p l.length cap) (.slice p l.length cap) w S T (by omega) (by omega)
      rw [sameT_self] at C2
      have C3 := fun w S T => ref24Same_c k e k' e' l l' s s' (.slice p l.length cap) (.slice p' l'.length cap') w S T (by omega) (by omega)
      obtain ⟨q, eq⟩ : ∃ q, q = sameT k e l s k' e' l' s' := ⟨_, rfl⟩
      rw [← eq] at C1 C3
      have O1 := fun w S => own_c k e l s (.slice p l.length cap) w S
      have O2 := fun w T => own_c k' e' l' s' (.slice p' l'.length cap') w T
      replace G1 := Lib.hid G1
      replace G2 := Lib.hid G2
      replace C1 := Lib.hid C1
      replace C2 := Lib.hid C2
      replace C3 := Lib.hid C3
      replace O1 := Lib.hid O1
      replace O2 := Lib.hid O2
      clear h1 h2 eq
      have hqq : (q == q) = true := beq_self_eq_true q
      go_enter Try.func11, Try.ntmps11
      go_wp2_with ((first | ((with_reducible refine tBox (some 2) ?_); refine w_box M _ _ rfl rfl _ rfl ([.int .i64 k, .int .i64 e, .slice p l.length cap, .string (mkS s)]) rfl ?_; clear M; intro ga w1 M) | ((with_reducible refine tBox (some 3) ?_); refine w_box M _ _ rfl rfl _ rfl ([.int .i64 k', .int .i64 e', .slice p' l'.length cap', .string (mkS s')]) rfl ?_; clear M; intro gb w1 M) | ((with_reducible show Code.wp _ (Code.region 5 _ _) _ _ _); go_must (have MR := M; refine region_lowc [(0, false), (1, false), (3, false), (5, false), (2, true), (4, true), (6, true), (7, true), (8, false), (9, false), (10, false), (11, false), (12, true), (13, false), (14, false)] [(15, .bool), (20, .bool)] [(0, _), (1, _), (3, _), (5, _), (10, _), (11, _)] (IxOk MR [1, 0]) 15 (by kernel_rfl) (by kernel_rfl) rfl (by kernel_rfl) (lows_cons (by first | exact stab_ix MR 1 0 rfl rfl (by decide) (by decide +kernel) rfl | exact stab_ixB MR 1 0 rfl rfl (by decide) (by decide +kernel) (by first | assumption | omega) | exact stab_ix32 MR 1 0 rfl rfl (by decide) (by decide +kernel) (by first | assumption | omega | (simp; omega)) | exact stab_ixH MR 1 rfl rfl (by decide) (by decide +kernel) (by first | assumption | exact lenI | exact lenS ‹_› | rfl) (by decide +kernel) | exact stab_ixW32 MR 1 rfl rfl (by decide) (by decide +kernel) (by first | assumption | exact lenI | exact lenS ‹_› | rfl) (by decide +kernel) | exact stab_ixR MR 1 rfl rfl (by decide) (by decide +kernel) (by kernel_rfl) | exact stab_ixW MR 1 rfl rfl (by decide) (by first | assumption | exact lenI | exact lenS ‹_› | rfl) (by decide) Try.underlying45 Try.underlying5 Try.underlying9 | exact stab_ixS MR 1 rfl rfl (by decide) (by first | rfl | simp | assumption) Try.underlying45 Try.underlying5 Try.underlying9) (lows_cons (by first | exact stab_ix MR 0 0 rfl rfl (by decide) (by decide +kernel) rfl | exact stab_ixB MR 0 0 rfl rfl (by decide) (by decide +kernel) (by first | assumption | omega) | exact stab_ix32 MR 0 0 rfl rfl (by decide) (by decide +kernel) (by first | assumption | omega | (simp; omega)) | exact stab_ixH MR 0 rfl rfl (by decide) (by decide +kernel) (by first | assumption | exact lenI | exact lenS ‹_› | rfl) (by decide +kernel) | exact stab_ixW32 MR 0 rfl rfl (by decide) (by decide +kernel) (by first | assumption | exact lenI | exact lenS ‹_› | rfl) (by decide +kernel) | exact stab_ixR MR 0 rfl rfl (by decide) (by decide +kernel) (by kernel_rfl) | exact stab_ixW MR 0 rfl rfl (by decide) (by first | assumption | exact lenI | exact lenS ‹_› | rfl) (by decide) Try.underlying45 Try.underlying5 Try.underlying9 | exact stab_ixS MR 0 rfl rfl (by decide) (by first | rfl | simp | assumption) Try.underlying45 Try.underlying5 Try.underlying9) (lows_cons (by first | exact stab_ix MR 1 0 rfl rfl (by decide) (by decide +kernel) rfl | exact stab_ixB MR 1 0 rfl rfl (by decide) (by decide +kernel) (by first | assumption | omega) | exact stab_ix32 MR 1 0 rfl rfl (by decide) (by decide +kernel) (by first | assumption | omega | (simp; omega)) | exact stab_ixH MR 1 rfl rfl (by decide) (by decide +kernel) (by first | assumption | exact lenI | exact lenS ‹_› | rfl) (by decide +kernel) | exact stab_ixW32 MR 1 rfl rfl (by decide) (by decide +kernel) (by first | assumption | exact lenI | exact lenS ‹_› | rfl) (by decide +kernel) | exact stab_ixR MR 1 rfl rfl (by decide) (by decide +kernel) (by kernel_rfl) | exact stab_ixW MR 1 rfl rfl (by decide) (by first | assumption | exact lenI | exact lenS ‹_› | rfl) (by decide) Try.underlying45 Try.underlying5 Try.underlying9 | exact stab_ixS MR 1 rfl rfl (by decide) (by first | rfl | simp | assumption) Try.underlying45 Try.underlying5 Try.underlying9) (lows_cons (by first | exact stab_ix MR 0 0 rfl rfl (by decide) (by decide +kernel) rfl | exact stab_ixB MR 0 0 rfl rfl (by decide) (by decide +kernel) (by first | assumption | omega) | exact stab_ix32 MR 0 0 rfl rfl (by decide) (by decide +kernel) (by first | assumption | omega | (simp; omega)) | exact stab_ixH MR 0 rfl rfl (by decide) (by decide +kernel) (by first | assumption | exact lenI | exact lenS ‹_› | rfl) (by decide +kernel) | exact stab_ixW32 MR 0 rfl rfl (by decide) (by decide +kernel) (by first | assumption | exact lenI | exact lenS ‹_› | rfl) (by decide +kernel) | exact stab_ixR MR 0 rfl rfl (by decide) (by decide +kernel) (by kernel_rfl) | exact stab_ixW MR 0 rfl rfl (by decide) (by first | assumption | exact lenI | exact lenS ‹_› | rfl) (by decide) Try.underlying45 Try.underlying5 Try.underlying9 | exact stab_ixS MR 0 rfl rfl (by decide) (by first | rfl | simp | assumption) Try.underlying45 Try.underlying5 Try.underlying9) (lows_cons (by first | exact stab_ix MR 1 0 rfl rfl (by decide) (by decide +kernel) rfl | exact stab_ixB MR 1 0 rfl rfl (by decide) (by decide +kernel) (by first | assumption | omega) | exact stab_ix32 MR 1 0 rfl rfl (by decide) (by decide +kernel) (by first | assumption | omega | (simp; omega)) | exact stab_ixH MR 1 rfl rfl (by decide) (by decide +kernel) (by first | assumption | exact lenI | exact lenS ‹_› | rfl) (by decide +kernel) | exact stab_ixW32 MR 1 rfl rfl (by decide) (by decide +kernel) (by first | assumption | exact lenI | exact lenS ‹_› | rfl) (by decide +kernel) | exact stab_ixR MR 1 rfl rfl (by decide) (by decide +kernel) (by kernel_rfl) | exact stab_ixW MR 1 rfl rfl (by decide) (by first | assumption | exact lenI | exact lenS ‹_› | rfl) (by decide) Try.underlying45 Try.underlying5 Try.underlying9 | exact stab_ixS MR 1 rfl rfl (by decide) (by first | rfl | simp | assumption) Try.underlying45 Try.underlying5 Try.underlying9) (lows_cons (by first | exact stab_ix MR 1 0 rfl rfl (by decide) (by decide +kernel) rfl | exact stab_ixB MR 1 0 rfl rfl (by decide) (by decide +kernel) (by first | assumption | omega) | exact stab_ix32 MR 1 0 rfl rfl (by decide) (by decide +kernel) (by first | assumption | omega | (simp; omega)) | exact stab_ixH MR 1 rfl rfl (by decide) (by decide +kernel) (by first | assumption | exact lenI | exact lenS ‹_› | rfl) (by decide +kernel) | exact stab_ixW32 MR 1 rfl rfl (by decide) (by decide +kernel) (by first | assumption | exact lenI | exact lenS ‹_› | rfl) (by decide +kernel) | exact stab_ixR MR 1 rfl rfl (by decide) (by decide +kernel) (by kernel_rfl) | exact stab_ixW MR 1 rfl rfl (by decide) (by first | assumption | exact lenI | exact lenS ‹_› | rfl) (by decide) Try.underlying45 Try.underlying5 Try.underlying9 | exact stab_ixS MR 1 rfl rfl (by decide) (by first | rfl | simp | assumption) Try.underlying45 Try.underlying5 Try.underlying9) lows_nil)))))) (ixOk_self MR _) ?_; replace M := M.drew; simp only [planC, opAt, List.getElem?_toArray, List.getElem?_cons_zero, List.getElem?_cons_succ, Option.getD_some])) | ((with_reducible refine tGuard ?_); (with_reducible refine w_stripE ?_ ?_); (focus (refine ⟨_, rfl, ?_⟩; first | (with_reducible rfl) | exact decide_eq_false (by omega) | exact decide_eq_true (by omega)))) | ((with_reducible refine tGuard ?_); first | ((with_reducible refine w_skip1 ?_ ?_); (focus (refine ⟨_, rfl, ?_⟩; first | (with_reducible rfl) | exact decide_eq_false (by omega) | exact decide_eq_true (by omega)))) | ((with_reducible refine w_skip0 ?_ ?_); (focus (refine ⟨_, rfl, ?_⟩; first | (with_reducible rfl) | exact decide_eq_false (by omega) | exact decide_eq_true (by omega))))) | (go_at_call 25; go_must (refine (awake24_c _).mono ?_; rintro e w1 ⟨rfl, hb⟩; replace M := M.call hb; clear hb)) | (go_at_call 26; go_must ((first | (with_reducible refine (G1.out _ (S.now M)).mono ?_) | (with_reducible refine (G2.out _ (T.now M)).mono ?_)); rintro r w1 ⟨rfl, hb⟩; replace M := M.call hb; clear hb)) | (go_at_call 31; go_must ((first | (with_reducible refine (C1.out _ (S.now M) (T.now M)).mono ?_) | (with_reducible refine (C2.out _ (S.now M) (S.now M)).mono ?_)); rintro r w1 ⟨rfl, hb⟩; replace M := M.call hb; clear hb)) | (go_at_call 29; go_must ((first | (with_reducible refine (O1.out _ (S.now M)).mono ?_) | (with_reducible refine (O2.out _ (T.now M)).mono ?_)); rintro r w1 ⟨rfl, hb⟩; replace M := M.call hb; clear hb)) | (go_at_call 32; go_must (refine (C3.out _ (S.now M) (T.now M)).mono ?_; rintro e w1 ⟨rfl, hb⟩; replace M := M.call hb; clear hb)) | ((with_reducible show Seg _ _ _ _); go_must (first | refine Seg.intro ⟨fun h => absurd rfl h, ?_⟩ | refine Seg.intro ⟨fun _ => (by repeat' (first | exact ixOk_nil M.kept | refine ixOk_cons rfl (by first | exact M.ok 0 _ rfl | exact M.ok 1 _ rfl | exact M.ok 2 _ rfl | exact M.ok 3 _ rfl) ?_)), ?_⟩ | refine Seg.intro ⟨(by repeat' (first | (with_reducible exact needs_nil) | refine needs_at rfl (by first | (show Shape.ok Shape.nums _ = true; exact nums_bs _) | rfl) ?_)), (by repeat' (first | (with_reducible exact ats_nil) | refine ats_cons (by first | exact ev_tmp rfl | rfl) ?_)), ?_⟩)) | ((with_reducible show OnlyN _ _ _ _ _); refine OnlyN.intro (by kernel_rfl) ?_) | ((with_reducible refine tGuard ?_); first | refine w_strip rfl (by with_reducible rfl) ?_ | ((fail_if_success (refine w_lit false rfl (by with_reducible rfl) ?_)); (fail_if_success (refine w_lit true rfl (by with_reducible rfl) ?_)); refine w_case rfl ?_ ?_ <;> (intro hgd; rw [hgd]; try (exfalso; simp at hgd; omega)))) | fail | ((with_reducible refine tLoad ?_); go_must (refine w_at _ _ rfl (by exact ev_tmp rfl) ?_; intro hx; (first | refine w_load M _ _ _ rfl (by first | exact at0 | exact at1) hx rfl (by decide +kernel) (by exact rfl) ?_ | refine w_loadR M _ _ _ rfl (by first | exact at0 | exact at1) hx rfl (by decide +kernel) (by kernel_rfl) ?_); clear hx)) | ((with_reducible refine tStore ?_); go_must (refine w_at2 _ _ _ rfl (by exact ev_tmp rfl) (by first | exact ev_tmp rfl | exact ev_const) ?_; intro hx hy; (first | refine w_store M _ _ _ _ rfl (by first | exact at0 | exact at1) hx rfl hy rfl rfl (by decide +kernel) (by first | decide | simp | (simp; omega)) ?_ | refine w_storeR M _ _ _ _ rfl (by first | exact at0 | exact at1) hx rfl _ hy rfl (by kernel_rfl) (by simp [Value.oneCell']) (by first | rfl | assumption) ?_); clear hx hy M; intro w1 M; (try simp only [setC] at M))) | ((with_reducible refine tBox _ ?_); (refine w_box M _ _ rfl rfl _ rfl _ rfl ?_; clear M; intro g w1 M))) <;> (try conv => arg 5; simp only [Act.put, List.setIfInBounds_toArray, setC]))
      go_ret
      exact ⟨by first | rfl | simp, M.below⟩
end Go.Proofs.Ytjlkiopncclomaa

/- What the statements' frames lean on: an array of bytes that came in; a byte that came in. No conditions but those each lemma names. -/
namespace Go
namespace TL
open Go.RowKit
theorem wf_u8 {a : Int} (h : (Lit.int .u8 a).wf = true) : ∃ x : UInt8, a = I8 x := by
  have hb : IntKind.u8.min ≤ a ∧ a ≤ IntKind.u8.max := by simpa [Lit.wf] using h
  have h0 : IntKind.u8.min = 0 := by decide
  have h1 : IntKind.u8.max = 255 := by decide
  rw [h0, h1] at hb
  refine ⟨UInt8.ofNat a.toNat, ?_⟩
  rw [I8_eq, UInt8.toNat_ofNat']
  omega
theorem eq_of_cells {n : Nat} (cs : List Value) (h : ∀ i, i < n → ∃ x : UInt8, (cs.drop i).take 1 = [vb x]) (hl : cs.length = n) : ∃ l : List UInt8, l.length = n ∧ cs = l.map vb := by
  induction n generalizing cs with
  | zero => exact ⟨[], rfl, by simpa using hl⟩
  | succ n ih =>
    cases cs with
    | nil => simp at hl
    | cons c cs =>
      obtain ⟨x, hx⟩ := h 0 (by omega)
      simp only [List.drop_zero, List.take_succ_cons, List.take_zero, List.cons.injEq, and_true] at hx
      obtain ⟨l, h1, h2⟩ := ih cs (fun i hi => by simpa using h (i + 1) (by omega)) (by simpa using hl)
      exact ⟨x :: l, by simp [h1], by rw [hx, h2]; rfl⟩
theorem open_arr {P : Program} {w : World} {H : Type} {enc : TypeId × Value → H} {base : Nat} {spare : Bool} {held : _} {r : Reach} {b0 : Nat} {t e : TypeId} {n : Nat} {v : Value} {d : DataW H} {p : List MemPlace} (hu : P.underlying t = some (.array n e)) (he : P.underlying e = some (.int .u8)) (hc : P.cellsOf e = 1) (hct : P.cellsOf t = n)
    (hv : Value.okWide P w r b0 t v) (h : DataW.Trod enc P w base held spare t v d p) : ∃ l : List UInt8, l.length = n ∧ v = .agg (l.map vb).toArray := by
  simp only [Value.okWide, hu] at hv
  obtain ⟨cs, rfl, hsz, _⟩ := hv
  obtain ⟨fuel, hf⟩ := h
  obtain ⟨xs, m, _, _, _, hxl, hi⟩ := DataW.trod_array hu hf
  obtain ⟨l, h1, h2⟩ := eq_of_cells (n := n) cs.toList (fun i hin => by
    have h3 := hi i hin
    rw [hc, Nat.mul_one, List.getElem?_eq_getElem (by omega)] at h3
    obtain ⟨k, h4, _, h5⟩ := DataW.trod_int he h3
    obtain ⟨x, rfl⟩ := wf_u8 h5
    exact ⟨x, h4⟩) (by rw [Array.length_toList, hsz, hct])
  exact ⟨l, h1, by rw [← h2]⟩
end TL
end Go

/- What the statements' frames lean on where a slice of structs comes in: it is seen, element by element. No conditions but those each lemma names. -/
namespace Go
namespace TL
open Go.RowKit Go.ChangeShapes Go.WideShapes Go.Deep
theorem listOf {α : Type} {p : Nat → α → Prop} : ∀ n : Nat, (∀ i, i < n → ∃ x, p i x) → ∃ l : List α, l.length = n ∧ ∀ (i : Nat) (x : α), l[i]? = some x → p i x
  | 0, _ => ⟨[], rfl, fun i x h => by simp at h⟩
  | n + 1, h => by
    obtain ⟨l, h1, h2⟩ := listOf n fun i hi => h i (by omega)
    obtain ⟨x, hx⟩ := h n (by omega)
    refine ⟨l ++ [x], by simp [h1], fun i y hy => ?_⟩
    by_cases hi : i < n
    · rw [List.getElem?_append_left (by omega)] at hy; exact h2 i y hy
    · have hi' : i = n := by
        have := (List.getElem?_eq_some_iff.1 hy).1
        simp at this; omega
      subst hi'
      rw [List.getElem?_append_right (by omega), h1] at hy
      simp at hy; subst hy; exact hx
theorem lt_of_shape {w : World} {g : Nat} {x : TypeId × Nat} (h : w.shape? g = some x) : g < w.heap.size := by
  unfold World.shape? at h
  cases e : w.heap[g]? with
  | none => rw [e] at h; simp at h
  | some o => exact (Array.getElem?_eq_some_iff.1 e).1
section
variable {H : Type} {enc : TypeId × Value → H} {P : Program} {w : World} {base : Nat} {spare : Nat → Bool} {held : Bool}
/-- A slice's shape, told by its type. -/
theorem slice_shape {r : Reach} {b0 : Nat} {t e : TypeId} {v : Value} (ht : P.underlying t = some (.slice e)) (hv : Value.okWide P w r b0 t v) : v = .slice none 0 0 ∨ ∃ a len cap, v = .slice (some a) len cap ∧ a.spot = none ∧ a.block < w.heap.size := by
  unfold Value.okWide at hv
  rw [ht] at hv
  have hv : Cell.ok P w r b0 t v := by
    unfold Cell.okWide at hv
    rw [ht] at hv
    exact hv
  unfold Cell.ok at hv
  rw [ht] at hv
  split at hv <;> simp_all
  obtain ⟨_, _, h⟩ := hv
  unfold World.has at h
  obtain ⟨_, hs, row, cells, hsh, _⟩ := h
  exact ⟨hs, lt_of_shape hsh⟩
theorem open_sl {α : Type} {f : α → List Value} {size : Nat} {good : α → Prop} {r : Reach} {b0 : Nat} {t e : TypeId} {v : Value} {d : DataW H} {p : List MemPlace} (ht : P.underlying t = some (.slice e)) (hc : P.cellsOf e = size) (hpos : 0 < size) (hf : ∀ x, (f x).length = size)
    (hdec : ∀ n cs y, cs.length = size → DataW.trod enc P w base spare held n e cs = some y → ∃ x, cs = f x ∧ good x) (hv : Value.okWide P w r b0 t v) (h : DataW.Trod enc P w base spare held t v d p) : ∃ l : List α, SeesL w size f v l ∧ ∀ x ∈ l, good x := by
  obtain ⟨fuel, hh⟩ := h
  rcases slice_shape ht hv with rfl | ⟨⟨g, o, s⟩, len, cap, rfl, hs, hlt⟩
  · exact ⟨[], seesL_nil size f hf w, by simp⟩
  · simp only at hs hlt; subst hs
    rcases open_slice ht hh with ⟨h0, _⟩ | ⟨a, len', cap', m, n, D, Pl, hcs, hb, hl, hm, hmm, hx, hi⟩
    · simp [Value.cells] at h0
    · simp only [Value.cells, List.cons.injEq, and_true, Value.slice.injEq, Option.some.injEq] at hcs
      obtain ⟨rfl, rfl, rfl⟩ := hcs
      have hlm : len ≤ m := by rw [hmm]; split <;> omega
      obtain ⟨l, h1, h2⟩ := listOf (p := fun i x => good x ∧ ∀ j, j < size → w.cell? ⟨g, o + (i * size + j), none⟩ = (f x)[j]?) len fun i hil => by
        obtain ⟨cs, hcells, htrod⟩ := hi i (by omega)
        rw [hc] at hcells
        obtain ⟨_, hlen, hat⟩ := World.cells?_some hcells
        obtain ⟨x, rfl, hg⟩ := hdec n cs _ hlen htrod
        refine ⟨x, hg, fun j hj => ?_⟩
        rw [← hat j hj]
        congr 1
        unfold Addr.add
        by_cases hi0 : i * size = 0 <;> by_cases hj0 : j = 0 <;> simp [hi0, hj0]
        omega
      refine ⟨l, ⟨⟨by rw [flat_len hf], .inr ⟨g, o, cap, by rw [h1], hlt, by omega, hm, ?_⟩⟩, hf⟩, fun x hx => ?_⟩
      · intro j v hv
        have hjl : j < l.length * size := by have := (List.getElem?_eq_some_iff.1 hv).1; rwa [flat_len hf] at this
        have hk : j / size < l.length := Nat.div_lt_of_lt_mul (by rw [Nat.mul_comm]; exact hjl)
        obtain ⟨x, hx⟩ : ∃ x, l[j / size]? = some x := ⟨_, List.getElem?_eq_getElem hk⟩
        have hmod : j % size < size := Nat.mod_lt _ hpos
        have e : j / size * size + j % size = j := by rw [Nat.mul_comm]; exact Nat.div_add_mod j size
        have := (h2 _ x hx).2 (j % size) hmod
        rw [e] at this
        rw [this, ← flat_get hf l (j / size) x hx (j % size) hmod, e]
        exact hv
      · obtain ⟨k, hk⟩ := List.getElem?_of_mem hx
        exact (h2 k x hk).1
/-- A struct of two texts. -/
theorem dec_pr {e : TypeId} {f0 f1 : Field} (he : P.underlying e = some (.struct #[f0, f1])) (h0 : P.underlying f0.type = some .string) (h1 : P.underlying f1.type = some .string) (o0 : f0.offset = 0) (o1 : f1.offset = 1) (c0 : P.cellsOf f0.type = 1) (c1 : P.cellsOf f1.type = 1) :
    ∀ n cs y, cs.length = 2 → DataW.trod enc P w base spare held n e cs = some y → ∃ x : List UInt8 × List UInt8, cs = prV x ∧ (x.1.length ≤ maxLen ∧ x.2.length ≤ maxLen) := by
  intro n cs y hl h
  obtain ⟨xs, m, _, _, _, hxl, hg⟩ := DataW.trod_struct he h
  match cs, hl with
  | [a, b], _ =>
    match xs, hxl with
    | [x0, x1], _ =>
      have g0 := hg 0 f0 rfl
      have g1 := hg 1 f1 rfl
      rw [o0, c0] at g0
      rw [o1, c1] at g1
      obtain ⟨s, hs, _, hsl⟩ := DataW.trod_string h0 g0
      obtain ⟨u, hu, _, hul⟩ := DataW.trod_string h1 g1
      simp at hs hu
      obtain ⟨ls, rfl⟩ := mkS_of s
      obtain ⟨lu, rfl⟩ := mkS_of u
      rw [mkS_size] at hsl hul
      exact ⟨(ls, lu), by rw [hs, hu]; rfl, hsl, hul⟩
end
end TL
end Go

/- What the frames of layer 24's statements lean on: a token that comes in. No conditions but those each lemma names. -/
namespace Go
namespace TL
open Go.RowKit Go.ChangeShapes Go.WideShapes Go.Deep
section
variable {H : Type} {enc : TypeId × Value → H} {P : Program} {w : World} {base : Nat} {spare : Nat → Bool} {held : Bool}
/-- A struct of a text and a bool. -/
theorem dec_mt {e : TypeId} {f0 f1 : Field} (he : P.underlying e = some (.struct #[f0, f1])) (h0 : P.underlying f0.type = some .string) (h1 : P.underlying f1.type = some .bool) (o0 : f0.offset = 0) (o1 : f1.offset = 1) (c0 : P.cellsOf f0.type = 1) (c1 : P.cellsOf f1.type = 1) :
    ∀ n cs y, cs.length = 2 → DataW.trod enc P w base spare held n e cs = some y → ∃ x : Mt, cs = mtV x ∧ x.1.length ≤ maxLen := by
  intro n cs y hl h
  obtain ⟨xs, m, _, _, _, hxl, hg⟩ := DataW.trod_struct he h
  match cs, hl with
  | [a, b], _ =>
    match xs, hxl with
    | [x0, x1], _ =>
      have g0 := hg 0 f0 rfl
      have g1 := hg 1 f1 rfl
      rw [o0, c0] at g0
      rw [o1, c1] at g1
      obtain ⟨s, hs, _, hsl⟩ := DataW.trod_string h0 g0
      obtain ⟨u, hu, _⟩ := DataW.trod_bool h1 g1
      simp at hs hu
      obtain ⟨ls, rfl⟩ := mkS_of s
      rw [mkS_size] at hsl
      exact ⟨(ls, u), by rw [hs, hu]; rfl, hsl⟩
theorem wf_i64 {a : Int} (h : (Lit.int .i64 a).wf = true) : -9223372036854775808 ≤ a ∧ a ≤ 9223372036854775807 := by
  have hb : IntKind.i64.min ≤ a ∧ a ≤ IntKind.i64.max := by simpa [Lit.wf] using h
  have h0 : IntKind.i64.min = -9223372036854775808 := by decide
  have h1 : IntKind.i64.max = 9223372036854775807 := by decide
  rw [h0, h1] at hb
  exact hb
/-- A token that comes in: two ints, a slice of mounts, a text. -/
theorem open_tk {r : Reach} {b0 : Nat} {t e : TypeId} {v : Value} {d : DataW H} {p : List MemPlace} {f0 f1 f2 f3 : Field} (ht : P.underlying t = some (.struct #[f0, f1, f2, f3])) (h0 : P.underlying f0.type = some (.int .i64)) (h1 : P.underlying f1.type = some (.int .i64)) (h2 : P.underlying f2.type = some (.slice e)) (h3 : P.underlying f3.type = some .string)
    (o0 : f0.offset = 0) (o1 : f1.offset = 1) (o2 : f2.offset = 2) (o3 : f3.offset = 3) (c0 : P.cellsOf f0.type = 1) (c1 : P.cellsOf f1.type = 1) (c2 : P.cellsOf f2.type = 1) (c3 : P.cellsOf f3.type = 1) (hct : P.cellsOf t = 4) (hts : P.cellTypes P.depth t = some [f0.type, f1.type, f2.type, f3.type]) (hce : P.cellsOf e = 2)
    (hdec : ∀ n cs y, cs.length = 2 → DataW.trod enc P w base spare held n e cs = some y → ∃ x : Mt, cs = mtV x ∧ x.1.length ≤ maxLen)
    (hv : Value.okWide P w r b0 t v) (h : DataW.Trod enc P w base spare held t v d p) :
    ∃ (i j : Int) (l : List Mt) (s : List UInt8) (z : Value), v = .agg #[.int .i64 i, .int .i64 j, z, .string (mkS s)] ∧ (-9223372036854775808 ≤ i ∧ i ≤ 9223372036854775807) ∧ (-9223372036854775808 ≤ j ∧ j ≤ 9223372036854775807) ∧ s.length ≤ maxLen ∧ SeesL w 2 mtV z l ∧ ∀ x ∈ l, x.1.length ≤ maxLen := by
  simp only [Value.okWide, ht] at hv
  obtain ⟨cs, rfl, hsz, ts, hts', _, hc⟩ := hv
  rw [hts] at hts'
  cases hts'
  obtain ⟨fuel, hf⟩ := h
  obtain ⟨xs, m, _, _, _, hxl, hg⟩ := DataW.trod_struct ht hf
  rw [hct] at hsz
  obtain ⟨cl⟩ := cs
  match cl, hsz with
  | [a, b, c, q], _ =>
    match xs, hxl with
    | [x0, x1, x2, x3], _ =>
      have g0 := hg 0 f0 rfl
      have g1 := hg 1 f1 rfl
      have g2 := hg 2 f2 rfl
      have g3 := hg 3 f3 rfl
      rw [o0, c0] at g0
      rw [o1, c1] at g1
      rw [o2, c2] at g2
      rw [o3, c3] at g3
      obtain ⟨i, hi, _, wi⟩ := DataW.trod_int h0 g0
      obtain ⟨j, hj, _, wj⟩ := DataW.trod_int h1 g1
      obtain ⟨s, hs, _, hsl⟩ := DataW.trod_string h3 g3
      have g2 : DataW.trod enc P w base spare held m f2.type [c] = some x2 := g2
      have ha : a = .int .i64 i := by simpa [Value.cells] using hi
      have hb : b = .int .i64 j := by simpa [Value.cells] using hj
      have hq : q = .string s := by simpa [Value.cells] using hs
      subst ha; subst hb; subst hq
      obtain ⟨ls, rfl⟩ := mkS_of s
      rw [mkS_size] at hsl
      obtain ⟨u, hu, hcell⟩ := hc 2 c rfl
      have hu' : f2.type = u := by simpa using hu
      subst hu'
      have hval : Value.okWide P w r b0 f2.type c := by unfold Value.okWide; rw [h2]; exact hcell
      have htr : DataW.Trod enc P w base spare held f2.type c x2.1 x2.2 := by
        rcases slice_shape h2 hval with rfl | ⟨_, _, _, rfl, _⟩ <;> exact ⟨m, g2⟩
      obtain ⟨l, S, hl⟩ := open_sl (f := mtV) h2 hce (by decide) mtV_len hdec hval htr
      exact ⟨i, j, l, ls, c, rfl, wf_i64 wi, wf_i64 wj, hsl, S, hl⟩
end
end TL
end Go
