/- Texts of this seat, put together: BatL, FrameB, Row, Gives, MsgW, Shelf, PackZ, Txt, PackI, PackR, PackT, Out, PackO, PackN, PackY0, Ref12, Ref12T, BatA0, RowF, MsgF, TurnK, MsgG, InM, MsgH, MsgL, MsgE, PathN. Each begins with a remark that says what is proved in it, and under which conditions. -/
import Derived.Shelf.Small.Strs
import Derived.Shelf.Strconv.Itoa0
import Derived.Shelf.Strings.Search1
import Derived.Shelf.Strings.Search2
import Derived.Shelf.Strings.Cut
import Derived.Shelf.LaysM
import Derived.Shelf.Strings.Shaped
import Derived.Shelf.Bits.Mul64
import Derived.Test.YtidadhbaomieiaaGreatProg
import Derived.OwnWalk
import Derived.IntWalk
import Derived.Test.YtidadhbaomieiaaGreatZb
/- Plain laws of layer 12 (batch): which operations may be, a batch's bytes, and how they are read. No program in this text. No conditions but those each lemma names. -/
namespace Go
namespace TL
open Go.RowKit
abbrev Opr : Type := UInt8 × List UInt8 × List UInt8
abbrev Mt : Type := List UInt8 × Bool
def opV (x : Opr) : List Value := [.int .u8 (I8 x.1), .string (mkS x.2.1), .string (mkS x.2.2)]
@[go_sem] theorem opV_eq (a : UInt8) (b c : List UInt8) : opV (a, b, c) = [.int .u8 (I8 a), .string (mkS b), .string (mkS c)] := rfl
theorem opV_len (x : Opr) : (opV x).length = 3 := rfl
def mtV (x : Mt) : List Value := [.string (mkS x.1), .bool x.2]
@[go_sem] theorem mtV_eq (a : List UInt8) (b : Bool) : mtV (a, b) = [.string (mkS a), .bool b] := rfl
/-! ### Great ones -/
/-! ### Mounts -/
/-! ### Operations -/
def opE (f : List UInt8 → Nat) (x : Opr) : Nat :=
  if x.1 = 1 ∨ x.1 = 2 then
    if f x.2.1 = 0 then
      if x.2.2.length ≤ 32 then (if x.1 = 2 ∧ x.2.2 ≠ [] then 1 else 0) else 3
    else f x.2.1
  else 10
def eachE (f : List UInt8 → Nat) : List Opr → Nat
  | [] => 0
  | x :: l => if opE f x = 0 then eachE f l else opE f x
theorem each_at {f : List UInt8 → Nat} : ∀ {l : List Opr} {k : Nat} {x : Opr}, l[k]? = some x → (∀ (j : Nat) (y : Opr), j < k → l[j]? = some y → opE f y = 0) → opE f x ≠ 0 → eachE f l = opE f x
  | [], k, x, h, _, _ => by simp at h
  | y :: l, 0, x, h, _, hx => by
    have : y = x := by simpa using h
    subst this; rw [eachE, if_neg hx]
  | y :: l, k + 1, x, h, hb, hx => by
    rw [eachE, if_pos (hb 0 y (by omega) rfl)]
    exact each_at (l := l) (k := k) (by simpa using h) (fun j z hj hz => hb (j + 1) z (by omega) (by simpa using hz)) hx
theorem each_all {f : List UInt8 → Nat} : ∀ {l : List Opr}, (∀ (j : Nat) (y : Opr), l[j]? = some y → opE f y = 0) → eachE f l = 0
  | [], _ => rfl
  | y :: l, hb => by
    rw [eachE, if_pos (hb 0 y rfl)]
    exact each_all fun j z hz => hb (j + 1) z (by simpa using hz)
theorem each_ok {f : List UInt8 → Nat} : ∀ {l : List Opr}, eachE f l = 0 → ∀ x ∈ l, opE f x = 0
  | [], _, x, hx => by cases hx
  | y :: l, h, x, hx => by
    rw [eachE] at h
    split at h
    · rename_i h0
      rcases List.mem_cons.1 hx with rfl | hx
      · exact h0
      · exact each_ok h x hx
    · rename_i h0; exact absurd h h0
theorem op_kind {f : List UInt8 → Nat} {x : Opr} (h : ¬ (x.1 = 1 ∨ x.1 = 2)) : opE f x = 10 := if_neg h
theorem op_path {f : List UInt8 → Nat} {x : Opr} (h : x.1 = 1 ∨ x.1 = 2) (h2 : f x.2.1 ≠ 0) : opE f x = f x.2.1 := by unfold opE; rw [if_pos h, if_neg h2]
theorem op_long {f : List UInt8 → Nat} {x : Opr} (h : x.1 = 1 ∨ x.1 = 2) (h2 : f x.2.1 = 0) (h3 : 32 < x.2.2.length) : opE f x = 3 := by unfold opE; rw [if_pos h, if_pos h2, if_neg (by omega)]
theorem op_arg {f : List UInt8 → Nat} {x : Opr} (h : x.1 = 2) (h2 : f x.2.1 = 0) (h3 : x.2.2.length ≤ 32) (h4 : x.2.2 ≠ []) : opE f x = 1 := by unfold opE; rw [if_pos (.inr h), if_pos h2, if_pos h3, if_pos ⟨h, h4⟩]
theorem op_good {f : List UInt8 → Nat} {x : Opr} (h : x.1 = 1 ∨ x.1 = 2) (h2 : f x.2.1 = 0) (h3 : x.2.2.length ≤ 32) (h4 : x.1 = 2 → x.2.2 = []) : opE f x = 0 := by
  unfold opE; rw [if_pos h, if_pos h2, if_pos h3, if_neg (fun h => h.2 (h4 h.1))]
theorem op_zero {f : List UInt8 → Nat} {x : Opr} (h : opE f x = 0) : (x.1 = 1 ∨ x.1 = 2) ∧ f x.2.1 = 0 ∧ x.2.2.length ≤ 32 ∧ (x.1 = 2 → x.2.2 = []) := by
  unfold opE at h
  split at h
  · rename_i h1
    split at h
    · rename_i h2
      split at h
      · rename_i h3
        split at h
        · cases h
        · rename_i h4
          refine ⟨h1, h2, h3, fun e => ?_⟩
          by_cases hn : x.2.2 = []
          · exact hn
          · exact absurd ⟨e, hn⟩ h4
      · cases h
    · rename_i h2; exact absurd h h2
  · cases h
def cutE (p : List UInt8) : Nat := if (cutL p).2.2 = true then 0 else 20
def rightB (i e : Int) (ops : List Opr) : Nat := if i < 1 ∨ 4611686018427387904 < i ∨ e < 1 then 1 else if 4 < ops.length then 3 else eachE cutE ops
theorem right_ok {i e : Int} {ops : List Opr} (h : rightB i e ops = 0) : 1 ≤ i ∧ i ≤ 4611686018427387904 ∧ 1 ≤ e ∧ ops.length ≤ 4 ∧ eachE cutE ops = 0 := by
  unfold rightB at h
  split at h
  · cases h
  · rename_i h1
    split at h
    · cases h
    · rename_i h2; exact ⟨by omega, by omega, by omega, by omega, h⟩
def opB (x : Opr) : List UInt8 := x.1 :: (textL x.2.1 ++ if x.1 = 1 then textL x.2.2 else [])
def batB (i e : Nat) (ops : List Opr) : List UInt8 := numL i ++ (numL e ++ (numL ops.length ++ ops.flatMap opB))
def bytesB (i e : Int) (ops : List Opr) : List UInt8 × Nat := if rightB i e ops = 0 then (batB i.toNat e.toNat ops, 0) else ([], rightB i e ops)
def InS.bad (x : InS) (e : Nat) : InS := ⟨x.rest, x.read, e⟩
def rdOps : Nat → InS → List Opr × InS
  | 0, x => ([], x)
  | n + 1, x =>
    if x.byte.2.err = 0 then
      if x.byte.1 = 1 ∨ x.byte.1 = 2 then
        ((UInt8.ofNat x.byte.1, (x.byte.2.text 33).1, if x.byte.1 = 1 then ((x.byte.2.text 33).2.text 32).1 else []) :: (rdOps n (if x.byte.1 = 1 then ((x.byte.2.text 33).2.text 32).2 else (x.byte.2.text 33).2)).1,
          (rdOps n (if x.byte.1 = 1 then ((x.byte.2.text 33).2.text 32).2 else (x.byte.2.text 33).2)).2)
      else ([], x.byte.2.bad 10)
    else ([], x.byte.2)
def nums3 (s : List UInt8) : Nat × Nat × Nat × InS :=
  let a := (InS.mk s 0 0).most 4611686018427387904
  let b := a.2.most 9223372036854775807
  let c := b.2.most 4
  (a.1, b.1, c.1, c.2)
def readB (s : List UInt8) : (Nat × Nat × List Opr) × Nat :=
  let q := nums3 s
  let r := rdOps q.2.2.1 q.2.2.2
  if r.2.fin = 0 then
    if rightB q.1 q.2.1 r.1 = 0 then ((q.1, q.2.1, r.1), 0) else ((0, 0, []), rightB q.1 q.2.1 r.1)
  else ((0, 0, []), r.2.fin)
end TL
end Go

/- What the frames of layer 12's statements lean on: slices of mounts and of operations. No conditions but those each lemma names. -/
namespace Go
namespace TL
open Go.RowKit Go.ChangeShapes Go.WideShapes Go.Deep
section
variable {H : Type} {enc : TypeId × Value → H} {P : Program} {w : World} {base : Nat} {spare : Nat → Bool} {held : Bool}
theorem dec_op {e : TypeId} {f0 f1 f2 : Field} (he : P.underlying e = some (.struct #[f0, f1, f2])) (h0 : P.underlying f0.type = some (.int .u8)) (h1 : P.underlying f1.type = some .string) (h2 : P.underlying f2.type = some .string) (o0 : f0.offset = 0) (o1 : f1.offset = 1) (o2 : f2.offset = 2) (c0 : P.cellsOf f0.type = 1) (c1 : P.cellsOf f1.type = 1) (c2 : P.cellsOf f2.type = 1) :
    ∀ n cs y, cs.length = 3 → DataW.trod enc P w base spare held n e cs = some y → ∃ x : Opr, cs = opV x ∧ (x.2.1.length ≤ maxLen ∧ x.2.2.length ≤ maxLen) := by
  intro n cs y hl h
  obtain ⟨xs, m, _, _, _, hxl, hg⟩ := DataW.trod_struct he h
  match cs, hl with
  | [a, b, c], _ =>
    match xs, hxl with
    | [x0, x1, x2], _ =>
      have g0 := hg 0 f0 rfl
      have g1 := hg 1 f1 rfl
      have g2 := hg 2 f2 rfl
      rw [o0, c0] at g0
      rw [o1, c1] at g1
      rw [o2, c2] at g2
      obtain ⟨k, hk, _, hw⟩ := DataW.trod_int h0 g0
      obtain ⟨s, hs, _, hsl⟩ := DataW.trod_string h1 g1
      obtain ⟨u, hu, _, hul⟩ := DataW.trod_string h2 g2
      simp at hk hs hu
      obtain ⟨q, rfl⟩ := wf_u8 hw
      obtain ⟨ls, rfl⟩ := mkS_of s
      obtain ⟨lu, rfl⟩ := mkS_of u
      rw [mkS_size] at hsl hul
      exact ⟨(q, ls, lu), by rw [hk, hs, hu]; rfl, hsl, hul⟩
theorem wf_i64 {a : Int} (h : (Lit.int .i64 a).wf = true) : -9223372036854775808 ≤ a ∧ a ≤ 9223372036854775807 := by
  have hb : IntKind.i64.min ≤ a ∧ a ≤ IntKind.i64.max := by simpa [Lit.wf] using h
  have h0 : IntKind.i64.min = -9223372036854775808 := by decide
  have h1 : IntKind.i64.max = 9223372036854775807 := by decide
  rw [h0, h1] at hb
  exact hb
end
end TL
end Go

/- A row of bytes that came in, and is only read. No conditions but those each law names. -/
namespace Go
namespace TL
open Go.RowKit
section
variable {P : Program} {ops : Array Oper} {rest : List Oper} {o : Oper} {a : Act} {w w0 : World} {Q : Exit → Act → World → Prop} {F : List Nat} {L : List Chunk} {g : Nat} {l : List UInt8}
theorem Mem.stays {c : Chunk} (M : Mem [] w0 w L) (R : c.ok w0) : c.ok w := R.stay M.kept.size fun k hk => M.kept.block k (R.lt k hk) (by simp)
theorem w_rowB (M : Mem [] w0 w L) (R : (Chunk.row g (bs l)).ok w0) (t : TypeId) (x : Operand) (ho : o.op = .load t x) {off : Nat} (hx : a.eval x = .pointer (some ⟨g, off, none⟩)) (hw : Region.wanted o (yielded ops a.tmps) = true)
    (ht : scalarT P t = true) (hlt : off < l.length) (h : wpList P ops Q rest (a.put o.dst (.int .u8 (I8 (l.getD off 0)))) w) : wpList P ops Q (o :: rest) a w :=
  wpW hw fun _ hK => by
    unfold Oper.wp execOp
    simp only [ho, hx, Instr.loadAt, Instr.sureAddr, Sem.run_bind, Sem.run_pure, Result.andThen_ok, run_loadVar_scalar ht w g _ _ (rowCell (M.stays R) (getD_some hlt))]
    exact hK _ _ h
theorem w_rowC {cs : List Value} (M : Mem [] w0 w L) (R : (Chunk.row g cs).ok w0) (t : TypeId) (x : Operand) (ho : o.op = .load t x) {off : Nat} (hx : a.eval x = .pointer (some ⟨g, off, none⟩)) (hw : Region.wanted o (yielded ops a.tmps) = true)
    (ht : scalarT P t = true) {v : Value} (hv : cs[off]? = some v) (h : wpList P ops Q rest (a.put o.dst v) w) : wpList P ops Q (o :: rest) a w :=
  wpW hw fun _ hK => by
    unfold Oper.wp execOp
    simp only [ho, hx, Instr.loadAt, Instr.sureAddr, Sem.run_bind, Sem.run_pure, Result.andThen_ok, run_loadVar_scalar ht w g _ _ (rowCell (M.stays R) hv)]
    exact hK _ _ h
theorem stab_rowB (M : Mem [] w0 w L) {is : List Nat} (R : (Chunk.row g (bs l)).ok w0) (off : Nat) {t : TypeId} {x : Operand} (ho : o.op = .load t x) (ht : scalarT P t = true) (hlt : off < l.length) : Stab P (IxOk M is) o (.pointer (some ⟨g, off, none⟩)) := by
  unfold Stab; rw [ho]
  have R' : ∀ w' : World, Kept [] w0 w' → (Chunk.row g (bs l)).ok w' := fun w' k => R.stay k.size fun j hj => k.block j (R.lt j hj) (by simp)
  refine ⟨.int .u8 (I8 (l.getD off 0)), fun w' hw => ?_⟩
  simp only [Instr.loadAt, Instr.sureAddr, Sem.run_bind, Sem.run_pure, Result.andThen_ok, run_loadVar_scalar ht w' g off _ (rowCell (R' w' hw.1) (getD_some hlt))]
theorem w_storeBc (M : Mem F w0 w L) (i : Nat) (t : TypeId) (x y : Operand) (ho : o.op = .store t x y) {off : Nat} (hi : L[i]? = some (.row g (bs l))) (hx : a.eval x = .pointer (some ⟨g, off, none⟩)) (hw : Region.wanted o (yielded ops a.tmps) = true)
    {n : Int} (hy : a.eval y = .int .u8 n) (hb : n = I8 (w8 n)) (hn : (P.info? t).map (·.size) = some 1) (hlt : off < l.length)
    (h : ∀ w' : World, Mem F w0 w' (L.set i (.row g (bs (l.set off (w8 n))))) → wpList P ops Q rest (a.put o.dst undef) w') : wpList P ops Q (o :: rest) a w :=
  w_storeB M i t x y ho hi hx hw (hy.trans (congrArg (Value.int .u8) hb)) hn hlt h
theorem StA.byteC {t : TypeId} {off i : Nat} (M : Mem F w0 w L) (hi : L[i]? = some (.row g (bs l))) {n : Int} (hb : n = I8 (w8 n)) (hn : (P.info? t).map (·.size) = some 1) (hlt : off < l.length) : StA P w t (.pointer (some ⟨g, off, none⟩)) (.int .u8 n) fun w' => Mem F w0 w' (L.set i (.row g (bs (l.set off (w8 n))))) := fun _ _ _ x y _ _ ho hx hy hw h => w_storeBc M i t x y ho hi hx hw hy hb hn hlt h
theorem w_slB (M : Mem F w0 w L) (i : Nat) (t : TypeId) (x : Operand) (ho : o.op = .load t x) {so n m cap : Nat} (hi : L[i]? = some (.sl 1 (.slice (some ⟨g, so, none⟩) m cap) n (bs l))) {at' : Nat} (hx : a.eval x = .pointer (some ⟨g, at', none⟩)) (hw : Region.wanted o (yielded ops a.tmps) = true)
    (ht : scalarT P t = true) (k : Nat) (hat : at' = so + k) (hlt : k < l.length) (h : wpList P ops Q rest (a.put o.dst (.int .u8 (I8 (l.getD k 0)))) w) : wpList P ops Q (o :: rest) a w :=
  wpW hw fun _ hK => by
    subst hat
    unfold Oper.wp execOp
    simp only [ho, hx, Instr.loadAt, Instr.sureAddr, Sem.run_bind, Sem.run_pure, Result.andThen_ok, run_loadVar_scalar ht w g _ _ (M.slCell i hi (getD_some hlt))]
    exact hK _ _ h
theorem upd_slSet {size n m cap g so off : Nat} {cs : List Value} (h : (Chunk.sl size (.slice (some ⟨g, so, none⟩) m cap) n cs).ok w) (hlt : off < cs.length) (v : Value) :
    Upd w (.sl size (.slice (some ⟨g, so, none⟩) m cap) n cs) (w.setCell ⟨g, so + off, none⟩ v) (.sl size (.slice (some ⟨g, so, none⟩) m cap) n (cs.set off v)) := by
  obtain ⟨h1, h2⟩ := h
  rcases h2 with ⟨h0, _⟩ | ⟨g', o', c, hv, _, hg, hn, hc, hr, ht⟩
  · cases h0
  · injection hv with e1 e2 e3; injection e1 with e1; injection e1 with e1 e4; subst e1; subst e2; subst e3; subst e4
    have hle : cs.length ≤ cap * size := by rw [h1]; exact Nat.mul_le_mul_right _ hn
    refine ⟨Kept.grown (grownBy_setCell w ⟨g, so + off, none⟩ v), ⟨by rw [List.length_set]; exact h1, .inr ⟨g, so, cap, rfl, Nat.zero_le _, by rw [← setCells_one, size_setCells]; exact hg, hn, hc, ?_, ?_⟩⟩, fun k hk => .inl hk⟩
    · rw [← setCells_one, List.set_eq_take_append_cons_drop, if_pos hlt]
      have hcs : cs = cs.take off ++ ([cs[off]] ++ cs.drop (off + 1)) := by simp
      refine rangeAt_append ?_ (rangeAt_append (xs := [v]) ?_ ?_)
      · refine World.rangeAt_setCells_apart (rangeAt_take hr off) _ _ _ (.inr (.inl (by rw [List.length_take]; omega)))
      · rw [List.length_take, Nat.min_eq_left (by omega)]
        refine World.rangeAt_setCells_same _ _ _ _ ?_
        exact there_mono (there_drop ht off) (by simp; omega)
      · refine World.rangeAt_setCells_apart ?_ _ _ _ (.inr (.inr (by rw [List.length_take]; simp; omega)))
        have := rangeAt_drop hr (off + 1)
        rw [List.length_take, Nat.min_eq_left (by omega)]
        simpa [Nat.add_assoc] using this
    · rw [← setCells_one]; exact World.there_setCells ht _ _ _
theorem w_slSet (M : Mem F w0 w L) (i : Nat) (t : TypeId) (x y : Operand) (ho : o.op = .store t x y) {size n m cap g so : Nat} {cs : List Value} (hi : L[i]? = some (.sl size (.slice (some ⟨g, so, none⟩) m cap) n cs)) {at' : Nat} (hx : a.eval x = .pointer (some ⟨g, at', none⟩)) (hw : Region.wanted o (yielded ops a.tmps) = true)
    {v : Value} (hy : a.eval y = v) (h1 : v.oneCell' = true) (hc : v.cells = #[v]) (hn : (P.info? t).map (·.size) = some 1) (off : Nat) (hat : at' = so + off) (hlt : off < cs.length)
    (h : ∀ w' : World, Mem F w0 w' (L.set i (.sl size (.slice (some ⟨g, so, none⟩) m cap) n (cs.set off v))) → wpList P ops Q rest (a.put o.dst undef) w') : wpList P ops Q (o :: rest) a w :=
  wpW hw fun _ hK => by
    subst hat
    have hok := M.ok i _ hi
    have hth : w.there g (so + off) 1 := by
      obtain ⟨k1, k2⟩ := hok
      rcases k2 with ⟨h0, _⟩ | ⟨g', o', c, hv, _, hg, hn', hc', hr, ht⟩
      · cases h0
      · injection hv with e1 e2 e3; injection e1 with e1; injection e1 with e1 e4; subst e1; subst e2; subst e3; subst e4
        have hle : cs.length ≤ cap * size := by rw [k1]; exact Nat.mul_le_mul_right _ hn'
        exact there_mono (there_drop ht off) (by omega)
    have hst := run_storeCells_mid (P := P) (w := w) (g := g) (o := so + off) [v] hth (by simpa using h1)
    cases hq : P.info? t with
    | none => simp [hq] at hn
    | some inf =>
      have hs : inf.size = 1 := by simpa [hq] using hn
      unfold Oper.wp execOp
      simp only [ho, hx, hy, Instr.storeAt, Instr.sureAddr, storeVar, Sem.run_bind, Sem.run_pure, Result.andThen_ok, sizeOf, typeInfo, run_program, hq, hs, hc]
      simp only [List.size_toArray, List.length_cons, List.length_nil, Nat.zero_add, ne_eq, not_true_eq_false, if_false, hst, Result.andThen_ok]
      rw [setCells_one]
      exact hK _ _ (h _ (M.upd i hi (upd_slSet hok hlt v)))
theorem w_slSetB (M : Mem F w0 w L) (i : Nat) (t : TypeId) (x y : Operand) (ho : o.op = .store t x y) {so n m cap : Nat} (hi : L[i]? = some (.sl 1 (.slice (some ⟨g, so, none⟩) m cap) n (bs l))) {at' : Nat} (hx : a.eval x = .pointer (some ⟨g, at', none⟩)) (hw : Region.wanted o (yielded ops a.tmps) = true)
    {b : UInt8} (hy : a.eval y = .int .u8 (I8 b)) (hn : (P.info? t).map (·.size) = some 1) (k : Nat) (hat : at' = so + k) (hlt : k < l.length)
    (h : ∀ w' : World, Mem F w0 w' (L.set i (.sl 1 (.slice (some ⟨g, so, none⟩) m cap) n (bs (l.set k b)))) → wpList P ops Q rest (a.put o.dst undef) w') : wpList P ops Q (o :: rest) a w :=
  w_slSet M i t x y ho hi hx hw hy rfl rfl hn k hat (by rw [bs_length]; exact hlt) (fun w' M' => h w' (by rw [bs_set]; exact M'))
theorem w_copyB (M : Mem F w0 w L) (i : Nat) {t e : TypeId} {bytes : Nat} (T : SliceT P t e 1 bytes) (d x : Operand) (u : TypeId) (ho : o.op = .call { callee := .builtin .copy, args := #[d, x], argTypes := #[t, u] }) (hw : Region.wanted o (yielded ops a.tmps) = true)
    {off dl dc : Nat} (hi : L[i]? = some (.row g (bs l))) (hd : a.eval d = .slice (some ⟨g, off, none⟩) dl dc) {xv : Value} (hx : a.eval x = xv) {news : List UInt8} (hsee : SeesB w xv news) (k : Nat) (hk : k = min news.length dl) (hlen : off + k ≤ l.length)
    (h : ∀ w' : World, Mem F w0 w' (L.set i (.row g (bs (l.take off ++ (news.take k ++ l.drop (off + k)))))) → wpList P ops Q rest (a.put o.dst (.int .i64 k)) w') : wpList P ops Q (o :: rest) a w := by
  refine w_copy M i T d x u ho hw hi hd hx news.length (bs news) (Src_of_sees hsee (bs_one _)) k hk (by rw [bs_length]; omega) fun w' M' => h w' ?_
  rw [Nat.mul_one] at M'
  rw [bs_append, bs_append]
  simpa [bs, List.map_take, List.map_drop] using M'
theorem w_loadM (M : Mem F w0 w L) (i : Nat) (t : TypeId) (x : Operand) (ho : o.op = .load t x) {off : Nat} (hi : L[i]? = some (.row g (bs l))) (hx : a.eval x = .pointer (some ⟨g, off, none⟩)) (hw : Region.wanted o (yielded ops a.tmps) = true)
    (ht : rowT P t = true) (n : Nat) (hn : (P.info? t).map (·.size) = some n) (hle : off + n ≤ l.length) (h : wpList P ops Q rest (a.put o.dst (.agg (bs ((l.drop off).take n)).toArray)) w) : wpList P ops Q (o :: rest) a w := by
  refine w_loadA M i t x ho hi hx hw ht (bs (l.take off)) (bs ((l.drop off).take n)) (bs (l.drop (off + n))) ?_ ?_ ?_ h
  · rw [← bs_append, ← bs_append, ← List.drop_drop, List.take_append_drop, List.take_append_drop]
  · rw [bs_length, List.length_take]; omega
  · rw [bs_length, List.length_take, List.length_drop]; rw [hn]; congr 1; omega
end
end TL
end Go

/- A call that hands a new slice on. No conditions. -/
namespace Go
namespace TL
open Go.RowKit
theorem w_stripE {P : Program} {ops : Array Oper} {rest : List Oper} {a : Act} {w : World} {Q : Exit → Act → World → Prop} {dst : Option Tmp} {op : Op} {ty : TypeId} {pos : String} {after : Array Edge} {j : Nat} {want : Bool} (hb : ∃ b, yielded ops a.tmps j = some b ∧ b = want)
    (h : wpList P ops Q (Oper.mk dst op ty pos after none :: rest) a w) : wpList P ops Q (Oper.mk dst op ty pos after (some (j, want)) :: rest) a w :=
  let ⟨_, h1, h2⟩ := hb
  w_strip h1 h2 h
theorem w_skip1 {P : Program} {ops : Array Oper} {rest : List Oper} {a : Act} {w : World} {Q : Exit → Act → World → Prop} {dst : Option Tmp} {op : Op} {ty : TypeId} {pos : String} {after : Array Edge} {j : Nat} (hb : ∃ b, yielded ops a.tmps j = some b ∧ b = false)
    (h : wpList P ops Q rest (a.put dst undef) w) : wpList P ops Q (Oper.mk dst op ty pos after (some (j, true)) :: rest) a w :=
  let ⟨_, h1, h2⟩ := hb
  w_guard h1 (fun e => by subst h2; cases e) (fun _ => h)
theorem w_skip0 {P : Program} {ops : Array Oper} {rest : List Oper} {a : Act} {w : World} {Q : Exit → Act → World → Prop} {dst : Option Tmp} {op : Op} {ty : TypeId} {pos : String} {after : Array Edge} {j : Nat} (hb : ∃ b, yielded ops a.tmps j = some b ∧ b = true)
    (h : wpList P ops Q rest (a.put dst undef) w) : wpList P ops Q (Oper.mk dst op ty pos after (some (j, false)) :: rest) a w :=
  let ⟨_, h1, h2⟩ := hb
  w_guard h1 (fun e => by subst h2; cases e) (fun _ => h)
theorem Mem.join {F : List Nat} {w0 w w' : World} {L K : List Chunk} (M : Mem F w0 w L) (N : Mem [] w w' K) : Mem F w0 w' (K ++ L) := by
  have M' := M.call N.below
  have key : ∀ (i : Nat) (c : Chunk), K[i]? = some c → ∀ k ∈ c.fp, w.heap.size ≤ k := fun i c hc k hk => (N.own i c hc k hk).resolve_left (by simp)
  refine ⟨M'.kept, fun i c hc => ?_, fun i c hc k hk => ?_, fun i j c d hij hi hj k hk hk2 => ?_⟩
  · rw [List.getElem?_append] at hc; split at hc
    · exact N.ok i c hc
    · exact M'.ok _ c hc
  · rw [List.getElem?_append] at hc; split at hc
    · exact .inr (Nat.le_trans M.kept.size (key i c hc k hk))
    · exact M'.own _ c hc k hk
  · rw [List.getElem?_append] at hi hj; split at hi <;> split at hj
    · exact N.nd i j c d hij hi hj k hk hk2
    · have := key i c hi k hk; have := (M.ok _ d hj).lt k hk2; omega
    · have := key j d hj k hk2; have := (M.ok _ c hi).lt k hk; omega
    · exact M.nd _ _ c d (by omega) hi hj k hk hk2
def Gives {α : Type} (size : Nat) (f : α → List Value) (l : List α) (r : Value → Value) (w : World) (e : Ending) (w' : World) : Prop := ∃ p cap, e = .returned (r (.slice p l.length cap)) ∧ Mem [] w w' [.sl size (.slice p l.length cap) l.length (l.flatMap f)]
theorem Gives.intro {α : Type} {size : Nat} {f : α → List Value} {l : List α} {r : Value → Value} {w w' : World} {p : Option Addr} {cap : Nat} {L : List Chunk} (M : Mem [] w w' (.sl size (.slice p l.length cap) l.length (l.flatMap f) :: L)) : Gives size f l r w (.returned (r (.slice p l.length cap))) w' :=
  ⟨p, cap, rfl, M.pick _ id (fun _ _ _ _ h => h) (fun i c h => by cases i with | zero => exact h | succ i => simp at h)⟩
theorem Gives.below {α : Type} {size : Nat} {f : α → List Value} {l : List α} {r : Value → Value} {w w' : World} {e : Ending} (h : Gives size f l r w e w') : Below w.heap.size w w' := by
  obtain ⟨p, cap, _, M⟩ := h; exact M.below
theorem Gives.at {α : Type} {size : Nat} {f : α → List Value} {l : List α} {r : Value → Value} {w w' : World} {p : Option Addr} {cap : Nat} {L : List Chunk} (M : Mem [] w w' L) (i : Nat) (hi : L[i]? = some (.sl size (.slice p l.length cap) l.length (l.flatMap f))) : Gives size f l r w (.returned (r (.slice p l.length cap))) w' :=
  ⟨p, cap, rfl, M.pick _ (fun j => i + j) (fun _ _ _ _ h => by omega) (fun j c h => by cases j with | zero => simp at h; subst h; exact hi | succ j => simp at h)⟩
end TL
end Go

/- Messages in memory: their cells, and what may be done to them. No conditions but those each law names. -/
namespace Go
namespace TL
open Go.RowKit
structure Ms where
  k : UInt8
  e : Int
  a : Int
  o : Int
  bi : Int
  be : Int
  ov : Value
  p : Int
  r : List UInt8
  v : Int
  i : Int
  lf : List UInt8
  rt : List UInt8
  pv : Value
def Ms.fit (m : Ms) : Prop := m.r.length = 32 ∧ m.lf.length = 32 ∧ m.rt.length = 32 ∧ m.ov.oneCell' = true ∧ m.pv.oneCell' = true
def zeroH : List UInt8 := List.replicate 32 0
theorem zeroH_len : zeroH.length = 32 := List.length_replicate
def zeroM : Ms := ⟨0, 0, 0, 0, 0, 0, .slice none 0 0, 0, zeroH, 0, 0, zeroH, zeroH, .slice none 0 0⟩
theorem zeroM_fit : zeroM.fit := ⟨zeroH_len, zeroH_len, zeroH_len, rfl, rfl⟩
def msgC (m : Ms) : List Value := [.int .u8 (I8 m.k), .int .i64 m.e, .int .i64 m.a, .int .i64 m.o, .int .i64 m.bi, .int .i64 m.be, m.ov, .int .i64 m.p] ++ (bs m.r ++ ([.int .i64 m.v, .int .i64 m.i] ++ (bs m.lf ++ (bs m.rt ++ [m.pv]))))
theorem msgC_len {m : Ms} (h : m.fit) : (msgC m).length = 107 := by
  obtain ⟨h1, h2, h3, _⟩ := h
  unfold msgC; simp only [List.length_append, List.length_cons, List.length_nil, bs_length, h1, h2, h3]
theorem msgC_one {m : Ms} (h : m.fit) : ∀ v ∈ msgC m, v.oneCell' = true := by
  obtain ⟨_, _, _, h4, h5⟩ := h
  intro v hv
  unfold msgC at hv
  simp only [List.mem_append, List.mem_cons, List.not_mem_nil, or_false] at hv
  rcases hv with (rfl | rfl | rfl | rfl | rfl | rfl | rfl | rfl) | hv | (rfl | rfl) | hv | hv | rfl
  all_goals first | rfl | assumption | exact bs_one _ v hv
inductive Nf where
  | k | e | a | o | bi | be | ov | p | v | i | pv
def Nf.off : Nf → Nat
  | .k => 0 | .e => 1 | .a => 2 | .o => 3 | .bi => 4 | .be => 5 | .ov => 6 | .p => 7 | .v => 40 | .i => 41 | .pv => 106
def Nf.get (m : Ms) : Nf → Value
  | .k => .int .u8 (I8 m.k) | .e => .int .i64 m.e | .a => .int .i64 m.a | .o => .int .i64 m.o | .bi => .int .i64 m.bi | .be => .int .i64 m.be | .ov => m.ov | .p => .int .i64 m.p | .v => .int .i64 m.v | .i => .int .i64 m.i | .pv => m.pv
theorem msgC_at {m : Ms} (h : m.fit) (f : Nf) : (msgC m)[f.off]? = some (f.get m) := by
  obtain ⟨h1, h2, h3, _⟩ := h
  cases f
  case v | i | pv => simp [msgC, Nf.off, Nf.get, bs_length, h1, h2, h3]
  all_goals rfl
inductive Mf where
  | e | a | o | p | v | i
def Mf.nf : Mf → Nf
  | .e => .e | .a => .a | .o => .o | .p => .p | .v => .v | .i => .i
def Mf.off (f : Mf) : Nat := f.nf.off
def Mf.get (m : Ms) : Mf → Int
  | .e => m.e | .a => m.a | .o => m.o | .p => m.p | .v => m.v | .i => m.i
def Mf.set (m : Ms) (x : Int) : Mf → Ms
  | .e => { m with e := x } | .a => { m with a := x } | .o => { m with o := x } | .p => { m with p := x } | .v => { m with v := x } | .i => { m with i := x }
theorem Mf.set_fit {m : Ms} (h : m.fit) (x : Int) (f : Mf) : (f.set m x).fit := by cases f <;> exact h
theorem msgC_num {m : Ms} (h : m.fit) (f : Mf) : (msgC m)[f.off]? = some (.int .i64 (f.get m)) := by
  have := msgC_at h f.nf
  cases f <;> exact this
theorem msgC_set {m : Ms} (h : m.fit) (x : Int) (f : Mf) : (msgC m).set f.off (.int .i64 x) = msgC (f.set m x) := by
  obtain ⟨h1, h2, h3, _⟩ := h
  cases f
  case v | i => simp [msgC, Mf.off, Mf.nf, Nf.off, Mf.set, bs_length, h1]
  all_goals rfl
theorem msgC_setPv {m : Ms} (h : m.fit) (x : Value) : (msgC m).set 106 x = msgC { m with pv := x } := by
  obtain ⟨h1, h2, h3, _⟩ := h
  simp [msgC, bs_length, h1, h2, h3]
inductive Hf where
  | r | lf | rt
def Hf.off : Hf → Nat
  | .r => 8 | .lf => 42 | .rt => 74
def Hf.get (m : Ms) : Hf → List UInt8
  | .r => m.r | .lf => m.lf | .rt => m.rt
def Hf.set (m : Ms) (x : List UInt8) : Hf → Ms
  | .r => { m with r := x } | .lf => { m with lf := x } | .rt => { m with rt := x }
theorem Hf.len {m : Ms} (h : m.fit) (f : Hf) : (f.get m).length = 32 := by
  obtain ⟨h1, h2, h3, _⟩ := h
  cases f <;> assumption
theorem Hf.set_fit {m : Ms} (h : m.fit) {x : List UInt8} (hx : x.length = 32) (f : Hf) : (f.set m x).fit := by
  obtain ⟨h1, h2, h3, h4, h5⟩ := h
  cases f
  · exact ⟨hx, h2, h3, h4, h5⟩
  · exact ⟨h1, hx, h3, h4, h5⟩
  · exact ⟨h1, h2, hx, h4, h5⟩
theorem Hf.set_get {m : Ms} (f : Hf) : f.set m (f.get m) = m := by cases f <;> rfl
def Hf.pre (m : Ms) : Hf → List Value
  | .r => [.int .u8 (I8 m.k), .int .i64 m.e, .int .i64 m.a, .int .i64 m.o, .int .i64 m.bi, .int .i64 m.be, m.ov, .int .i64 m.p]
  | .lf => [.int .u8 (I8 m.k), .int .i64 m.e, .int .i64 m.a, .int .i64 m.o, .int .i64 m.bi, .int .i64 m.be, m.ov, .int .i64 m.p] ++ (bs m.r ++ [.int .i64 m.v, .int .i64 m.i])
  | .rt => [.int .u8 (I8 m.k), .int .i64 m.e, .int .i64 m.a, .int .i64 m.o, .int .i64 m.bi, .int .i64 m.be, m.ov, .int .i64 m.p] ++ (bs m.r ++ ([.int .i64 m.v, .int .i64 m.i] ++ bs m.lf))
def Hf.post (m : Ms) : Hf → List Value
  | .r => [.int .i64 m.v, .int .i64 m.i] ++ (bs m.lf ++ (bs m.rt ++ [m.pv]))
  | .lf => bs m.rt ++ [m.pv]
  | .rt => [m.pv]
theorem msgC_hash (m : Ms) (x : List UInt8) (f : Hf) : msgC (f.set m x) = f.pre m ++ (bs x ++ f.post m) := by
  cases f <;> simp only [msgC, Hf.set, Hf.pre, Hf.post, List.append_assoc]
theorem Hf.pre_len {m : Ms} (h : m.fit) (f : Hf) : (f.pre m).length = f.off := by
  obtain ⟨h1, h2, h3, _⟩ := h
  cases f <;> simp only [Hf.pre, Hf.off, List.length_append, List.length_cons, List.length_nil, bs_length, h1, h2]
theorem msgC_get (m : Ms) (f : Hf) : msgC m = f.pre m ++ (bs (f.get m) ++ f.post m) := by rw [← msgC_hash, Hf.set_get]
section
variable {P : Program} {ops : Array Oper} {rest : List Oper} {o : Oper} {a : Act} {w w0 : World} {Q : Exit → Act → World → Prop} {F : List Nat} {L : List Chunk} {g : Nat} {m : Ms}
theorem w_loadMs (M : Mem F w0 w L) (i : Nat) (t : TypeId) (x : Operand) (ho : o.op = .load t x) (hi : L[i]? = some (.row g (msgC m))) (hx : a.eval x = .pointer (some ⟨g, 0, none⟩)) (hw : Region.wanted o (yielded ops a.tmps) = true)
    (ht : rowT P t = true) (hn : (P.info? t).map (·.size) = some 107) (hm : m.fit) (h : wpList P ops Q rest (a.put o.dst (.agg (msgC m).toArray)) w) : wpList P ops Q (o :: rest) a w :=
  w_loadR M i t x ho hi hx hw ht (by rw [msgC_len hm]; exact hn) h
theorem w_storeMs (M : Mem F w0 w L) (i : Nat) (t : TypeId) (x y : Operand) (ho : o.op = .store t x y) {m' : Ms} (hi : L[i]? = some (.row g (msgC m'))) (hx : a.eval x = .pointer (some ⟨g, 0, none⟩)) (hw : Region.wanted o (yielded ops a.tmps) = true)
    {C : Array Value} (hy : a.eval y = .agg C) (hC : C = (msgC m).toArray) (hn : (P.info? t).map (·.size) = some 107) (hm : m.fit) (hm' : m'.fit)
    (h : ∀ w' : World, Mem F w0 w' (L.set i (.row g (msgC m))) → wpList P ops Q rest (a.put o.dst undef) w') : wpList P ops Q (o :: rest) a w :=
  w_storeR M i t x y ho hi hx hw (msgC m) hy hC (by rw [msgC_len hm]; exact hn) (msgC_one hm) (by rw [msgC_len hm, msgC_len hm']) h
theorem w_storeMf (M : Mem F w0 w L) (i : Nat) (t : TypeId) (x y : Operand) (ho : o.op = .store t x y) (hi : L[i]? = some (.row g (msgC m))) {off : Nat} (hx : a.eval x = .pointer (some ⟨g, off, none⟩)) (hw : Region.wanted o (yielded ops a.tmps) = true)
    {z : Int} (hy : a.eval y = .int .i64 z) (hn : (P.info? t).map (·.size) = some 1) (hm : m.fit) (f : Mf) (hoff : off = f.off)
    (h : ∀ w' : World, Mem F w0 w' (L.set i (.row g (msgC (f.set m z)))) → wpList P ops Q rest (a.put o.dst undef) w') : wpList P ops Q (o :: rest) a w := by
  subst hoff
  refine w_store M i t x y ho hi hx hw hy rfl rfl hn (by rw [msgC_len hm]; cases f <;> decide) fun w' M' => h w' ?_
  rwa [msgC_set hm z f] at M'
theorem w_storePv (M : Mem F w0 w L) (i : Nat) (t : TypeId) (x y : Operand) (ho : o.op = .store t x y) (hi : L[i]? = some (.row g (msgC m))) (hx : a.eval x = .pointer (some ⟨g, 106, none⟩)) (hw : Region.wanted o (yielded ops a.tmps) = true)
    {z : Value} (hy : a.eval y = z) (h1 : z.oneCell' = true) (hc : z.cells = #[z]) (hn : (P.info? t).map (·.size) = some 1) (hm : m.fit)
    (h : ∀ w' : World, Mem F w0 w' (L.set i (.row g (msgC { m with pv := z }))) → wpList P ops Q rest (a.put o.dst undef) w') : wpList P ops Q (o :: rest) a w := by
  refine w_store M i t x y ho hi hx hw hy h1 hc hn (by rw [msgC_len hm]; omega) fun w' M' => h w' ?_
  rwa [msgC_setPv hm z] at M'
theorem w_storeHb (M : Mem F w0 w L) (i : Nat) (t : TypeId) (x y : Operand) (ho : o.op = .store t x y) (hi : L[i]? = some (.row g (msgC m))) {off : Nat} (hx : a.eval x = .pointer (some ⟨g, off, none⟩)) (hw : Region.wanted o (yielded ops a.tmps) = true)
    {b : UInt8} (hy : a.eval y = .int .u8 (I8 b)) (hn : (P.info? t).map (·.size) = some 1) (hm : m.fit) (f : Hf) (j : Nat) (hoff : off = f.off + j) (hj : j < 32)
    (h : ∀ w' : World, Mem F w0 w' (L.set i (.row g (msgC (f.set m ((f.get m).set j b))))) → wpList P ops Q rest (a.put o.dst undef) w') : wpList P ops Q (o :: rest) a w := by
  subst hoff
  have hl := f.len hm
  have hp := f.pre_len hm
  refine w_store M i t x y ho hi hx hw hy rfl rfl hn ?_ fun w' M' => h w' ?_
  · rw [msgC_len hm]; cases f <;> simp only [Hf.off] <;> omega
  · have e : (msgC m).set (f.off + j) (.int .u8 (I8 b)) = msgC (f.set m ((f.get m).set j b)) := by
      rw [msgC_hash, msgC_get m f, List.set_append_right _ _ (by omega), hp, Nat.add_sub_cancel_left, List.set_append_left _ _ (by rw [bs_length]; omega)]
      simp only [bs, List.map_set]; rfl
    rwa [e] at M'
theorem w_storeBt (M : Mem F w0 w L) (i : Nat) (t : TypeId) (x y : Operand) (ho : o.op = .store t x y) (hi : L[i]? = some (.row g (msgC m))) (hx : a.eval x = .pointer (some ⟨g, 4, none⟩)) (hw : Region.wanted o (yielded ops a.tmps) = true)
    {bi be : Int} {ov : Value} (hy : a.eval y = .agg #[.int .i64 bi, .int .i64 be, ov]) (hn : (P.info? t).map (·.size) = some 3) (hov : ov.oneCell' = true)
    (h : ∀ w' : World, Mem F w0 w' (L.set i (.row g (msgC { m with bi := bi, be := be, ov := ov }))) → wpList P ops Q rest (a.put o.dst undef) w') : wpList P ops Q (o :: rest) a w :=
  w_storeA M i t x y ho hi hx hw [.int .i64 bi, .int .i64 be, ov] hy rfl hn (by intro v hv; simp only [List.mem_cons, List.not_mem_nil, or_false] at hv; rcases hv with rfl | rfl | rfl <;> first | rfl | assumption) [.int .u8 (I8 m.k), .int .i64 m.e, .int .i64 m.a, .int .i64 m.o] [.int .i64 m.bi, .int .i64 m.be, m.ov] ([.int .i64 m.p] ++ (bs m.r ++ ([.int .i64 m.v, .int .i64 m.i] ++ (bs m.lf ++ (bs m.rt ++ [m.pv]))))) rfl rfl rfl fun w' M' => h w' M'
end
end TL
end Go

/-
  DERIVED: THE SHELF's CONTRACTS AT THIS DUMP, IN PLAIN WORDS (tools/lay-plain.mjs out of 'TryzShelf.lean', which tools/lay-shelf.mjs wrote): THE SAME DECLARATIONS UNDER THE SAME NAMES: 'import', 'namespace', 'open', 'def', 'theorem' AND NOTHING ELSE: no command of the shelf's: FOR A HAND-IN. Each laying: the table of numbers ('.._ren') and one theorem, a field a fact of the dump's own or the kernel's comparison; each contract: ONE APPLICATION.
-/
namespace Go.Proofs
open Go.Shelf
def Tryz.lays137_ren : Go.Shelf.Ren := ⟨fun | 137 => 215 | 217 => 217 | 266 => 221 | n => n, fun | 9 => 9 | 5 => 5 | 3 => 3 | n => n, fun | n => n⟩
theorem Tryz.lays137 : Go.Proofs.Lays.n137 Tryz.prog Tryz.lays137_ren := {
  mixed := by kernel_rfl
  f137 := Tryz.func215.trans (congrArg some (by kernel_rfl))
  f217 := Tryz.func217.trans (congrArg some (by kernel_rfl))
  f266 := Tryz.func221.trans (congrArg some (by kernel_rfl))
  t3 := Tryz.underlying3
  a3 := Tryz.isAgg3
  z3 := Tryz.sizeOf3
  v3 := Tryz.zeroValue3
  t5 := Tryz.underlying5
  a5 := Tryz.isAgg5
  z5 := Tryz.sizeOf5
  v5 := Tryz.zeroValue5
  t9 := Tryz.underlying9
  a9 := Tryz.isAgg9
  z9 := Tryz.sizeOf9
  v9 := Tryz.zeroValue9 }
open Go.RowKit in
theorem Tryz.strings_IndexByte (s : ByteArray) (c : Int) (w : World) :
    Calls Tryz.prog 215 #[.string s, .int .u8 c] w fun e w' => e = .returned (.int .i64 (Lib.indexByte s.data.toList c.toNat.toUInt8)) ∧ w' = w := Any.strings_IndexByte Tryz.lays137 s c w
def Tryz.lays129_ren : Go.Shelf.Ren := ⟨fun | 129 => 170 | n => n, fun | 53 => 30 | 3 => 3 | 4 => 4 | 46 => 109 | 5 => 5 | 9 => 9 | n => n, fun | n => n⟩
theorem Tryz.lays129 : Go.Proofs.Lays.n129 Tryz.prog Tryz.lays129_ren := {
  mixed := by kernel_rfl
  f129 := Tryz.func170.trans (congrArg some (by kernel_rfl))
  t3 := Tryz.underlying3
  a3 := Tryz.isAgg3
  z3 := Tryz.sizeOf3
  v3 := Tryz.zeroValue3
  t4 := Tryz.underlying4
  a4 := Tryz.isAgg4
  z4 := Tryz.sizeOf4
  v4 := Tryz.zeroValue4
  t5 := Tryz.underlying5
  a5 := Tryz.isAgg5
  z5 := Tryz.sizeOf5
  v5 := Tryz.zeroValue5
  t9 := Tryz.underlying9
  a9 := Tryz.isAgg9
  z9 := Tryz.sizeOf9
  v9 := Tryz.zeroValue9
  t46 := Tryz.underlying109
  a46 := Tryz.isAgg109
  z46 := Tryz.sizeOf109
  v46 := Tryz.zeroValue109
  t53 := Tryz.underlying30
  a53 := Tryz.isAgg30
  z53 := Tryz.sizeOf30
  v53 := Tryz.zeroValue30 }
theorem Tryz.bits_Len64 (x : Int) (w : World) (h0 : 0 ≤ x) (h1 : x ≤ 18446744073709551615) :
    Calls Tryz.prog 170 #[.int .u64 x] w fun e w' => e = .returned (.int .i64 (Lib.bitLen x.toNat)) ∧ w' = w := Any.bits_Len64 Tryz.lays129 x w h0 h1
def Tryz.lays219_ren : Go.Shelf.Ren := ⟨fun | 219 => 216 | 217 => 217 | 225 => 218 | 224 => 219 | 267 => 220 | 266 => 221 | 314 => 222 | n => n, fun | 9 => 9 | 3 => 3 | 4 => 4 | 5 => 5 | 46 => 109 | 146 => 289 | 51 => 22 | n => n, fun | 1 => 0 | n => n⟩
theorem Tryz.lays219 : Go.Proofs.Lays.n219 Tryz.prog Tryz.lays219_ren := {
  mixed := by kernel_rfl
  f217 := Tryz.func217.trans (congrArg some (by kernel_rfl))
  f219 := Tryz.func216.trans (congrArg some (by kernel_rfl))
  f224 := Tryz.func219.trans (congrArg some (by kernel_rfl))
  f225 := Tryz.func218.trans (congrArg some (by kernel_rfl))
  f266 := Tryz.func221.trans (congrArg some (by kernel_rfl))
  f267 := Tryz.func220.trans (congrArg some (by kernel_rfl))
  f314 := Tryz.func222.trans (congrArg some (by kernel_rfl))
  t3 := Tryz.underlying3
  a3 := Tryz.isAgg3
  z3 := Tryz.sizeOf3
  v3 := Tryz.zeroValue3
  t4 := Tryz.underlying4
  a4 := Tryz.isAgg4
  z4 := Tryz.sizeOf4
  v4 := Tryz.zeroValue4
  t5 := Tryz.underlying5
  a5 := Tryz.isAgg5
  z5 := Tryz.sizeOf5
  v5 := Tryz.zeroValue5
  t9 := Tryz.underlying9
  a9 := Tryz.isAgg9
  z9 := Tryz.sizeOf9
  v9 := Tryz.zeroValue9
  t46 := Tryz.underlying109
  a46 := Tryz.isAgg109
  z46 := Tryz.sizeOf109
  v46 := Tryz.zeroValue109
  t51 := Tryz.underlying22
  a51 := Tryz.isAgg22
  z51 := Tryz.sizeOf22
  v51 := Tryz.zeroValue22
  t146 := Tryz.underlying289
  a146 := Tryz.isAgg289
  z146 := Tryz.sizeOf289
  v146 := Tryz.zeroValue289
  g1 := by kernel_rfl }
open Go.RowKit Go.Lib in
theorem Tryz.stringslite_Index_one (s : ByteArray) (c : UInt8) (w : World) :
    Calls Tryz.prog 216 #[.string s, .string ⟨#[c]⟩] w fun e w' => e = .returned (.int .i64 (Lib.indexByte s.data.toList c)) ∧ w' = w := Any.stringslite_Index_one Tryz.lays219 s c w
end Go.Proofs

/- The walk of pack.size. Conditions: numbers below 2^64. -/
namespace Go.Proofs.YtidadhbaomieiaaGreat
open Go.RowKit Go.TL
theorem or128 (m : Nat) : UInt8.ofNat m ||| 128 = UInt8.ofNat (m % 128 + 128) := by
  have h : ∀ n : Fin 256, UInt8.ofNat n.1 ||| 128 = UInt8.ofNat (n.1 % 128 + 128) := by decide +kernel
  have e : UInt8.ofNat m = UInt8.ofNat (m % 256) := by apply UInt8.toNat_inj.1; simp
  have := h ⟨m % 256, by omega⟩
  rw [e, this, show m % 256 % 128 = m % 128 by omega]
theorem Len64_c (n : Nat) (w : World) (h : n < 18446744073709551616) :
    Calls Tryz.prog 170 #[.int .u64 n] w fun e w' => e = .returned (.int .i64 (Lib.bitLen n)) ∧ w = w' :=
  (Go.Proofs.Tryz.bits_Len64 n w (by omega) (by omega)).mono fun _ _ ⟨a, b⟩ => ⟨a, b.symm⟩
set_option maxHeartbeats 1000000 in
theorem size_c (n : Nat) (w : World) (h : n < 18446744073709551616) :
    Calls Tryz.prog 137 #[.int .u64 n] w fun e w' => e = .returned (.int .i64 (numL n).length) ∧ w = w' := by
  have hs := size_eq n h
  have hl := numL_length_le n h
  have hp := numL_pos n
  obtain ⟨k, ek⟩ : ∃ k, k = (numL n).length := ⟨_, rfl⟩
  obtain ⟨b, eb⟩ : ∃ b, b = Lib.bitLen n := ⟨_, rfl⟩
  rw [← ek, ← eb] at hs
  rw [← ek] at hl hp ⊢
  have hb : b ≤ 70 := by omega
  have L := Len64_c n w h
  rw [← eb] at L
  obtain ⟨q, eq⟩ : ∃ q, q = (b + 6) / 7 := ⟨_, rfl⟩
  have e1 : ((b : Int) + 7 - 1).tdiv 7 = (q : Int) := by rw [Int.tdiv_eq_ediv_of_nonneg (by omega)]; omega
  rw [← eq] at hs
  by_cases h1 : 1 ≤ q
  all_goals
    go_enter Tryz.func137, Tryz.ntmps137
    go_wp2_with (first | (go_at_call 170; go_must (refine (L).mono ?_; rintro e w1 ⟨rfl, rfl⟩)))
    go_ret
    exact ⟨by first | rfl | (congr; omega) | (simp; omega), rfl⟩
end Go.Proofs.YtidadhbaomieiaaGreat

/- Bytes of texts, in a word that is closed to the walk. No conditions but those each law names. -/
namespace Go
namespace TL
open Go.RowKit
theorem lead_geI {s : List UInt8} {k : Nat} (h : k < lead s) : 128 ≤ I8 (bt s k) := by have := lead_ge s k h; rw [I8_bt]; omega
theorem lead_lastI {s : List UInt8} (h : lead s < s.length) : I8 (bt s (lead s)) < 128 := by have := lead_last s h; rw [I8_bt]; omega
theorem shl_or (n : Nat) (b : UInt8) (h : n < 144115188075855872) : I64 (w64 (n : Int) <<< 7 ||| w64 ((I8 b).tmod 128)) = ((b.toNat % 128 + 128 * n : Nat) : Int) := by
  have hb := I8_bd b
  rw [Int.tmod_eq_emod_of_nonneg hb.1, I8_eq, show ((b.toNat : Int) % 128) = ((b.toNat % 128 : Nat) : Int) by omega, w64_nat, w64_nat, I64_eq, UInt64.toNat_or, UInt64.toNat_shiftLeft]
  have e1 : (UInt64.ofNat n).toNat = n := by rw [UInt64.toNat_ofNat']; omega
  have e2 : (UInt64.ofNat (b.toNat % 128)).toNat = b.toNat % 128 := by rw [UInt64.toNat_ofNat']; omega
  rw [e1, e2]
  have e3 : ((7 : UInt64).toNat % 64) = 7 := rfl
  rw [e3, Nat.mod_eq_of_lt (by rw [Nat.shiftLeft_eq]; omega), ← Nat.shiftLeft_add_eq_or_of_lt (by omega), Nat.shiftLeft_eq]
  omega
theorem I64_nat (n : Nat) (h : n < 18446744073709551616) : I64 (w64 (n : Int)) = (n : Int) := by
  rw [w64_nat, I64_eq, UInt64.toNat_ofNat']; omega
theorem SeesB.of_own {w : World} {v : Value} {n : Nat} {l : List UInt8} (h : (Chunk.sl 1 v n (bs l)).ok w) (hn : n = l.length) : SeesB w v l := by
  subst hn; exact Own.sees h
end TL
end Go

/- The walks of pack.number and pack.bounded. Conditions: lengths. -/
namespace Go.Proofs.YtidadhbaomieiaaGreat
open Go.RowKit Go.TL
set_option maxRecDepth 100000 in
set_option maxHeartbeats 2000000 in
theorem number_c (s : List UInt8) (w : World) (hs : s.length ≤ 1000000000) :
    Calls Tryz.prog 97 #[.string (mkS s)] w fun e w' => e = .returned (.tuple #[.int .u64 (readN s maxU).1, .int .i64 (readN s maxU).2.1, .int .i64 (readN s maxU).2.2]) ∧ w = w' := by
  obtain ⟨R, eR⟩ : ∃ R, R = readN s maxU := ⟨_, rfl⟩
  rw [← eR]
  have ER := Lib.hid eR; clear eR
  obtain ⟨L, eL⟩ : ∃ L, L = lead s := ⟨_, rfl⟩
  have hle : L ≤ s.length := by rw [eL]; exact lead_le s
  have EL := Lib.hid eL; clear eL
  go_enter Tryz.func97, Tryz.ntmps97
  go_wp2_with fail
  go_loop [3] (fun n => ∃ k : Nat, k ≤ L ∧ k ≤ 10 ∧ n = .int .i64 k) (fun n => s.length - (intOf n).toNat)
  case atStart => exact ⟨0, by omega, by omega, rfl⟩
  case round =>
    obtain ⟨k, hk, hk10, rfl⟩ := hrel
    by_cases hlt : k < L ∧ k < 10
    · obtain ⟨h1, h2⟩ := hlt
      have hb : 128 ≤ I8 (bt s k) := lead_geI (by rw [← EL.out]; exact h1)
      have hm : (k : Int) < min (s.length : Int) 10 := by omega
      go_wp2_with fail
      go_round
      case rel => exact ⟨k + 1, by omega, by omega, by go_num⟩
      case measure => simp [intOf]; omega
    · by_cases h10 : k = 10
      · subst h10
        have e : R = (0, 0, 8) := by rw [ER.out]; exact readN_form s (by rw [← EL.out]; omega) _
        subst e
        go_wp2_with fail
        go_ret3
        exact ⟨rfl, rfl⟩
      · have ek : L = k := by omega
        subst ek
        have h9 : L ≤ 9 := by omega
        by_cases hlen : L = s.length
        · have e : R = (0, 0, 7) := by rw [ER.out]; exact readN_short s (by rw [← EL.out]; omega) (by rw [← EL.out]; omega) _
          subst e
          have hm : ((L : Int) < min (s.length : Int) 10) = False := by simp; omega
          have hne : ((L : Int) == 10) = false := by simp; omega
          have heq : ((L : Int) == (s.length : Int)) = true := by simp; omega
          go_wp2_with fail
          go_ret3
          exact ⟨rfl, rfl⟩
        · have hlt' : L < s.length := by omega
          have hb : I8 (bt s L) < 128 := by
            have h2 : lead s < s.length := by rw [← EL.out]; exact hlt'
            have h1 := lead_lastI h2
            rwa [← EL.out] at h1
          have hm : (L : Int) < min (s.length : Int) 10 := by omega
          have hne : ((L : Int) == 10) = false := by simp; omega
          have heq : ((L : Int) == (s.length : Int)) = false := by simp; omega
          by_cases ht : L = 9 ∧ 1 < (bt s 9).toNat
          · obtain ⟨rfl, ht⟩ := ht
            have e : R = (0, 0, 8) := by rw [ER.out]; exact readN_ten s EL.out.symm (by rw [← EL.out]; omega) ht _
            subst e
            have hb2 : 1 < I8 (bt s 9) := by rw [I8_eq]; omega
            go_wp2_with fail
            go_ret3
            exact ⟨rfl, rfl⟩
          · have hb2 : L = 9 → I8 (bt s L) ≤ 1 := fun h => by subst h; rw [I8_eq]; omega
            have HB2 := Lib.hid hb2; clear hb2
            clear ht hlt h10 hlen hk hk10
            by_cases hn9 : L = 9
            have hq : ((L : Int) == 9) = true := by simp; omega
            have hb3 := HB2.out hn9
            replace hn9 := Lib.hid hn9
            go_wp2_with fail
            clear hq hb3
            rotate_left
            have hq : ((L : Int) == 9) = false := by simp; omega
            replace hn9 := Lib.hid hn9
            go_wp2_with fail
            clear hq
            rotate_left
            all_goals
              clear hm hne heq hn9
              obtain ⟨T, eT⟩ : ∃ T, T = s.take (L + 1) := ⟨_, rfl⟩
              have lT : T.length = L + 1 := by rw [eT]; simp; omega
              have h2 : lead s < s.length := by rw [← EL.out]; exact hlt'
              have h4 : lead s = 9 → (s.getD 9 0).toNat ≤ 1 := fun h => by
                have h := HB2.out (EL.out.trans h)
                rw [I8_bt, EL.out, ‹lead s = 9›] at h
                omega
              have DR : Hid (∀ j, numV (T.drop j) = if j ≤ L then (bt s j).toNat % 128 + 128 * numV (T.drop (j + 1)) else 0) := Lib.hid fun j => by
                by_cases hj : j ≤ L
                · have := numV_drop T j (by omega)
                  rw [if_pos hj, this, eT]; simp only [bt, List.getD_eq_getElem?_getD, List.getElem?_take]; rw [if_pos (by omega)]
                · rw [if_neg hj, List.drop_of_length_le (by omega)]; rfl
              have LT : Hid (∀ j, numV (T.drop (j + 1)) < 144115188075855872) := Lib.hid fun j => by
                rw [eT, EL.out]; exact numV_drop_lt s h2 (by rw [← EL.out]; exact h9) h4 (j + 1) (by omega)
              have RS := Lib.hid (readN_size s (by rw [← EL.out]; exact h9) h2 h4)
              rw [← ER.out, ← EL.out, ← eT] at RS
              have VT := numV_lt64 h2 (by rw [← EL.out]; exact h9) h4
              rw [← EL.out, ← eT] at VT
              have lT := Lib.hid lT
              clear eT h2 h4
              go_loop [2, 5] (fun nv iv => ∃ j : Nat, j ≤ L + 1 ∧ iv = .int .i64 ((j : Int) - 1) ∧ nv = .int .u64 (numV (T.drop j))) (fun _ iv => (intOf iv + 1).toNat)
              case atStart => exact ⟨L + 1, by omega, by go_num, by rw [List.drop_of_length_le (by have := lT.out; omega)]; rfl⟩
              case round =>
                obtain ⟨j, hj, rfl, rfl⟩ := hrel
                cases j with
                | zero =>
                  rw [List.drop_zero]
                  obtain ⟨V, eV⟩ : ∃ V, V = numV T := ⟨_, rfl⟩
                  rw [← eV] at RS VT ⊢
                  obtain ⟨z, ez⟩ : ∃ z, z = (numL V).length := ⟨_, rfl⟩
                  have SZ := Lib.hid (size_c V w VT)
                  rw [← ez] at RS SZ
                  clear eV ez
                  by_cases hz : z = L + 1
                  · have e := RS.out
                    rw [if_pos hz] at e
                    have hzz : ((z : Int) == (L : Int) + 1) = true := by simp; omega
                    have hzz' : ((z : Int) != (L : Int) + 1) = false := by simp; omega
                    subst e
                    go_wp2_with ((go_at_call 137; go_must (refine (SZ.out).mono ?_; rintro e w1 ⟨rfl, rfl⟩)))
                    go_ret3
                    exact ⟨by congr, rfl⟩
                  · have e := RS.out
                    rw [if_neg hz] at e
                    have hzz : ((z : Int) == (L : Int) + 1) = false := by simp; omega
                    have hzz' : ((z : Int) != (L : Int) + 1) = true := by simp; omega
                    subst e
                    go_wp2_with ((go_at_call 137; go_must (refine (SZ.out).mono ?_; rintro e w1 ⟨rfl, rfl⟩)))
                    go_ret3
                    exact ⟨rfl, rfl⟩
                | succ j =>
                  have l57 := LT.out j
                  have hjL : j ≤ L := by omega
                  have e : I64 (w64 ((numV (T.drop (j + 1)) : Nat) : Int) <<< 7 ||| w64 ((I8 (bt s j)).tmod 128)) = ((numV (T.drop j) : Nat) : Int) := by
                    rw [shl_or _ _ l57, DR.out j, if_pos hjL]
                  obtain ⟨X, eX⟩ : ∃ X, X = numV (T.drop (j + 1)) := ⟨_, rfl⟩
                  rw [← eX] at e l57 ⊢
                  have E := Lib.hid e
                  clear e eX
                  have hjs : j < s.length := by omega
                  go_wp2_with fail
                  go_round
                  case rel => exact ⟨j, by omega, rfl, by rw [E.out]⟩
                  case measure => simp [intOf]
end Go.Proofs.YtidadhbaomieiaaGreat

/- The walks of pack.In's methods: the reader's state turns as its plain law says. Conditions: lengths. -/
namespace Go
namespace TL
open Go.RowKit
def inV (x : InS) : List Value := [.string (mkS x.rest), .int .i64 x.read, .int .i64 x.err]
end TL
end Go
namespace Go.Proofs.YtidadhbaomieiaaGreat
open Go.RowKit Go.TL
set_option maxRecDepth 100000 in
set_option maxHeartbeats 2000000 in
theorem bounded_c (s : List UInt8) (m : Nat) (w : World) (hs : s.length ≤ 1000000000) (hm : m < 9223372036854775808) :
    Calls Tryz.prog 95 #[.string (mkS s), .int .i64 m] w fun e w' => e = .returned (.tuple #[.int .i64 (readN s m).1, .int .i64 (readN s m).2.1, .int .i64 (readN s m).2.2]) ∧ w = w' := by
  have hr := readN_max s m
  obtain ⟨⟨x, b, e⟩, eR⟩ : ∃ R, R = readN s maxU := ⟨_, rfl⟩
  have he := read_err s maxU
  have hlt : e = 0 → x < 18446744073709551616 := fun h => (read_ok (eR.symm.trans (by rw [h]))).2.2.2
  have hle := read_le eR.symm
  have N := number_c s w hs
  rw [← eR] at hr he N
  rw [hr]
  simp only at N he ⊢
  clear eR hr
  have N := Lib.hid N
  have HE := Lib.hid he
  have HI := Lib.hid (I64_nat m (by omega))
  clear he
  by_cases h0 : e = 0
  · subst h0
    replace hlt := hlt rfl
    by_cases hx : m < x
    · rw [if_pos ⟨rfl, hx⟩]
      go_enter Tryz.func95, Tryz.ntmps95
      go_wp2_with ((go_at_call 97; go_must (refine (N.out).mono ?_; rintro e w1 ⟨rfl, rfl⟩)))
      all_goals (first | (exfalso; have := HI.out; omega) | (go_ret3; exact ⟨rfl, rfl⟩))
    · rw [if_neg (fun h => hx h.2)]
      go_enter Tryz.func95, Tryz.ntmps95
      go_wp2_with ((go_at_call 97; go_must (refine (N.out).mono ?_; rintro e w1 ⟨rfl, rfl⟩)))
      all_goals (first | (exfalso; have := HI.out; omega) | (go_ret3; exact ⟨rfl, rfl⟩))
  · rw [if_neg (fun h => h0 h.1)]
    have h0' : ((e : Int) == 0) = false := by simp; omega
    have h0'' : ((e : Int) != 0) = true := by simp; omega
    obtain ⟨rfl, rfl⟩ : x = 0 ∧ b = 0 := by
      have := HE.out; simp at this; omega
    go_enter Tryz.func95, Tryz.ntmps95
    go_wp2_with ((go_at_call 97; go_must (refine (N.out).mono ?_; rintro e w1 ⟨rfl, rfl⟩)))
    go_ret3
    exact ⟨rfl, rfl⟩
section
variable (g : Nat) (x : InS) (w : World) (h : (Chunk.row g (inV x)).ok w)
include h
set_option maxHeartbeats 1000000 in
theorem reads_ok (he : x.err = 0) : Calls Tryz.prog 94 #[.pointer (some ⟨g, 0, none⟩)] w fun e w' => e = .returned (.bool true) ∧ w = w' := by
  obtain ⟨rest, read, err⟩ := x
  simp only at he; subst he
  have M := Mem.start1 (c := .row g [.string (mkS rest), .int .i64 (read : Nat), .int .i64 (0 : Nat)]) h
  go_enter Tryz.func94, Tryz.ntmps94
  go_wp2_with ((first | ((with_reducible refine tGuard ?_); first | refine gdS ?_ | (refine gdC ?_ ?_ <;> (intro hgd; rw [hgd]; try (exfalso; simp at hgd; omega)))) | ((with_reducible refine tConv _ 70 9 ?_); go_must (refine cvB ?_)) | ((with_reducible refine tLoad ?_); go_must (refine ldB ?_)) | ((with_reducible refine tStore ?_); go_must (refine stB ?_; clear M; intro w1 M; (try simp only [setC] at M))) | ((with_reducible refine tBox _ ?_); (refine bxA M ?_; clear M; intro g w1 M))) <;> (try conv => arg 5; simp only [Act.put, List.setIfInBounds_toArray, setC]))
  go_ret
  exact ⟨rfl, rfl⟩
set_option maxHeartbeats 1000000 in
theorem reads_no (he : x.err ≠ 0) : Calls Tryz.prog 94 #[.pointer (some ⟨g, 0, none⟩)] w fun e w' => e = .returned (.bool false) ∧ w = w' := by
  obtain ⟨rest, read, err⟩ := x
  have M := Mem.start1 (c := .row g [.string (mkS rest), .int .i64 (read : Nat), .int .i64 (err : Nat)]) h
  have hz : ((err : Int) == 0) = false := by simp at he ⊢; exact he
  go_enter Tryz.func94, Tryz.ntmps94
  go_wp2_with ((first | ((with_reducible refine tGuard ?_); first | refine gdS ?_ | (refine gdC ?_ ?_ <;> (intro hgd; rw [hgd]; try (exfalso; simp at hgd; omega)))) | ((with_reducible refine tConv _ 70 9 ?_); go_must (refine cvB ?_)) | ((with_reducible refine tLoad ?_); go_must (refine ldB ?_)) | ((with_reducible refine tStore ?_); go_must (refine stB ?_; clear M; intro w1 M; (try simp only [setC] at M))) | ((with_reducible refine tBox _ ?_); (refine bxA M ?_; clear M; intro g w1 M))) <;> (try conv => arg 5; simp only [Act.put, List.setIfInBounds_toArray, setC]))
  go_ret
  exact ⟨rfl, rfl⟩
set_option maxHeartbeats 1000000 in
theorem takes_ok (hf : x.fit) (k : Nat) (hk : k ≤ x.rest.length) (a b : Int) (ha : a = (k : Int)) (hb : b = 0) :
    Calls Tryz.prog 96 #[.pointer (some ⟨g, 0, none⟩), .int .i64 a, .int .i64 b] w fun e w' => e = .returned (.bool true) ∧ Upd w (.row g (inV x)) w' (.row g (inV (x.take k 0))) := by
  subst ha; subst hb
  obtain ⟨rest, read, err⟩ := x
  unfold InS.fit at hf
  simp only at hk hf
  have M := Mem.start1 (c := .row g [.string (mkS rest), .int .i64 (read : Nat), .int .i64 (err : Nat)]) h
  go_enter Tryz.func96, Tryz.ntmps96
  go_wp2_with ((first | ((with_reducible refine tGuard ?_); first | refine gdS ?_ | (refine gdC ?_ ?_ <;> (intro hgd; rw [hgd]; try (exfalso; simp at hgd; omega)))) | ((with_reducible refine tConv _ 70 9 ?_); go_must (refine cvB ?_)) | ((with_reducible refine tLoad ?_); go_must (refine ldB ?_)) | ((with_reducible refine tStore ?_); go_must (refine stB ?_; clear M; intro w1 M; (try simp only [setC] at M))) | ((with_reducible refine tBox _ ?_); (refine bxA M ?_; clear M; intro g w1 M))) <;> (try conv => arg 5; simp only [Act.put, List.setIfInBounds_toArray, setC]))
  go_ret
  refine ⟨rfl, ?_⟩
  rw [show inV (InS.take ⟨rest, read, err⟩ k 0) = [.string (mkS (rest.drop k)), .int .i64 ((read : Int) + k), .int .i64 0] by simp [inV, InS.take]]
  exact M.upd1 0 rfl
set_option maxHeartbeats 1000000 in
theorem takes_no (k : Nat) (er : Nat) (hn : er ≠ 0) (a b : Int) (hb : b = (er : Int)) :
    Calls Tryz.prog 96 #[.pointer (some ⟨g, 0, none⟩), .int .i64 a, .int .i64 b] w fun e w' => e = .returned (.bool false) ∧ Upd w (.row g (inV x)) w' (.row g (inV (x.take k er))) := by
  subst hb
  obtain ⟨rest, read, err⟩ := x
  have M := Mem.start1 (c := .row g [.string (mkS rest), .int .i64 (read : Nat), .int .i64 (err : Nat)]) h
  have hz : ((er : Int) == 0) = false := by simp; exact hn
  go_enter Tryz.func96, Tryz.ntmps96
  go_wp2_with ((first | ((with_reducible refine tGuard ?_); first | refine gdS ?_ | (refine gdC ?_ ?_ <;> (intro hgd; rw [hgd]; try (exfalso; simp at hgd; omega)))) | ((with_reducible refine tConv _ 70 9 ?_); go_must (refine cvB ?_)) | ((with_reducible refine tLoad ?_); go_must (refine ldB ?_)) | ((with_reducible refine tStore ?_); go_must (refine stB ?_; clear M; intro w1 M; (try simp only [setC] at M))) | ((with_reducible refine tBox _ ?_); (refine bxA M ?_; clear M; intro g w1 M))) <;> (try conv => arg 5; simp only [Act.put, List.setIfInBounds_toArray, setC]))
  go_ret
  refine ⟨rfl, ?_⟩
  rw [show inV (InS.take ⟨rest, read, err⟩ k er) = [.string (mkS rest), .int .i64 read, .int .i64 er] by simp [inV, InS.take, hn]]
  exact M.upd1 0 rfl
set_option maxHeartbeats 1000000 in
theorem Left_c (hf : x.fit) : Calls Tryz.prog 98 #[.pointer (some ⟨g, 0, none⟩)] w fun e w' => e = .returned (.int .i64 x.rest.length) ∧ w = w' := by
  obtain ⟨rest, read, err⟩ := x
  have M := Mem.start1 (c := .row g [.string (mkS rest), .int .i64 (read : Nat), .int .i64 (err : Nat)]) h
  go_enter Tryz.func98, Tryz.ntmps98
  go_wp2_with ((first | ((with_reducible refine tGuard ?_); first | refine gdS ?_ | (refine gdC ?_ ?_ <;> (intro hgd; rw [hgd]; try (exfalso; simp at hgd; omega)))) | ((with_reducible refine tConv _ 70 9 ?_); go_must (refine cvB ?_)) | ((with_reducible refine tLoad ?_); go_must (refine ldB ?_)) | ((with_reducible refine tStore ?_); go_must (refine stB ?_; clear M; intro w1 M; (try simp only [setC] at M))) | ((with_reducible refine tBox _ ?_); (refine bxA M ?_; clear M; intro g w1 M))) <;> (try conv => arg 5; simp only [Act.put, List.setIfInBounds_toArray, setC]))
  go_ret
  exact ⟨rfl, rfl⟩
set_option maxHeartbeats 2000000 in
theorem Most_c (hf : x.fit) (m : Nat) (a : Int) (ha : a = (m : Int)) (hm : m < 9223372036854775808) :
    Calls Tryz.prog 58 #[.pointer (some ⟨g, 0, none⟩), .int .i64 a] w fun e w' => e = .returned (.int .i64 (x.most m).1) ∧ Upd w (.row g (inV x)) w' (.row g (inV (x.most m).2)) := by
  subst ha
  have M := Mem.start1 h
  have hl : x.rest.length ≤ 1000000000 := by unfold InS.fit at hf; omega
  by_cases h0 : x.err = 0
  · have e1 : x.most m = ((readN x.rest m).1, x.take (readN x.rest m).2.1 (readN x.rest m).2.2) := by unfold InS.most; rw [if_pos h0]
    rw [e1]; clear e1
    obtain ⟨⟨n, b, er⟩, eR⟩ : ∃ R, R = readN x.rest m := ⟨_, rfl⟩
    have hb := (read_le eR.symm).1
    have hz := read_err x.rest m
    have B := bounded_c x.rest m w hl hm
    rw [← eR] at B hz ⊢
    have B := Lib.hid B
    have HZ := Lib.hid hz
    clear eR hz
    simp only
    have H0 := Lib.hid h0
    clear h0
    by_cases he : er = 0
    · subst he
      go_enter Tryz.func58, Tryz.ntmps58
      go_wp2_with ((first | (go_at_call 94; go_must (refine (reads_ok g x _ h H0.out).mono ?_; rintro e w1 ⟨rfl, rfl⟩)) | (go_at_call 95; go_must (refine (B.out).mono ?_; rintro e w1 ⟨rfl, rfl⟩)) | (go_at_call 96; go_must (refine (takes_ok g x _ (M.ok 0 _ rfl) hf b hb _ _ rfl rfl).mono ?_; rintro e w1 ⟨rfl, U⟩; replace M := M.upd 0 rfl U; clear U)) | ((with_reducible refine tGuard ?_); first | refine gdS ?_ | (refine gdC ?_ ?_ <;> (intro hgd; rw [hgd]; try (exfalso; simp at hgd; omega)))) | ((with_reducible refine tConv _ 70 9 ?_); go_must (refine cvB ?_)) | ((with_reducible refine tLoad ?_); go_must (refine ldB ?_)) | ((with_reducible refine tStore ?_); go_must (refine stB ?_; clear M; intro w1 M; (try simp only [setC] at M))) | ((with_reducible refine tBox _ ?_); (refine bxA M ?_; clear M; intro g w1 M))) <;> (try conv => arg 5; simp only [Act.put, List.setIfInBounds_toArray, setC]))
      go_ret
      exact ⟨rfl, M.upd1 0 rfl⟩
    · obtain ⟨rfl, rfl⟩ : n = 0 ∧ b = 0 := by
        have := HZ.out; simp at this; omega
      go_enter Tryz.func58, Tryz.ntmps58
      go_wp2_with ((first | (go_at_call 94; go_must (refine (reads_ok g x _ h H0.out).mono ?_; rintro e w1 ⟨rfl, rfl⟩)) | (go_at_call 95; go_must (refine (B.out).mono ?_; rintro e w1 ⟨rfl, rfl⟩)) | (go_at_call 96; go_must (refine (takes_no g x _ (M.ok 0 _ rfl) 0 er he _ _ rfl).mono ?_; rintro e w1 ⟨rfl, U⟩; replace M := M.upd 0 rfl U; clear U)) | ((with_reducible refine tGuard ?_); first | refine gdS ?_ | (refine gdC ?_ ?_ <;> (intro hgd; rw [hgd]; try (exfalso; simp at hgd; omega)))) | ((with_reducible refine tConv _ 70 9 ?_); go_must (refine cvB ?_)) | ((with_reducible refine tLoad ?_); go_must (refine ldB ?_)) | ((with_reducible refine tStore ?_); go_must (refine stB ?_; clear M; intro w1 M; (try simp only [setC] at M))) | ((with_reducible refine tBox _ ?_); (refine bxA M ?_; clear M; intro g w1 M))) <;> (try conv => arg 5; simp only [Act.put, List.setIfInBounds_toArray, setC]))
      go_ret
      exact ⟨rfl, M.upd1 0 rfl⟩
  · have e1 : x.most m = (0, x) := by unfold InS.most; rw [if_neg h0]
    rw [e1]; clear e1
    have H0 := Lib.hid h0
    clear h0
    go_enter Tryz.func58, Tryz.ntmps58
    go_wp2_with (first | (go_at_call 94; go_must (refine (reads_no g x _ h H0.out).mono ?_; rintro e w1 ⟨rfl, rfl⟩)))
    go_ret
    exact ⟨rfl, M.upd1 0 rfl⟩
end
end Go.Proofs.YtidadhbaomieiaaGreat

/- The walks of pack.In's Text, Fault and End, and of pack.Of. Conditions: lengths. -/
namespace Go.Proofs.YtidadhbaomieiaaGreat
open Go.RowKit Go.TL
section
variable (g : Nat) (x : InS) (w : World) (h : (Chunk.row g (inV x)).ok w)
include h
set_option maxRecDepth 100000 in
set_option maxHeartbeats 2000000 in
theorem In_Text_c (hf : x.fit) (m : Nat) (a : Int) (ha : a = (m : Int)) (hm : m < 1000000000) :
    Calls Tryz.prog 60 #[.pointer (some ⟨g, 0, none⟩), .int .i64 a] w fun e w' => e = .returned (.string (mkS (x.text m).1)) ∧ Upd w (.row g (inV x)) w' (.row g (inV (x.text m).2)) := by
  subst ha
  have M := Mem.start1 h
  have hl : x.rest.length ≤ 1000000000 := by unfold InS.fit at hf; omega
  by_cases h0 : x.err = 0
  · have e1 : x.text m = if (readN x.rest m).2.2 = 0 then if (readN x.rest m).1 ≤ x.rest.length - (readN x.rest m).2.1 then ((x.rest.drop (readN x.rest m).2.1).take (readN x.rest m).1, x.take ((readN x.rest m).2.1 + (readN x.rest m).1) 0) else ([], x.take 0 7) else ([], x.take 0 (readN x.rest m).2.2) := by unfold InS.text; rw [if_pos h0]
    rw [e1]; clear e1
    obtain ⟨⟨n, b, er⟩, eR⟩ : ∃ R, R = readN x.rest m := ⟨_, rfl⟩
    have hb := read_le eR.symm
    have hz := read_err x.rest m
    have B := bounded_c x.rest m w hl (by omega)
    rw [← eR] at B hz ⊢
    have B := Lib.hid B
    have HZ := Lib.hid hz
    clear eR hz
    simp only
    have H0 := Lib.hid h0
    clear h0
    obtain ⟨hb1, hb2, hb3⟩ := hb
    by_cases he : er = 0
    · subst he
      rw [if_pos rfl]
      by_cases hn : n ≤ x.rest.length - b
      · rw [if_pos hn]
        have e2 : (x.rest.drop b).take n = (x.rest.take (b + n)).drop b := by rw [List.drop_take]; congr; omega
        simp only
        rw [e2]; clear e2
        have hn' : (n : Int) ≤ (x.rest.length : Int) - b := by omega
        go_enter Tryz.func60, Tryz.ntmps60
        go_wp2_with ((first | (go_at_call 94; go_must (refine (reads_ok g x _ h H0.out).mono ?_; rintro e w1 ⟨rfl, rfl⟩)) | (go_at_call 95; go_must (refine (B.out).mono ?_; rintro e w1 ⟨rfl, rfl⟩)) | (go_at_call 96; go_must (refine (takes_ok g x _ (M.ok 0 _ rfl) hf (b + n) (by omega) _ _ (by simp) rfl).mono ?_; rintro e w1 ⟨rfl, U⟩; replace M := M.upd 0 rfl U; clear U)) | ((with_reducible refine tGuard ?_); first | refine gdS ?_ | (refine gdC ?_ ?_ <;> (intro hgd; rw [hgd]; try (exfalso; simp at hgd; omega)))) | ((with_reducible refine tConv _ 70 9 ?_); go_must (refine cvB ?_)) | ((with_reducible refine tLoad ?_); go_must (refine ldB ?_)) | ((with_reducible refine tStore ?_); go_must (refine stB ?_; clear M; intro w1 M; (try simp only [setC] at M))) | ((with_reducible refine tBox _ ?_); (refine bxA M ?_; clear M; intro g w1 M))) <;> (try conv => arg 5; simp only [Act.put, List.setIfInBounds_toArray, setC]))
        go_ret
        exact ⟨rfl, M.upd1 0 rfl⟩
      · rw [if_neg hn]
        have hn' : (x.rest.length : Int) - b < (n : Int) := by omega
        go_enter Tryz.func60, Tryz.ntmps60
        go_wp2_with ((first | (go_at_call 94; go_must (refine (reads_ok g x _ h H0.out).mono ?_; rintro e w1 ⟨rfl, rfl⟩)) | (go_at_call 95; go_must (refine (B.out).mono ?_; rintro e w1 ⟨rfl, rfl⟩)) | (go_at_call 96; go_must (refine (takes_no g x _ (M.ok 0 _ rfl) 0 7 (by decide) _ _ rfl).mono ?_; rintro e w1 ⟨rfl, U⟩; replace M := M.upd 0 rfl U; clear U)) | ((with_reducible refine tGuard ?_); first | refine gdS ?_ | (refine gdC ?_ ?_ <;> (intro hgd; rw [hgd]; try (exfalso; simp at hgd; omega)))) | ((with_reducible refine tConv _ 70 9 ?_); go_must (refine cvB ?_)) | ((with_reducible refine tLoad ?_); go_must (refine ldB ?_)) | ((with_reducible refine tStore ?_); go_must (refine stB ?_; clear M; intro w1 M; (try simp only [setC] at M))) | ((with_reducible refine tBox _ ?_); (refine bxA M ?_; clear M; intro g w1 M))) <;> (try conv => arg 5; simp only [Act.put, List.setIfInBounds_toArray, setC]))
        go_ret
        exact ⟨rfl, M.upd1 0 rfl⟩
    · obtain ⟨rfl, rfl⟩ : n = 0 ∧ b = 0 := by
        have := HZ.out; simp at this; omega
      rw [if_neg he]
      have hz0 : ((er : Int) == 0) = false := by simp; exact he
      go_enter Tryz.func60, Tryz.ntmps60
      go_wp2_with ((first | (go_at_call 94; go_must (refine (reads_ok g x _ h H0.out).mono ?_; rintro e w1 ⟨rfl, rfl⟩)) | (go_at_call 95; go_must (refine (B.out).mono ?_; rintro e w1 ⟨rfl, rfl⟩)) | (go_at_call 96; go_must (refine (takes_no g x _ (M.ok 0 _ rfl) 0 er he _ _ rfl).mono ?_; rintro e w1 ⟨rfl, U⟩; replace M := M.upd 0 rfl U; clear U)) | ((with_reducible refine tGuard ?_); first | refine gdS ?_ | (refine gdC ?_ ?_ <;> (intro hgd; rw [hgd]; try (exfalso; simp at hgd; omega)))) | ((with_reducible refine tConv _ 70 9 ?_); go_must (refine cvB ?_)) | ((with_reducible refine tLoad ?_); go_must (refine ldB ?_)) | ((with_reducible refine tStore ?_); go_must (refine stB ?_; clear M; intro w1 M; (try simp only [setC] at M))) | ((with_reducible refine tBox _ ?_); (refine bxA M ?_; clear M; intro g w1 M))) <;> (try conv => arg 5; simp only [Act.put, List.setIfInBounds_toArray, setC]))
      go_ret
      exact ⟨rfl, M.upd1 0 rfl⟩
  · have e1 : x.text m = ([], x) := by unfold InS.text; rw [if_neg h0]
    rw [e1]; clear e1
    have H0 := Lib.hid h0
    clear h0
    go_enter Tryz.func60, Tryz.ntmps60
    go_wp2_with (first | (go_at_call 94; go_must (refine (reads_no g x _ h H0.out).mono ?_; rintro e w1 ⟨rfl, rfl⟩)))
    go_ret
    exact ⟨rfl, M.upd1 0 rfl⟩
set_option maxHeartbeats 2000000 in
theorem Fault_ok (he : x.err = 0) :
    Calls Tryz.prog 92 #[.pointer (some ⟨g, 0, none⟩)] w fun e w' => e = .returned (.tuple #[.int .i64 0, .int .i64 0]) ∧ w = w' := by
  have M := Mem.start1 h
  have H0 := Lib.hid he
  clear he
  go_enter Tryz.func92, Tryz.ntmps92
  go_wp2_with (first | (go_at_call 94; go_must (refine (reads_ok g x _ h H0.out).mono ?_; rintro e w1 ⟨rfl, rfl⟩)))
  go_ret2
  exact ⟨rfl, rfl⟩
set_option maxHeartbeats 2000000 in
theorem Fault_no (he : x.err ≠ 0) :
    Calls Tryz.prog 92 #[.pointer (some ⟨g, 0, none⟩)] w fun e w' => e = .returned (.tuple #[.int .i64 x.err, .int .i64 x.read]) ∧ Below w.heap.size w w' := by
  have M := Mem.start1 h
  have H0 := Lib.hid he
  clear he
  go_enter Tryz.func92, Tryz.ntmps92
  go_wp2_with ((first | (go_at_call 94; go_must (refine (reads_no g x _ h H0.out).mono ?_; rintro e w1 ⟨rfl, rfl⟩)) | ((with_reducible show Code.wp _ (Code.region 3 _ _) _ _ _); go_must (refine region_det [(0, false), (1, false), (2, false), (4, false), (5, false), (6, false), (3, false), (8, false), (7, false), (9, false)] [(10, .ptr), (14, .ptr)] (by kernel_rfl) (by kernel_rfl) rfl (by kernel_rfl) ?_; replace M := M.drew; simp only [reord, opAt, List.map_cons, List.map_nil, List.getElem?_toArray, List.getElem?_cons_zero, List.getElem?_cons_succ, Option.getD_some])) | ((with_reducible show Seg _ _ _ _); go_must (first | refine Seg.intro ⟨fun h => absurd rfl h, ?_⟩ | refine Seg.intro ⟨fun _ => ixA, ?_⟩ | refine Seg.intro ⟨ndA, atA, ?_⟩)) | ((with_reducible show OnlyN _ _ _ _ _); refine OnlyN.intro (by kernel_rfl) ?_) | ((with_reducible refine tGuard ?_); first | refine gdS ?_ | (refine gdC ?_ ?_ <;> (intro hgd; rw [hgd]; try (exfalso; simp at hgd; omega)))) | ((with_reducible refine tConv _ 70 9 ?_); go_must (refine cvB ?_)) | ((with_reducible refine tLoad ?_); go_must (refine ldB ?_)) | ((with_reducible refine tStore ?_); go_must (refine stB ?_; clear M; intro w1 M; (try simp only [setC] at M))) | ((with_reducible refine tBox _ ?_); (refine bxA M ?_; clear M; intro g w1 M))) <;> (try conv => arg 5; simp only [Act.put, List.setIfInBounds_toArray, setC]))
  go_ret2
  exact ⟨rfl, (Kept.refl [] w).drew.below⟩
set_option maxHeartbeats 2000000 in
theorem End_c (hf : x.fit) :
    Calls Tryz.prog 62 #[.pointer (some ⟨g, 0, none⟩)] w fun e w' => e = .returned (.int .i64 x.fin) ∧ Below w.heap.size w w' := by
  have M := (Mem.start [] w)
  have H := Lib.hid h
  by_cases he : x.err = 0
  · have H0 := Lib.hid he
    by_cases hl : x.rest.length = 0
    · have e : x.fin = 0 := by unfold InS.fin; rw [if_pos he, if_pos hl]
      have hl' : ¬ (0 : Int) < (x.rest.length : Int) := by omega
      rw [e]; clear e hl he
      go_enter Tryz.func62, Tryz.ntmps62
      go_wp2_with (first | (go_at_call 92; go_must (refine (Fault_ok g x _ H.out H0.out).mono ?_; rintro e w1 ⟨rfl, rfl⟩)) | (go_at_call 98; go_must (refine (Left_c g x _ H.out hf).mono ?_; rintro e w1 ⟨rfl, rfl⟩)))
      go_ret
      exact ⟨rfl, M.below⟩
    · have e : x.fin = 8 := by unfold InS.fin; rw [if_pos he, if_neg hl]
      have hl' : (0 : Int) < (x.rest.length : Int) := by omega
      rw [e]; clear e hl he
      go_enter Tryz.func62, Tryz.ntmps62
      go_wp2_with (first | (go_at_call 92; go_must (refine (Fault_ok g x _ H.out H0.out).mono ?_; rintro e w1 ⟨rfl, rfl⟩)) | (go_at_call 98; go_must (refine (Left_c g x _ H.out hf).mono ?_; rintro e w1 ⟨rfl, rfl⟩)))
      go_ret
      exact ⟨rfl, M.below⟩
  · have H0 := Lib.hid he
    have e : x.fin = x.err := by unfold InS.fin; rw [if_neg he]
    have hz0 : ((x.err : Int) == 0) = false := by simp; exact he
    rw [e]; clear e he
    go_enter Tryz.func62, Tryz.ntmps62
    go_wp2_with (first | (go_at_call 92; go_must (refine (Fault_no g x _ H.out H0.out).mono ?_; rintro e w1 ⟨rfl, hb⟩; replace M := M.call hb; clear hb)))
    go_ret
    exact ⟨rfl, M.below⟩
end
set_option maxHeartbeats 1000000 in
theorem packOf_c (s : List UInt8) (w : World) :
    Calls Tryz.prog 57 #[.string (mkS s)] w fun e w' => ∃ g, e = .returned (.pointer (some ⟨g, 0, none⟩)) ∧ Mem [] w w' [.row g (inV ⟨s, 0, 0⟩)] := by
  have M := Mem.start [] w
  go_enter Tryz.func57, Tryz.ntmps57
  go_wp2_with (first | ((with_reducible refine tBox (some 5) ?_); refine w_box M _ _ rfl rfl _ rfl (inV ⟨s, 0, 0⟩) rfl ?_; clear M; intro g w1 M; (try conv => arg 5; simp only [Act.put, List.setIfInBounds_toArray, setC])))
  go_ret
  exact ⟨g, rfl, M⟩
end Go.Proofs.YtidadhbaomieiaaGreat

/- A writer's object (pack.Out): its row, and the slice that it owns; pieces split and put together. No conditions. -/
namespace Go
namespace TL
open Go.RowKit
theorem Mem.split {F : List Nat} {w0 w : World} {a b c : Chunk} {L : List Chunk} (M : Mem F w0 w (c :: L)) (ha : a.ok w) (hb : b.ok w) (fa : ∀ k ∈ a.fp, k ∈ c.fp) (fb : ∀ k ∈ b.fp, k ∈ c.fp) (hd : ∀ k ∈ a.fp, k ∉ b.fp) : Mem F w0 w (a :: b :: L) := by
  have own0 := M.own 0 c rfl
  have nd0 : ∀ (j : Nat) (d : Chunk), L[j]? = some d → ∀ k ∈ c.fp, k ∉ d.fp := fun j d hj => M.nd 0 (j + 1) c d (by omega) rfl (by simpa using hj)
  refine ⟨M.kept, ?_, ?_, ?_⟩
  · rintro (_ | _ | i) d hd'
    · simp at hd'; subst hd'; exact ha
    · simp at hd'; subst hd'; exact hb
    · exact M.ok (i + 1) d (by simpa using hd')
  · rintro (_ | _ | i) d hd' k hk
    · simp at hd'; subst hd'; exact own0 k (fa k hk)
    · simp at hd'; subst hd'; exact own0 k (fb k hk)
    · exact M.own (i + 1) d (by simpa using hd') k hk
  · rintro (_ | _ | i) (_ | _ | j) x y hij hx hy k hk hk2
    · exact hij rfl
    · simp at hx hy; subst hx; subst hy; exact hd k hk hk2
    · simp at hx; subst hx; exact nd0 j y (by simpa using hy) k (fa k hk) hk2
    · simp at hx hy; subst hx; subst hy; exact hd k hk2 hk
    · exact hij rfl
    · simp at hx; subst hx; exact nd0 j y (by simpa using hy) k (fb k hk) hk2
    · simp at hy; subst hy; exact nd0 i x (by simpa using hx) k (fa k hk2) hk
    · simp at hy; subst hy; exact nd0 i x (by simpa using hx) k (fb k hk2) hk
    · exact M.nd (i + 1) (j + 1) x y (by omega) (by simpa using hx) (by simpa using hy) k hk hk2
theorem Mem.fuse {F : List Nat} {w0 w : World} {a b c : Chunk} {L : List Chunk} (M : Mem F w0 w (a :: b :: L)) (hc : c.ok w) (hf : ∀ k ∈ c.fp, k ∈ a.fp ∨ k ∈ b.fp) : Mem F w0 w (c :: L) := by
  have nd0 : ∀ (j : Nat) (d : Chunk), L[j]? = some d → ∀ k ∈ c.fp, k ∉ d.fp := fun j d hj k hk => by
    rcases hf k hk with h | h
    · exact M.nd 0 (j + 2) a d (by omega) rfl (by simpa using hj) k h
    · exact M.nd 1 (j + 2) b d (by omega) rfl (by simpa using hj) k h
  refine ⟨M.kept, ?_, ?_, ?_⟩
  · rintro (_ | i) d hd
    · simp at hd; subst hd; exact hc
    · exact M.ok (i + 2) d (by simpa using hd)
  · rintro (_ | i) d hd k hk
    · simp at hd; subst hd
      rcases hf k hk with h | h
      · exact M.own 0 a rfl k h
      · exact M.own 1 b rfl k h
    · exact M.own (i + 2) d (by simpa using hd) k hk
  · rintro (_ | i) (_ | j) x y hij hx hy k hk hk2
    · exact hij rfl
    · simp at hx; subst hx; exact nd0 j y (by simpa using hy) k hk hk2
    · simp at hy; subst hy; exact nd0 i x (by simpa using hx) k hk2 hk
    · exact M.nd (i + 2) (j + 2) x y (by omega) (by simpa using hx) (by simpa using hy) k hk hk2
theorem row_sees1 {w : World} {g : Nat} {b : UInt8} (h : (Chunk.row g (bs [b])).ok w) : SeesB w (.slice (some ⟨g, 0, none⟩) 1 1) [b] :=
  row_sees h (off := 0) (n := 1) (cap := 1) (by simp) (by omega) (by simp only [maxLen]; omega)
def outC (g : Nat) (v : Value) (l : List UInt8) : Chunk :=
  .obj (g :: v.ownBlock.toList) fun w => (Chunk.row g [v]).ok w ∧ (Chunk.sl 1 v l.length (bs l)).ok w ∧ g ∉ v.ownBlock.toList
theorem outC_ok {w : World} {g : Nat} {v : Value} {l : List UInt8} (h1 : (Chunk.row g [v]).ok w) (h2 : (Chunk.sl 1 v l.length (bs l)).ok w) (h3 : g ∉ v.ownBlock.toList) : (outC g v l).ok w := by
  refine ⟨fun k hk => ?_, ⟨h1, h2, h3⟩, fun w' hs hb => ⟨h1.stay hs fun k hk => hb k ?_, h2.stay hs fun k hk => hb k ?_, h3⟩⟩
  · rcases List.mem_cons.1 hk with rfl | hk
    · exact h1.lt _ (by simp [Chunk.fp])
    · exact h2.lt k hk
  · simp [Chunk.fp] at hk; subst hk; simp
  · exact List.mem_cons_of_mem _ hk
theorem Mem.outOpen {F : List Nat} {w0 w : World} {g : Nat} {v : Value} {l : List UInt8} {L : List Chunk} (M : Mem F w0 w (outC g v l :: L)) : Mem F w0 w (.row g [v] :: .sl 1 v l.length (bs l) :: L) := by
  obtain ⟨h1, h2, h3⟩ := (M.ok 0 _ rfl).2.1
  refine M.split h1 h2 (fun k hk => ?_) (fun k hk => List.mem_cons_of_mem _ hk) (fun k hk hk2 => ?_)
  · simp [Chunk.fp] at hk; subst hk; exact List.mem_cons_self
  · simp [Chunk.fp] at hk; subst hk; exact h3 hk2
theorem Mem.outShut {F : List Nat} {w0 w : World} {g : Nat} {v : Value} {l : List UInt8} {L : List Chunk} (M : Mem F w0 w (.row g [v] :: .sl 1 v l.length (bs l) :: L)) : Mem F w0 w (outC g v l :: L) := by
  refine M.fuse (outC_ok (M.ok 0 _ rfl) (M.ok 1 _ rfl) fun hk => M.nd 0 1 _ _ (by omega) rfl rfl g (by simp [Chunk.fp]) hk) fun k hk => ?_
  rcases List.mem_cons.1 hk with rfl | hk
  · exact .inl (by simp [Chunk.fp])
  · exact .inr hk
end TL
end Go

/- The walks of pack.Out's methods: what is written is behind what was. Conditions: lengths. -/
namespace Go.Proofs.YtidadhbaomieiaaGreat
open Go.RowKit Go.TL
set_option maxRecDepth 100000 in
set_option maxHeartbeats 1000000 in
theorem put_c (g : Nat) (v x : Value) (l news : List UInt8) (w : World) (h : (outC g v l).ok w) (hx : SeesB w x news) (hn : l.length + news.length ≤ 100000000) :
    Calls Tryz.prog 114 #[.pointer (some ⟨g, 0, none⟩), x] w fun e w' => e = .returned (.tuple #[]) ∧ ∃ v', Upd w (outC g v l) w' (outC g v' (l ++ news)) := by
  have hsrc : Src Tryz.prog w 1 x news.length (bs news) := Src_of_sees hx (bs_one _)
  have M := (Mem.start1 h).outOpen
  go_enter Tryz.func114, Tryz.ntmps114
  go_wp2_with ((first | ((with_reducible refine tGuard ?_); first | refine gdS ?_ | (refine gdC ?_ ?_ <;> (intro hgd; rw [hgd]; try (exfalso; simp at hgd; omega)))) | ((with_reducible refine tConv _ 70 9 ?_); go_must (refine cvB ?_)) | ((with_reducible refine tLoad ?_); go_must (refine ldB ?_)) | ((with_reducible refine tStore ?_); go_must (refine stB ?_; clear M; intro w1 M; (try simp only [setC] at M))) | ((with_reducible refine tBox _ ?_); (refine bxA M ?_; clear M; intro g w1 M)) | (at_builtin; go_must (refine w_append M 1 bytesT (.tmp 10) (.tmp 11) _ rfl uB rfl rfl rfl rfl _ _ hsrc (by simp only [maxLen]; omega) (by omega) ?_; clear M; intro p cap w1 M))) <;> (try conv => arg 5; simp only [Act.put, List.setIfInBounds_toArray, setC]))
  rw [← bs_append, ← List.length_append] at M
  exact bodyPost_end (results_none rfl _ _ _) rfl ⟨rfl, _, (M.outShut).upd1 0 rfl⟩
set_option maxRecDepth 100000 in
set_option maxHeartbeats 1000000 in
theorem Out_String_c (g : Nat) (v : Value) (l : List UInt8) (w : World) (h : (outC g v l).ok w) :
    Calls Tryz.prog 81 #[.pointer (some ⟨g, 0, none⟩)] w fun e w' => e = .returned (.string (mkS l)) ∧ w = w' := by
  have M := (Mem.start1 h).outOpen
  go_enter Tryz.func81, Tryz.ntmps81
  go_wp2_with ((first | ((with_reducible refine tGuard ?_); first | refine gdS ?_ | (refine gdC ?_ ?_ <;> (intro hgd; rw [hgd]; try (exfalso; simp at hgd; omega)))) | ((with_reducible refine tConv _ 70 9 ?_); go_must (refine cvB ?_)) | ((with_reducible refine tLoad ?_); go_must (refine ldB ?_)) | ((with_reducible refine tStore ?_); go_must (refine stB ?_; clear M; intro w1 M; (try simp only [setC] at M))) | ((with_reducible refine tBox _ ?_); (refine bxA M ?_; clear M; intro g w1 M))) <;> (try conv => arg 5; simp only [Act.put, List.setIfInBounds_toArray, setC]))
  go_ret
  exact ⟨rfl, rfl⟩
end Go.Proofs.YtidadhbaomieiaaGreat

/- The walks of pack.Out's Num, Text and Byte. Conditions: lengths. -/
namespace Go.Proofs.YtidadhbaomieiaaGreat
open Go.RowKit Go.TL
set_option maxHeartbeats 2000000 in
theorem Num_c (g : Nat) (v : Value) (l : List UInt8) (n : Nat) (a : Int) (ha : a = (n : Int)) (w : World) (h : n < 18446744073709551616) (hl : l.length ≤ 10000000) (ho : (outC g v l).ok w) :
    Calls Tryz.prog 113 #[.pointer (some ⟨g, 0, none⟩), .int .u64 a] w fun e w' => e = .returned (.tuple #[]) ∧ ∃ v', Upd w (outC g v l) w' (outC g v' (l ++ numL n)) := by
  subst ha
  have M := Mem.start1 ho
  have hn10 := numL_length_le n h
  go_enter Tryz.func113, Tryz.ntmps113
  go_wp2_with (first | (go_at_call 137; go_must (refine (size_c n _ h).mono ?_; rintro e w1 ⟨rfl, rfl⟩)))
  go_loopw [1, 4] (fun nv lv wr => ∃ (m : Nat) (d : List UInt8) (v' : Value), m < 18446744073709551616 ∧ d ++ numL m = numL n ∧ nv = .int .u64 m ∧ lv = .int .i64 (numL m).length ∧ Mem (outC g v l).fp w wr [outC g v' (l ++ d)]) (fun _ lv _ => (intOf lv).toNat)
  case atStart => exact ⟨n, [], v, h, rfl, rfl, rfl, by simpa using M⟩
  case round =>
    clear M
    obtain ⟨m, d, v', hm, hd, rfl, rfl, M⟩ := hrel
    have hdl : d.length ≤ 10 := by have := congrArg List.length hd; simp at this; omega
    by_cases h128 : m < 128
    · have e1 := numL_small h128
      rw [e1] at hd ⊢
      rw [List.length_singleton]
      go_wp2_with (first | ((with_reducible show wpList _ _ _ (Oper.mk _ (Op.buildSlice 70 1 _) _ _ _ _ :: _) _ _); go_must (refine w_buildSliceB M bytesT _ rfl rfl (by first | exact ev_tmp rfl | exact ev_const) ?_; clear M; intro g w1 M; (try conv => arg 5; simp only [Act.put, List.setIfInBounds_toArray, setC]))) | (go_at_call 114; go_must (refine (put_c _ _ _ _ [_] _ (M.ok 1 _ rfl) (row_sees1 (M.ok 0 _ rfl)) (by simp; omega)).mono ?_; rintro e w2 ⟨rfl, v1, U⟩; replace M := (M.upd 1 rfl U).tail; clear U)))
      simp only [List.set_cons_zero] at M
      rw [w8_nat, List.append_assoc, hd] at M
      exact bodyPost_end (results_none rfl _ _ _) rfl ⟨rfl, _, M.upd1 0 rfl⟩
    · have e1 := numL_big (n := m) (by omega)
      obtain ⟨k, ek⟩ : ∃ k, k = (numL (m / 128)).length := ⟨_, rfl⟩
      have hk : 0 < k := by rw [ek]; exact numL_pos _
      have e2 : (numL m).length = k + 1 := by rw [e1, ek]; rfl
      rw [e2]
      go_wp2_with (first | ((with_reducible show wpList _ _ _ (Oper.mk _ (Op.buildSlice 70 1 _) _ _ _ _ :: _) _ _); go_must (refine w_buildSliceB M bytesT _ rfl rfl (by first | exact ev_tmp rfl | exact ev_const) ?_; clear M; intro g w1 M; (try conv => arg 5; simp only [Act.put, List.setIfInBounds_toArray, setC]))) | (go_at_call 114; go_must (refine (put_c _ _ _ _ [_] _ (M.ok 1 _ rfl) (row_sees1 (M.ok 0 _ rfl)) (by simp; omega)).mono ?_; rintro e w2 ⟨rfl, v1, U⟩; replace M := (M.upd 1 rfl U).tail; clear U)))
      simp only [List.set_cons_zero] at M
      have eb : w8 (m : Int) ||| 128 = UInt8.ofNat (m % 128 + 128) := by
        rw [w8_nat]; exact or128 m
      rw [eb, List.append_assoc] at M
      have hk10 : k ≤ 10 := by have := numL_length_le (m / 128) (by omega); omega
      refine ⟨⟨m / 128, d ++ [UInt8.ofNat (m % 128 + 128)], v1, by omega, by rw [← hd, e1]; simp, by go_num, by rw [← ek, IntWalk.wrap64_in _ (by omega)], M⟩, ?_⟩
      rw [← ek, IntWalk.wrap64_in _ (by omega)]
      simp only [intOf]; omega
set_option maxHeartbeats 1000000 in
theorem Out_Text_c (g : Nat) (v : Value) (l t : List UInt8) (w : World) (ht : t.length ≤ 1000000) (hl : l.length ≤ 1000000) (ho : (outC g v l).ok w) :
    Calls Tryz.prog 80 #[.pointer (some ⟨g, 0, none⟩), .string (mkS t)] w fun e w' => e = .returned (.tuple #[]) ∧ ∃ v', Upd w (outC g v l) w' (outC g v' (l ++ textL t)) := by
  have M := Mem.start1 ho
  have hn := numL_length_le t.length (by omega)
  go_enter Tryz.func80, Tryz.ntmps80
  go_wp2_with (first | ((with_reducible refine tConv (some 11) 9 70 ?_); go_must (refine w_bytes M _ _ _ _ rfl rfl rfl Tryz.underlying9 Tryz.underlying70 Tryz.underlying5 (by first | omega | (simp; omega)) ?_; clear M; intro gb capgb w1 hcapgb M; (try conv => arg 5; simp only [Act.put, List.setIfInBounds_toArray, setC]))) | (go_at_call 113; go_must (refine (Num_c _ _ _ t.length _ (I64_nat _ (by omega)) _ (by omega) (by omega) (M.ok 0 _ rfl)).mono ?_; rintro e w2 ⟨rfl, v1, U⟩; replace M := M.upd 0 rfl U; clear U; simp only [List.set_cons_zero] at M)) | (go_at_call 114; go_must (refine (put_c _ _ _ _ _ _ (M.ok 1 _ rfl) (SeesB.of_own (M.ok 0 _ rfl) rfl) (by simp; omega)).mono ?_; rintro e w2 ⟨rfl, v1, U⟩; replace M := (M.upd 1 rfl U).tail; clear U)))
  simp only [List.set_cons_zero, List.append_assoc] at M
  exact bodyPost_end (results_none rfl _ _ _) rfl ⟨rfl, _, M.upd1 0 rfl⟩
end Go.Proofs.YtidadhbaomieiaaGreat

/- The walks of pack.In.Byte and pack.In.Num, for seats without batches. Conditions: lengths. -/
namespace Go.Proofs.YtidadhbaomieiaaGreat
open Go.RowKit Go.TL
section
variable (g : Nat) (x : InS) (w : World) (h : (Chunk.row g (inV x)).ok w)
include h
set_option maxRecDepth 100000 in
set_option maxHeartbeats 2000000 in
theorem In_Byte_c (hf : x.fit) :
    Calls Tryz.prog 61 #[.pointer (some ⟨g, 0, none⟩)] w fun e w' => e = .returned (.int .u8 x.byte.1) ∧ Upd w (.row g (inV x)) w' (.row g (inV x.byte.2)) := by
  obtain ⟨rest, read, err⟩ := x
  have M := Mem.start1 (c := .row g [.string (mkS rest), .int .i64 (read : Nat), .int .i64 (err : Nat)]) h
  by_cases h0 : err = 0
  · subst h0
    cases rest with
    | nil =>
      go_enter Tryz.func61, Tryz.ntmps61
      go_wp2_with ((first | (go_at_call 94; go_must (refine (reads_ok g _ _ h rfl).mono ?_; rintro e w1 ⟨rfl, rfl⟩)) | ((with_reducible refine tGuard ?_); refine gdS ?_) | ((with_reducible refine tConv _ 70 9 ?_); go_must (refine cvB ?_)) | ((with_reducible refine tLoad ?_); go_must (refine ldB ?_)) | ((with_reducible refine tStore ?_); go_must (refine stB ?_; clear M; intro w1 M; (try simp only [setC] at M))) | ((with_reducible refine tBox _ ?_); (refine bxA M ?_; clear M; intro g w1 M))) <;> (try conv => arg 5; simp only [Act.put, List.setIfInBounds_toArray, setC]))
      go_ret
      exact ⟨rfl, M.upd1 0 rfl⟩
    | cons b r =>
      have hb : ((b.toNat : Nat) : Int) = I8 b := (I8_eq b).symm
      have e : InS.byte ⟨b :: r, read, 0⟩ = (b.toNat, InS.take ⟨b :: r, read, 0⟩ 1 0) := rfl
      rw [e]; simp only [hb]; clear e hb
      go_enter Tryz.func61, Tryz.ntmps61
      go_wp2_with ((first | (go_at_call 94; go_must (refine (reads_ok g _ _ h rfl).mono ?_; rintro e w1 ⟨rfl, rfl⟩)) | (go_at_call 96; go_must (refine (takes_ok g _ _ (M.ok 0 _ rfl) hf 1 (by simp) _ _ rfl rfl).mono ?_; rintro e w1 ⟨rfl, U⟩; replace M := M.upd 0 rfl U; clear U)) | ((with_reducible refine tGuard ?_); refine gdS ?_) | ((with_reducible refine tConv _ 70 9 ?_); go_must (refine cvB ?_)) | ((with_reducible refine tLoad ?_); go_must (refine ldB ?_)) | ((with_reducible refine tStore ?_); go_must (refine stB ?_; clear M; intro w1 M; (try simp only [setC] at M))) | ((with_reducible refine tBox _ ?_); (refine bxA M ?_; clear M; intro g w1 M))) <;> (try conv => arg 5; simp only [Act.put, List.setIfInBounds_toArray, setC]))
      go_ret
      exact ⟨rfl, M.upd1 0 rfl⟩
  · have e1 : InS.byte ⟨rest, read, err⟩ = (0, ⟨rest, read, err⟩) := by unfold InS.byte; rw [if_neg h0]
    rw [e1]; clear e1
    have H0 := Lib.hid h0
    clear h0
    go_enter Tryz.func61, Tryz.ntmps61
    go_wp2_with (first | (go_at_call 94; go_must (refine (reads_no g _ _ h H0.out).mono ?_; rintro e w1 ⟨rfl, rfl⟩)))
    go_ret
    exact ⟨rfl, M.upd1 0 rfl⟩
end
section
variable (g : Nat) (x : InS) (w : World) (h : (Chunk.row g (inV x)).ok w)
include h
set_option maxRecDepth 100000 in
set_option maxHeartbeats 2000000 in
theorem In_Num_c (hf : x.fit) :
    Calls Tryz.prog 59 #[.pointer (some ⟨g, 0, none⟩)] w fun e w' => e = .returned (.int .u64 (x.most maxU).1) ∧ Upd w (.row g (inV x)) w' (.row g (inV (x.most maxU).2)) := by
  have M := Mem.start1 h
  have hl : x.rest.length ≤ 1000000000 := by unfold InS.fit at hf; omega
  by_cases h0 : x.err = 0
  · have e1 : x.most maxU = ((readN x.rest maxU).1, x.take (readN x.rest maxU).2.1 (readN x.rest maxU).2.2) := by unfold InS.most; rw [if_pos h0]
    rw [e1]; clear e1
    obtain ⟨⟨n, b, er⟩, eR⟩ : ∃ R, R = readN x.rest maxU := ⟨_, rfl⟩
    have hb := (read_le eR.symm).1
    have hz := read_err x.rest maxU
    have B := number_c x.rest w hl
    rw [← eR] at B hz ⊢
    have B := Lib.hid B
    have HZ := Lib.hid hz
    clear eR hz
    simp only
    have H0 := Lib.hid h0
    clear h0
    by_cases he : er = 0
    · subst he
      go_enter Tryz.func59, Tryz.ntmps59
      go_wp2_with ((first | (go_at_call 94; go_must (refine (reads_ok g x _ h H0.out).mono ?_; rintro e w1 ⟨rfl, rfl⟩)) | (go_at_call 97; go_must (refine (B.out).mono ?_; rintro e w1 ⟨rfl, rfl⟩)) | (go_at_call 96; go_must (refine (takes_ok g x _ (M.ok 0 _ rfl) hf b hb _ _ rfl rfl).mono ?_; rintro e w1 ⟨rfl, U⟩; replace M := M.upd 0 rfl U; clear U)) | ((with_reducible refine tGuard ?_); first | refine gdS ?_ | (refine gdC ?_ ?_ <;> (intro hgd; rw [hgd]; try (exfalso; simp at hgd; omega)))) | ((with_reducible refine tConv _ 70 9 ?_); go_must (refine cvB ?_)) | ((with_reducible refine tLoad ?_); go_must (refine ldB ?_)) | ((with_reducible refine tStore ?_); go_must (refine stB ?_; clear M; intro w1 M; (try simp only [setC] at M))) | ((with_reducible refine tBox _ ?_); (refine bxA M ?_; clear M; intro g w1 M))) <;> (try conv => arg 5; simp only [Act.put, List.setIfInBounds_toArray, setC]))
      go_ret
      exact ⟨rfl, M.upd1 0 rfl⟩
    · obtain ⟨rfl, rfl⟩ : n = 0 ∧ b = 0 := by
        have := HZ.out; simp at this; omega
      go_enter Tryz.func59, Tryz.ntmps59
      go_wp2_with ((first | (go_at_call 94; go_must (refine (reads_ok g x _ h H0.out).mono ?_; rintro e w1 ⟨rfl, rfl⟩)) | (go_at_call 97; go_must (refine (B.out).mono ?_; rintro e w1 ⟨rfl, rfl⟩)) | (go_at_call 96; go_must (refine (takes_no g x _ (M.ok 0 _ rfl) 0 er he _ _ rfl).mono ?_; rintro e w1 ⟨rfl, U⟩; replace M := M.upd 0 rfl U; clear U)) | ((with_reducible refine tGuard ?_); first | refine gdS ?_ | (refine gdC ?_ ?_ <;> (intro hgd; rw [hgd]; try (exfalso; simp at hgd; omega)))) | ((with_reducible refine tConv _ 70 9 ?_); go_must (refine cvB ?_)) | ((with_reducible refine tLoad ?_); go_must (refine ldB ?_)) | ((with_reducible refine tStore ?_); go_must (refine stB ?_; clear M; intro w1 M; (try simp only [setC] at M))) | ((with_reducible refine tBox _ ?_); (refine bxA M ?_; clear M; intro g w1 M))) <;> (try conv => arg 5; simp only [Act.put, List.setIfInBounds_toArray, setC]))
      go_ret
      exact ⟨rfl, M.upd1 0 rfl⟩
  · have e1 : x.most maxU = (0, x) := by unfold InS.most; rw [if_neg h0]
    rw [e1]; clear e1
    have H0 := Lib.hid h0
    clear h0
    go_enter Tryz.func59, Tryz.ntmps59
    go_wp2_with (first | (go_at_call 94; go_must (refine (reads_no g x _ h H0.out).mono ?_; rintro e w1 ⟨rfl, rfl⟩)))
    go_ret
    exact ⟨rfl, M.upd1 0 rfl⟩
end
end Go.Proofs.YtidadhbaomieiaaGreat

/- The walks of the reference's layer 12: a number's and a text's bytes, and how they are read. Conditions: lengths. -/
namespace Go
namespace TL
open Go.RowKit
def irV (x : RS) : List Value := [.string (mkS x.rest), .int .i64 x.err]
end TL
end Go
namespace Go.Proofs.YtidadhbaomieiaaGreat
open Go.RowKit Go.TL
section
variable (g : Nat) (x : RS) (w : World) (h : (Chunk.row g (irV x)).ok w)
include h
end
end Go.Proofs.YtidadhbaomieiaaGreat

/- The walk of the reference's reader of texts (layer 12). Conditions: lengths. -/
namespace Go
namespace TL
end TL
end Go
namespace Go.Proofs.YtidadhbaomieiaaGreat
open Go.RowKit Go.TL
section
variable (g : Nat) (x : RS) (w : World) (h : (Chunk.row g (irV x)).ok w)
include h
end
end Go.Proofs.YtidadhbaomieiaaGreat

/- The walks of pack.In.Byte, pack.Out.Byte and the reference's In.Byte. Conditions: lengths. -/
namespace Go
namespace TL
def RS.byte (x : RS) : Nat × RS := if x.err = 0 then (match x.rest with | [] => (0, ⟨[], 7⟩) | b :: r => (b.toNat, ⟨r, 0⟩)) else (0, x)
theorem Alike.byte {x : InS} {y : RS} (h : Alike x y) : x.byte.1 = y.byte.1 ∧ Alike x.byte.2 y.byte.2 := by
  obtain ⟨h1, h2⟩ := h
  unfold InS.byte RS.byte
  by_cases h0 : x.err = 0
  · rw [if_pos h0, if_pos (h1 ▸ h0), h2 h0]
    cases e : y.rest with
    | nil => simp only []; unfold InS.take; rw [if_neg (by decide)]; exact ⟨trivial, rfl, fun h => by cases h⟩
    | cons b r => simp only []; unfold InS.take; rw [if_pos rfl]; exact ⟨trivial, rfl, fun _ => by simp only [h2 h0, e]; rfl⟩
  · rw [if_neg h0, if_neg (h1 ▸ h0)]
    exact ⟨rfl, h1, fun h => absurd h h0⟩
end TL
end Go
namespace Go.Proofs.YtidadhbaomieiaaGreat
open Go.RowKit Go.TL
set_option maxRecDepth 100000 in
set_option maxHeartbeats 1000000 in
theorem Out_Byte_c (g : Nat) (v : Value) (l : List UInt8) (b : UInt8) (w : World) (hl : l.length ≤ 1000000) (ho : (outC g v l).ok w) :
    Calls Tryz.prog 91 #[.pointer (some ⟨g, 0, none⟩), .int .u8 (I8 b)] w fun e w' => e = .returned (.tuple #[]) ∧ ∃ v', Upd w (outC g v l) w' (outC g v' (l ++ [b])) := by
  have M := Mem.start1 ho
  go_enter Tryz.func91, Tryz.ntmps91
  go_wp2_with (first | ((with_reducible show wpList _ _ _ (Oper.mk _ (Op.buildSlice 70 1 _) _ _ _ _ :: _) _ _); go_must (refine w_buildSliceB M bytesT _ rfl rfl (by first | exact ev_tmp rfl | exact ev_const) ?_; clear M; intro g w1 M; (try conv => arg 5; simp only [Act.put, List.setIfInBounds_toArray, setC]))) | (go_at_call 114; go_must (refine (put_c _ _ _ _ [_] _ (M.ok 1 _ rfl) (row_sees1 (M.ok 0 _ rfl)) (by simp; omega)).mono ?_; rintro e w2 ⟨rfl, v1, U⟩; replace M := (M.upd 1 rfl U).tail; clear U)))
  simp only [List.set_cons_zero] at M
  exact bodyPost_end (results_none rfl _ _ _) rfl ⟨rfl, _, M.upd1 0 rfl⟩
section
variable (g : Nat) (x : RS) (w : World) (h : (Chunk.row g (irV x)).ok w)
include h
end
end Go.Proofs.YtidadhbaomieiaaGreat

/- A row that came in and that is none of those that may be turned: its loads. No conditions. -/
namespace Go
namespace TL
open Go.RowKit
section
variable {P : Program} {ops : Array Oper} {rest : List Oper} {o : Oper} {a : Act} {w w0 : World} {Q : Exit → Act → World → Prop} {F : List Nat} {L : List Chunk} {g : Nat}
theorem Mem.staysF {c : Chunk} (M : Mem F w0 w L) (R : c.ok w0) (hF : ∀ k ∈ c.fp, k ∉ F) : c.ok w := R.stay M.kept.size fun k hk => M.kept.block k (R.lt k hk) (hF k hk)
theorem w_rowF {cs : List Value} (M : Mem F w0 w L) (R : (Chunk.row g cs).ok w0) (hF : g ∉ F) (t : TypeId) (x : Operand) (ho : o.op = .load t x) {off : Nat} (hx : a.eval x = .pointer (some ⟨g, off, none⟩)) (hw : Region.wanted o (yielded ops a.tmps) = true)
    (ht : scalarT P t = true) {v : Value} (hv : cs[off]? = some v) (h : wpList P ops Q rest (a.put o.dst v) w) : wpList P ops Q (o :: rest) a w := by
  have R' := M.staysF R (by intro k hk; simp only [Chunk.fp, List.mem_singleton] at hk; subst hk; exact hF)
  exact wpW hw fun _ hK => by
    unfold Oper.wp execOp
    simp only [ho, hx, Instr.loadAt, Instr.sureAddr, Sem.run_bind, Sem.run_pure, Result.andThen_ok, run_loadVar_scalar ht w g _ _ (rowCell R' hv)]
    exact hK _ _ h
theorem w_rowFA {cs : List Value} (M : Mem F w0 w L) (R : (Chunk.row g cs).ok w0) (hF : g ∉ F) (t : TypeId) (x : Operand) (ho : o.op = .load t x) {off : Nat} (hx : a.eval x = .pointer (some ⟨g, off, none⟩)) (hw : Region.wanted o (yielded ops a.tmps) = true)
    (ht : rowT P t = true) (pre mid post : List Value) (hcs : cs = pre ++ (mid ++ post)) (hpre : pre.length = off) (hn : (P.info? t).map (·.size) = some mid.length) (h : wpList P ops Q rest (a.put o.dst (.agg mid.toArray)) w) : wpList P ops Q (o :: rest) a w := by
  have R' := M.staysF R (by intro k hk; simp only [Chunk.fp, List.mem_singleton] at hk; subst hk; exact hF)
  exact wpW hw fun _ hK => by
    unfold rowT at ht
    cases hu : P.underlying t with
    | none => simp [hu] at ht
    | some d =>
      simp only [hu] at ht
      refine wp_load_mid t x ho g off hx mid d ?_ hu ht hn (hK _ _ h)
      intro j v hv
      have hj : j < mid.length := (List.getElem?_eq_some_iff.1 hv).1
      refine rowCell R' ?_
      rw [hcs, ← hpre, List.getElem?_append_right (by omega), Nat.add_sub_cancel_left, List.getElem?_append_left hj]; exact hv
theorem stab_rowF {cs : List Value} (M : Mem F w0 w L) {is : List Nat} (R0 : (Chunk.row g cs).ok w0) (hF : g ∉ F) (off : Nat) {v : Value} {t : TypeId} {x : Operand} (ho : o.op = .load t x) (ht : scalarT P t = true) (hv : cs[off]? = some v) : Stab P (IxOk M is) o (.pointer (some ⟨g, off, none⟩)) := by
  unfold Stab; rw [ho]
  have R' : ∀ w' : World, Kept F w0 w' → (Chunk.row g cs).ok w' := fun w' k => R0.stay k.size fun j hj => k.block j (R0.lt j hj) (by simp only [Chunk.fp, List.mem_singleton] at hj; subst hj; exact hF)
  refine ⟨v, fun w' hw => ?_⟩
  simp only [Instr.loadAt, Instr.sureAddr, Sem.run_bind, Sem.run_pure, Result.andThen_ok, run_loadVar_scalar ht w' g off _ (rowCell (R' w' hw.1) hv)]
end
end TL
end Go

/- The walks of layer 18's fields: msg.number, msg.hash and the closures. Conditions: lengths. -/
namespace Go.Proofs.YtidadhbaomieiaaGreat
open Go.RowKit Go.TL
def numF (g1 g2 : Nat) : Value := .agg #[.func (.func 164) #[] #[.pointer (some ⟨g2, 0, none⟩), .pointer (some ⟨g1, 0, none⟩)], .func (.func 165) #[] #[.pointer (some ⟨g1, 0, none⟩), .pointer (some ⟨g2, 0, none⟩)]]
def hashF (g : Nat) : Value := .agg #[.func (.func 166) #[] #[.pointer (some ⟨g, 0, none⟩)], .func (.func 167) #[] #[.pointer (some ⟨g, 0, none⟩)]]
set_option maxRecDepth 100000 in
set_option maxHeartbeats 2000000 in
theorem msgNumber_c (most : Int) (f : Nat) (w : World) : Calls Tryz.prog 122 #[.int .i64 most, .func (.func f) #[] #[]] w fun r w' => ∃ g1 g2, r = .returned (numF g1 g2) ∧ Mem [] w w' [.row g2 [.func (.func f) #[] #[]], .row g1 [.int .i64 most]] := by
  have M := Mem.start [] w
  have hmf : ∀ (fn : Fn) (first cap : Array Value) (w : World), (Instr.makeFunc fn first cap).run Tryz.prog w = .ok (.func fn first cap) w := fun _ _ _ _ => rfl
  go_enter Tryz.func122, Tryz.ntmps122
  go_wp2_with ((first | ((with_reducible refine tBox (some 2) ?_); refine w_box M _ _ rfl rfl _ rfl ([.int .i64 most]) rfl ?_; clear M; intro g1 w1 M) | ((with_reducible refine tBox (some 3) ?_); refine w_box M _ _ rfl rfl _ rfl ([.func (.func f) #[] #[]]) rfl ?_; clear M; intro g2 w1 M) | ((with_reducible refine tAlloc (some 4) 175 ?_); refine w_alloc M _ rfl rfl (.agg #[.nilFunc, .nilFunc]) ([.nilFunc, .nilFunc]) (by kernel_rfl) rfl ?_; clear M; intro gr w1 M) | ((with_reducible refine tGuard ?_); first | refine gdS ?_ | (refine gdC ?_ ?_ <;> (intro hgd; rw [hgd]; try (exfalso; simp at hgd; omega)))) | ((with_reducible refine tConv _ 70 9 ?_); go_must (refine cvB ?_)) | ((with_reducible refine tLoad ?_); go_must (refine ldB ?_)) | ((with_reducible refine tStore ?_); go_must (refine stB ?_; clear M; intro w1 M; (try simp only [setC] at M))) | ((with_reducible refine tBox _ ?_); (refine bxA M ?_; clear M; intro g w1 M))) <;> (try conv => arg 5; simp only [Act.put, List.setIfInBounds_toArray, setC]))
  exact bodyPost_ret (results_row rfl _ _ gr 0 [.func (.func 164) #[] #[.pointer (some ⟨g2, 0, none⟩), .pointer (some ⟨g1, 0, none⟩)], .func (.func 165) #[] #[.pointer (some ⟨g1, 0, none⟩), .pointer (some ⟨g2, 0, none⟩)]] _ rfl (M.ok 0 _ rfl).2.1 Tryz.underlying175 rfl (by kernel_rfl)) rfl ⟨g1, g2, rfl, M.tail⟩
set_option maxRecDepth 100000 in
set_option maxHeartbeats 2000000 in
theorem msgHash_c (f : Nat) (w : World) : Calls Tryz.prog 129 #[.func (.func f) #[] #[]] w fun r w' => ∃ g, r = .returned (hashF g) ∧ Mem [] w w' [.row g [.func (.func f) #[] #[]]] := by
  have M := Mem.start [] w
  have hmf : ∀ (fn : Fn) (first cap : Array Value) (w : World), (Instr.makeFunc fn first cap).run Tryz.prog w = .ok (.func fn first cap) w := fun _ _ _ _ => rfl
  go_enter Tryz.func129, Tryz.ntmps129
  go_wp2_with ((first | ((with_reducible refine tBox (some 1) ?_); refine w_box M _ _ rfl rfl _ rfl ([.func (.func f) #[] #[]]) rfl ?_; clear M; intro g1 w1 M) | ((with_reducible refine tAlloc (some 2) 175 ?_); refine w_alloc M _ rfl rfl (.agg #[.nilFunc, .nilFunc]) ([.nilFunc, .nilFunc]) (by kernel_rfl) rfl ?_; clear M; intro gr w1 M) | ((with_reducible refine tGuard ?_); first | refine gdS ?_ | (refine gdC ?_ ?_ <;> (intro hgd; rw [hgd]; try (exfalso; simp at hgd; omega)))) | ((with_reducible refine tConv _ 70 9 ?_); go_must (refine cvB ?_)) | ((with_reducible refine tLoad ?_); go_must (refine ldB ?_)) | ((with_reducible refine tStore ?_); go_must (refine stB ?_; clear M; intro w1 M; (try simp only [setC] at M))) | ((with_reducible refine tBox _ ?_); (refine bxA M ?_; clear M; intro g w1 M))) <;> (try conv => arg 5; simp only [Act.put, List.setIfInBounds_toArray, setC]))
  exact bodyPost_ret (results_row rfl _ _ gr 0 [.func (.func 166) #[] #[.pointer (some ⟨g1, 0, none⟩)], .func (.func 167) #[] #[.pointer (some ⟨g1, 0, none⟩)]] _ rfl (M.ok 0 _ rfl).2.1 Tryz.underlying175 rfl (by kernel_rfl)) rfl ⟨g1, rfl, M.tail⟩
theorem at1F_c (g : Nat) (w : World) : Calls Tryz.prog 123 #[.pointer (some ⟨g, 0, none⟩)] w fun e w' => e = .returned (.pointer (some ⟨g, 1, none⟩)) ∧ w = w' := by
  go_enter Tryz.func123, Tryz.ntmps123
  go_wp2_with fail
  go_ret
  exact ⟨rfl, rfl⟩
theorem at2F_c (g : Nat) (w : World) : Calls Tryz.prog 124 #[.pointer (some ⟨g, 0, none⟩)] w fun e w' => e = .returned (.pointer (some ⟨g, 2, none⟩)) ∧ w = w' := by
  go_enter Tryz.func124, Tryz.ntmps124
  go_wp2_with fail
  go_ret
  exact ⟨rfl, rfl⟩
theorem at3F_c (g : Nat) (w : World) : Calls Tryz.prog 125 #[.pointer (some ⟨g, 0, none⟩)] w fun e w' => e = .returned (.pointer (some ⟨g, 3, none⟩)) ∧ w = w' := by
  go_enter Tryz.func125, Tryz.ntmps125
  go_wp2_with fail
  go_ret
  exact ⟨rfl, rfl⟩
theorem at4F_c (g : Nat) (w : World) : Calls Tryz.prog 126 #[.pointer (some ⟨g, 0, none⟩)] w fun e w' => e = .returned (.pointer (some ⟨g, 7, none⟩)) ∧ w = w' := by
  go_enter Tryz.func126, Tryz.ntmps126
  go_wp2_with fail
  go_ret
  exact ⟨rfl, rfl⟩
theorem at5F_c (g : Nat) (w : World) : Calls Tryz.prog 127 #[.pointer (some ⟨g, 0, none⟩)] w fun e w' => e = .returned (.pointer (some ⟨g, 40, none⟩)) ∧ w = w' := by
  go_enter Tryz.func127, Tryz.ntmps127
  go_wp2_with fail
  go_ret
  exact ⟨rfl, rfl⟩
theorem at6F_c (g : Nat) (w : World) : Calls Tryz.prog 128 #[.pointer (some ⟨g, 0, none⟩)] w fun e w' => e = .returned (.pointer (some ⟨g, 41, none⟩)) ∧ w = w' := by
  go_enter Tryz.func128, Tryz.ntmps128
  go_wp2_with fail
  go_ret
  exact ⟨rfl, rfl⟩
theorem at7F_c (g : Nat) (w : World) : Calls Tryz.prog 130 #[.pointer (some ⟨g, 0, none⟩)] w fun e w' => e = .returned (.pointer (some ⟨g, 8, none⟩)) ∧ w = w' := by
  go_enter Tryz.func130, Tryz.ntmps130
  go_wp2_with fail
  go_ret
  exact ⟨rfl, rfl⟩
theorem at8F_c (g : Nat) (w : World) : Calls Tryz.prog 131 #[.pointer (some ⟨g, 0, none⟩)] w fun e w' => e = .returned (.pointer (some ⟨g, 42, none⟩)) ∧ w = w' := by
  go_enter Tryz.func131, Tryz.ntmps131
  go_wp2_with fail
  go_ret
  exact ⟨rfl, rfl⟩
theorem at9F_c (g : Nat) (w : World) : Calls Tryz.prog 132 #[.pointer (some ⟨g, 0, none⟩)] w fun e w' => e = .returned (.pointer (some ⟨g, 74, none⟩)) ∧ w = w' := by
  go_enter Tryz.func132, Tryz.ntmps132
  go_wp2_with fail
  go_ret
  exact ⟨rfl, rfl⟩
def mfFn : Mf → Nat
  | .e => 123 | .a => 124 | .o => 125 | .p => 126 | .v => 127 | .i => 128
set_option maxRecDepth 100000 in
set_option maxHeartbeats 8000000 in
theorem numPut_c (q : Mf) (most : Int) (gm g1 g2 go : Nat) (m : Ms) (v : Value) (l : List UInt8) (w : World) (hm : m.fit) (hn : 0 ≤ q.get m ∧ q.get m ≤ 9223372036854775807) (hl : l.length ≤ 1000000) (ho : (outC go v l).ok w)
    (R : (Chunk.row gm (msgC m)).ok w) (B1 : (Chunk.row g1 [.int .i64 most]).ok w) (B2 : (Chunk.row g2 [.func (.func (mfFn q)) #[] #[]]).ok w) (n0 : gm ∉ (outC go v l).fp) (n1 : g1 ∉ (outC go v l).fp) (n2 : g2 ∉ (outC go v l).fp) :
    Calls Tryz.prog 164 #[.pointer (some ⟨go, 0, none⟩), .pointer (some ⟨gm, 0, none⟩), .pointer (some ⟨g2, 0, none⟩), .pointer (some ⟨g1, 0, none⟩)] w fun e w' => e = .returned (.bool (decide (q.get m ≤ most))) ∧ ∃ v', Upd w (outC go v l) w' (outC go v' (l ++ numL (q.get m).toNat)) := by
  have M := Mem.start1 ho
  have HQ := msgC_num hm q
  obtain ⟨z, ez⟩ : ∃ z, z = q.get m := ⟨_, rfl⟩
  rw [← ez] at HQ hn ⊢
  clear ez
  obtain ⟨z, rfl⟩ : ∃ n : Nat, z = n := ⟨z.toNat, by omega⟩
  have e1 := I64_nat z (by omega)
  replace HQ := Lib.hid HQ
  cases q
  all_goals
    simp only [mfFn] at B2
    go_enter Tryz.func164, Tryz.ntmps164
    go_wp2_with ((first | ((with_reducible refine tLoad ?_); go_must (refine w_at _ _ rfl (by exact ev_tmp rfl) ?_; intro hx; (first | refine w_rowF M B2 n2 _ _ rfl hx rfl (by decide +kernel) rfl ?_ | refine w_rowF M B1 n1 _ _ rfl hx rfl (by decide +kernel) rfl ?_ | refine w_rowF M R n0 _ _ rfl hx rfl (by decide +kernel) HQ.out ?_); clear hx)) | ((first | (go_at_call 123; refine (at1F_c _ _).mono ?_) | (go_at_call 124; refine (at2F_c _ _).mono ?_) | (go_at_call 125; refine (at3F_c _ _).mono ?_) | (go_at_call 126; refine (at4F_c _ _).mono ?_) | (go_at_call 127; refine (at5F_c _ _).mono ?_) | (go_at_call 128; refine (at6F_c _ _).mono ?_)); rintro e w1 ⟨rfl, rfl⟩) | (go_at_call 113; go_must (refine (Num_c _ _ l z (z : Int) rfl _ (by omega) (by omega) (M.ok 0 _ rfl)).mono ?_; rintro r w2 ⟨rfl, v1, U⟩; replace M := M.upd 0 rfl U; clear U; simp only [setC] at M)) | ((with_reducible refine tGuard ?_); refine gdS ?_) | fail | ((with_reducible refine tLoad ?_); go_must (refine ldS ?_)) | ((with_reducible refine tStore ?_); go_must (refine stS ?_; clear M; intro w1 M; (try simp only [setC] at M))) | ((with_reducible refine tBox _ ?_); (refine bxA M ?_; clear M; intro g w1 M))) <;> (try conv => arg 5; simp only [Act.put, List.setIfInBounds_toArray, setC]))
    go_ret
    exact ⟨rfl, _, M.upd1 0 rfl⟩
end Go.Proofs.YtidadhbaomieiaaGreat

/- A callee that turns several pieces: the memory starts anew at its call, and is joined behind it. No conditions. -/
namespace Go
namespace TL
open Go.RowKit
theorem mem_fps {K : List Chunk} {i : Nat} {c : Chunk} (h : K[i]? = some c) {k : Nat} (hk : k ∈ c.fp) : k ∈ K.flatMap Chunk.fp := List.mem_flatMap.2 ⟨c, List.mem_of_getElem? h, hk⟩
theorem Mem.again {F : List Nat} {w0 w : World} {K L : List Chunk} (M : Mem F w0 w (K ++ L)) : Mem (K.flatMap Chunk.fp) w w K := by
  have e : ∀ {i : Nat} {c : Chunk}, K[i]? = some c → (K ++ L)[i]? = some c := fun {i c} h => by rw [List.getElem?_append_left (List.getElem?_eq_some_iff.1 h).1]; exact h
  exact ⟨Kept.refl _ _, fun i c h => M.ok i c (e h), fun i c h k hk => .inl (mem_fps h hk), fun i j c d hij hi hj => M.nd i j c d hij (e hi) (e hj)⟩
theorem Mem.turn {F : List Nat} {w0 w w' : World} {K K' L : List Chunk} (M : Mem F w0 w (K ++ L)) (U : Mem (K.flatMap Chunk.fp) w w' K') : Mem F w0 w' (K' ++ L) := by
  have el : ∀ {i : Nat} {c : Chunk}, K[i]? = some c → (K ++ L)[i]? = some c := fun {i c} h => by rw [List.getElem?_append_left (List.getElem?_eq_some_iff.1 h).1]; exact h
  have er : ∀ {i : Nat} {c : Chunk}, L[i]? = some c → (K ++ L)[K.length + i]? = some c := fun {i c} h => by rw [List.getElem?_append_right (by omega), Nat.add_sub_cancel_left]; exact h
  have fpK : ∀ k, k ∈ K.flatMap Chunk.fp → ∃ (i : Nat) (c : Chunk), K[i]? = some c ∧ k ∈ c.fp := fun k hk => by
    obtain ⟨c, hc, hk⟩ := List.mem_flatMap.1 hk
    obtain ⟨i, hi⟩ := List.mem_iff_getElem?.1 hc
    exact ⟨i, c, hi, hk⟩
  have apart : ∀ {i : Nat} {d : Chunk}, L[i]? = some d → ∀ k ∈ d.fp, k ∉ K.flatMap Chunk.fp := fun {i d} hd k hk hK => by
    obtain ⟨j, c, hj, hk'⟩ := fpK k hK
    have hjl := (List.getElem?_eq_some_iff.1 hj).1
    exact M.nd (K.length + i) j d c (by omega) (er hd) (el hj) k hk hk'
  have okL : ∀ {i : Nat} {d : Chunk}, L[i]? = some d → d.ok w' := fun {i d} hd => (M.ok _ d (er hd)).stay U.kept.size fun k hk => U.kept.block k ((M.ok _ d (er hd)).lt k hk) (apart hd k hk)
  have split : ∀ {i : Nat} {c : Chunk}, (K' ++ L)[i]? = some c → K'[i]? = some c ∨ (K'.length ≤ i ∧ L[i - K'.length]? = some c) := fun {i c} h => by
    by_cases hi : i < K'.length
    · rw [List.getElem?_append_left hi] at h; exact .inl h
    · rw [List.getElem?_append_right (by omega)] at h; exact .inr ⟨by omega, h⟩
  have ownK : ∀ {i : Nat} {c : Chunk}, K'[i]? = some c → ∀ k ∈ c.fp, k ∈ K.flatMap Chunk.fp ∨ w.heap.size ≤ k := fun {i c} h => U.own i c h
  have xap : ∀ {i j : Nat} {c d : Chunk}, K'[i]? = some c → L[j]? = some d → ∀ k ∈ c.fp, k ∉ d.fp := fun {i j c d} hi hj k hk hk2 => by
    rcases ownK hi k hk with h | h
    · exact apart hj k hk2 h
    · have := (M.ok _ d (er hj)).lt k hk2; omega
  refine ⟨M.kept.trans U.kept fun x hx => ?_, ?_, ?_, ?_⟩
  · obtain ⟨i, c, hi, hk⟩ := fpK x hx
    exact M.own i c (el hi) x hk
  · intro i c h
    rcases split h with h | ⟨_, h⟩
    · exact U.ok i c h
    · exact okL h
  · intro i c h k hk
    rcases split h with h | ⟨_, h⟩
    · rcases ownK h k hk with h' | h'
      · obtain ⟨j, d, hj, hkd⟩ := fpK k h'
        exact M.own j d (el hj) k hkd
      · exact .inr (Nat.le_trans M.kept.size h')
    · exact M.own _ c (er h) k hk
  · intro i j c d hij hi hj k hk hk2
    rcases split hi with hi | ⟨li, hi⟩ <;> rcases split hj with hj | ⟨lj, hj⟩
    · exact U.nd i j c d hij hi hj k hk hk2
    · exact xap hi hj k hk hk2
    · exact xap hj hi k hk2 hk
    · exact M.nd _ _ c d (by omega) (er hi) (er hj) k hk hk2
end TL
end Go

/- The walks of layer 18's fields that are read: a number. Conditions: lengths. -/
namespace Go.Proofs.YtidadhbaomieiaaGreat
open Go.RowKit Go.TL
set_option maxRecDepth 100000 in
set_option maxHeartbeats 8000000 in
theorem numGet_c (q : Mf) (N : Nat) (gm g1 g2 gi : Nat) (m : Ms) (x : InS) (F : List Nat) (w : World) (hm : m.fit) (hf : x.fit) (hN : N < 9223372036854775808) (M : Mem F w w [.row gi (inV x), .row gm (msgC m)])
    (B1 : (Chunk.row g1 [.int .i64 (N : Int)]).ok w) (B2 : (Chunk.row g2 [.func (.func (mfFn q)) #[] #[]]).ok w) (n1 : g1 ∉ F) (n2 : g2 ∉ F) :
    Calls Tryz.prog 165 #[.pointer (some ⟨gi, 0, none⟩), .pointer (some ⟨gm, 0, none⟩), .pointer (some ⟨g1, 0, none⟩), .pointer (some ⟨g2, 0, none⟩)] w fun e w' => e = .returned (.int .i64 0) ∧ Mem F w w' [.row gi (inV (x.most N).2), .row gm (msgC (q.set m ((x.most N).1 : Int)))] := by
  have TC := fun g (w : World) h => Most_c g x w h hf N (N : Int) rfl (by omega)
  replace TC := Lib.hid TC
  cases q
  all_goals
    simp only [mfFn] at B2
    go_enter Tryz.func165, Tryz.ntmps165
    go_wp2_with ((first | ((with_reducible show Code.wp _ (Code.region 1 _ _) _ _ _); go_must (have MR := M; refine region_lowc [(1, false), (3, false), (0, false), (4, false), (2, true), (5, true), (6, false), (7, true)] [(9, .ptr)] [(0, _), (4, _)] (IxOk MR []) 7 (by kernel_rfl) (by kernel_rfl) rfl (by kernel_rfl) (lows_cons (stab_rowF MR B2 n2 0 rfl (by decide +kernel) rfl) (lows_cons (stab_rowF MR B1 n1 0 rfl (by decide +kernel) rfl) lows_nil)) (ixOk_self MR _) ?_; replace M := M.drew; simp only [planC, opAt, List.getElem?_toArray, List.getElem?_cons_zero, List.getElem?_cons_succ, Option.getD_some])) | ((with_reducible refine tLoad ?_); go_must (refine w_at _ _ rfl (by exact ev_tmp rfl) ?_; intro hx; (first | refine w_rowF M B2 n2 _ _ rfl hx rfl (by decide +kernel) rfl ?_ | refine w_rowF M B1 n1 _ _ rfl hx rfl (by decide +kernel) rfl ?_); clear hx)) | ((first | (go_at_call 123; refine (at1F_c _ _).mono ?_) | (go_at_call 124; refine (at2F_c _ _).mono ?_) | (go_at_call 125; refine (at3F_c _ _).mono ?_) | (go_at_call 126; refine (at4F_c _ _).mono ?_) | (go_at_call 127; refine (at5F_c _ _).mono ?_) | (go_at_call 128; refine (at6F_c _ _).mono ?_)); rintro e w1 ⟨rfl, rfl⟩) | (go_at_call 58; go_must (refine (TC.out _ _ (M.ok 0 _ rfl)).mono ?_; rintro r w2 ⟨rfl, U⟩; replace M := M.upd 0 rfl U; clear U; simp only [setC] at M)) | ((with_reducible refine tStore ?_); go_must (refine w_at2 _ _ _ rfl (by exact ev_tmp rfl) (by first | exact ev_tmp rfl | exact ev_const) ?_; intro hx hy; (first | refine w_storeMf M 1 _ _ _ rfl rfl hx rfl hy (by decide +kernel) hm .e rfl ?_ | refine w_storeMf M 1 _ _ _ rfl rfl hx rfl hy (by decide +kernel) hm .a rfl ?_ | refine w_storeMf M 1 _ _ _ rfl rfl hx rfl hy (by decide +kernel) hm .o rfl ?_ | refine w_storeMf M 1 _ _ _ rfl rfl hx rfl hy (by decide +kernel) hm .p rfl ?_ | refine w_storeMf M 1 _ _ _ rfl rfl hx rfl hy (by decide +kernel) hm .v rfl ?_ | refine w_storeMf M 1 _ _ _ rfl rfl hx rfl hy (by decide +kernel) hm .i rfl ?_); clear hx hy M; intro w1 M; (try simp only [setC] at M))) | ((with_reducible show Seg _ _ _ _); go_must (first | refine Seg.intro ⟨fun h => absurd rfl h, ?_⟩ | refine Seg.intro ⟨fun _ => ixA, ?_⟩ | refine Seg.intro ⟨ndA, atA, ?_⟩)) | ((with_reducible show OnlyN _ _ _ _ _); refine OnlyN.intro (by kernel_rfl) ?_) | ((with_reducible refine tGuard ?_); refine gdS ?_) | fail | ((with_reducible refine tLoad ?_); go_must (refine ldS ?_)) | ((with_reducible refine tStore ?_); go_must (refine stS ?_; clear M; intro w1 M; (try simp only [setC] at M))) | ((with_reducible refine tBox _ ?_); (refine bxA M ?_; clear M; intro g w1 M))) <;> (try conv => arg 5; simp only [Act.put, List.setIfInBounds_toArray, setC]))
    go_ret
    exact ⟨rfl, M⟩
end Go.Proofs.YtidadhbaomieiaaGreat

/- Plain laws of pack's reader: it stays within its bounds; behind a fault nothing is read. No program in this text. No conditions but those each lemma names. -/
namespace Go
namespace TL
theorem readN_le (s : List UInt8) (m : Nat) : (readN s m).2.1 ≤ s.length ∧ (readN s m).2.1 ≤ 10 ∧ (readN s m).1 ≤ m := read_le (s := s) (most := m) rfl
def inStart (s : List UInt8) : InS := ⟨s, 0, 0⟩
/-! ### The reader stays within its bounds -/
theorem InS.take_fit {x : InS} {k e : Nat} (h : x.fit) (hk : k ≤ x.rest.length) : (x.take k e).fit := by
  unfold InS.take InS.fit at *
  split
  · simp only [List.length_drop]; omega
  · exact h
theorem InS.most_fit {x : InS} (h : x.fit) (m : Nat) : (x.most m).2.fit := by
  unfold InS.most
  split
  · exact InS.take_fit h (read_le (s := x.rest) (most := m) rfl).1
  · exact h
theorem InS.text_fit {x : InS} (h : x.fit) (m : Nat) : (x.text m).2.fit := by
  unfold InS.text
  split
  · split
    · split
      · have := (readN_le x.rest m).1
        exact InS.take_fit h (by omega)
      · exact InS.take_fit h (Nat.zero_le _)
    · exact InS.take_fit h (Nat.zero_le _)
  · exact h
theorem InS.byte_fit {x : InS} (h : x.fit) : x.byte.2.fit := by
  unfold InS.byte
  split
  · split
    · exact InS.take_fit h (Nat.zero_le _)
    · rename_i b l e; exact InS.take_fit h (by rw [e]; simp)
  · exact h
theorem InS.most_le (x : InS) (m : Nat) : (x.most m).1 ≤ m := by
  unfold InS.most
  split
  · exact (read_le (s := x.rest) (most := m) rfl).2.2
  · exact Nat.zero_le _
theorem InS.text_len (x : InS) (m : Nat) : (x.text m).1.length ≤ m := by
  unfold InS.text
  split
  · split
    · split
      · have := (readN_le x.rest m).2.2
        simp; omega
      · simp
    · simp
  · simp
theorem InS.text_err {x : InS} (h : x.err ≠ 0) (m : Nat) : x.text m = ([], x) := by unfold InS.text; rw [if_neg h]
theorem InS.most_err {x : InS} (h : x.err ≠ 0) (m : Nat) : x.most m = (0, x) := by unfold InS.most; rw [if_neg h]
theorem fin_err {x : InS} (h : x.err ≠ 0) : x.fin = x.err := by unfold InS.fin; rw [if_neg h]
end TL
end Go

/- The walks of layer 18's fields: a hash is put. Conditions: lengths. -/
namespace Go
namespace TL
def hashS (h0 : List UInt8) (x0 : InS) : Nat → InS × List UInt8
  | 0 => (x0, h0)
  | n + 1 => ((hashS h0 x0 n).1.byte.2, (hashS h0 x0 n).2.set n (UInt8.ofNat (hashS h0 x0 n).1.byte.1))
theorem hashS_succ (h0 : List UInt8) (x0 : InS) (n : Nat) : hashS h0 x0 (n + 1) = ((hashS h0 x0 n).1.byte.2, (hashS h0 x0 n).2.set n (UInt8.ofNat (hashS h0 x0 n).1.byte.1)) := rfl
theorem hashS_len {h0 : List UInt8} (h : h0.length = 32) (x0 : InS) : ∀ n, (hashS h0 x0 n).2.length = 32
  | 0 => h
  | n + 1 => by rw [hashS_succ, List.length_set]; exact hashS_len h x0 n
theorem hashS_fit (h0 : List UInt8) {x0 : InS} (h : x0.fit) : ∀ n, (hashS h0 x0 n).1.fit
  | 0 => h
  | n + 1 => InS.byte_fit (hashS_fit h0 h n)
theorem Hf.get_set {m : Ms} (x : List UInt8) (f : Hf) : f.get (f.set m x) = x := by cases f <;> rfl
theorem Hf.set_set {m : Ms} (x y : List UInt8) (f : Hf) : f.set (f.set m x) y = f.set m y := by cases f <;> rfl
theorem byte_some (x : InS) : ∃ q : UInt8, x.byte.1 = q.toNat := by
  unfold InS.byte
  split
  · split
    · exact ⟨0, rfl⟩
    · rename_i b _ _; exact ⟨b, rfl⟩
  · exact ⟨0, rfl⟩
end TL
end Go
namespace Go.Proofs.YtidadhbaomieiaaGreat
open Go.RowKit Go.TL
def hfFn : Hf → Nat
  | .r => 130 | .lf => 131 | .rt => 132
set_option maxRecDepth 100000 in
set_option maxHeartbeats 8000000 in
theorem hashPut_c (q : Hf) (gm g1 go : Nat) (m : Ms) (v : Value) (l : List UInt8) (w : World) (hm : m.fit) (hl : l.length ≤ 900000) (ho : (outC go v l).ok w)
    (R : (Chunk.row gm (msgC m)).ok w) (B1 : (Chunk.row g1 [.func (.func (hfFn q)) #[] #[]]).ok w) (n0 : gm ∉ (outC go v l).fp) (n1 : g1 ∉ (outC go v l).fp) :
    Calls Tryz.prog 166 #[.pointer (some ⟨go, 0, none⟩), .pointer (some ⟨gm, 0, none⟩), .pointer (some ⟨g1, 0, none⟩)] w fun e w' => e = .returned (.bool true) ∧ ∃ v', Upd w (outC go v l) w' (outC go v' (l ++ q.get m)) := by
  have M := Mem.start1 ho
  have HG := msgC_get m q
  have HP := q.pre_len hm
  have hlen := q.len hm
  obtain ⟨x, ex⟩ : ∃ x, x = q.get m := ⟨_, rfl⟩
  rw [← ex] at HG hlen ⊢
  clear ex
  replace HG := Lib.hid HG
  replace HP := Lib.hid HP
  cases q
  all_goals
    simp only [hfFn] at B1
    go_enter Tryz.func166, Tryz.ntmps166
    go_wp2_with ((first | ((with_reducible refine tLoad ?_); go_must (refine w_at _ _ rfl (by exact ev_tmp rfl) ?_; intro hx; (first | refine w_rowF M B1 n1 _ _ rfl hx rfl (by decide +kernel) rfl ?_ | refine w_rowFA M R n0 _ _ rfl hx rfl (by decide +kernel) _ _ _ HG.out HP.out (by rw [bs_length, hlen]; kernel_rfl) ?_); clear hx)) | ((first | (go_at_call 130; refine (at7F_c _ _).mono ?_) | (go_at_call 131; refine (at8F_c _ _).mono ?_) | (go_at_call 132; refine (at9F_c _ _).mono ?_)); rintro e w1 ⟨rfl, rfl⟩) | ((with_reducible refine tGuard ?_); refine gdS ?_) | fail | ((with_reducible refine tLoad ?_); go_must (refine ldS ?_)) | ((with_reducible refine tStore ?_); go_must (refine stS ?_; clear M; intro w1 M; (try simp only [setC] at M))) | ((with_reducible refine tBox _ ?_); (refine bxA M ?_; clear M; intro g w1 M))) <;> (try conv => arg 5; simp only [Act.put, List.setIfInBounds_toArray, setC]))
    go_loopw [13] (fun iv wr => ∃ (j : Nat) (v1 : Value), j ≤ 32 ∧ iv = .int .i64 j ∧ Mem (outC go v l).fp w wr [outC go v1 (l ++ x.take j)]) (fun iv _ => 32 - (intOf iv).toNat)
    case atStart => exact ⟨0, v, by omega, rfl, by simpa using M⟩
    case round =>
      clear M
      obtain ⟨j, v1, hj, rfl, M⟩ := hrel
      by_cases hlt : j < 32
      · have hix : ∀ w'', (Instr.index 64 (.agg (bs x).toArray) (.int .i64 j)).run Tryz.prog w'' = .ok (.int .u8 (I8 (x.getD j 0))) w'' := fun w'' => run_index_agg _ _ 32 _ Tryz.underlying64 _ Tryz.underlying5 rfl (by kernel_rfl) j hlt _ (by rw [List.getElem?_toArray]; exact getD_some (by omega)) w''
        have EJ : l ++ x.take (j + 1) = l ++ x.take j ++ [x.getD j 0] := by
          rw [List.append_assoc, List.take_succ_eq_append_getElem (by omega), List.getD_eq_getElem?_getD, List.getElem?_eq_getElem (by omega)]; rfl
        have hq : (l ++ x.take j).length ≤ 1000000 := by rw [List.length_append, List.length_take]; omega
        obtain ⟨b, eb⟩ : ∃ b, b = x.getD j 0 := ⟨_, rfl⟩
        rw [← eb] at hix EJ
        obtain ⟨y, ey⟩ : ∃ y, y = l ++ x.take j := ⟨_, rfl⟩
        rw [← ey] at M EJ hq
        replace EJ := Lib.hid EJ
        clear eb ey
        go_wp2_with ((first | (go_at_call 91; go_must (refine (Out_Byte_c _ _ y b _ (by omega) (M.ok 0 _ rfl)).mono ?_; rintro r w2 ⟨rfl, v2, U⟩; replace M := M.upd 0 rfl U; clear U; simp only [setC] at M)) | ((with_reducible refine tGuard ?_); refine gdS ?_) | fail | ((with_reducible refine tLoad ?_); go_must (refine ldS ?_)) | ((with_reducible refine tStore ?_); go_must (refine stS ?_; clear M; intro w1 M; (try simp only [setC] at M))) | ((with_reducible refine tBox _ ?_); (refine bxA M ?_; clear M; intro g w1 M))) <;> (try conv => arg 5; simp only [Act.put, List.setIfInBounds_toArray, setC]))
        go_roundw
        case rel => exact ⟨j + 1, _, by omega, by go_num, by rw [EJ.out]; exact M⟩
        case measure => simp [intOf]; omega
      · obtain rfl : j = 32 := by omega
        rw [List.take_of_length_le (by omega)] at M
        go_wp2_with fail
        go_ret
        exact ⟨rfl, _, M.upd1 0 rfl⟩
set_option maxRecDepth 100000 in
set_option maxHeartbeats 8000000 in
theorem hashGet_c (q : Hf) (gm g1 gi : Nat) (m : Ms) (x : InS) (F : List Nat) (w : World) (hm : m.fit) (hf : x.fit) (M : Mem F w w [.row gi (inV x), .row gm (msgC m)])
    (B1 : (Chunk.row g1 [.func (.func (hfFn q)) #[] #[]]).ok w) (n1 : g1 ∉ F) :
    Calls Tryz.prog 167 #[.pointer (some ⟨gi, 0, none⟩), .pointer (some ⟨gm, 0, none⟩), .pointer (some ⟨g1, 0, none⟩)] w fun e w' => e = .returned (.int .i64 0) ∧ Mem F w w' [.row gi (inV (hashS (q.get m) x 32).1), .row gm (msgC (q.set m (hashS (q.get m) x 32).2))] := by
  have h0 := q.len hm
  obtain ⟨S, eS⟩ : ∃ S, S = hashS (q.get m) x := ⟨_, rfl⟩
  have s0 : (S 0).1 = x := by rw [eS]; rfl
  have sf : ∀ n, (S n).1.fit := fun n => by rw [eS]; exact hashS_fit _ hf n
  have sn : ∀ n, (S (n + 1)).1 = (S n).1.byte.2 := fun n => by rw [eS]; rfl
  obtain ⟨T, eT⟩ : ∃ T : Nat → Ms, T = fun n => q.set m (S n).2 := ⟨_, rfl⟩
  have t0 : T 0 = m := by rw [eT, eS]; exact q.set_get
  have tf : ∀ n, (T n).fit := fun n => by rw [eT, eS]; exact q.set_fit hm (hashS_len h0 x n)
  have tn : ∀ n (b : UInt8), (S n).1.byte.1 = b.toNat → q.set (T n) ((q.get (T n)).set n b) = T (n + 1) := fun n b hb => by
    rw [eT]
    simp only
    rw [Hf.get_set, Hf.set_set, eS, hashS_succ, ← eS, hb, UInt8.ofNat_toNat]
  have EX : q.set m (S 32).2 = T 32 := by rw [eT]
  rw [← eS, EX]
  rw [← s0, ← t0] at M
  clear eS eT EX s0 t0 hf hm h0
  replace sf := Lib.hid sf
  replace sn := Lib.hid sn
  replace tf := Lib.hid tf
  replace tn := Lib.hid tn
  cases q
  all_goals
    simp only [hfFn] at B1
    go_enter Tryz.func167, Tryz.ntmps167
    go_wp2_with ((first | ((with_reducible refine tLoad ?_); go_must (refine w_at _ _ rfl (by exact ev_tmp rfl) ?_; intro hx; (first | refine w_rowF M B1 n1 _ _ rfl hx rfl (by decide +kernel) rfl ?_); clear hx)) | ((first | (go_at_call 130; refine (at7F_c _ _).mono ?_) | (go_at_call 131; refine (at8F_c _ _).mono ?_) | (go_at_call 132; refine (at9F_c _ _).mono ?_)); rintro e w1 ⟨rfl, rfl⟩) | ((with_reducible refine tGuard ?_); refine gdS ?_) | fail | ((with_reducible refine tLoad ?_); go_must (refine ldS ?_)) | ((with_reducible refine tStore ?_); go_must (refine stS ?_; clear M; intro w1 M; (try simp only [setC] at M))) | ((with_reducible refine tBox _ ?_); (refine bxA M ?_; clear M; intro g w1 M))) <;> (try conv => arg 5; simp only [Act.put, List.setIfInBounds_toArray, setC]))
    go_loopw [11] (fun iv wr => ∃ j : Nat, j ≤ 32 ∧ iv = .int .i64 j ∧ Mem F w wr [.row gi (inV (S j).1), .row gm (msgC (T j))]) (fun iv _ => 32 - (intOf iv).toNat)
    case atStart => exact ⟨0, by omega, rfl, M⟩
    case round =>
      clear M
      obtain ⟨j, hj, rfl, M⟩ := hrel
      by_cases hlt : j < 32
      · obtain ⟨b, hb⟩ := byte_some (S j).1
        have TN := tn.out j b hb
        have hfit := tf.out j
        have YC := fun g (w : World) h => In_Byte_c g (S j).1 w h (sf.out j)
        rw [hb, ← I8_eq, ← sn.out j] at YC
        obtain ⟨y, ey⟩ : ∃ y, y = (S j).1 := ⟨_, rfl⟩
        obtain ⟨z, ez⟩ : ∃ z, z = (S (j + 1)).1 := ⟨_, rfl⟩
        obtain ⟨mj, emj⟩ : ∃ mj, mj = T j := ⟨_, rfl⟩
        rw [← ey] at M YC
        rw [← ez] at YC
        rw [← emj] at M hfit TN
        have EZ := Lib.hid fun _ : Unit => ez
        replace TN := Lib.hid TN
        replace YC := Lib.hid YC
        clear ey ez emj hb
        go_wp2_with ((first | ((with_reducible show Code.wp _ (Code.region 5 _ _) _ _ _); go_must (refine region_det [(0, false), (1, false), (2, false), (4, false), (3, true), (5, false), (6, true)] [(14, .ptr)] (by kernel_rfl) (by kernel_rfl) rfl (by kernel_rfl) ?_; replace M := M.drew; simp only [reord, opAt, List.map_cons, List.map_nil, List.getElem?_toArray, List.getElem?_cons_zero, List.getElem?_cons_succ, Option.getD_some])) | (go_at_call 61; go_must (refine (YC.out _ _ (M.ok 0 _ rfl)).mono ?_; rintro r w2 ⟨rfl, U⟩; replace M := M.upd 0 rfl U; clear U; simp only [setC] at M)) | ((with_reducible refine tStore ?_); go_must (refine w_at2 _ _ _ rfl (by exact ev_tmp rfl) (by first | exact ev_tmp rfl | exact ev_const) ?_; intro hx hy; (first | refine w_storeHb M 1 _ _ _ rfl rfl hx rfl hy (by decide +kernel) hfit .r j rfl hlt ?_ | refine w_storeHb M 1 _ _ _ rfl rfl hx rfl hy (by decide +kernel) hfit .lf j rfl hlt ?_ | refine w_storeHb M 1 _ _ _ rfl rfl hx rfl hy (by decide +kernel) hfit .rt j rfl hlt ?_); clear hx hy M; intro w1 M; (try simp only [setC] at M))) | ((with_reducible show Seg _ _ _ _); go_must (first | refine Seg.intro ⟨fun h => absurd rfl h, ?_⟩ | refine Seg.intro ⟨fun _ => ixA, ?_⟩ | refine Seg.intro ⟨ndA, atA, ?_⟩)) | ((with_reducible show OnlyN _ _ _ _ _); refine OnlyN.intro (by kernel_rfl) ?_) | ((with_reducible refine tGuard ?_); refine gdS ?_) | fail | ((with_reducible refine tLoad ?_); go_must (refine ldS ?_)) | ((with_reducible refine tStore ?_); go_must (refine stS ?_; clear M; intro w1 M; (try simp only [setC] at M))) | ((with_reducible refine tBox _ ?_); (refine bxA M ?_; clear M; intro g w1 M))) <;> (try conv => arg 5; simp only [Act.put, List.setIfInBounds_toArray, setC]))
        go_roundw
        case rel => exact ⟨j + 1, by omega, by go_num, by rw [← EZ.out (), ← TN.out]; exact M⟩
        case measure => simp [intOf]; omega
      · obtain rfl : j = 32 := by omega
        go_wp2_with fail
        go_ret
        exact ⟨rfl, M⟩
end Go.Proofs.YtidadhbaomieiaaGreat

/- Plain definitions of layer 18 (msg): a message, its fields, how they are written and read. No program in this text. No conditions but those each lemma names. -/
namespace Go
namespace TL
open Go.RowKit
structure Lm where
  k : UInt8
  e : Int
  a : Int
  o : Int
  bi : Int
  be : Int
  ops : List Opr
  p : Int
  r : List UInt8
  v : Int
  i : Int
  lf : List UInt8
  rt : List UInt8
  prs : List (List UInt8 × List UInt8)
  deriving DecidableEq
def Lm.ms (L : Lm) (ov pv : Value) : Ms := ⟨L.k, L.e, L.a, L.o, L.bi, L.be, ov, L.p, L.r, L.v, L.i, L.lf, L.rt, pv⟩
def Lm.fit (L : Lm) : Prop := L.r.length = 32 ∧ L.lf.length = 32 ∧ L.rt.length = 32
def zeroL : Lm := ⟨0, 0, 0, 0, 0, 0, [], 0, zeroH, 0, 0, zeroH, zeroH, []⟩
theorem zeroL_fit : zeroL.fit := ⟨zeroH_len, zeroH_len, zeroH_len⟩
def kindL (k : UInt8) : Lm := ⟨k, 0, 0, 0, 0, 0, [], 0, zeroH, 0, 0, zeroH, zeroH, []⟩
theorem kindL_fit (k : UInt8) : (kindL k).fit := ⟨zeroH_len, zeroH_len, zeroH_len⟩
def kindM (k : UInt8) : Ms := ⟨k, 0, 0, 0, 0, 0, .slice none 0 0, 0, zeroH, 0, 0, zeroH, zeroH, .slice none 0 0⟩
theorem kindM_fit (k : UInt8) : (kindM k).fit := ⟨zeroH_len, zeroH_len, zeroH_len, rfl, rfl⟩
theorem Lm.ms_fit {L : Lm} (h : L.fit) {ov pv : Value} (ho : ov.oneCell' = true) (hp : pv.oneCell' = true) : (L.ms ov pv).fit := ⟨h.1, h.2.1, h.2.2, ho, hp⟩
def Mf.gl (L : Lm) : Mf → Int
  | .e => L.e | .a => L.a | .o => L.o | .p => L.p | .v => L.v | .i => L.i
def Mf.sl (L : Lm) (x : Int) : Mf → Lm
  | .e => { L with e := x } | .a => { L with a := x } | .o => { L with o := x } | .p => { L with p := x } | .v => { L with v := x } | .i => { L with i := x }
def Hf.gl (L : Lm) : Hf → List UInt8
  | .r => L.r | .lf => L.lf | .rt => L.rt
def Hf.sl (L : Lm) (x : List UInt8) : Hf → Lm
  | .r => { L with r := x } | .lf => { L with lf := x } | .rt => { L with rt := x }
theorem Mf.get_ms (L : Lm) (ov pv : Value) (q : Mf) : q.get (L.ms ov pv) = q.gl L := by cases q <;> rfl
theorem Mf.set_ms (L : Lm) (ov pv : Value) (x : Int) (q : Mf) : q.set (L.ms ov pv) x = (q.sl L x).ms ov pv := by cases q <;> rfl
theorem Hf.get_ms (L : Lm) (ov pv : Value) (q : Hf) : q.get (L.ms ov pv) = q.gl L := by cases q <;> rfl
theorem Hf.set_ms (L : Lm) (ov pv : Value) (x : List UInt8) (q : Hf) : q.set (L.ms ov pv) x = (q.sl L x).ms ov pv := by cases q <;> rfl
theorem Mf.sl_fit {L : Lm} (h : L.fit) (x : Int) (q : Mf) : (q.sl L x).fit := by cases q <;> exact h
theorem Hf.sl_fit {L : Lm} (h : L.fit) {x : List UInt8} (hx : x.length = 32) (q : Hf) : (q.sl L x).fit := by
  obtain ⟨h1, h2, h3⟩ := h
  cases q
  · exact ⟨hx, h2, h3⟩
  · exact ⟨h1, hx, h3⟩
  · exact ⟨h1, h2, hx⟩
theorem Hf.gl_len {L : Lm} (h : L.fit) (q : Hf) : (q.gl L).length = 32 := by
  obtain ⟨h1, h2, h3⟩ := h
  cases q <;> assumption
def Mf.most : Mf → Nat
  | .e => 9223372036854775807 | .a => 9223372036854775807 | .o => 9223372036854775807 | .p => 9223372036854775807 | .v => 4 | .i => 15
theorem Mf.most_le (q : Mf) : q.most ≤ 9223372036854775807 := by cases q <;> decide
inductive Fld where
  | num (q : Mf)
  | hash (q : Hf)
  | bat
  | prs
def fdsL (k : UInt8) : List Fld :=
  if k = 1 then [.num .e] else if k = 2 then [.num .e, .num .p, .bat] else if k = 3 then [.num .e, .num .a, .num .o]
  else if k = 4 then [.num .e, .num .a, .num .o, .hash .r] else if k = 5 then [.num .e, .num .a, .num .v, .num .i]
  else if k = 6 then [.num .e, .num .a, .num .v, .num .i, .hash .lf, .hash .rt] else if k = 7 then [.num .e, .num .a, .num .i, .prs] else []
def isK (k : UInt8) : Bool := decide (1 ≤ k.toNat ∧ k.toNat ≤ 7)
theorem kinds {k : UInt8} (h : isK k = true) : k = 1 ∨ k = 2 ∨ k = 3 ∨ k = 4 ∨ k = 5 ∨ k = 6 ∨ k = 7 := by
  unfold isK at h
  have h := of_decide_eq_true h
  have hk : k = UInt8.ofNat k.toNat := UInt8.ofNat_toNat.symm
  have : k.toNat = 1 ∨ k.toNat = 2 ∨ k.toNat = 3 ∨ k.toNat = 4 ∨ k.toNat = 5 ∨ k.toNat = 6 ∨ k.toNat = 7 := by omega
  rcases this with e | e | e | e | e | e | e <;> (rw [e] at hk; subst hk; decide)
theorem fds_len (k : UInt8) : (fdsL k).length ≤ 6 := by
  unfold fdsL
  repeat' split
  all_goals decide
/-! ### Fields that are written -/
def prBm (x : List UInt8 × List UInt8) : List UInt8 := textL x.1 ++ textL x.2
def okP (x : List UInt8 × List UInt8) : Bool := decide (x.1.length ≤ 33) && decide (x.2.length ≤ 32)
def Fld.ok (L : Lm) : Fld → Bool
  | .num q => decide (0 ≤ q.gl L ∧ q.gl L ≤ q.most)
  | .hash _ => true
  | .bat => ((bytesB L.bi L.be L.ops).2 == 0) && decide ((bytesB L.bi L.be L.ops).1.length ≤ 512)
  | .prs => decide (L.prs.length ≤ 48) && L.prs.all okP
def Fld.put (L : Lm) : Fld → List UInt8
  | .num q => numL (q.gl L).toNat
  | .hash q => q.gl L
  | .bat => textL (bytesB L.bi L.be L.ops).1
  | .prs => numL L.prs.length ++ L.prs.flatMap prBm
/-! ### Fields that are read -/
def prS (x0 : InS) : Nat → List (List UInt8 × List UInt8) × InS
  | 0 => ([], x0)
  | n + 1 => ((prS x0 n).1 ++ [(((prS x0 n).2.text 33).1, (((prS x0 n).2.text 33).2.text 32).1)], (((prS x0 n).2.text 33).2.text 32).2)
theorem prS_zero (x0 : InS) : prS x0 0 = ([], x0) := rfl
theorem prS_succ (x0 : InS) (n : Nat) : prS x0 (n + 1) = ((prS x0 n).1 ++ [(((prS x0 n).2.text 33).1, (((prS x0 n).2.text 33).2.text 32).1)], (((prS x0 n).2.text 33).2.text 32).2) := rfl
theorem prS_len (x0 : InS) : ∀ n, (prS x0 n).1.length = n
  | 0 => rfl
  | n + 1 => by rw [prS_succ, List.length_append, prS_len x0 n]; rfl
theorem prS_fit {x0 : InS} (h : x0.fit) : ∀ n, (prS x0 n).2.fit
  | 0 => h
  | n + 1 => InS.text_fit (InS.text_fit (prS_fit h n) 33) 32
def Fld.get (L : Lm) (x : InS) : Fld → Nat × Lm × InS
  | .num q => (0, q.sl L ((x.most q.most).1 : Int), (x.most q.most).2)
  | .hash q => (0, q.sl L (hashS (q.gl L) x 32).2, (hashS (q.gl L) x 32).1)
  | .bat => if (x.text 512).2.err = 0 then ((readB (x.text 512).1).2, { L with bi := (readB (x.text 512).1).1.1, be := (readB (x.text 512).1).1.2.1, ops := (readB (x.text 512).1).1.2.2 }, (x.text 512).2)
    else ((x.text 512).2.err, L, (x.text 512).2)
  | .prs => (0, { L with prs := L.prs ++ (prS (x.most 48).2 (x.most 48).1).1 }, (prS (x.most 48).2 (x.most 48).1).2)
theorem Lm.fit_bat {L : Lm} (h : L.fit) (a b : Int) (c : List Opr) : Lm.fit { L with bi := a, be := b, ops := c } := h
theorem Lm.fit_prs {L : Lm} (h : L.fit) (c : List (List UInt8 × List UInt8)) : Lm.fit { L with prs := c } := h
theorem Fld.get_fit {L : Lm} {x : InS} (h : L.fit) (hx : x.fit) (f : Fld) : (f.get L x).2.1.fit ∧ (f.get L x).2.2.fit := by
  cases f with
  | num q => exact ⟨q.sl_fit h _, InS.most_fit hx _⟩
  | hash q =>
    have h1 := hashS_len (q.gl_len h) x 32
    have h2 := hashS_fit (q.gl L) hx 32
    simp only [Fld.get]
    generalize hashS (q.gl L) x 32 = z at h1 h2 ⊢
    exact ⟨q.sl_fit h h1, h2⟩
  | bat =>
    have h1 := InS.text_fit hx 512
    simp only [Fld.get]
    generalize x.text 512 = z at h1 ⊢
    generalize readB z.1 = y
    split
    · exact ⟨Lm.fit_bat h _ _ _, h1⟩
    · exact ⟨h, h1⟩
  | prs =>
    have h1 := InS.most_fit hx 48
    simp only [Fld.get]
    generalize x.most 48 = z at h1 ⊢
    have h2 := prS_fit h1 z.1
    generalize prS z.2 z.1 = y at h2 ⊢
    exact ⟨Lm.fit_prs h _, h2⟩
def Fld.say (t : Nat × Lm × InS) : Nat := if t.2.2.err = 0 then t.1 else t.2.2.err
def runF : List Fld → Lm → InS → Nat × Lm × InS
  | [], L, x => (0, L, x)
  | f :: l, L, x => if Fld.say (f.get L x) = 0 then runF l (f.get L x).2.1 (f.get L x).2.2 else (Fld.say (f.get L x), f.get L x |>.2)
def readM (s : List UInt8) : Lm × Nat :=
  let y := (inStart s).byte
  if y.2.err = 0 then
    if isK (UInt8.ofNat y.1) = true then
      let t := runF (fdsL (UInt8.ofNat y.1)) (kindL (UInt8.ofNat y.1)) y.2
      if t.1 = 0 then (if t.2.2.fin = 0 then (t.2.1, 0) else (zeroL, t.2.2.fin)) else (zeroL, t.1)
    else (zeroL, 10)
  else (zeroL, y.2.err)
def bytesM (L : Lm) : List UInt8 × Nat :=
  if isK L.k = true then
    if (fdsL L.k).all (fun f => f.ok L) = true ∧ readM (L.k :: (fdsL L.k).flatMap (fun f => f.put L)) = (L, 0) then (L.k :: (fdsL L.k).flatMap (fun f => f.put L), 0)
    else ([], 1)
  else ([], 10)
end TL
end Go

/- The walk of slices.Equal of pairs. Conditions: lengths. -/
namespace Go
namespace TL
theorem eqP_ne {l m : List (List UInt8 × List UInt8)} (k : Nat) (x y : List UInt8 × List UInt8) (h1 : l[k]? = some x) (h2 : m[k]? = some y) (h : x ≠ y) : (l == m) = false := by
  rw [beq_eq_false_iff_ne]; rintro rfl; rw [h1] at h2; cases h2; exact h rfl
theorem eqP_eq {l m : List (List UInt8 × List UInt8)} (h0 : l.length = m.length) (h : ∀ (k : Nat), k < l.length → l[k]? = m[k]?) : (l == m) = true := by
  rw [beq_iff_eq]
  apply List.ext_getElem?
  intro k
  by_cases hk : k < l.length
  · exact h k hk
  · rw [List.getElem?_eq_none (by omega), List.getElem?_eq_none (by omega)]
theorem eqP_len {l m : List (List UInt8 × List UInt8)} (h : l.length ≠ m.length) : (l == m) = false := by
  rw [beq_eq_false_iff_ne]; rintro rfl; exact h rfl
theorem prV_ne {a b c d : List UInt8} (h : (a, b) ≠ (c, d)) : ¬ (a = c ∧ b = d) := by
  rintro ⟨rfl, rfl⟩; exact h rfl
end TL
end Go
namespace Go.Proofs.YtidadhbaomieiaaGreat
open Go.RowKit Go.TL
set_option maxRecDepth 100000 in
set_option maxHeartbeats 4000000 in
theorem EqualP_c (l m : List (List UInt8 × List UInt8)) (v u : Value) (w : World) (S : SeesL w 2 prV v l) (T : SeesL w 2 prV u m) (hl : l.length ≤ 1000000) (_hm : m.length ≤ 1000000) :
    Calls Tryz.prog 55 #[v, u] w fun e w' => e = .returned (.bool (l == m)) ∧ Below w.heap.size w w' := by
  obtain ⟨p, cap, rfl, hc⟩ := S.form
  obtain ⟨q, cap', rfl, hc'⟩ := T.form
  have hne := @eqP_ne l m
  have heq := @eqP_eq l m
  have hln := @eqP_len l m
  obtain ⟨R, eR⟩ : ∃ R, R = (l == m) := ⟨_, rfl⟩
  rw [← eR] at hne heq hln ⊢
  replace hne := Lib.hid hne
  replace heq := Lib.hid heq
  replace hln := Lib.hid hln
  clear eR
  have M := Mem.start [] w
  by_cases hn : l.length = m.length
  · have hq : ((l.length : Int) != (m.length : Int)) = false := by simp; omega
    go_enter Tryz.func55, Tryz.ntmps55
    replace hn := Lib.hid hn
    go_wp2_with fail
    go_loopw [13] (fun iv wr => ∃ k : Nat, k ≤ l.length ∧ iv = .int .i64 k ∧ Hid (∀ (j : Nat), j < k → l[j]? = m[j]?) ∧ Mem [] w wr []) (fun iv _ => l.length - (intOf iv).toNat)
    case atStart => exact ⟨0, by omega, rfl, Lib.hid (by omega), M⟩
    case round =>
      clear M
      obtain ⟨k, hk, rfl, HK, M⟩ := hrel
      by_cases hlt : k < l.length
      · obtain ⟨g, so, rfl⟩ := S.addr (by omega)
        obtain ⟨g', so', rfl⟩ := T.addr (by have := hn.out; omega)
        have hkm : k < m.length := by have := hn.out; omega
        obtain ⟨⟨a, b⟩, hx⟩ : ∃ x, l[k]? = some x := ⟨_, List.getElem?_eq_getElem hlt⟩
        obtain ⟨⟨c, d⟩, hy⟩ : ∃ x, m[k]? = some x := ⟨_, List.getElem?_eq_getElem hkm⟩
        have HX := Lib.hid hx; clear hx
        have HY := Lib.hid hy; clear hy
        by_cases hab : (a, b) = (c, d)
        · simp only [Prod.mk.injEq] at hab
          obtain ⟨rfl, rfl⟩ := hab
          go_wp2_with ((first | ((with_reducible refine tLoad ?_); refine w_at _ _ rfl (by exact ev_tmp rfl) ?_; intro hx; first | (refine w_seeA M S HX.out _ _ rfl hx rfl (by decide +kernel) (by first | (with_reducible rfl) | omega) (by kernel_rfl) ?_; clear hx; (try conv => arg 5; simp only [Act.put, List.setIfInBounds_toArray, setC, prV_eq])) | (refine w_see M S HX.out _ _ rfl hx rfl (by decide +kernel) 0 (by first | (with_reducible rfl) | omega) rfl ?_; clear hx) | (refine w_see M S HX.out _ _ rfl hx rfl (by decide +kernel) 1 (by first | (with_reducible rfl) | omega) rfl ?_; clear hx) | (refine w_see M S HX.out _ _ rfl hx rfl (by decide +kernel) 2 (by first | (with_reducible rfl) | omega) rfl ?_; clear hx) | (refine w_seeA M T HY.out _ _ rfl hx rfl (by decide +kernel) (by first | (with_reducible rfl) | omega) (by kernel_rfl) ?_; clear hx; (try conv => arg 5; simp only [Act.put, List.setIfInBounds_toArray, setC, prV_eq])) | (refine w_see M T HY.out _ _ rfl hx rfl (by decide +kernel) 0 (by first | (with_reducible rfl) | omega) rfl ?_; clear hx) | (refine w_see M T HY.out _ _ rfl hx rfl (by decide +kernel) 1 (by first | (with_reducible rfl) | omega) rfl ?_; clear hx) | (refine w_see M T HY.out _ _ rfl hx rfl (by decide +kernel) 2 (by first | (with_reducible rfl) | omega) rfl ?_; clear hx)) | ((with_reducible show Code.wp _ (Code.region 6 _ _) _ _ _); go_must (refine region_det [(0, false), (1, false), (2, false), (4, false), (5, false), (6, false), (3, false), (7, false), (8, false)] [(19, .cells), (23, .cells)] (by kernel_rfl) (by kernel_rfl) rfl (by kernel_rfl) ?_; replace M := M.drew; simp only [reord, opAt, List.map_cons, List.map_nil, List.getElem?_toArray, List.getElem?_cons_zero, List.getElem?_cons_succ, Option.getD_some])) | ((with_reducible show Seg _ _ _ _); go_must (first | refine Seg.intro ⟨fun h => absurd rfl h, ?_⟩ | refine Seg.intro ⟨fun _ => ixA, ?_⟩ | refine Seg.intro ⟨ndA, atA, ?_⟩)) | ((with_reducible show OnlyN _ _ _ _ _); refine OnlyN.intro (by kernel_rfl) ?_) | ((with_reducible refine tGuard ?_); refine gdS ?_) | fail | ((with_reducible refine tLoad ?_); go_must (refine ldS ?_)) | ((with_reducible refine tStore ?_); go_must (refine stS ?_; clear M; intro w1 M; (try simp only [setC] at M))) | ((with_reducible refine tBox _ ?_); (refine bxA M ?_; clear M; intro g w1 M))) <;> (try conv => arg 5; simp only [Act.put, List.setIfInBounds_toArray, setC]))
          go_roundw
          case rel => exact ⟨k + 1, by omega, by go_num, Lib.hid fun j hj => by
            rcases Nat.lt_succ_iff_lt_or_eq.1 hj with hj | rfl
            · exact HK.out j hj
            · exact HX.out.trans HY.out.symm, M⟩
          case measure => simp [intOf]; omega
        · have e0 : R = false := hne.out k _ _ HX.out HY.out hab
          subst e0
          have hab := Lib.hid (prV_ne hab)
          go_wp2_with ((first | ((with_reducible refine tLoad ?_); refine w_at _ _ rfl (by exact ev_tmp rfl) ?_; intro hx; first | (refine w_seeA M S HX.out _ _ rfl hx rfl (by decide +kernel) (by first | (with_reducible rfl) | omega) (by kernel_rfl) ?_; clear hx; (try conv => arg 5; simp only [Act.put, List.setIfInBounds_toArray, setC, prV_eq])) | (refine w_see M S HX.out _ _ rfl hx rfl (by decide +kernel) 0 (by first | (with_reducible rfl) | omega) rfl ?_; clear hx) | (refine w_see M S HX.out _ _ rfl hx rfl (by decide +kernel) 1 (by first | (with_reducible rfl) | omega) rfl ?_; clear hx) | (refine w_see M S HX.out _ _ rfl hx rfl (by decide +kernel) 2 (by first | (with_reducible rfl) | omega) rfl ?_; clear hx) | (refine w_seeA M T HY.out _ _ rfl hx rfl (by decide +kernel) (by first | (with_reducible rfl) | omega) (by kernel_rfl) ?_; clear hx; (try conv => arg 5; simp only [Act.put, List.setIfInBounds_toArray, setC, prV_eq])) | (refine w_see M T HY.out _ _ rfl hx rfl (by decide +kernel) 0 (by first | (with_reducible rfl) | omega) rfl ?_; clear hx) | (refine w_see M T HY.out _ _ rfl hx rfl (by decide +kernel) 1 (by first | (with_reducible rfl) | omega) rfl ?_; clear hx) | (refine w_see M T HY.out _ _ rfl hx rfl (by decide +kernel) 2 (by first | (with_reducible rfl) | omega) rfl ?_; clear hx)) | ((with_reducible show Code.wp _ (Code.region 6 _ _) _ _ _); go_must (refine region_det [(0, false), (1, false), (2, false), (4, false), (5, false), (6, false), (3, false), (7, false), (8, false)] [(19, .cells), (23, .cells)] (by kernel_rfl) (by kernel_rfl) rfl (by kernel_rfl) ?_; replace M := M.drew; simp only [reord, opAt, List.map_cons, List.map_nil, List.getElem?_toArray, List.getElem?_cons_zero, List.getElem?_cons_succ, Option.getD_some])) | ((with_reducible show Seg _ _ _ _); go_must (first | refine Seg.intro ⟨fun h => absurd rfl h, ?_⟩ | refine Seg.intro ⟨fun _ => ixA, ?_⟩ | refine Seg.intro ⟨ndA, atA, ?_⟩)) | ((with_reducible show OnlyN _ _ _ _ _); refine OnlyN.intro (by kernel_rfl) ?_) | ((with_reducible refine tGuard ?_); refine gdS ?_) | fail | ((with_reducible refine tLoad ?_); go_must (refine ldS ?_)) | ((with_reducible refine tStore ?_); go_must (refine stS ?_; clear M; intro w1 M; (try simp only [setC] at M))) | ((with_reducible refine tBox _ ?_); (refine bxA M ?_; clear M; intro g w1 M))) <;> (try conv => arg 5; simp only [Act.put, List.setIfInBounds_toArray, setC]))
          all_goals (first | exact absurd ⟨‹a = c›, ‹b = d›⟩ hab.out | (go_ret; exact ⟨rfl, M.below⟩))
      · obtain rfl : k = l.length := by omega
        have e0 : R = true := heq.out hn.out HK.out
        subst e0
        have hkm : ¬ l.length < m.length := by have := hn.out; omega
        go_wp2_with ((first | ((with_reducible refine tGuard ?_); refine gdS ?_) | fail | ((with_reducible refine tLoad ?_); go_must (refine ldS ?_)) | ((with_reducible refine tStore ?_); go_must (refine stS ?_; clear M; intro w1 M; (try simp only [setC] at M))) | ((with_reducible refine tBox _ ?_); (refine bxA M ?_; clear M; intro g w1 M))) <;> (try conv => arg 5; simp only [Act.put, List.setIfInBounds_toArray, setC]))
        go_ret
        exact ⟨rfl, M.below⟩
  · have e0 : R = false := hln.out hn
    subst e0
    have hq : ((l.length : Int) != (m.length : Int)) = true := by simp; omega
    go_enter Tryz.func55, Tryz.ntmps55
    go_wp2_with fail
    go_ret
    exact ⟨rfl, M.below⟩
end Go.Proofs.YtidadhbaomieiaaGreat

/- The walk of path.named. Conditions: lengths. -/
namespace Go
namespace TL
theorem goodN_of {b : UInt8} (h1 : ¬ I8 b < 97) (h2 : ¬ 122 < I8 b) : goodN b = true := by rw [I8_eq] at h1 h2; simp [goodN]; omega
theorem badN_lo {b : UInt8} (h1 : I8 b < 97) : goodN b = false := by rw [I8_eq] at h1; simp [goodN]; omega
theorem badN_hi {b : UInt8} (h1 : 122 < I8 b) : goodN b = false := by rw [I8_eq] at h1; simp [goodN]; omega
end TL
end Go
namespace Go.Proofs.YtidadhbaomieiaaGreat
open Go.RowKit Go.TL
set_option maxRecDepth 100000 in
set_option maxHeartbeats 2000000 in
theorem named_c (s : List UInt8) (w : World) (hs : s.length ≤ 1000000000) :
    Calls Tryz.prog 212 #[.string (mkS s)] w fun e w' => e = .returned (.bool (namedL s)) ∧ w = w' := by
  have hbad : ∀ k, k < s.length → goodN (s.getD k 0) = false → namedL s = false := fun k h hb => named_bad h hb
  have hgood : (∀ k, k < s.length → goodN (s.getD k 0) = true) → namedL s = decide (1 ≤ s.length ∧ s.length ≤ 8) := named_good
  obtain ⟨N, eN⟩ : ∃ N, N = namedL s := ⟨_, rfl⟩
  rw [← eN] at hbad hgood ⊢
  have HB := Lib.hid hbad
  have HG := Lib.hid hgood
  clear eN hbad hgood
  go_enter Tryz.func212, Tryz.ntmps212
  go_wp2_with fail
  go_loop [6] (fun iv => ∃ k : Nat, k ≤ s.length ∧ iv = .int .i64 k ∧ Hid (∀ j, j < k → goodN (s.getD j 0) = true)) (fun iv => s.length - (intOf iv).toNat)
  case atStart => exact ⟨0, by omega, rfl, Lib.hid (by omega)⟩
  case round =>
    obtain ⟨k, hk, rfl, HK⟩ := hrel
    by_cases hlt : k < s.length
    · by_cases h1 : I8 (bt s k) < 97
      · have e : N = false := HB.out k hlt (badN_lo h1)
        subst e
        go_wp2_with fail
        go_ret
        exact ⟨rfl, rfl⟩
      · by_cases h2 : 122 < I8 (bt s k)
        · have e : N = false := HB.out k hlt (badN_hi h2)
          subst e
          replace h1 : 97 ≤ I8 (bt s k) := by omega
          go_wp2_with fail
          go_ret
          exact ⟨rfl, rfl⟩
        · have hg := Lib.hid (goodN_of h1 h2)
          replace h1 : 97 ≤ I8 (bt s k) := by omega
          replace h2 : I8 (bt s k) ≤ 122 := by omega
          go_wp2_with fail
          go_round
          case rel => exact ⟨k + 1, by omega, by go_num, Lib.hid fun j hj => by
            rcases Nat.lt_succ_iff_lt_or_eq.1 hj with hj | rfl
            · exact HK.out j hj
            · exact hg.out⟩
          case measure => simp [intOf]; omega
    · obtain rfl : k = s.length := by omega
      have e : N = decide (1 ≤ s.length ∧ s.length ≤ 8) := HG.out HK.out
      by_cases hl : 1 ≤ s.length ∧ s.length ≤ 8
      · rw [decide_eq_true hl] at e
        subst e
        obtain ⟨hl1, hl2⟩ := hl
        go_wp2_with fail
        go_ret
        exact ⟨by first | rfl | (simp <;> omega), rfl⟩
      · rw [decide_eq_false hl] at e
        subst e
        go_wp2_with fail
        all_goals
          go_ret
          exact ⟨by first | rfl | (simp <;> omega), rfl⟩
end Go.Proofs.YtidadhbaomieiaaGreat
