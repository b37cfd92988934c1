/- More laws on rows: copy; an empty slice; a loaded array's element; small words. Conditions: each names its own. -/
import Derived.Test.YtolmejipggdodaaBase
import Derived.Test.YtolmejipggdodaaDet
import Derived.Deep.DeepMust
import Derived.Deep.QuietTactic
import Derived.BigQuiet
import Derived.Lib.Strings
namespace Go
namespace TL
open Go.RowKit
section
variable {P : Program} {w : World}
theorem run_copy_any {t e : TypeId} {size bytes : Nat} (T : SliceT P t e size bytes) (u ty : TypeId) (b o dl dc : Nat) (xv : Value) (m : Nat) (news : List Value) (hsrc : Src P w size xv m news)
    (k : Nat) (hk : k = Nat.min m dl) (hth : w.there b o (k * size)) :
    (Builtin.copy_ #[t, u] ty #[.slice (some ⟨b, o, none⟩) dl dc, xv]).run P w = .ok (.int .i64 k) (w.setCells b o (news.take (k * size))) := by
  obtain ⟨ht, ⟨i, z, hi, hz, hsize, hby, hzs⟩, hsz⟩ := T
  obtain ⟨hl, h1, hlen, hfirst⟩ := hsrc
  have hkm : k ≤ m := by rw [hk]; exact Nat.min_le_left _ _
  have hf := hfirst w k hkm (grownBy_refl w none)
  have hlk : (news.take (k * size)).length = k * size := by
    rw [List.length_take, hl]; exact Nat.min_eq_left (Nat.mul_le_mul_right _ hkm)
  have hst := run_storeCells_mid (P := P) (news.take (k * size)) (by rw [hlk]; exact hth) (fun u hu => h1 u (List.mem_of_mem_take hu))
  simp [Builtin.copy_, run_underlying ht, hlen, sizeOf, typeInfo, hi, hsize, ← hk, hf, hst, goInt]
theorem wpList_copy {ops : Array Oper} {rest : List Oper} {op : Oper} {a : Act} {Q : Exit → Act → World → Prop} {t e : TypeId} {size bytes : Nat} (T : SliceT P t e size bytes) (hgd : op.guard = none) (d x : Operand) (u : TypeId)
    (ho : op.op = .call { callee := .builtin .copy, args := #[d, x], argTypes := #[t, u] })
    (b o dl dc : Nat) (hd : a.eval d = .slice (some ⟨b, o, none⟩) dl dc) (xv : Value) (m : Nat) (news : List Value) (hx : a.eval x = xv) (hsrc : Src P w size xv m news)
    (k : Nat) (hk : k = Nat.min m dl) (hth : w.there b o (k * size))
    (h : wpList P ops Q rest (a.put op.dst (.int .i64 k)) (w.setCells b o (news.take (k * size)))) : wpList P ops Q (op :: rest) a w :=
  wpList_plain hgd fun _ hK => by
    have hr := run_copy_any (P := P) (w := w) T u op.type b o dl dc xv m news hsrc k hk hth
    unfold Oper.wp execOp
    simp only [ho, resolve, invoke, builtin, Sem.run_bind, Sem.run_pure, Result.andThen_ok, List.map_toArray, List.map_cons, List.map_nil, hd, hx, hr]
    exact hK _ _ h
/-- A new array: the world behind it is a letter, of which what matters is known. -/
theorem wpList_newRow {ops : Array Oper} {rest : List Oper} {op : Oper} {a : Act} {Q : Exit → Act → World → Prop} (hgd : op.guard = none) (t : TypeId) (ho : op.op = .alloc t) (C : Array Value) (hz : (zeroValue t).run P w = .ok (.agg C) w)
    (h : ∀ w1, Below w.heap.size w w1 → w1.heap.size = w.heap.size + 1 → w1.rangeAt w.heap.size 0 C.toList → w1.there w.heap.size 0 C.size → wpList P ops Q rest (a.put op.dst (.pointer (some ⟨w.heap.size, 0, none⟩))) w1) : wpList P ops Q (op :: rest) a w :=
  wpList_plain hgd fun _ hK => by
    unfold Oper.wp execOp
    have hr : (Instr.alloc t true (.tuple #[])).run P w = .ok (.pointer (some ⟨w.heap.size, 0, none⟩)) (w.alloc (.cells C t)) := by
      simp only [Instr.alloc, Sem.run_bind, hz, Result.andThen_ok]; rfl
    simp only [ho, Sem.run_bind, hr, Result.andThen_ok]
    exact hK _ _ (h _ ((Below.refl _ _).alloc (Nat.le_refl _) _) (by simp) (rangeAt_new w C t (0, 0)) (there_new w C t C.size (Nat.le_refl _)))
theorem OwnB_empty (w : World) (base g : Nat) (hb : base ≤ g) (hg : g < w.heap.size) : OwnB w base (.slice (some ⟨g, 0, none⟩) 0 0) [] :=
  ⟨by simp, .inr ⟨g, 0, 0, rfl, hb, hg, Nat.le_refl _, Nat.zero_le _, rangeAt_nil _ _ _, fun j hj => by simp at hj⟩⟩
/-- The length of a slice value. -/
def lenV : Value → Nat | .slice _ n _ => n | _ => 0
theorem Sees.lenV {size : Nat} {v : Value} {n : Nat} {xs : List Value} (h : Sees w size v n xs) : lenV v = n := by
  obtain ⟨a, c, rfl, _⟩ := h.form; rfl
theorem Own_lt {base size : Nat} {v : Value} {n : Nat} {xs : List Value} (h : Own w base size v n xs) {g : Nat} (hg : g < base) : v.ownBlock ≠ some g := fun e => by
  have := (h.base_le e).1; omega
/-- An element of a loaded array, one cell each. -/
theorem run_index_agg {P : Program} (t e : TypeId) (n : Nat) (cs : Array Value) (h : P.underlying t = some (.array n e)) (d : TypeDesc) (hu : P.underlying e = some d) (hd : d.isRow = false) (hi : (P.info? e).map (·.size) = some 1)
    (i : Nat) (hn : i < n) (v : Value) (hv : cs[i]? = some v) (w : World) : (Instr.index t (.agg cs) (.int .i64 i)).run P w = .ok v w := by
  cases hq : P.info? e with
  | none => simp [hq] at hi
  | some inf =>
    have hsz : inf.size = 1 := by simpa [hq] using hi
    cases d <;> first | (simp [TypeDesc.isRow] at hd; done) | simp [Instr.index, run_underlying h, run_underlying hu, asIntOf, hn, sizeOf, typeInfo, hq, hsz, part, isAgg, hv]
/-- An array is sliced from l on. -/
theorem run_sliceAt_row {P : Program} (t e : TypeId) (n : Nat) (ht : P.underlying t = some (.array n e)) (hi : (P.info? e).map (·.size) = some 1) (b o l : Nat) (hl : l < n) (z : Int) (hz : z = l) (w : World) :
    (Instr.sliceAt t (.pointer (some ⟨b, o, none⟩)) (some (.int .i64 z)) none none).run P w = .ok (.slice (some ⟨b, o + l, none⟩) (n - l) (n - l)) w := by
  have hn : P.arrayLen t = n := by simp [Program.arrayLen, ht]
  have he : P.elem t = e := by simp [Program.elem, ht]
  subst hz
  rw [run_sliceAt_array_l w t _ (by rw [hn, he]; exact ht) .i64 l (by omega) (by rw [hn]; omega), hn, he]
  cases hq : P.info? e with
  | none => simp [hq] at hi
  | some inf =>
    have hsz : inf.size = 1 := by simpa [hq] using hi
    simp [sizeOf, typeInfo, hq, hsz, slicedAt, Addr.add, show n ≠ l by omega]
/-- A guarded operation that is wanted. -/
theorem wpList_want {P : Program} {ops : Array Oper} {rest : List Oper} {o : Oper} {a : Act} {w : World} {Q : Exit → Act → World → Prop} (hw : Region.wanted o (yielded ops a.tmps) = true)
    (h : o.wp P a w (fun a' w' => wpList P ops Q rest a' w') Q) : wpList P ops Q (o :: rest) a w := by
  unfold wpList
  rw [if_pos hw]
  exact .inl h
/-! ### Two arrays of bytes, compared -/
theorem run_partB {P : Program} {e : TypeId} (he : P.underlying e = some (.int .u8)) (l : List UInt8) (i : Nat) (h : i < l.length) (w : World) : (part e (l.map vb).toArray i).run P w = .ok (vb l[i]) w := by
  simp [part, isAgg, run_underlying he, h]
theorem run_eqItemsB {P : Program} {e : TypeId} (he : P.underlying e = some (.int .u8)) (d : Nat) (l m : List UInt8) (hlm : l.length = m.length) (w : World) : ∀ is : List Nat, (∀ i ∈ is, i < l.length) →
    (Op.eqItems (d + 1) e 1 (l.map vb).toArray (m.map vb).toArray is).run P w = .ok (is.all fun i => l[i]? == m[i]?) w
  | [], _ => rfl
  | i :: is, h => by
    have hi := h i List.mem_cons_self
    have hi2 : i < m.length := hlm ▸ hi
    unfold Op.eqItems
    simp only [Nat.mul_one, Sem.run_bind, run_partB he l i hi w, run_partB he m i hi2 w, Result.andThen_ok, vb, run_equalIn_int w d e .u8 .u8 _ _ he, List.all_cons, List.getElem?_eq_getElem hi, List.getElem?_eq_getElem hi2]
    have e1 : (I8 l[i] == I8 m[i]) = (l[i] == m[i]) := by
      rw [Bool.eq_iff_iff, beq_iff_eq, beq_iff_eq, I8_eq, I8_eq]
      exact ⟨fun h => UInt8.toNat_inj.1 (by omega), fun h => by rw [h]⟩
    rw [e1]
    cases hq : (l[i] == m[i]) with
    | false => simp [hq]
    | true => simp [hq, run_eqItemsB he d l m hlm w is fun j hj => h j (List.mem_cons_of_mem _ hj)]
theorem all_range_eq (l m : List UInt8) (h : l.length = m.length) : ((List.range l.length).all fun i => l[i]? == m[i]?) = (l == m) := by
  rw [Bool.eq_iff_iff, beq_iff_eq, List.all_eq_true]
  constructor
  · intro hall
    refine List.ext_getElem? fun i => ?_
    by_cases hi : i < l.length
    · simpa using hall i (List.mem_range.2 hi)
    · rw [List.getElem?_eq_none (by omega), List.getElem?_eq_none (by omega)]
  · rintro rfl i _; simp
/-- What == says of two arrays of bytes. -/
structure EqRow (P : Program) (t : TypeId) (l m : List UInt8) : Prop where
  eql : ∀ w : World, (binOp .eql t (.agg (l.map vb).toArray) (.agg (m.map vb).toArray)).run P w = .ok (.bool (l == m)) w
  neq : ∀ w : World, (binOp .neq t (.agg (l.map vb).toArray) (.agg (m.map vb).toArray)).run P w = .ok (.bool (!(l == m))) w
  guardE : ∀ (x y : Operand) (w : World), (eqGuard .eql t x y (.agg (l.map vb).toArray) (.agg (m.map vb).toArray)).run P w = .ok () w
  guardN : ∀ (x y : Operand) (w : World), (eqGuard .neq t x y (.agg (l.map vb).toArray) (.agg (m.map vb).toArray)).run P w = .ok () w
theorem eqRow {P : Program} {t e : TypeId} {n : Nat} (hu : P.underlying t = some (.array n e)) (he : P.underlying e = some (.int .u8)) (hc : P.cellsOf e = 1) (hg : P.eqGuardType P.depth t = false) (l m : List UInt8) (hl : l.length = n) (hm : m.length = n) : EqRow P t l m := by
  have key : ∀ w : World, (Op.equal t (.agg (l.map vb).toArray) (.agg (m.map vb).toArray)).run P w = .ok (l == m) w := fun w => by
    obtain ⟨i, hi⟩ := info_of_underlying he
    have := run_equalIn_array w 9999 (l.map vb).toArray (m.map vb).toArray hu hi
    rw [hc, run_eqItemsB he 9998 l m (by omega) w (List.range n) (fun i hi => by rw [hl]; exact List.mem_range.1 hi)] at this
    rw [← hl, all_range_eq l m (by omega)] at this
    exact this
  refine ⟨fun w => ?_, fun w => ?_, fun x y w => ?_, fun x y w => ?_⟩
  · simp only [binOp, Sem.run_bind, key w, Result.andThen_ok, Sem.run_pure]
  · simp only [binOp, Sem.run_bind, key w, Result.andThen_ok, Sem.run_pure]
  · have : (eqGuard .eql t x y (.agg (l.map vb).toArray) (.agg (m.map vb).toArray)).run P w = (Pure.pure () : Sem Unit).run P w := by
      have hp : ∀ w : World, (program).run P w = .ok P w := fun _ => rfl
      simp only [eqGuard]; simp [hp, hg]
    rw [this]; rfl
  · have : (eqGuard .neq t x y (.agg (l.map vb).toArray) (.agg (m.map vb).toArray)).run P w = (Pure.pure () : Sem Unit).run P w := by
      have hp : ∀ w : World, (program).run P w = .ok P w := fun _ => rfl
      simp only [eqGuard]; simp [hp, hg]
    rw [this]; rfl
theorem nums_vb (l : List UInt8) : Shape.ok .nums (.agg (l.map vb).toArray) = true := by
  simp [Shape.ok, numsV, vb, isIntV]
end
end TL
end Go
