/- Texts of this seat, put together: Law2, Sum, Hash, Heap, Str, Low, Reg, Sees, Txt, Pairs, BuckL, ShaO, RefP, RefW, RefPr. Each begins with a remark that says what is proved in it, and under which conditions. -/
import Derived.Deep.DeepMust
import Derived.Deep.QuietTactic
import Derived.BigQuiet
import Derived.Lib.Strings
import Derived.Great.BuildSlice
import Derived.Lib.ConvBytes
import Derived.Deep.MidRow
import GoSem.Op.String
import Derived.Deep.Cut
import Derived.Test.YtjmhjkgcdglpaaaZa
/- More laws on rows: copy; an empty slice; a loaded array's element; small words. Conditions: each names its own. -/
namespace Go
namespace TL
open Go.RowKit
section
variable {P : Program} {w : World}
theorem run_copy_any {t e : TypeId} {size bytes : Nat} (T : SliceT P t e size bytes) (u ty : TypeId) (b o dl dc : Nat) (xv : Value) (m : Nat) (news : List Value) (hsrc : Src P w size xv m news)
    (k : Nat) (hk : k = Nat.min m dl) (hth : w.there b o (k * size)) :
    (Builtin.copy_ #[t, u] ty #[.slice (some ⟨b, o, none⟩) dl dc, xv]).run P w = .ok (.int .i64 k) (w.setCells b o (news.take (k * size))) := by
  obtain ⟨ht, ⟨i, z, hi, hz, hsize, hby, hzs⟩, hsz⟩ := T
  obtain ⟨hl, h1, hlen, hfirst⟩ := hsrc
  have hkm : k ≤ m := by rw [hk]; exact Nat.min_le_left _ _
  have hf := hfirst w k hkm (grownBy_refl w none)
  have hlk : (news.take (k * size)).length = k * size := by
    rw [List.length_take, hl]; exact Nat.min_eq_left (Nat.mul_le_mul_right _ hkm)
  have hst := run_storeCells_mid (P := P) (news.take (k * size)) (by rw [hlk]; exact hth) (fun u hu => h1 u (List.mem_of_mem_take hu))
  simp [Builtin.copy_, run_underlying ht, hlen, sizeOf, typeInfo, hi, hsize, ← hk, hf, hst, goInt]
theorem wpList_copy {ops : Array Oper} {rest : List Oper} {op : Oper} {a : Act} {Q : Exit → Act → World → Prop} {t e : TypeId} {size bytes : Nat} (T : SliceT P t e size bytes) (hgd : op.guard = none) (d x : Operand) (u : TypeId)
    (ho : op.op = .call { callee := .builtin .copy, args := #[d, x], argTypes := #[t, u] })
    (b o dl dc : Nat) (hd : a.eval d = .slice (some ⟨b, o, none⟩) dl dc) (xv : Value) (m : Nat) (news : List Value) (hx : a.eval x = xv) (hsrc : Src P w size xv m news)
    (k : Nat) (hk : k = Nat.min m dl) (hth : w.there b o (k * size))
    (h : wpList P ops Q rest (a.put op.dst (.int .i64 k)) (w.setCells b o (news.take (k * size)))) : wpList P ops Q (op :: rest) a w :=
  wpList_plain hgd fun _ hK => by
    have hr := run_copy_any (P := P) (w := w) T u op.type b o dl dc xv m news hsrc k hk hth
    unfold Oper.wp execOp
    simp only [ho, resolve, invoke, builtin, Sem.run_bind, Sem.run_pure, Result.andThen_ok, List.map_toArray, List.map_cons, List.map_nil, hd, hx, hr]
    exact hK _ _ h
/-- A new array: the world behind it is a letter, of which what matters is known. -/
theorem wpList_newRow {ops : Array Oper} {rest : List Oper} {op : Oper} {a : Act} {Q : Exit → Act → World → Prop} (hgd : op.guard = none) (t : TypeId) (ho : op.op = .alloc t) (C : Array Value) (hz : (zeroValue t).run P w = .ok (.agg C) w)
    (h : ∀ w1, Below w.heap.size w w1 → w1.heap.size = w.heap.size + 1 → w1.rangeAt w.heap.size 0 C.toList → w1.there w.heap.size 0 C.size → wpList P ops Q rest (a.put op.dst (.pointer (some ⟨w.heap.size, 0, none⟩))) w1) : wpList P ops Q (op :: rest) a w :=
  wpList_plain hgd fun _ hK => by
    unfold Oper.wp execOp
    have hr : (Instr.alloc t true (.tuple #[])).run P w = .ok (.pointer (some ⟨w.heap.size, 0, none⟩)) (w.alloc (.cells C t)) := by
      simp only [Instr.alloc, Sem.run_bind, hz, Result.andThen_ok]; rfl
    simp only [ho, Sem.run_bind, hr, Result.andThen_ok]
    exact hK _ _ (h _ ((Below.refl _ _).alloc (Nat.le_refl _) _) (by simp) (rangeAt_new w C t (0, 0)) (there_new w C t C.size (Nat.le_refl _)))
theorem OwnB_empty (w : World) (base g : Nat) (hb : base ≤ g) (hg : g < w.heap.size) : OwnB w base (.slice (some ⟨g, 0, none⟩) 0 0) [] :=
  ⟨by simp, .inr ⟨g, 0, 0, rfl, hb, hg, Nat.le_refl _, Nat.zero_le _, rangeAt_nil _ _ _, fun j hj => by simp at hj⟩⟩
/-- The length of a slice value. -/
def lenV : Value → Nat | .slice _ n _ => n | _ => 0
theorem Sees.lenV {size : Nat} {v : Value} {n : Nat} {xs : List Value} (h : Sees w size v n xs) : lenV v = n := by
  obtain ⟨a, c, rfl, _⟩ := h.form; rfl
theorem Own_lt {base size : Nat} {v : Value} {n : Nat} {xs : List Value} (h : Own w base size v n xs) {g : Nat} (hg : g < base) : v.ownBlock ≠ some g := fun e => by
  have := (h.base_le e).1; omega
/-- An element of a loaded array, one cell each. -/
theorem run_index_agg {P : Program} (t e : TypeId) (n : Nat) (cs : Array Value) (h : P.underlying t = some (.array n e)) (d : TypeDesc) (hu : P.underlying e = some d) (hd : d.isRow = false) (hi : (P.info? e).map (·.size) = some 1)
    (i : Nat) (hn : i < n) (v : Value) (hv : cs[i]? = some v) (w : World) : (Instr.index t (.agg cs) (.int .i64 i)).run P w = .ok v w := by
  cases hq : P.info? e with
  | none => simp [hq] at hi
  | some inf =>
    have hsz : inf.size = 1 := by simpa [hq] using hi
    cases d <;> first | (simp [TypeDesc.isRow] at hd; done) | simp [Instr.index, run_underlying h, run_underlying hu, asIntOf, hn, sizeOf, typeInfo, hq, hsz, part, isAgg, hv]
/-- An array is sliced from l on. -/
theorem run_sliceAt_row {P : Program} (t e : TypeId) (n : Nat) (ht : P.underlying t = some (.array n e)) (hi : (P.info? e).map (·.size) = some 1) (b o l : Nat) (hl : l < n) (z : Int) (hz : z = l) (w : World) :
    (Instr.sliceAt t (.pointer (some ⟨b, o, none⟩)) (some (.int .i64 z)) none none).run P w = .ok (.slice (some ⟨b, o + l, none⟩) (n - l) (n - l)) w := by
  have hn : P.arrayLen t = n := by simp [Program.arrayLen, ht]
  have he : P.elem t = e := by simp [Program.elem, ht]
  subst hz
  rw [run_sliceAt_array_l w t _ (by rw [hn, he]; exact ht) .i64 l (by omega) (by rw [hn]; omega), hn, he]
  cases hq : P.info? e with
  | none => simp [hq] at hi
  | some inf =>
    have hsz : inf.size = 1 := by simpa [hq] using hi
    simp [sizeOf, typeInfo, hq, hsz, slicedAt, Addr.add, show n ≠ l by omega]
/-- A guarded operation that is wanted. -/
theorem wpList_want {P : Program} {ops : Array Oper} {rest : List Oper} {o : Oper} {a : Act} {w : World} {Q : Exit → Act → World → Prop} (hw : Region.wanted o (yielded ops a.tmps) = true)
    (h : o.wp P a w (fun a' w' => wpList P ops Q rest a' w') Q) : wpList P ops Q (o :: rest) a w := by
  unfold wpList
  rw [if_pos hw]
  exact .inl h
/-! ### Two arrays of bytes, compared -/
theorem run_partB {P : Program} {e : TypeId} (he : P.underlying e = some (.int .u8)) (l : List UInt8) (i : Nat) (h : i < l.length) (w : World) : (part e (l.map vb).toArray i).run P w = .ok (vb l[i]) w := by
  simp [part, isAgg, run_underlying he, h]
theorem run_eqItemsB {P : Program} {e : TypeId} (he : P.underlying e = some (.int .u8)) (d : Nat) (l m : List UInt8) (hlm : l.length = m.length) (w : World) : ∀ is : List Nat, (∀ i ∈ is, i < l.length) →
    (Op.eqItems (d + 1) e 1 (l.map vb).toArray (m.map vb).toArray is).run P w = .ok (is.all fun i => l[i]? == m[i]?) w
  | [], _ => rfl
  | i :: is, h => by
    have hi := h i List.mem_cons_self
    have hi2 : i < m.length := hlm ▸ hi
    unfold Op.eqItems
    simp only [Nat.mul_one, Sem.run_bind, run_partB he l i hi w, run_partB he m i hi2 w, Result.andThen_ok, vb, run_equalIn_int w d e .u8 .u8 _ _ he, List.all_cons, List.getElem?_eq_getElem hi, List.getElem?_eq_getElem hi2]
    have e1 : (I8 l[i] == I8 m[i]) = (l[i] == m[i]) := by
      rw [Bool.eq_iff_iff, beq_iff_eq, beq_iff_eq, I8_eq, I8_eq]
      exact ⟨fun h => UInt8.toNat_inj.1 (by omega), fun h => by rw [h]⟩
    rw [e1]
    cases hq : (l[i] == m[i]) with
    | false => simp [hq]
    | true => simp [hq, run_eqItemsB he d l m hlm w is fun j hj => h j (List.mem_cons_of_mem _ hj)]
theorem all_range_eq (l m : List UInt8) (h : l.length = m.length) : ((List.range l.length).all fun i => l[i]? == m[i]?) = (l == m) := by
  rw [Bool.eq_iff_iff, beq_iff_eq, List.all_eq_true]
  constructor
  · intro hall
    refine List.ext_getElem? fun i => ?_
    by_cases hi : i < l.length
    · simpa using hall i (List.mem_range.2 hi)
    · rw [List.getElem?_eq_none (by omega), List.getElem?_eq_none (by omega)]
  · rintro rfl i _; simp
/-- What == says of two arrays of bytes. -/
structure EqRow (P : Program) (t : TypeId) (l m : List UInt8) : Prop where
  eql : ∀ w : World, (binOp .eql t (.agg (l.map vb).toArray) (.agg (m.map vb).toArray)).run P w = .ok (.bool (l == m)) w
  neq : ∀ w : World, (binOp .neq t (.agg (l.map vb).toArray) (.agg (m.map vb).toArray)).run P w = .ok (.bool (!(l == m))) w
  guardE : ∀ (x y : Operand) (w : World), (eqGuard .eql t x y (.agg (l.map vb).toArray) (.agg (m.map vb).toArray)).run P w = .ok () w
  guardN : ∀ (x y : Operand) (w : World), (eqGuard .neq t x y (.agg (l.map vb).toArray) (.agg (m.map vb).toArray)).run P w = .ok () w
theorem eqRow {P : Program} {t e : TypeId} {n : Nat} (hu : P.underlying t = some (.array n e)) (he : P.underlying e = some (.int .u8)) (hc : P.cellsOf e = 1) (hg : P.eqGuardType P.depth t = false) (l m : List UInt8) (hl : l.length = n) (hm : m.length = n) : EqRow P t l m := by
  have key : ∀ w : World, (Op.equal t (.agg (l.map vb).toArray) (.agg (m.map vb).toArray)).run P w = .ok (l == m) w := fun w => by
    obtain ⟨i, hi⟩ := info_of_underlying he
    have := run_equalIn_array w 9999 (l.map vb).toArray (m.map vb).toArray hu hi
    rw [hc, run_eqItemsB he 9998 l m (by omega) w (List.range n) (fun i hi => by rw [hl]; exact List.mem_range.1 hi)] at this
    rw [← hl, all_range_eq l m (by omega)] at this
    exact this
  refine ⟨fun w => ?_, fun w => ?_, fun x y w => ?_, fun x y w => ?_⟩
  · simp only [binOp, Sem.run_bind, key w, Result.andThen_ok, Sem.run_pure]
  · simp only [binOp, Sem.run_bind, key w, Result.andThen_ok, Sem.run_pure]
  · have : (eqGuard .eql t x y (.agg (l.map vb).toArray) (.agg (m.map vb).toArray)).run P w = (Pure.pure () : Sem Unit).run P w := by
      have hp : ∀ w : World, (program).run P w = .ok P w := fun _ => rfl
      simp only [eqGuard]; simp [hp, hg]
    rw [this]; rfl
  · have : (eqGuard .neq t x y (.agg (l.map vb).toArray) (.agg (m.map vb).toArray)).run P w = (Pure.pure () : Sem Unit).run P w := by
      have hp : ∀ w : World, (program).run P w = .ok P w := fun _ => rfl
      simp only [eqGuard]; simp [hp, hg]
    rw [this]; rfl
theorem nums_vb (l : List UInt8) : Shape.ok .nums (.agg (l.map vb).toArray) = true := by
  refine Shape.ok_of ?_
  simp [Shape.strict, numsV, vb, isIntV]
end
end TL
end Go

/- The walk of (*Sha).Sum: the hash, and nothing that was there is touched. Conditions: fewer than 64 bytes are left; fewer than 10^12 were written. -/
namespace Go
namespace TL
open Go.RowKit
/-- How many noughts the padding has, behind r bytes. -/
def zpad (r : Nat) : Nat := (119 - r % 64) % 64
def padB (rest : List UInt8) (n : Nat) : List UInt8 := rest ++ [128] ++ List.replicate (zpad rest.length) 0 ++ bigB (UInt64.ofNat n * 8) 8
def outB (s : St) : List UInt8 := s.words.flatMap fun x => bigB x.toUInt64 4
def sumS (h : St) (rest : List UInt8) (n : Nat) : List UInt8 := outB (absorb ((padB rest n).length / 64) h (padB rest n))
theorem outB_length (s : St) : (outB s).length = 32 := rfl
/-- Sum's own blocks while it pads. -/
structure PI (w wr : World) (bv : Value) (l : List UInt8) : Prop where
  bel : Below w.heap.size w wr
  own : OwnB wr (w.heap.size + 1) bv l
  out : wr.there w.heap.size 0 32
  sz : w.heap.size < wr.heap.size
theorem PI.step {w wr w' : World} {bv v' : Value} {l l' : List UInt8} (h : PI w wr bv l) (ho : OwnB w' (w.heap.size + 1) v' l') (hg : wr.grownBy w' bv.ownBlock) : PI w w' v' l' := by
  have hne : ∀ k, bv.ownBlock = some k → w.heap.size + 1 ≤ k := fun k e => (Own.base_le h.own e).1
  refine ⟨h.bel.trans (below_of_grownBy hg (Nat.le_of_lt h.sz) fun k e => by have := hne k e; omega), ho, there_of_block h.out (hg.block _ h.sz ?_), Nat.lt_of_lt_of_le h.sz hg.size⟩
  cases e : bv.ownBlock with
  | none => simp
  | some k => intro e2; injection e2 with e2; have := hne k e; omega
theorem PI.drew {w wr : World} {bv : Value} {l : List UInt8} (h : PI w wr bv l) : PI w wr.drew bv l := ⟨h.bel.drew, h.own, h.out, h.sz⟩
/-- While the hash is laid: the words' bytes that are there. -/
structure RI (w wr : World) (s : St) (i : Nat) : Prop where
  bel : Below w.heap.size w wr
  out : wr.there w.heap.size 0 32
  sz : w.heap.size < wr.heap.size
  got : wr.rangeAt w.heap.size 0 (((outB s).take (4 * i)).map vb)
theorem outB_take (s : St) (i : Nat) (hi : i < 8) : ∃ x, s.words[i]? = some x ∧ s.cells.toArray[i]? = some (vw x) ∧ (outB s).take (4 * (i + 1)) = (outB s).take (4 * i) ++ bigB x.toUInt64 4 := by
  have : i = 0 ∨ i = 1 ∨ i = 2 ∨ i = 3 ∨ i = 4 ∨ i = 5 ∨ i = 6 ∨ i = 7 := by omega
  rcases this with rfl | rfl | rfl | rfl | rfl | rfl | rfl | rfl <;> exact ⟨_, rfl, rfl, rfl⟩
theorem RI.step {w wr w1 : World} {s : St} {i : Nat} (h : RI w wr s i) (hb : Below wr.heap.size wr w1) (hi : i < 8) (x : UInt32) (hx : (outB s).take (4 * (i + 1)) = (outB s).take (4 * i) ++ bigB x.toUInt64 4) :
    RI w (w1.setCells w.heap.size (4 * i) ((bigB x.toUInt64 4).map vb)) s (i + 1) := by
  have e := hb.block _ h.sz
  have hl : ((bigB x.toUInt64 4).map vb).length = 4 := by rw [List.length_map, bigB_length]
  have hlt : (((outB s).take (4 * i)).map vb).length = 4 * i := by rw [List.length_map, List.length_take, outB_length]; omega
  refine ⟨below_setCells (Nat.le_refl _) _ _ _ (h.bel.trans (hb.mono h.bel.size)), World.there_setCells (there_of_block h.out e) _ _ _, by rw [size_setCells]; exact Nat.lt_of_lt_of_le h.sz hb.size, ?_⟩
  rw [hx, List.map_append]
  refine rangeAt_append (World.rangeAt_setCells_apart (rangeAt_of_block h.got e) _ _ _ (.inr (.inl (by rw [hlt]; omega)))) ?_
  rw [hlt, Nat.zero_add]
  refine World.rangeAt_setCells_same _ _ _ _ ?_
  rw [hl]
  have := there_drop (there_of_block h.out e) (4 * i)
  rw [Nat.zero_add] at this
  exact there_mono this (by omega)
/-- While it turns: the words lie in a block of their own. -/
structure QI (w wr : World) (g : Nat) (bv : Value) (l : List UInt8) (s : St) : Prop where
  pi : PI w wr bv l
  glo : w.heap.size < g
  glt : g < wr.heap.size
  gne : bv.ownBlock ≠ some g
  gr : wr.rangeAt g 0 s.cells
  gt : wr.there g 0 8
theorem QI.drew {w wr : World} {g : Nat} {bv : Value} {l : List UInt8} {s : St} (h : QI w wr g bv l s) : QI w wr.drew g bv l s := ⟨h.pi.drew, h.glo, h.glt, h.gne, h.gr, h.gt⟩
theorem QI.below {w wr w' : World} {g : Nat} {bv : Value} {l : List UInt8} {s : St} (h : QI w wr g bv l s) (hb : Below wr.heap.size wr w') : QI w w' g bv l s := by
  have e := hb.block g h.glt
  exact ⟨h.pi.step (Own.below h.pi.own hb) (grownBy_of_below hb _), h.glo, Nat.lt_of_lt_of_le h.glt hb.size, h.gne, rangeAt_of_block h.gr e, there_of_block h.gt e⟩
theorem QI.set' {w wr : World} {g : Nat} {bv : Value} {l : List UInt8} (hpi : PI w wr bv l) (glo : w.heap.size < g) (glt : g < wr.heap.size) (gne : bv.ownBlock ≠ some g) (gt : wr.there g 0 8) (s' : St) : QI w (wr.setCells g 0 s'.cells) g bv l s' := by
  have hg := grownBy_setCells wr g 0 s'.cells
  refine ⟨⟨below_setCells (Nat.le_of_lt glo) _ _ _ hpi.bel, Own.kept hpi.own hg (.inr gne), there_of_block hpi.out (block_setCells g _ 0 wr _ (by omega)), by rw [size_setCells]; exact hpi.sz⟩, glo, by rw [size_setCells]; exact glt, gne, World.rangeAt_setCells_same _ _ _ _ gt, World.there_setCells gt _ _ _⟩
theorem QI.set {w wr : World} {g : Nat} {bv : Value} {l : List UInt8} {s : St} (h : QI w wr g bv l s) (s' : St) : QI w (wr.setCells g 0 s'.cells) g bv l s' := QI.set' h.pi h.glo h.glt h.gne h.gt s'
theorem padB_length (rest : List UInt8) (n : Nat) (hr : rest.length < 64) : ∃ N, N ≤ 2 ∧ (padB rest n).length = 64 * N := by
  have e : (padB rest n).length = rest.length + 1 + zpad rest.length + 8 := by simp [padB, bigB_length]; omega
  rw [e]; unfold zpad
  exact ⟨(rest.length + 1 + (119 - rest.length % 64) % 64 + 8) / 64, by omega, by omega⟩
theorem QI.slice {w wr : World} {g : Nat} {bv bv' : Value} {l l' : List UInt8} {s : St} (h : QI w wr g bv l s) (ho : OwnB wr (w.heap.size + 1) bv' l') (hne : bv'.ownBlock = bv.ownBlock) : QI w wr g bv' l' s :=
  ⟨⟨h.pi.bel, ho, h.pi.out, h.pi.sz⟩, h.glo, h.glt, by rw [hne]; exact h.gne, h.gr, h.gt⟩
end TL
end Go
namespace Go.Proofs.Ytjmhjkgcdglpaaa
open Go.RowKit Go.TL
set_option maxRecDepth 100000 in
set_option maxHeartbeats 4000000 in
theorem Sum_any (base b : Nat) (h : St) (rv : Value) (rest : List UInt8) (n : Nat) (w : World) (S : ShaAt w base b h rv rest n) (hr : rest.length < 64) :
    Calls Try.prog 37 #[.pointer (some ⟨b, 0, none⟩)] w fun e w' => e = .returned (.agg ((sumS h rest n).map vb).toArray) ∧ Below w.heap.size w w' := by
  have m0 := S.mc
  have n0 := S.nc
  have r0 := S.rc
  have hbl := S.lt
  have S' := Lib.hid S; clear S
  go_enter Try.func37, Try.ntmps37
  go_wp2_with (first | ((with_reducible show wpList _ _ _ (Oper.mk _ (Op.alloc 37) _ _ _ _ :: _) _ _); go_must (refine wpList_newRow rfl _ rfl (Array.replicate 32 (.int .u8 0)) (by kernel_rfl) ?_; intro w1 hb1 hs1 hr1 ht1; have S1 := S'.out.below hb1; have m1 := S1.mc; have n1 := S1.nc; have r1 := S1.rc; have l1 : b < w1.heap.size := S1.lt; have T1 := Lib.hid S1; clear S1 hr1; have Hb1 := Lib.hid hb1; clear hb1; have Hs1 := Lib.hid hs1; clear hs1; have Ht1 := Lib.hid ht1; clear ht1)) | (go_at_call 56; go_must (refine (none_no _ b m1).mono ?_; rintro e w2 ⟨rfl, rfl⟩)) | ((with_reducible show wpList _ _ _ (Oper.mk _ (Op.call ⟨Callee.builtin Builtin.append, #[.tmp 10, .tmp 14], _⟩) _ _ _ _ :: _) _ _); go_must (refine wpList_append bytesT rfl _ _ _ rfl uB (w.heap.size + 1) (.slice (some ⟨w1.heap.size, 0, none⟩) 0 0) 0 [] rfl (OwnB_empty _ _ w1.heap.size (by rw [Hs1.out]; exact Nat.le_refl _) (by simp)) rv rest.length _ rfl (SeesB.src (Sees.alloc T1.out.ro.sees _)) (by simp only [maxLen]; omega) (by omega) (by simp; rw [Hs1.out]; omega) ?_; intro v1 w2 ho2 hg2 hf2 _; have B2 : Below w1.heap.size w1 w2 := below_of_grownBy (grownBy_trans (World.grownBy_alloc w1 _ _) hg2) (Nat.le_refl _) (by simp [Value.ownBlock]); have T2 := Lib.hid (T1.out.below B2); have hsz2 : w1.heap.size + 1 ≤ w2.heap.size := (by have := hg2.size; simpa using this); have hOut2 := Lib.hid (there_of_block Ht1.out (B2.block w.heap.size (by rw [Hs1.out]; omega))); have HB2 := Lib.hid (Hb1.out.trans (B2.mono (by rw [Hs1.out]; omega))); have Ho2 : Hid (OwnB w2 (w.heap.size + 1) v1 rest) := Lib.hid (by simpa [OwnB] using ho2); have Hsz2 : Hid (w.heap.size + 2 ≤ w2.heap.size) := Lib.hid (by rw [Hs1.out] at hsz2; exact hsz2); clear ho2 hg2 hf2 B2 hsz2 m1 n1 r1 T1 Ht1 Hb1 Hs1)) | ((with_reducible show wpList _ _ _ (Oper.mk _ (Op.call ⟨Callee.builtin Builtin.append, #[.tmp 15, .tmp 16], _⟩) _ _ _ _ :: _) _ _); go_must (refine wpList_append_new bytesT rfl _ _ rfl (w.heap.size + 1) w2 [128] _ _ rfl v1 rest rfl Ho2.out rfl (by simp; omega) (by have := Hsz2.out; omega) ?_; intro v2 w3 ho3 hg3 hf3)))
  have I3 : Hid (PI w w3 v2 (rest ++ [128])) := Lib.hid (PI.step ⟨HB2.out, Ho2.out, by simpa using hOut2.out, by have := Hsz2.out; omega⟩ ho3 hg3)
  clear ho3 hg3 hf3 Ho2 hOut2 HB2 Hsz2 T2
  go_loopw [3] (fun bv wr => ∃ k : Nat, k ≤ zpad rest.length ∧ PI w wr bv (rest ++ [128] ++ List.replicate k 0)) (fun bv _ => rest.length + 1 + zpad rest.length - lenV bv)
  case atStart => exact ⟨0, by omega, by simpa using I3.out⟩
  case round =>
    obtain ⟨k, hk, I⟩ := hrel
    have hln := Sees.run_len I.own.sees 48 5 3 Try.underlying48
    have elen : (rest ++ [128] ++ List.replicate k 0).length = rest.length + 1 + k := by simp; omega
    rw [elen] at hln
    have I' := Lib.hid I; clear I I3
    by_cases hlt : k < zpad rest.length
    · have hd : (rest.length + 1 + k) % 64 ≠ 56 := by unfold zpad at hlt; omega
      go_wp2_with ((with_reducible show wpList _ _ _ (Oper.mk _ (Op.call ⟨Callee.builtin Builtin.append, #[.tmp 22, .tmp 23], _⟩) _ _ _ _ :: _) _ _); go_must (refine wpList_append_new bytesT rfl _ _ rfl (w.heap.size + 1) wr [0] _ _ rfl _ (rest ++ [128] ++ List.replicate k 0) rfl I'.out.own rfl (by rw [elen]; simp; unfold zpad at hlt; omega) (by have := I'.out.sz; omega) ?_; intro v4 w4 ho4 hg4 _; have I4 := Lib.hid (I'.out.step ho4 hg4); clear ho4 hg4))
      go_roundw
      case rel => exact ⟨k + 1, by omega, by have := I4.out; simpa [List.replicate_succ'] using this⟩
      case measure => rw [I4.out.own.sees.lenV, I'.out.own.sees.lenV]; simp; omega
    · have hkz : k = zpad rest.length := by omega
      have hd : (rest.length + 1 + k) % 64 = 56 := by unfold zpad at hkz; omega
      have T4 := Lib.hid (S'.out.below I'.out.bel)
      have n4 := T4.out.nc
      go_wp2_with (first | (go_at_call 58; go_must (refine (putBig_any (w.heap.size + 1) _ (rest ++ [128] ++ List.replicate k 0) (UInt64.ofNat n * 8) 8 wr I'.out.own (by have := I'.out.sz; omega) (by decide) (by rw [elen]; unfold zpad at hkz; omega)).mono ?_; rintro e w5 ⟨v5, rfl, ho5, hg5, _⟩; have I5 := Lib.hid (I'.out.step ho5 hg5); have T5 := Lib.hid (S'.out.below I5.out.bel); clear ho5 hg5 T4 n4)) | ((with_reducible show wpList _ _ _ (Oper.mk (some 36) (Op.load 83 _) _ _ _ _ :: _) _ _); go_must (refine wpList_load_mid rfl 83 _ rfl b 0 rfl _ _ (by exact T5.out.hh) Try.underlying83 rfl (by kernel_rfl) ?_)) | ((with_reducible show wpList _ _ _ (Oper.mk _ (Op.alloc 83) _ _ _ _ :: _) _ _); go_must (refine wpList_newRow rfl _ rfl (Array.replicate 8 (.int .u32 0)) (by kernel_rfl) ?_; intro w6 hb6 hs6 hr6 ht6; have Hb6 := Lib.hid hb6; clear hb6; have Hs6 := Lib.hid hs6; clear hs6 hr6; have Ht6 := Lib.hid ht6; clear ht6)) | ((with_reducible show wpList _ _ _ (Oper.mk none (Op.store 83 _ _) _ _ _ _ :: _) _ _); go_must (refine wpList_putRow rfl 83 _ _ rfl w5.heap.size 0 h.cells rfl rfl (by simpa [St.cells] using Ht6.out) (by kernel_rfl) (by simp [Value.oneCell', St.cells, vw]) ?_)))
      have J6 : Hid (QI w (w6.setCells w5.heap.size 0 h.cells) w5.heap.size v5 (padB rest n) h) := Lib.hid (by
        have hpi := I5.out.step (Own.below I5.out.own Hb6.out) (grownBy_of_below Hb6.out _)
        rw [hkz] at hpi
        have hlt5 := Hs6.out
        exact QI.set' hpi I5.out.sz (by omega) (fun e => by have := (Own.base_le I5.out.own e).2; omega) (by simpa using Ht6.out) h)
      clear Hs6 Ht6 Hb6 I5 T5 I'
      obtain ⟨N, hN, hpl⟩ := padB_length rest n hr
      go_simp
      go_loopw [3] (fun bv wr => ∃ j : Nat, j ≤ N ∧ QI w wr w5.heap.size bv ((padB rest n).drop (64 * j)) (absorb j h (padB rest n))) (fun bv _ => lenV bv)
      case atStart => exact ⟨0, by omega, by simpa [absorb] using J6.out⟩
      case round =>
        clear J6
        obtain ⟨j, hj, J⟩ := hrel
        have hdl : ((padB rest n).drop (64 * j)).length = 64 * N - 64 * j := by rw [List.length_drop, hpl]
        have hln2 := Sees.run_len J.pi.own.sees 48 5 3 Try.underlying48
        rw [hdl] at hln2
        have J' := Lib.hid J; clear J
        have Hdl := Lib.hid hdl; clear hdl
        by_cases hjN : j < N
        · have hpos : decide ((64 * N - 64 * j : Nat) > (0 : Int)) = true := by simp; omega
          obtain ⟨hj', ehj⟩ : ∃ x, x = absorb j h (padB rest n) := ⟨_, rfl⟩
          rw [← ehj] at J'
          have Ehj := Lib.hid ehj; clear ehj
          have hcut := J'.out.pi.own.sees.run_cut_hi bytesT 64 (by omega) (by rw [Hdl.out]; omega)
          have hsee := SeesB.cut J'.out.pi.own.sees 0 64 (by omega) (by rw [Hdl.out]; omega)
          obtain ⟨cv, ecv⟩ : ∃ x, x = cutV 1 u3 0 64 := ⟨_, rfl⟩
          rw [show (64 : Int).toNat = 64 from rfl, ← ecv] at hcut
          rw [← ecv, List.drop_zero] at hsee
          have Hsee := Lib.hid hsee; clear hsee ecv
          go_wp2_with fail
          refine region_det [(2, false), (3, false), (4, false), (5, false), (6, false), (0, false), (1, false), (7, true), (8, true)] [(44, .ptr)] (by kernel_rfl) (by kernel_rfl) rfl (by kernel_rfl) ?_
          simp only [reord, opAt, List.map_cons, List.map_nil, List.getElem?_toArray, List.getElem?_cons_zero, List.getElem?_cons_succ, Option.getD_some]
          have T6 := Lib.hid (S'.out.below J'.out.drew.pi.bel)
          go_wp2_with (first | ((with_reducible show wpList _ _ _ (Oper.mk _ (Op.load 83 _) _ _ _ _ :: _) _ _); go_must (refine wpList_load_mid rfl 83 _ rfl w5.heap.size 0 rfl _ _ (by exact J'.out.drew.gr) Try.underlying83 rfl (by kernel_rfl) ?_)) | (go_at_call 57; go_must (refine (turn_any hj' hj' K64 K64_length b 8 cv (((padB rest n).drop (64 * j)).take 64) (by rw [List.length_take, Hdl.out]; omega) _ (by exact T6.out.kk) (by exact Sees.drew Hsee.out)).mono ?_; rintro e w7 ⟨rfl, hb7⟩; have J3 := Lib.hid (J'.out.drew.below hb7); clear hb7)) | ((with_reducible show wpList _ _ _ (Oper.mk none (Op.store 83 _ _) _ _ _ _ :: _) _ _); go_must (refine wpList_putRow rfl 83 _ _ rfl w5.heap.size 0 _ rfl rfl (by exact J3.out.gt) (by kernel_rfl) (by simp [Value.oneCell', St.cells, vw]) ?_)))
          refine OnlyN.intro (by kernel_rfl) ?_
          have J4 := Lib.hid (J3.out.set (turnS hj' hj' K64 (((padB rest n).drop (64 * j)).take 64)))
          have hlo := J4.out.pi.own.sees.run_cut_lo bytesT 64 (by omega) (by rw [Hdl.out]; omega)
          have ho5 := OwnB.cut J4.out.pi.own 64 ((padB rest n).drop (64 * j)).length (by rw [Hdl.out]; omega) (Nat.le_refl _)
          rw [List.take_length, List.drop_drop, show 64 * j + 64 = 64 * (j + 1) by omega] at ho5
          have J5 := Lib.hid (J4.out.slice ho5 (ownBlock_cutV (size := 1) u3 64 ((padB rest n).drop (64 * j)).length))
          have hlen5 : ((padB rest n).drop (64 * (j + 1))).length = 64 * N - 64 * (j + 1) := by rw [List.length_drop, hpl]
          have Hlen5 := Lib.hid hlen5; clear hlen5 ho5
          rw [Hdl.out] at J5
          go_wp2_with fail
          go_roundw
          case rel =>
            have e : absorb (j + 1) h (padB rest n) = turnS hj' hj' K64 (((padB rest n).drop (64 * j)).take 64) := by rw [absorb_step, ← Ehj.out]
            exact ⟨j + 1, by omega, by rw [e]; exact J5.out⟩
          case measure => rw [J5.out.pi.own.sees.lenV, J'.out.pi.own.sees.lenV, Hlen5.out, Hdl.out]; omega
        · have hjn : j = N := by omega
          subst hjn
          have hneg : decide ((64 * j - 64 * j : Nat) > (0 : Int)) = false := by simp
          go_wp2_with ((with_reducible show wpList _ _ _ (Oper.mk _ (Op.load 83 _) _ _ _ _ :: _) _ _); go_must (refine wpList_load_mid rfl 83 _ rfl w5.heap.size 0 rfl _ _ (by exact J'.out.gr) Try.underlying83 rfl (by kernel_rfl) ?_))
          go_simp
          obtain ⟨sN, esN⟩ : ∃ s, s = absorb j h (padB rest n) := ⟨_, rfl⟩
          rw [← esN] at J'
          have R0 : Hid (RI w wr sN 0) := Lib.hid ⟨J'.out.pi.bel, J'.out.pi.out, J'.out.pi.sz, rangeAt_nil _ _ _⟩
          have EsN := Lib.hid esN
          rw [← esN]; clear esN J'
          go_loopw [51] (fun iv wr => ∃ i : Nat, i ≤ 8 ∧ iv = .int .i64 i ∧ RI w wr sN i) (fun iv _ => 8 - (intOf iv).toNat)
          case atStart => exact ⟨0, by omega, rfl, R0.out⟩
          case round =>
            clear R0
            obtain ⟨i, hi8, rfl, R⟩ := hrel
            have R' := Lib.hid R; clear R
            by_cases hlt : i < 8
            · obtain ⟨x, hx1, hx2, hx3⟩ := outB_take sN i hlt
              have hix : ∀ w'', (Instr.index 83 (.agg sN.cells.toArray) (.int .i64 i)).run Try.prog w'' = .ok (.int .u32 (I32 x)) w'' := fun w'' => run_index_agg _ _ 8 _ Try.underlying83 _ Try.underlying82 rfl (by kernel_rfl) i hlt _ hx2 w''
              have hsl : ∀ w'', (Instr.sliceAt 37 (.pointer (some ⟨w.heap.size, 0, none⟩)) (some (.int .i64 (4 * (i : Int)))) none none).run Try.prog w'' = .ok (.slice (some ⟨w.heap.size, 4 * i, none⟩) (32 - 4 * i) (32 - 4 * i)) w'' := fun w'' => by
                have := run_sliceAt_row 37 _ 32 Try.underlying37 (by kernel_rfl) w.heap.size 0 (4 * i) (by omega) (4 * (i : Int)) (by omega) w''
                rwa [Nat.zero_add] at this
              have Hx3 := Lib.hid hx3; clear hx3 hx1 hx2
              go_wp2_with fail
              refine region_det [(0, false), (1, false), (2, false), (3, false), (4, false), (5, true), (6, true)] [(55, .int), (58, .int)] (by kernel_rfl) (by kernel_rfl) rfl (by kernel_rfl) ?_
              simp only [reord, opAt, List.map_cons, List.map_nil, List.getElem?_toArray, List.getElem?_cons_zero, List.getElem?_cons_succ, Option.getD_some]
              go_wp2_with (first | (go_at_call 58; go_must (refine (putBig_any (w.heap.size + 1) (.slice none 0 0) [] x.toUInt64 4 wr.drew (Own_nil _ _ _) (by exact R'.out.sz) (by decide) (by simp)).mono ?_; rintro e w8 ⟨v8, rfl, ho8, hg8, hf8⟩; have Ho8 : Hid (OwnB w8 (w.heap.size + 1) v8 (bigB x.toUInt64 4)) := Lib.hid (by simpa using ho8); have Hb8 : Hid (Below wr.heap.size wr w8) := Lib.hid ((Below.refl _ wr).drew.trans (below_of_grownBy hg8 (Nat.le_refl _) (by simp [Value.ownBlock]))); clear ho8 hg8 hf8)) | ((with_reducible show wpList _ _ _ (Oper.mk _ (Op.call ⟨Callee.builtin Builtin.copy, _, _⟩) _ _ _ _ :: _) _ _); go_must (refine wpList_copy bytesT rfl _ _ 48 rfl w.heap.size (4 * i) (32 - 4 * i) (32 - 4 * i) rfl v8 4 ((bigB x.toUInt64 4).map vb) rfl (SeesB.src Ho8.out.sees) 4 ?_ ?_ ?_)))
              · show 4 = Nat.min 4 (32 - 4 * i)
                exact (Nat.min_eq_left (by omega)).symm
              · have := there_drop (there_of_block R'.out.out (Hb8.out.block _ R'.out.sz)) (4 * i)
                rw [Nat.zero_add] at this
                exact there_mono this (by omega)
              have R8 := Lib.hid (R'.out.step Hb8.out hlt x Hx3.out)
              rw [show List.take (4 * 1) ((bigB x.toUInt64 4).map vb) = (bigB x.toUInt64 4).map vb from rfl]
              go_wp2_with fail
              refine OnlyN.intro (by kernel_rfl) ?_
              go_wp2_with fail
              go_roundw
              case rel => exact ⟨i + 1, by omega, by go_num, R8.out⟩
              case measure => simp [intOf]; omega
            · have hi8' : i = 8 := by omega
              subst hi8'
              have hgot := R'.out.got
              rw [show 4 * 8 = (outB sN).length from rfl, List.take_length] at hgot
              have Hgot := Lib.hid hgot; clear hgot
              go_wp2_with (first | ((with_reducible show wpList _ _ _ (Oper.mk _ (Op.load 37 _) _ _ _ _ :: _) _ _); go_must (refine wpList_load_mid rfl 37 _ rfl w.heap.size 0 rfl _ _ Hgot.out Try.underlying37 rfl (by kernel_rfl) ?_)) | ((with_reducible show wpList _ _ _ (Oper.mk none (Op.store 37 _ _) _ _ _ _ :: _) _ _); go_must (refine wpList_putRow rfl 37 _ _ rfl w.heap.size 0 ((outB sN).map vb) rfl rfl (by rw [List.length_map, outB_length]; exact R'.out.out) (by rw [List.length_map, outB_length]; kernel_rfl) (vb_one _) ?_)))
              refine bodyPost_ret (results_row rfl _ _ w.heap.size 0 ((outB sN).map vb) _ rfl (World.rangeAt_setCells_same _ _ _ _ (by rw [List.length_map, outB_length]; exact R'.out.out)) Try.underlying37 rfl (by rw [List.length_map, outB_length]; kernel_rfl)) rfl ?_
              refine ⟨?_, below_setCells (Nat.le_refl _) _ _ _ R'.out.bel⟩
              have e : sumS h rest n = outB sN := by rw [EsN.out]; unfold sumS; rw [hpl, Nat.mul_div_cancel_left _ (by decide)]
              rw [e]
end Go.Proofs.Ytjmhjkgcdglpaaa

/- The walks of sha.Sum, hexOf and Digits: a text's hash, its digits. Conditions: the text is shorter than 10^12 bytes. -/
namespace Go
namespace TL
open Go.RowKit
def bytesOf (s : ByteArray) : List UInt8 := s.data.toList
/-- The hash of a text of n bytes. -/
def shaL (l : List UInt8) : List UInt8 := sumS (absorb (l.length / 64) H0 l) (l.drop (64 * (l.length / 64))) l.length
theorem shaL_length (l : List UInt8) : (shaL l).length = 32 := rfl
def hexTab : ByteArray := ⟨#[48, 49, 50, 51, 52, 53, 54, 55, 56, 57, 97, 98, 99, 100, 101, 102]⟩
/-- The digit of a number below 16. -/
def hexD (x : UInt8) : UInt8 := (hexTab[x.toNat]?).getD 0
@[go_sem high] theorem fold_hexTab : (⟨#[48, 49, 50, 51, 52, 53, 54, 55, 56, 57, 97, 98, 99, 100, 101, 102]⟩ : ByteArray) = hexTab := rfl
@[go_sem high] theorem run_index_hexTab {P : Program} (w : World) (t : TypeId) (k : IntKind) (x : UInt8) (h : P.underlying t = some .string) (h1 : I8 x ≤ 15) :
    (Instr.index t (.string hexTab) (.int k (I8 x))).run P w = .ok (.int .u8 (I8 (hexD x))) w := by
  rw [I8_eq] at h1 ⊢
  have hs : hexTab.size = 16 := rfl
  have hi : 0 ≤ (x.toNat : Int) ∧ (x.toNat : Int) < (hexTab.size : Int) := by rw [hs]; omega
  rw [run_index_string w t hexTab k _ h, dif_pos hi]
  have h2 : x.toNat < hexTab.size := by rw [hs]; omega
  simp [hexD, ByteArray.getElem?_lt' _ _ h2, I8_eq]
theorem shr4_le (x : UInt8) : I8 (x >>> 4) ≤ 15 := by
  rw [I8_eq]; have := UInt8.toNat_lt x; rw [UInt8.toNat_shiftRight]; simp [Nat.shiftRight_eq_div_pow]; omega
theorem and15_le (x : UInt8) : I8 (x &&& 15) ≤ 15 := by
  rw [I8_eq]; rw [UInt8.toNat_and]; exact Int.ofNat_le.2 (Nat.and_le_right)
def hexB (l : List UInt8) : List UInt8 := l.flatMap fun (b : UInt8) => [hexD (b >>> 4), hexD (b &&& 15)]
theorem hexB_length (l : List UInt8) : (hexB l).length = 2 * l.length := by
  induction l with
  | nil => rfl
  | cons a l ih => simp only [hexB, List.flatMap_cons, List.length_append] at ih ⊢; rw [ih]; simp; omega
theorem hexB_snoc (l : List UInt8) (b : UInt8) : hexB (l ++ [b]) = hexB l ++ [hexD (b >>> 4), hexD (b &&& 15)] := by simp [hexB]
theorem bytesOf_length (s : ByteArray) : (bytesOf s).length = s.size := by simp [bytesOf]
end TL
end Go
namespace Go.Proofs.Ytjmhjkgcdglpaaa
open Go.RowKit Go.TL
set_option maxHeartbeats 1000000 in
theorem shaSum_any (s : ByteArray) (w : World) (hs : s.size ≤ 1000000000000) :
    Calls Try.prog 19 #[.string s] w fun e w' => e = .returned (.agg ((shaL (bytesOf s)).map vb).toArray) ∧ Below w.heap.size w w' := by
  go_enter Try.func19, Try.ntmps19
  go_wp2_with (first | ((with_reducible show wpList _ _ _ (Oper.mk _ (Op.alloc 37) _ _ _ _ :: _) _ _); go_must (refine wpList_newRow rfl _ rfl (Array.replicate 32 (.int .u8 0)) (by kernel_rfl) ?_; intro w0 hb0 hs0 hr0 ht0; have Hb0 := Lib.hid hb0; clear hb0 hr0; have Hs0 := Lib.hid hs0; clear hs0; have Ht0 := Lib.hid ht0; clear ht0)) | (go_at_call 35; go_must (refine (New_any w0).mono ?_; rintro e w1 ⟨b, rfl, S1, hb1⟩; have S1' := Lib.hid S1; have hb1' := Lib.hid hb1; clear S1 hb1)) | (go_at_call 36; go_must (refine (Write_any w0.heap.size b s w1 hs hb1'.out.size S1'.out).mono ?_; rintro e w2 ⟨rfl, ⟨rv, S2⟩, hb2⟩; have S2' := Lib.hid S2; have hb2' := Lib.hid hb2; clear S2 hb2)) | (go_at_call 37; go_must (refine (Sum_any w0.heap.size b _ rv _ _ w2 S2'.out (by rw [List.length_drop]; have := bytesOf_length s; unfold bytesOf at this; omega)).mono ?_; rintro e w3 ⟨rfl, hb3⟩; have hb3' := Lib.hid hb3; have Ht3 : Hid (w3.there w.heap.size 0 32) := Lib.hid (by have e := (hb1'.out.trans (hb2'.out.trans (hb3'.out.mono (Nat.le_trans hb1'.out.size hb2'.out.size)))).block w.heap.size (by have := Hs0.out; omega); exact there_of_block (by simpa using Ht0.out) e); clear hb3)) | ((with_reducible show wpList _ _ _ (Oper.mk none (Op.store 37 _ _) _ _ _ _ :: _) _ _); go_must (refine wpList_putRow rfl 37 _ _ rfl w.heap.size 0 ((sumS (absorb (s.size / 64) H0 s.data.toList) (List.drop (64 * (s.size / 64)) s.data.toList) s.size).map vb) rfl rfl (by exact Ht3.out) (by kernel_rfl) (vb_one _) ?_)))
  refine bodyPost_ret (results_row rfl _ _ w.heap.size 0 ((shaL (bytesOf s)).map vb) _ rfl ?_ Try.underlying37 rfl (by kernel_rfl)) rfl ⟨rfl, ?_⟩
  · rw [shaL, bytesOf_length]; exact World.rangeAt_setCells_same _ _ _ _ Ht3.out
  · have hb := Hb0.out.trans ((hb1'.out.trans hb2'.out).mono (Nat.le_of_lt (by have := Hs0.out; omega)))
    exact below_setCells (Nat.le_refl _) _ _ _ (hb.trans (hb3'.out.mono hb.size))
end Go.Proofs.Ytjmhjkgcdglpaaa

/- The walk's memory: what is known of it, piece by piece, and what each operation does to it. No conditions but those each law names. -/
namespace Go
namespace TL
open Go.RowKit
/-- A row of bytes, closed to the walk's simp; a text, likewise. -/
def bs (l : List UInt8) : List Value := l.map vb
def mkS (l : List UInt8) : ByteArray := ⟨l.toArray⟩
theorem bs_length (l : List UInt8) : (bs l).length = l.length := by simp [bs]
theorem bs_one (l : List UInt8) : ∀ q ∈ bs l, q.oneCell' = true := vb_one l
theorem bs_set (l : List UInt8) (i : Nat) (b : UInt8) : bs (l.set i b) = (bs l).set i (vb b) := by simp [bs, List.map_set]
theorem bs_append (l m : List UInt8) : bs (l ++ m) = bs l ++ bs m := by simp [bs]
theorem mkS_size (l : List UInt8) : (mkS l).size = l.length := by simp [mkS, ByteArray.size]
theorem mkS_data (l : List UInt8) : (mkS l).data.toList = l := by simp [mkS]
theorem mkS_toList (l : List UInt8) : (mkS l).toList = l := by simp [mkS, Lib.toList_data]
theorem mkS_append (l m : List UInt8) : mkS l ++ mkS m = mkS (l ++ m) := by
  apply ByteArray.ext; apply Array.ext'; simp [mkS]
theorem mkS_of (s : ByteArray) : ∃ l, s = mkS l := ⟨s.data.toList, by simp [mkS]⟩
theorem mkS_inj {l m : List UInt8} : mkS l = mkS m ↔ l = m := ⟨fun h => by rw [← mkS_toList l, h, mkS_toList], fun h => by rw [h]⟩
/-- Of what was there, only the blocks F have turned. -/
structure Kept (F : List Nat) (w0 w : World) : Prop where
  os : w.os = w0.os
  tape : w.tape = w0.tape
  output : w.output = w0.output
  size : w0.heap.size ≤ w.heap.size
  block : ∀ k, k < w0.heap.size → k ∉ F → w.heap[k]? = w0.heap[k]?
theorem Kept.refl (F : List Nat) (w : World) : Kept F w w := ⟨rfl, rfl, rfl, Nat.le_refl _, fun _ _ _ => rfl⟩
theorem Kept.below {w0 w : World} (h : Kept [] w0 w) : Below w0.heap.size w0 w := ⟨h.os, h.tape, h.output, h.size, fun k hk => h.block k hk (by simp)⟩
theorem Kept.of_below {w0 w : World} (h : Below w0.heap.size w0 w) (F : List Nat) : Kept F w0 w := ⟨h.os, h.tape, h.output, h.size, fun k hk _ => h.block k hk⟩
theorem Kept.trans {F G : List Nat} {a b c : World} (h : Kept F a b) (k : Kept G b c) (hG : ∀ x ∈ G, x ∈ F ∨ a.heap.size ≤ x) : Kept F a c :=
  ⟨k.os.trans h.os, k.tape.trans h.tape, k.output.trans h.output, Nat.le_trans h.size k.size, fun i hi hF => (k.block i (Nat.lt_of_lt_of_le hi h.size) fun hx => by
    rcases hG i hx with h1 | h1
    · exact hF h1
    · omega).trans (h.block i hi hF)⟩
theorem Kept.mono {F G : List Nat} {a b : World} (h : Kept F a b) (hG : ∀ x ∈ F, x ∈ G) : Kept G a b := ⟨h.os, h.tape, h.output, h.size, fun k hk hn => h.block k hk fun hx => hn (hG k hx)⟩
theorem Kept.grown {w w' : World} {row : Option Nat} (h : w.grownBy w' row) : Kept row.toList w w' :=
  ⟨h.os, h.tape, h.output, h.size, fun k hk hn => h.block k hk fun e => hn (by rw [← e]; simp)⟩
theorem Kept.drew {F : List Nat} {a w : World} (h : Kept F a w) : Kept F a w.drew := ⟨h.os, h.tape, h.output, h.size, h.block⟩
theorem Kept.alloc (w : World) (o : Obj) : Kept [] w (w.alloc o) := Kept.of_below ((Below.refl _ _).alloc (Nat.le_refl _) o) _
/-- A piece of memory: a block's cells; a slice that is owned; a whole object; whatever lies in some blocks. -/
inductive Chunk where
  | row (g : Nat) (cs : List Value)
  | sl (size : Nat) (v : Value) (n : Nat) (xs : List Value)
  | blk (g : Nat) (o : Obj)
  | obj (fp : List Nat) (p : World → Prop)
def Chunk.fp : Chunk → List Nat
  | .row g _ => [g]
  | .sl _ v _ _ => v.ownBlock.toList
  | .blk g _ => [g]
  | .obj f _ => f
def Chunk.ok (w : World) : Chunk → Prop
  | .row g cs => g < w.heap.size ∧ w.rangeAt g 0 cs ∧ w.there g 0 cs.length
  | .sl size v n xs => Own w 0 size v n xs
  | .blk g o => w.heap[g]? = some o
  | .obj f p => (∀ k ∈ f, k < w.heap.size) ∧ p w ∧ ∀ w' : World, w.heap.size ≤ w'.heap.size → (∀ k ∈ f, w'.heap[k]? = w.heap[k]?) → p w'
theorem Chunk.ok.lt {w : World} {c : Chunk} (h : c.ok w) : ∀ k ∈ c.fp, k < w.heap.size := by
  intro k hk
  cases c with
  | row g cs => simp [Chunk.fp] at hk; subst hk; exact h.1
  | sl size v n xs =>
    simp only [Chunk.fp, Option.mem_toList] at hk
    exact (Own.base_le h hk).2
  | blk g o => simp [Chunk.fp] at hk; subst hk; exact (Array.getElem?_eq_some_iff.1 h).1
  | obj f p => exact h.1 k hk
theorem Chunk.ok.stay {w w' : World} {c : Chunk} (h : c.ok w) (hs : w.heap.size ≤ w'.heap.size) (hb : ∀ k ∈ c.fp, w'.heap[k]? = w.heap[k]?) : c.ok w' := by
  cases c with
  | row g cs =>
    have e := hb g (by simp [Chunk.fp])
    exact ⟨Nat.lt_of_lt_of_le h.1 hs, rangeAt_of_block h.2.1 e, there_of_block h.2.2 e⟩
  | sl size v n xs =>
    refine ⟨h.1, h.2.imp id ?_⟩
    rintro ⟨g, o, cap, rfl, hb', hlt, hn, hc, hr, ht⟩
    have e := hb g (by simp [Chunk.fp, Value.ownBlock])
    exact ⟨g, o, cap, rfl, hb', Nat.lt_of_lt_of_le hlt hs, hn, hc, rangeAt_of_block hr e, there_of_block ht e⟩
  | blk g o => exact (hb g (by simp [Chunk.fp])).trans h
  | obj f p =>
    refine ⟨fun k hk => Nat.lt_of_lt_of_le (h.1 k hk) hs, h.2.2 w' hs hb, fun w'' hs' hb' => h.2.2 w'' (Nat.le_trans hs hs') fun k hk => (hb' k hk).trans (hb k hk)⟩
/-- What one piece's owner may do: the piece turns to another one, in the same blocks or new ones. -/
structure Upd (w : World) (c : Chunk) (w' : World) (c' : Chunk) : Prop where
  kept : Kept c.fp w w'
  ok : c'.ok w'
  fp : ∀ k ∈ c'.fp, k ∈ c.fp ∨ w.heap.size ≤ k
/-- THE MEMORY: of what was there at w0 only F has turned; these pieces are known, apart from each other, and may be written. -/
structure Mem (F : List Nat) (w0 w : World) (L : List Chunk) : Prop where
  kept : Kept F w0 w
  ok : ∀ (i : Nat) (c : Chunk), L[i]? = some c → c.ok w
  own : ∀ (i : Nat) (c : Chunk), L[i]? = some c → ∀ k ∈ c.fp, k ∈ F ∨ w0.heap.size ≤ k
  nd : ∀ (i j : Nat) (c d : Chunk), i ≠ j → L[i]? = some c → L[j]? = some d → ∀ k ∈ c.fp, k ∉ d.fp
theorem Mem.start (F : List Nat) (w : World) : Mem F w w [] := ⟨Kept.refl _ _, by simp, by simp, by simp⟩
/-- With a piece that came in, and may be turned. -/
theorem Mem.start1 {w : World} {c : Chunk} (h : c.ok w) : Mem c.fp w w [c] := by
  refine ⟨Kept.refl _ _, ?_, ?_, ?_⟩
  · intro i d hd; cases i <;> simp at hd; subst hd; exact h
  · intro i d hd; cases i <;> simp at hd; subst hd; exact fun k hk => .inl hk
  · intro i j c d hij hi hj; cases i <;> cases j <;> simp at hi hj hij
theorem Mem.upd {F : List Nat} {w0 w w' : World} {L : List Chunk} (M : Mem F w0 w L) (i : Nat) {c c' : Chunk} (hi : L[i]? = some c) (U : Upd w c w' c') : Mem F w0 w' (L.set i c') := by
  have hil : i < L.length := (List.getElem?_eq_some_iff.1 hi).1
  have key : ∀ (j : Nat) (d : Chunk), j ≠ i → L[j]? = some d → d.ok w' := fun j d hj hd => by
    refine (M.ok j d hd).stay U.kept.size fun k hk => U.kept.block k ((M.ok j d hd).lt k hk) fun hx => M.nd j i d c hj hd hi k hk hx
  refine ⟨M.kept.trans U.kept fun x hx => M.own i c hi x hx, ?_, ?_, ?_⟩
  · intro j d hd
    by_cases e : j = i
    · subst e; rw [List.getElem?_set_self hil] at hd; cases hd; exact U.ok
    · rw [List.getElem?_set_ne (Ne.symm e)] at hd; exact key j d e hd
  · intro j d hd k hk
    by_cases e : j = i
    · subst e; rw [List.getElem?_set_self hil] at hd; cases hd
      rcases U.fp k hk with h | h
      · exact M.own j c hi k h
      · exact .inr (Nat.le_trans M.kept.size h)
    · rw [List.getElem?_set_ne (Ne.symm e)] at hd; exact M.own j d hd k hk
  · intro a b x y hab ha hb k hk hk2
    by_cases e : a = i
    · subst e; rw [List.getElem?_set_self hil] at ha; cases ha
      rw [List.getElem?_set_ne hab] at hb
      rcases U.fp k hk with h | h
      · exact M.nd a b c y hab hi hb k h hk2
      · have := (M.ok b y hb).lt k hk2; omega
    · rw [List.getElem?_set_ne (Ne.symm e)] at ha
      by_cases e2 : b = i
      · subst e2; rw [List.getElem?_set_self hil] at hb; cases hb
        rcases U.fp k hk2 with h | h
        · exact M.nd a b x c hab ha hi k hk h
        · have := (M.ok a x ha).lt k hk; omega
      · rw [List.getElem?_set_ne (Ne.symm e2)] at hb
        exact M.nd a b x y hab ha hb k hk hk2
theorem Mem.add {F : List Nat} {w0 w w' : World} {L : List Chunk} (M : Mem F w0 w L) (c : Chunk) (hk : Kept [] w w') (hok : c.ok w') (hfp : ∀ k ∈ c.fp, w.heap.size ≤ k) : Mem F w0 w' (c :: L) := by
  have key : ∀ (j : Nat) (d : Chunk), L[j]? = some d → d.ok w' := fun j d hd => (M.ok j d hd).stay hk.size fun k hk' => hk.block k ((M.ok j d hd).lt k hk') (by simp)
  refine ⟨M.kept.trans hk (by simp), ?_, ?_, ?_⟩
  · intro j d hd
    cases j with
    | zero => simp at hd; subst hd; exact hok
    | succ j => simp at hd; exact key j d hd
  · intro j d hd k hk'
    cases j with
    | zero => simp at hd; subst hd; exact .inr (Nat.le_trans M.kept.size (hfp k hk'))
    | succ j => simp at hd; exact M.own j d hd k hk'
  · intro a b x y hab ha hb k hk1 hk2
    cases a with
    | zero =>
      simp at ha; subst ha
      cases b with
      | zero => exact hab rfl
      | succ b => simp at hb; have := (M.ok b y hb).lt k hk2; have := hfp k hk1; omega
    | succ a =>
      simp at ha
      cases b with
      | zero => simp at hb; subst hb; have := (M.ok a x ha).lt k hk1; have := hfp k hk2; omega
      | succ b => simp at hb; exact M.nd a b x y (by omega) ha hb k hk1 hk2
/-- A call that leaves alone what was there. -/
theorem Mem.call {F : List Nat} {w0 w w' : World} {L : List Chunk} (M : Mem F w0 w L) (h : Below w.heap.size w w') : Mem F w0 w' L := by
  have hk := Kept.of_below h []
  exact ⟨M.kept.trans hk (by simp), fun j d hd => (M.ok j d hd).stay hk.size fun k hk' => hk.block k ((M.ok j d hd).lt k hk') (by simp), M.own, M.nd⟩
theorem Mem.drew {F : List Nat} {w0 w : World} {L : List Chunk} (M : Mem F w0 w L) : Mem F w0 w.drew L := ⟨M.kept.drew, fun i c h => (M.ok i c h).stay (Nat.le_refl _) (fun _ _ => rfl), M.own, M.nd⟩
/-- A piece is let go; pieces are laid in another row. -/
theorem Mem.pick {F : List Nat} {w0 w : World} {L : List Chunk} (M : Mem F w0 w L) (L' : List Chunk) (f : Nat → Nat) (hf : ∀ i j, i < L'.length → j < L'.length → f i = f j → i = j) (h : ∀ (i : Nat) (c : Chunk), L'[i]? = some c → L[f i]? = some c) : Mem F w0 w L' :=
  ⟨M.kept, fun i c hc => M.ok (f i) c (h i c hc), fun i c hc => M.own (f i) c (h i c hc), fun i j c d hij hi hj => M.nd (f i) (f j) c d (fun e => hij (hf i j (List.getElem?_eq_some_iff.1 hi).1 (List.getElem?_eq_some_iff.1 hj).1 e)) (h i c hi) (h j d hj)⟩
theorem Mem.tail {F : List Nat} {w0 w : World} {c : Chunk} {L : List Chunk} (M : Mem F w0 w (c :: L)) : Mem F w0 w L := M.pick L (· + 1) (fun _ _ _ _ h => by simpa using h) (fun i c h => by simpa using h)
theorem Mem.below {w0 w : World} {L : List Chunk} (M : Mem [] w0 w L) : Below w0.heap.size w0 w := M.kept.below
/-- A nil slice is owned by whoever wants it. -/
theorem Mem.nil {F : List Nat} {w0 w : World} {L : List Chunk} (M : Mem F w0 w L) (size : Nat) : Mem F w0 w (.sl size (.slice none 0 0) 0 [] :: L) :=
  M.add _ (Kept.refl _ _) (Own_nil _ _ _) (by simp [Chunk.fp, Value.ownBlock])
/-- What is seen outside of the blocks that may turn is seen on. -/
theorem Mem.sees {F : List Nat} {w0 w : World} {L : List Chunk} (M : Mem F w0 w L) {size : Nat} {v : Value} {n : Nat} {xs : List Value} (S : Sees w0 size v n xs) (hF : ∀ k, v.ownBlock = some k → k ∉ F) : Sees w size v n xs := by
  refine ⟨S.1, S.2.imp id ?_⟩
  rintro ⟨g, o, cap, rfl, hlt, hn, hc, hr⟩
  have e := M.kept.block g hlt (hF g rfl)
  exact ⟨g, o, cap, rfl, Nat.lt_of_lt_of_le hlt M.kept.size, hn, hc, rangeAt_of_block hr e⟩
/-- The only piece, at the end. -/
theorem Mem.upd1 {w0 w : World} {c c' : Chunk} {L : List Chunk} (M : Mem c.fp w0 w L) (i : Nat) (hi : L[i]? = some c') : Upd w0 c w c' :=
  ⟨M.kept, M.ok i c' hi, M.own i c' hi⟩
/-! ### The operations -/
def scalarT (P : Program) (t : TypeId) : Bool := match P.underlying t with | some d => !d.isRow | none => false
def rowT (P : Program) (t : TypeId) : Bool := match P.underlying t with | some d => d.isRow | none => false
theorem run_loadVar_scalar {P : Program} {t : TypeId} (h : scalarT P t = true) (w : World) (b o : Nat) (v : Value) (hv : w.cell? ⟨b, o, none⟩ = some v) : (loadVar t ⟨b, o, none⟩).run P w = .ok v w := by
  unfold scalarT at h
  cases hu : P.underlying t with
  | none => simp [hu] at h
  | some d =>
    have hagg : (isAgg t).run P w = .ok false w := by
      unfold isAgg
      rw [Sem.run_bind, run_underlying hu w]
      cases d <;> simp_all [TypeDesc.isRow]
    simp [loadVar, Sem.run_bind, hagg, Go.load, Sem.run, hv]
theorem wpW {P : Program} {ops : Array Oper} {rest : List Oper} {o : Oper} {a : Act} {w : World} {Q : Exit → Act → World → Prop} (hw : Region.wanted o (yielded ops a.tmps) = true)
    (h : ∀ K : Act → World → Prop, (∀ a w, wpList P ops Q rest a w → K a w) → o.wp P a w K Q) : wpList P ops Q (o :: rest) a w :=
  wpList_want hw (h _ fun _ _ h => h)
section
variable {P : Program} {ops : Array Oper} {rest : List Oper} {o : Oper} {a : Act} {w w0 : World} {Q : Exit → Act → World → Prop} {F : List Nat} {L : List Chunk}
theorem Mem.cellAt (M : Mem F w0 w L) (i : Nat) {g : Nat} {cs : List Value} (hi : L[i]? = some (.row g cs)) {off : Nat} {v : Value} (hv : cs[off]? = some v) : w.cell? ⟨g, off, none⟩ = some v := by
  have := (M.ok i _ hi).2.1 off v hv
  rwa [Nat.zero_add] at this
/-- A load of one cell. -/
theorem w_load (M : Mem F w0 w L) (i : Nat) (t : TypeId) (x : Operand) (ho : o.op = .load t x) {g off : Nat} {cs : List Value} (hi : L[i]? = some (.row g cs)) (hx : a.eval x = .pointer (some ⟨g, off, none⟩)) (hw : Region.wanted o (yielded ops a.tmps) = true)
    (ht : scalarT P t = true) {v : Value} (hv : cs[off]? = some v) (h : wpList P ops Q rest (a.put o.dst v) w) : wpList P ops Q (o :: rest) a w :=
  wpW hw fun _ hK => by
    unfold Oper.wp execOp
    simp only [ho, hx, Instr.loadAt, Instr.sureAddr, Sem.run_bind, Sem.run_pure, Result.andThen_ok, run_loadVar_scalar ht w g off v (M.cellAt i hi hv)]
    exact hK _ _ h
/-- A load of a struct or an array that lies in the midst of a row. -/
theorem w_loadA (M : Mem F w0 w L) (i : Nat) (t : TypeId) (x : Operand) (ho : o.op = .load t x) {g off : Nat} {cs : List Value} (hi : L[i]? = some (.row g cs)) (hx : a.eval x = .pointer (some ⟨g, off, none⟩)) (hw : Region.wanted o (yielded ops a.tmps) = true)
    (ht : rowT P t = true) (pre mid post : List Value) (hcs : cs = pre ++ (mid ++ post)) (hpre : pre.length = off) (hn : (P.info? t).map (·.size) = some mid.length) (h : wpList P ops Q rest (a.put o.dst (.agg mid.toArray)) w) : wpList P ops Q (o :: rest) a w :=
  wpW hw fun _ hK => by
    unfold rowT at ht
    cases hu : P.underlying t with
    | none => simp [hu] at ht
    | some d =>
      simp only [hu] at ht
      refine wp_load_mid t x ho g off hx mid d ?_ hu ht hn (hK _ _ h)
      intro j v hv
      refine M.cellAt i hi ?_
      have hj : j < mid.length := (List.getElem?_eq_some_iff.1 hv).1
      rw [hcs, ← hpre, List.getElem?_append_right (by omega), Nat.add_sub_cancel_left, List.getElem?_append_left hj]; exact hv
/-- The whole of a row. -/
theorem w_loadR (M : Mem F w0 w L) (i : Nat) (t : TypeId) (x : Operand) (ho : o.op = .load t x) {g : Nat} {cs : List Value} (hi : L[i]? = some (.row g cs)) (hx : a.eval x = .pointer (some ⟨g, 0, none⟩)) (hw : Region.wanted o (yielded ops a.tmps) = true)
    (ht : rowT P t = true) (hn : (P.info? t).map (·.size) = some cs.length) (h : wpList P ops Q rest (a.put o.dst (.agg cs.toArray)) w) : wpList P ops Q (o :: rest) a w :=
  w_loadA M i t x ho hi hx hw ht [] cs [] (by simp) rfl hn h
/-- Cells are written. -/
theorem upd_setCells {g : Nat} {cs : List Value} (h : (Chunk.row g cs).ok w) (pre mid post new : List Value) (hcs : cs = pre ++ (mid ++ post)) (hnew : new.length = mid.length) :
    Upd w (.row g cs) (w.setCells g pre.length new) (.row g (pre ++ (new ++ post))) := by
  refine ⟨Kept.grown (grownBy_setCells w g pre.length new), ⟨by rw [size_setCells]; exact h.1, ?_, ?_⟩, fun k hk => .inl hk⟩
  · have hth := h.2.2
    rw [hcs] at hth
    have hr := h.2.1
    rw [hcs] at hr
    refine rangeAt_append ?_ (rangeAt_append ?_ ?_)
    · refine World.rangeAt_setCells_apart ?_ _ _ _ (.inr (.inl (by omega)))
      have := rangeAt_take hr pre.length
      rwa [List.take_left'  rfl] at this
    · rw [Nat.zero_add]
      refine World.rangeAt_setCells_same _ _ _ _ ?_
      have := there_drop hth pre.length
      rw [Nat.zero_add] at this
      exact there_mono this (by simp; omega)
    · refine World.rangeAt_setCells_apart ?_ _ _ _ (.inr (.inr (by omega)))
      have := rangeAt_drop hr (pre.length + mid.length)
      rw [← List.append_assoc, List.drop_left' (by simp)] at this
      rw [hnew, Nat.add_assoc]; exact this
  · have := h.2.2
    rw [hcs] at this
    refine World.there_setCells (there_mono this ?_) _ _ _
    simp; omega
theorem setCells_one (w : World) (g o : Nat) (v : Value) : w.setCells g o [v] = w.setCell ⟨g, o, none⟩ v := by simp [World.setCells]
theorem upd_setCell {g off : Nat} {cs : List Value} (h : (Chunk.row g cs).ok w) (hlt : off < cs.length) (v : Value) : Upd w (.row g cs) (w.setCell ⟨g, off, none⟩ v) (.row g (cs.set off v)) := by
  have := upd_setCells h (cs.take off) [cs[off]] (cs.drop (off + 1)) [v] (by simp) rfl
  rw [List.length_take, Nat.min_eq_left (by omega), setCells_one] at this
  rwa [List.set_eq_take_append_cons_drop, if_pos hlt]
/-- A store of one cell. -/
theorem w_store (M : Mem F w0 w L) (i : Nat) (t : TypeId) (x y : Operand) (ho : o.op = .store t x y) {g off : Nat} {cs : List Value} (hi : L[i]? = some (.row g cs)) (hx : a.eval x = .pointer (some ⟨g, off, none⟩)) (hw : Region.wanted o (yielded ops a.tmps) = true)
    {v : Value} (hy : a.eval y = v) (h1 : v.oneCell' = true) (hc : v.cells = #[v]) (hn : (P.info? t).map (·.size) = some 1) (hlt : off < cs.length)
    (h : ∀ w' : World, Mem F w0 w' (L.set i (.row g (cs.set off v))) → wpList P ops Q rest (a.put o.dst undef) w') : wpList P ops Q (o :: rest) a w :=
  wpW hw fun _ hK => by
    have hok := M.ok i _ hi
    have hst := run_storeCells_mid (P := P) (w := w) (g := g) (o := off) [v] (by have := there_drop hok.2.2 off; rw [Nat.zero_add] at this; exact there_mono this (by simp; omega)) (by simpa using h1)
    cases hq : P.info? t with
    | none => simp [hq] at hn
    | some inf =>
      have hs : inf.size = 1 := by simpa [hq] using hn
      unfold Oper.wp execOp
      simp only [ho, hx, hy, Instr.storeAt, Instr.sureAddr, storeVar, Sem.run_bind, Sem.run_pure, Result.andThen_ok, sizeOf, typeInfo, run_program, hq, hs, hc]
      simp only [List.size_toArray, List.length_cons, List.length_nil, Nat.zero_add, ne_eq, not_true_eq_false, if_false, hst, Result.andThen_ok]
      rw [setCells_one]
      exact hK _ _ (h _ (M.upd i hi (upd_setCell hok hlt v)))
/-- A store of a struct or an array. -/
theorem w_storeA (M : Mem F w0 w L) (i : Nat) (t : TypeId) (x y : Operand) (ho : o.op = .store t x y) {g off : Nat} {cs : List Value} (hi : L[i]? = some (.row g cs)) (hx : a.eval x = .pointer (some ⟨g, off, none⟩)) (hw : Region.wanted o (yielded ops a.tmps) = true)
    {C : Array Value} (new : List Value) (hy : a.eval y = .agg C) (hC : C = new.toArray) (hn : (P.info? t).map (·.size) = some new.length) (h1 : ∀ v ∈ new, v.oneCell' = true) (pre mid post : List Value) (hcs : cs = pre ++ (mid ++ post)) (hpre : pre.length = off) (hmid : new.length = mid.length)
    (h : ∀ w' : World, Mem F w0 w' (L.set i (.row g (pre ++ (new ++ post)))) → wpList P ops Q rest (a.put o.dst undef) w') : wpList P ops Q (o :: rest) a w :=
  wpW hw fun _ hK => by
    subst hC
    have hok := M.ok i _ hi
    have hth := hok.2.2
    rw [hcs] at hth
    refine wp_store_mid t x y ho g off new.toArray hx hy ?_ (by simpa using hn) (all_oneCell_toArray h1) (hK _ _ (h _ ?_))
    · have := there_drop hth off
      rw [Nat.zero_add] at this
      exact there_mono this (by simp; omega)
    · have := M.upd i hi (upd_setCells hok pre mid post new hcs hmid)
      rw [hpre] at this
      simpa using this
/-- The whole of a row is stored. -/
theorem w_storeR (M : Mem F w0 w L) (i : Nat) (t : TypeId) (x y : Operand) (ho : o.op = .store t x y) {g : Nat} {cs : List Value} (hi : L[i]? = some (.row g cs)) (hx : a.eval x = .pointer (some ⟨g, 0, none⟩)) (hw : Region.wanted o (yielded ops a.tmps) = true)
    {C : Array Value} (new : List Value) (hy : a.eval y = .agg C) (hC : C = new.toArray) (hn : (P.info? t).map (·.size) = some new.length) (h1 : ∀ v ∈ new, v.oneCell' = true) (hl : new.length = cs.length)
    (h : ∀ w' : World, Mem F w0 w' (L.set i (.row g new)) → wpList P ops Q rest (a.put o.dst undef) w') : wpList P ops Q (o :: rest) a w :=
  w_storeA M i t x y ho hi hx hw new hy hC hn h1 [] cs [] (by simp) rfl hl (fun w' M' => h w' (by simpa using M'))
theorem new_row (w : World) (C : Array Value) (t : TypeId) : (Chunk.row w.heap.size C.toList).ok (w.alloc (.cells C t)) :=
  ⟨by simp, rangeAt_new w C t (0, 0), there_new w C t _ (by simp)⟩
theorem Mem.alloc (M : Mem F w0 w L) (C : Array Value) (t : TypeId) : Mem F w0 (w.alloc (.cells C t)) (.row w.heap.size C.toList :: L) :=
  M.add _ (Kept.alloc _ _) (new_row w C t) (by simp [Chunk.fp])
/-- A new variable. -/
theorem w_alloc (M : Mem F w0 w L) (t : TypeId) (ho : o.op = .alloc t) (hw : Region.wanted o (yielded ops a.tmps) = true) (z : Value) (cs : List Value) (hz : (P.info? t).bind (·.zero) = some z) (hc : z.cells = cs.toArray)
    (h : ∀ (g : Nat) (w' : World), Mem F w0 w' (.row g cs :: L) → wpList P ops Q rest (a.put o.dst (.pointer (some ⟨g, 0, none⟩))) w') : wpList P ops Q (o :: rest) a w :=
  wpW hw fun _ hK => by
    cases hq : P.info? t with
    | none => simp [hq] at hz
    | some inf =>
      have hzz : inf.zero = some z := by simpa [hq] using hz
      have hr : (Instr.alloc t true (.tuple #[])).run P w = .ok (.pointer (some ⟨w.heap.size, 0, none⟩)) (w.alloc (.cells z.cells t)) := by
        simp only [Instr.alloc, zeroValue, typeInfo, Sem.run_bind, run_program, hq, Sem.run_pure, Result.andThen_ok, hzz]; rfl
      unfold Oper.wp execOp
      simp only [ho, Sem.run_bind, hr, Result.andThen_ok]
      exact hK _ _ (h _ _ (by have := M.alloc z.cells t; rw [hc] at this ⊢; exact this))
/-- A value is boxed. -/
theorem w_box (M : Mem F w0 w L) (t : TypeId) (x : Operand) (ho : o.op = .box t x) (hw : Region.wanted o (yielded ops a.tmps) = true) (v : Value) (hx : a.eval x = v) (cs : List Value) (hc : v.cells = cs.toArray)
    (h : ∀ (g : Nat) (w' : World), Mem F w0 w' (.row g cs :: L) → wpList P ops Q rest (a.put o.dst (.pointer (some ⟨g, 0, none⟩))) w') : wpList P ops Q (o :: rest) a w :=
  wpW hw fun _ hK => by
    have hr : (Instr.box t v).run P w = .ok (.pointer (some ⟨w.heap.size, 0, none⟩)) (w.alloc (.cells v.cells t)) := rfl
    unfold Oper.wp execOp
    simp only [ho, hx, Sem.run_bind, hr, Result.andThen_ok]
    exact hK _ _ (h _ _ (by have := M.alloc v.cells t; rw [hc] at this ⊢; exact this))
/-- A slice literal. -/
theorem w_buildSlice (M : Mem F w0 w L) {t e : TypeId} {size bytes : Nat} (T : SliceT P t e size bytes) (len : Nat) (parts : Array (Nat × Operand)) (ho : o.op = .buildSlice t len parts) (hw : Region.wanted o (yielded ops a.tmps) = true) (hlen : 0 < len ∧ len * size ≤ 16777216) (z : Value) (hz : (P.info? e).bind (·.zero) = some z) (cs : List Value)
    (hf : Instr.fill (fun i => some (i * size, size)) ((Array.range (len * size)).map (z.cells[· % z.cells.size]!)) (parts.map fun (i, x) => (i, a.eval x)).toList = some cs.toArray)
    (h : ∀ (g : Nat) (w' : World), Mem F w0 w' (.row g cs :: L) → wpList P ops Q rest (a.put o.dst (.slice (some ⟨g, 0, none⟩) len len)) w') : wpList P ops Q (o :: rest) a w :=
  wpW hw fun _ hK => by
    obtain ⟨ht, ⟨i, z', hi, hz', hsize, hby, hzs⟩, hsz⟩ := T
    have ez : z' = z := by simpa [hi, hz'] using hz
    subst ez hsize
    have hr := run_buildSlice (P := P) w t e len _ cs.toArray i z' ht hi hz' (by omega) (by have := Nat.mul_pos hlen.1 hsz; omega) hf
    unfold Oper.wp execOp
    simp only [ho, Sem.run_bind, hr, Result.andThen_ok]
    exact hK _ _ (h _ _ (M.alloc cs.toArray e))
theorem foldl_set (l : List Value) : ∀ (k : Nat) (C : Array Value), k + l.length ≤ C.size → ((l.zipIdx k).foldl (fun cs x => cs.setIfInBounds x.2 x.1) C).toList = C.toList.take k ++ l ++ C.toList.drop (k + l.length) := by
  induction l with
  | nil => intro k C h; simp
  | cons v r ih =>
    intro k C h
    simp only [List.length_cons] at h
    rw [List.zipIdx_cons, List.foldl_cons, ih (k + 1) _ (by simp; omega)]
    have hk : k < C.toList.length := by simpa using (by omega : k < C.size)
    rw [Array.toList_setIfInBounds, List.take_set, List.take_succ_eq_append_getElem hk, List.drop_set_of_lt (by omega), List.set_append_right _ _ (by simp; omega)]
    simp only [List.length_take, Nat.min_eq_left (Nat.le_of_lt hk), Nat.sub_self, List.set_cons_zero, List.length_cons]
    rw [show k + 1 + r.length = k + (r.length + 1) by omega]
    simp
theorem fill_one (size : Nat) (C : Array Value) (hC : C.size = size) (v : Value) (hv : v.cells.size = size) : Instr.fill (fun i => some (i * size, size)) C [(0, v)] = some v.cells := by
  have e := foldl_set v.cells.toList 0 C (by simp [hC, hv])
  have e2 : (v.cells.zipIdx.foldl (fun cs x => cs.setIfInBounds (0 * size + x.2) x.1) C) = v.cells := by
    apply Array.ext'
    rw [← Array.foldl_toList]
    simp only [Nat.zero_mul, Nat.zero_add, Array.toList_zipIdx]
    rw [e]
    simp [hv, hC]
  simp only [Instr.fill, Nat.zero_mul, Nat.zero_add, hv, hC]
  simp only [Nat.zero_mul, Nat.zero_add] at e2
  have hz : v.cells.size = v.cells.zipIdx.size := by simp
  simp
  rw [hz]
  exact e2
/-- A slice literal of one element. -/
theorem w_buildSlice1 (M : Mem F w0 w L) {t e : TypeId} {size bytes : Nat} (T : SliceT P t e size bytes) (hsm : size ≤ 1000) (x : Operand) (ho : o.op = .buildSlice t 1 #[(0, x)]) (hw : Region.wanted o (yielded ops a.tmps) = true) {v : Value} (hx : a.eval x = v) (cs : List Value) (hc : v.cells = cs.toArray) (hcs : cs.length = size)
    (h : ∀ (g : Nat) (w' : World), Mem F w0 w' (.row g cs :: L) → wpList P ops Q rest (a.put o.dst (.slice (some ⟨g, 0, none⟩) 1 1)) w') : wpList P ops Q (o :: rest) a w := by
  have T' := T
  obtain ⟨ht, ⟨i, z', hi, hz', hsize, hby, hzs⟩, hsz⟩ := T'
  refine w_buildSlice M T 1 _ ho hw ⟨by omega, by omega⟩ z' (by simp [hi, hz']) cs ?_ h
  have := fill_one size ((Array.range (1 * size)).map (z'.cells[· % z'.cells.size]!)) (by simp) v (by rw [hc]; simpa using hcs)
  rw [hc] at this
  subst hx
  simpa using this
theorem Own.form0 {base size : Nat} {v : Value} {n : Nat} {xs : List Value} (h : Own w base size v n xs) : ∃ a cap, v = .slice a n cap := by
  obtain ⟨a, c, e, _⟩ := h.sees.form; exact ⟨a, c, e⟩
/-- append of what is read at another place. -/
theorem w_append (M : Mem F w0 w L) (i : Nat) {t e : TypeId} {size bytes : Nat} (T : SliceT P t e size bytes) (s x : Operand) (u : TypeId) (ho : o.op = .call { callee := .builtin .append, args := #[s, x], argTypes := #[t, u] }) (hu : P.underlying u = some .string ∨ ∃ e', P.underlying u = some (.slice e'))
    (hw : Region.wanted o (yielded ops a.tmps) = true) {v : Value} {n : Nat} {xs : List Value} (hi : L[i]? = some (.sl size v n xs)) (hs : a.eval s = v) {xv : Value} (hx : a.eval x = xv) (m : Nat) (news : List Value) (hsrc : Src P w size xv m news)
    (h63 : n + m ≤ maxLen) (hbytes : (n + m) * bytes ≤ 140737488355328)
    (h : ∀ (p : Option Addr) (cap : Nat) (w' : World), Mem F w0 w' (L.set i (.sl size (.slice p (n + m) cap) (n + m) (xs ++ news))) → wpList P ops Q rest (a.put o.dst (.slice p (n + m) cap)) w') : wpList P ops Q (o :: rest) a w :=
  wpW hw fun _ hK => by
    refine wp_append T s x u ho hu 0 v n xs hs (M.ok i _ hi) xv m news hx hsrc h63 hbytes (Nat.zero_le _) ?_
    intro v' w' hown hg hb _
    obtain ⟨p, cap, rfl⟩ := hown.form0
    refine hK _ _ (h p cap w' (M.upd i hi ⟨Kept.grown hg, hown, fun k hk => ?_⟩))
    simp only [Chunk.fp, Option.mem_toList] at hk ⊢
    rcases hb with hb | hb
    · exact .inl (hb ▸ hk)
    · rw [hb] at hk; cases hk; exact .inr (Nat.le_refl _)
/-- append of elements that were laid into a row of their own just ahead. -/
theorem w_append_new {g : Nat} {news : List Value} (M : Mem F w0 w (.row g news :: L)) (i : Nat) {t e : TypeId} {size bytes : Nat} (T : SliceT P t e size bytes) (s x : Operand) (ho : o.op = .call { callee := .builtin .append, args := #[s, x], argTypes := #[t, t] })
    (hw : Region.wanted o (yielded ops a.tmps) = true) {v : Value} {n : Nat} {xs : List Value} (hi : L[i]? = some (.sl size v n xs)) (hs : a.eval s = v) {m : Nat} (hx : a.eval x = .slice (some ⟨g, 0, none⟩) m m) (hm : news.length = m * size) (h1 : ∀ q ∈ news, q.oneCell' = true)
    (hmm : m ≤ 1000000) (h63 : n + m ≤ maxLen) (hbytes : (n + m) * bytes ≤ 140737488355328)
    (h : ∀ (p : Option Addr) (cap : Nat) (w' : World), Mem F w0 w' (L.set i (.sl size (.slice p (n + m) cap) (n + m) (xs ++ news))) → wpList P ops Q rest (a.put o.dst (.slice p (n + m) cap)) w') : wpList P ops Q (o :: rest) a w := by
  have hok := M.ok 0 _ rfl
  refine w_append M.tail i T s x t ho (.inr ⟨e, T.ht⟩) hw hi hs hx m news (Src_of_sees ⟨hm, .inr ⟨g, 0, m, rfl, hok.1, Nat.le_refl _, by simp only [maxLen]; omega, hok.2.1⟩⟩ h1) h63 hbytes h
/-- string(b), b owned. -/
theorem w_string (M : Mem F w0 w L) (i : Nat) (src dst e : TypeId) (x : Operand) (ho : o.op = .convert src dst x) (hw : Region.wanted o (yielded ops a.tmps) = true) {v : Value} {l : List UInt8} {n : Nat} (hi : L[i]? = some (.sl 1 v n (bs l))) (hn : n = l.length) (hx : a.eval x = v)
    (hs : P.underlying src = some (.slice e)) (he : P.underlying e = some (.int .u8)) (hd : P.underlying dst = some .string)
    (h : wpList P ops Q rest (a.put o.dst (.string (mkS l))) w) : wpList P ops Q (o :: rest) a w :=
  wpW hw fun _ hK => by
    subst hn
    have hr := SeesB.run_string (P := P) (l := l) (Own.sees (M.ok i _ hi)) src dst e hs he hd w (grownBy_refl _ _)
    unfold Oper.wp execOp
    simp only [ho, hx, Sem.run_bind, hr, Result.andThen_ok]
    exact hK _ _ h
theorem row_sees {g off n cap : Nat} {l : List UInt8} (h : (Chunk.row g (bs l)).ok w) (ho : off + n ≤ l.length) (hc : n ≤ cap) (hm : cap ≤ maxLen) : SeesB w (.slice (some ⟨g, off, none⟩) n cap) ((l.drop off).take n) := by
  have hl : ((l.drop off).take n).length = n := by simp; omega
  refine ⟨by simp, .inr ⟨g, off, cap, by rw [hl], h.1, by omega, hm, ?_⟩⟩
  have := rangeAt_take (rangeAt_drop h.2.1 off) n
  rw [Nat.zero_add] at this
  rwa [List.map_take, List.map_drop]
/-- string(a[i:k]), a an array. -/
theorem w_stringR (M : Mem F w0 w L) (i : Nat) (src dst e : TypeId) (x : Operand) (ho : o.op = .convert src dst x) (hw : Region.wanted o (yielded ops a.tmps) = true) {g : Nat} {l : List UInt8} (hi : L[i]? = some (.row g (bs l))) {off n cap : Nat} (hx : a.eval x = .slice (some ⟨g, off, none⟩) n cap)
    (hb : off + n ≤ l.length) (hc : n ≤ cap) (hm : cap ≤ maxLen) (hs : P.underlying src = some (.slice e)) (he : P.underlying e = some (.int .u8)) (hd : P.underlying dst = some .string)
    (h : wpList P ops Q rest (a.put o.dst (.string (mkS ((l.drop off).take n)))) w) : wpList P ops Q (o :: rest) a w :=
  wpW hw fun _ hK => by
    have hr := SeesB.run_string (P := P) (row_sees (M.ok i _ hi) hb hc hm) src dst e hs he hd w (grownBy_refl _ _)
    unfold Oper.wp execOp
    simp only [ho, hx, Sem.run_bind, hr, Result.andThen_ok]
    exact hK _ _ h
/-- string(a[:]), a an array. -/
theorem w_stringW (M : Mem F w0 w L) (i : Nat) (src dst e : TypeId) (x : Operand) (ho : o.op = .convert src dst x) (hw : Region.wanted o (yielded ops a.tmps) = true) {g : Nat} {l : List UInt8} (hi : L[i]? = some (.row g (bs l))) {n : Nat} (hx : a.eval x = .slice (some ⟨g, 0, none⟩) n n)
    (hb : l.length = n) (hm : n ≤ maxLen) (hs : P.underlying src = some (.slice e)) (he : P.underlying e = some (.int .u8)) (hd : P.underlying dst = some .string)
    (h : wpList P ops Q rest (a.put o.dst (.string (mkS l))) w) : wpList P ops Q (o :: rest) a w :=
  w_stringR M i src dst e x ho hw hi hx (by omega) (Nat.le_refl _) hm hs he hd (by rw [List.drop_zero, List.take_of_length_le (by omega)]; exact h)
/-- copy into an array's cells. -/
theorem w_copy (M : Mem F w0 w L) (i : Nat) {t e : TypeId} {size bytes : Nat} (T : SliceT P t e size bytes) (d x : Operand) (u : TypeId) (ho : o.op = .call { callee := .builtin .copy, args := #[d, x], argTypes := #[t, u] }) (hw : Region.wanted o (yielded ops a.tmps) = true)
    {g off dl dc : Nat} {cs : List Value} (hi : L[i]? = some (.row g cs)) (hd : a.eval d = .slice (some ⟨g, off, none⟩) dl dc) {xv : Value} (hx : a.eval x = xv) (m : Nat) (news : List Value) (hsrc : Src P w size xv m news)
    (k : Nat) (hk : k = Nat.min m dl) (hlen : off + k * size ≤ cs.length)
    (h : ∀ w' : World, Mem F w0 w' (L.set i (.row g (cs.take off ++ (news.take (k * size) ++ cs.drop (off + k * size))))) → wpList P ops Q rest (a.put o.dst (.int .i64 k)) w') : wpList P ops Q (o :: rest) a w :=
  wpW hw fun _ hK => by
    have hok := M.ok i _ hi
    have hth := there_drop hok.2.2 off
    rw [Nat.zero_add] at hth
    have hr := run_copy_any (P := P) (w := w) T u o.type g off dl dc xv m news hsrc k hk (there_mono hth (by omega))
    unfold Oper.wp execOp
    simp only [ho, resolve, invoke, builtin, Sem.run_bind, Sem.run_pure, Result.andThen_ok, List.map_toArray, List.map_cons, List.map_nil, hd, hx, hr]
    have hkm : k ≤ m := by rw [hk]; exact Nat.min_le_left _ _
    have hl : (news.take (k * size)).length = k * size := by
      rw [List.length_take, hsrc.1]; exact Nat.min_eq_left (Nat.mul_le_mul_right _ hkm)
    have U := upd_setCells hok (cs.take off) ((cs.drop off).take (k * size)) (cs.drop (off + k * size)) (news.take (k * size)) (by rw [← List.drop_drop, List.take_append_drop, List.take_append_drop]) (by rw [hl, List.length_take, List.length_drop, Nat.min_eq_left (by omega)])
    rw [List.length_take, Nat.min_eq_left (by omega)] at U
    exact hK _ _ (h _ (M.upd i hi U))
/-- A guard that is not decided yet. -/
theorem w_guard {dst : Option Tmp} {op : Op} {ty : TypeId} {pos : String} {after : Array Edge} {j : Nat} {want b : Bool} (hb : yielded ops a.tmps j = some b)
    (h1 : b = want → wpList P ops Q (Oper.mk dst op ty pos after none :: rest) a w) (h2 : b = (!want) → wpList P ops Q rest (a.put dst undef) w) : wpList P ops Q (Oper.mk dst op ty pos after (some (j, want)) :: rest) a w := by
  by_cases e : b = want
  · have h := h1 e
    unfold wpList at h ⊢
    rw [if_pos (by simp [Region.wanted])] at h
    rw [if_pos (by simp [Region.wanted, hb, e])]
    exact h
  · have h := h2 (by cases b <;> cases want <;> simp_all)
    unfold wpList
    rw [if_neg (by simp [Region.wanted, hb, e])]
    exact h
end
end TL
end Go
namespace Go
namespace TL
open Go.RowKit
section
variable {P : Program} {ops : Array Oper} {rest : List Oper} {o : Oper} {a : Act} {w w0 : World} {Q : Exit → Act → World → Prop} {F : List Nat} {L : List Chunk}
theorem getD_some {l : List UInt8} {i : Nat} (h : i < l.length) : (bs l)[i]? = some (.int .u8 (I8 (l.getD i 0))) := by
  rw [bs, List.getElem?_map, List.getD_eq_getElem?_getD, List.getElem?_eq_getElem h]; rfl
/-- A byte of an array. -/
theorem w_loadB (M : Mem F w0 w L) (i : Nat) (t : TypeId) (x : Operand) (ho : o.op = .load t x) {g off : Nat} {l : List UInt8} (hi : L[i]? = some (.row g (bs l))) (hx : a.eval x = .pointer (some ⟨g, off, none⟩)) (hw : Region.wanted o (yielded ops a.tmps) = true)
    (ht : scalarT P t = true) (hlt : off < l.length) (h : wpList P ops Q rest (a.put o.dst (.int .u8 (I8 (l.getD off 0)))) w) : wpList P ops Q (o :: rest) a w :=
  w_load M i t x ho hi hx hw ht (getD_some hlt) h
/-- A whole array of bytes. -/
theorem w_loadH (M : Mem F w0 w L) (i : Nat) (t : TypeId) (x : Operand) (ho : o.op = .load t x) {g : Nat} {l : List UInt8} (hi : L[i]? = some (.row g (bs l))) (hx : a.eval x = .pointer (some ⟨g, 0, none⟩)) (hw : Region.wanted o (yielded ops a.tmps) = true)
    (ht : rowT P t = true) {n : Nat} (hl : l.length = n) (hn : (P.info? t).map (·.size) = some n) (h : wpList P ops Q rest (a.put o.dst (.agg (bs l).toArray)) w) : wpList P ops Q (o :: rest) a w :=
  w_loadR M i t x ho hi hx hw ht (by rw [bs_length, hl]; exact hn) h
theorem w_storeB (M : Mem F w0 w L) (i : Nat) (t : TypeId) (x y : Operand) (ho : o.op = .store t x y) {g off : Nat} {l : List UInt8} (hi : L[i]? = some (.row g (bs l))) (hx : a.eval x = .pointer (some ⟨g, off, none⟩)) (hw : Region.wanted o (yielded ops a.tmps) = true)
    {b : UInt8} (hy : a.eval y = .int .u8 (I8 b)) (hn : (P.info? t).map (·.size) = some 1) (hlt : off < l.length)
    (h : ∀ w' : World, Mem F w0 w' (L.set i (.row g (bs (l.set off b)))) → wpList P ops Q rest (a.put o.dst undef) w') : wpList P ops Q (o :: rest) a w :=
  w_store M i t x y ho hi hx hw hy rfl rfl hn (by rw [bs_length]; exact hlt) (fun w' M' => h w' (by rw [bs_set]; exact M'))
theorem w_storeH (M : Mem F w0 w L) (i : Nat) (t : TypeId) (x y : Operand) (ho : o.op = .store t x y) {g : Nat} {l : List UInt8} (hi : L[i]? = some (.row g (bs l))) (hx : a.eval x = .pointer (some ⟨g, 0, none⟩)) (hw : Region.wanted o (yielded ops a.tmps) = true)
    {m : List UInt8} (hy : a.eval y = .agg (m.map vb).toArray) {n : Nat} (hm : m.length = n) (hn : (P.info? t).map (·.size) = some n) (hl : l.length = n)
    (h : ∀ w' : World, Mem F w0 w' (L.set i (.row g (bs m))) → wpList P ops Q rest (a.put o.dst undef) w') : wpList P ops Q (o :: rest) a w :=
  w_storeR M i t x y ho hi hx hw (bs m) hy rfl (by rw [bs_length, hm]; exact hn) (bs_one _) (by simp [bs_length, hm, hl]) h
theorem w_strip {dst : Option Tmp} {op : Op} {ty : TypeId} {pos : String} {after : Array Edge} {j : Nat} {want b : Bool} (hb : yielded ops a.tmps j = some b) (hl : b = want)
    (h : wpList P ops Q (Oper.mk dst op ty pos after none :: rest) a w) : wpList P ops Q (Oper.mk dst op ty pos after (some (j, want)) :: rest) a w := by
  subst hl
  unfold wpList at h ⊢
  rw [if_pos (by simp [Region.wanted])] at h
  rw [if_pos (by simp [Region.wanted, hb])]
  exact h
theorem w_lit {dst : Option Tmp} {op : Op} {ty : TypeId} {pos : String} {after : Array Edge} {j : Nat} {want b : Bool} (c : Bool) (_hb : yielded ops a.tmps j = some b) (_hl : b = c)
    (h : wpList P ops Q (Oper.mk dst op ty pos after (some (j, want)) :: rest) a w) : wpList P ops Q (Oper.mk dst op ty pos after (some (j, want)) :: rest) a w := h
theorem w_case {dst : Option Tmp} {op : Op} {ty : TypeId} {pos : String} {after : Array Edge} {j : Nat} {want b : Bool} (_hb : yielded ops a.tmps j = some b)
    (h1 : b = true → wpList P ops Q (Oper.mk dst op ty pos after (some (j, want)) :: rest) a w) (h0 : b = false → wpList P ops Q (Oper.mk dst op ty pos after (some (j, want)) :: rest) a w) : wpList P ops Q (Oper.mk dst op ty pos after (some (j, want)) :: rest) a w := by
  cases b
  · exact h0 rfl
  · exact h1 rfl
end
end TL
end Go
namespace Go
namespace TL
theorem ev_tmp {l : List Value} {d : List Deferred} {n : Nat} {v : Value} (h : l[n]? = some v) : Act.eval ⟨l.toArray, d⟩ (.tmp n) = v := by
  simp [Act.eval, h]
theorem ev_const {a : Act} {v : Value} : a.eval (.const v) = v := rfl
theorem w_at {P : Program} {ops : Array Oper} {rest : List Oper} {o : Oper} {a : Act} {w : World} {Q : Exit → Act → World → Prop} (t : TypeId) (x : Operand) (_ho : o.op = .load t x) {v : Value} (hx : a.eval x = v)
    (h : a.eval x = v → wpList P ops Q (o :: rest) a w) : wpList P ops Q (o :: rest) a w := h hx
theorem w_at2 {P : Program} {ops : Array Oper} {rest : List Oper} {o : Oper} {a : Act} {w : World} {Q : Exit → Act → World → Prop} (t : TypeId) (x y : Operand) (_ho : o.op = .store t x y) {v u : Value} (hx : a.eval x = v) (hy : a.eval y = u)
    (h : a.eval x = v → a.eval y = u → wpList P ops Q (o :: rest) a w) : wpList P ops Q (o :: rest) a w := h hx hy
end TL
end Go

/- Texts as lists of bytes, in the walk. No conditions but those each law names. -/
namespace Go
namespace TL
open Go.RowKit
attribute [go_sem] mkS_size mkS_toList mkS_append
@[go_sem] theorem mkS_fold (l : List UInt8) : ByteArray.mk (List.toArray l) = mkS l := rfl
theorem mkS_extract (l : List UInt8) (i j : Nat) : (mkS l).extract i j = mkS ((l.take j).drop i) := by
  apply ByteArray.ext; apply Array.ext'; simp [mkS, ByteArray.data_extract, List.extract, List.drop_take]
@[go_sem high] theorem mkS_extract0 (l : List UInt8) (j : Nat) : (mkS l).extract 0 j = mkS (l.take j) := by rw [mkS_extract, List.drop_zero]
@[go_sem high] theorem mkS_extractE (l : List UInt8) (i : Nat) : (mkS l).extract i l.length = mkS (l.drop i) := by rw [mkS_extract, List.take_length]
@[go_sem] theorem mkS_extractM (l : List UInt8) (i j : Nat) : (mkS l).extract i j = mkS ((l.take j).drop i) := mkS_extract l i j
/-- A text's byte, in a word that is closed to the walk. -/
def bt (l : List UInt8) (i : Nat) : UInt8 := l.getD i 0
@[go_sem] theorem mkS_bt (l : List UInt8) (k : Nat) (h : k < (mkS l).size) : (mkS l)[k] = bt l k := by
  have hl : k < l.length := by rwa [mkS_size] at h
  rw [bt, List.getD_eq_getElem?_getD, List.getElem?_eq_getElem hl]; rfl
theorem I8_bt (l : List UInt8) (k : Nat) : I8 (bt l k) = ((l.getD k 0).toNat : Int) := rfl
@[go_sem ↓] theorem run_index_mkS {P : Program} (w : World) (t : TypeId) (l : List UInt8) (k : IntKind) (i : Int) (hu : P.underlying t = some .string) (h0 : 0 ≤ i) (h1 : i < l.length) :
    (Instr.index t (.string (mkS l)) (.int k i)).run P w = .ok (.int .u8 (I8 (bt l i.toNat))) w := by
  have hs : i.toNat < (mkS l).size := by rw [mkS_size]; omega
  have hl : i.toNat < l.length := by omega
  have e : (mkS l)[i.toNat]? = some (l.getD i.toNat 0) := by
    rw [getElem?_pos (mkS l) i.toNat hs, List.getD_eq_getElem?_getD, List.getElem?_eq_getElem hl]; rfl
  simp only [Instr.index, asIntOf, Sem.run_bind, Sem.run_pure, Result.andThen_ok, run_underlying hu]
  simp only [h0, if_true, e]
  rfl
section
variable {P : Program} {ops : Array Oper} {rest : List Oper} {o : Oper} {a : Act} {w w0 : World} {Q : Exit → Act → World → Prop} {F : List Nat} {L : List Chunk}
/-- make([]byte, n). -/
theorem w_makeB (M : Mem F w0 w L) (t : TypeId) (x y : Operand) (ho : o.op = .makeSlice t x y) (hw : Region.wanted o (yielded ops a.tmps) = true) (n : Nat) {kl kc : IntKind} {m m' : Int} (hx : a.eval x = .int kl m) (hy : a.eval y = .int kc m') (hm : m = (n : Nat)) (hm' : m' = (n : Nat)) {e : TypeId} (ht : P.underlying t = some (.slice e)) (hz : (P.info? e).bind (·.zero) = some (.int .u8 0)) (hs : (P.info? e).map (fun i => (i.size, i.bytes)) = some (1, 1)) (hn : n ≤ 16777216)
    (h : ∀ (g : Nat) (w' : World), Mem F w0 w' (.row g (bs (List.replicate n 0)) :: L) → wpList P ops Q rest (a.put o.dst (.slice (some ⟨g, 0, none⟩) n n)) w') : wpList P ops Q (o :: rest) a w :=
  wpW hw fun _ hK => by
    subst hm hm'
    cases hq : P.info? e with
    | none => simp [hq] at hz
    | some inf =>
      have hzz : inf.zero = some (.int .u8 0) := by simpa [hq] using hz
      have hss : inf.size = 1 ∧ inf.bytes = 1 := by simpa [hq] using hs
      have hr := run_makeSlice (P := P) (w := w) t e inf (.int .u8 0) ht hq hzz kl kc n n (by omega) (Int.le_refl _) (by rw [hss.1]; simp; omega) (by rw [hss.2]; omega) (by omega)
      have e1 : madeCells (Value.int .u8 0).cells ((n : Int).toNat * inf.size) = (bs (List.replicate n 0)).toArray := by
        rw [hss.1]
        apply Array.ext'
        simp [madeCells, bs, vb, I8, Value.cells]
        apply List.ext_getElem
        · simp
        · intro i h1 h2; simp [Nat.mod_one]
      rw [e1] at hr
      unfold Oper.wp execOp
      simp only [ho, hx, hy, Sem.run_bind, hr, Result.andThen_ok]
      refine hK _ _ ?_
      have := h _ _ (M.alloc (bs (List.replicate n 0)).toArray e)
      simpa using this
end
theorem eqInRow {P : Program} {t e : TypeId} {n : Nat} (hu : P.underlying t = some (.array n e)) (he : P.underlying e = some (.int .u8)) (hc : P.cellsOf e = 1) (l m : List UInt8) (hl : l.length = n) (hm : m.length = n) (w : World) : (Op.equalIn 10000 t (.agg (bs l).toArray) (.agg (bs m).toArray)).run P w = .ok (l == m) w := by
  obtain ⟨i, hi⟩ := info_of_underlying he
  have := run_equalIn_array w 9999 (bs l).toArray (bs m).toArray hu hi
  unfold bs at this ⊢
  rw [hc, run_eqItemsB he 9998 l m (by omega) w (List.range n) (fun i hi => by rw [hl]; exact List.mem_range.1 hi)] at this
  rw [← hl, all_range_eq l m (by omega)] at this
  exact this
/-- What is written byte by byte. -/
theorem setTake (l : List UInt8) (n k : Nat) (hl : l.length = n) (hk : k < n) : (l.take k ++ List.replicate (n - k) 0).set k (l.getD k 0) = l.take (k + 1) ++ List.replicate (n - (k + 1)) 0 := by
  rw [List.set_append_right _ _ (by simp; omega)]
  simp only [List.length_take, Nat.min_eq_left (show k ≤ l.length by omega), Nat.sub_self]
  rw [List.take_succ_eq_append_getElem (by omega), List.append_assoc, show n - k = (n - (k + 1)) + 1 by omega, List.replicate_succ, List.set_cons_zero, List.getD_eq_getElem?_getD, List.getElem?_eq_getElem (by omega)]
  rfl
end TL
end Go
namespace Go
namespace TL
open Go.RowKit
section
variable {P : Program} {ops : Array Oper} {rest : List Oper} {o : Oper} {a : Act} {w w0 : World} {Q : Exit → Act → World → Prop} {F : List Nat} {L : List Chunk}
/-- A slice that has elements lies somewhere. -/
theorem Mem.slAddr (M : Mem F w0 w L) (i : Nat) {size n cap : Nat} {q : Option Addr} {m : Nat} {xs : List Value} (hi : L[i]? = some (.sl size (.slice q m cap) n xs)) (hn : 0 < n) : ∃ g o, q = some ⟨g, o, none⟩ := by
  rcases (M.ok i _ hi).2 with ⟨_, h0⟩ | ⟨g, o, c, hv, _⟩
  · omega
  · injection hv with h1 h2 h3; exact ⟨g, o, h1⟩
theorem Mem.slCap (M : Mem F w0 w L) (i : Nat) {size n cap : Nat} {q : Option Addr} {m : Nat} {xs : List Value} (hi : L[i]? = some (.sl size (.slice q m cap) n xs)) : m = n ∧ n ≤ cap ∧ cap ≤ maxLen ∧ xs.length = n * size := by
  have h := M.ok i _ hi
  rcases h.2 with ⟨hv, h0⟩ | ⟨g, o, c, hv, _, _, h1, h2, _⟩
  · injection hv with _ e1 e2; exact ⟨by omega, by omega, by omega, h.1⟩
  · injection hv with _ e1 e2; exact ⟨e1, by omega, by omega, h.1⟩
theorem Mem.slCell (M : Mem F w0 w L) (i : Nat) {size n m cap g so : Nat} {xs : List Value} (hi : L[i]? = some (.sl size (.slice (some ⟨g, so, none⟩) m cap) n xs)) {j : Nat} {v : Value} (hv : xs[j]? = some v) : w.cell? ⟨g, so + j, none⟩ = some v := by
  rcases (M.ok i _ hi).2 with ⟨h0, _⟩ | ⟨g', o', c, hv', _, _, _, _, hr, _⟩
  · cases h0
  · injection hv' with h1 _ _; injection h1 with h1; injection h1 with h1 h2; subst h1; subst h2; exact hr j v hv
/-- An element of one cell. -/
theorem w_loadS (M : Mem F w0 w L) (i : Nat) (t : TypeId) (x : Operand) (ho : o.op = .load t x) {size n m cap g so off : Nat} {xs : List Value} (hi : L[i]? = some (.sl size (.slice (some ⟨g, so, none⟩) m cap) n xs)) (hx : a.eval x = .pointer (some ⟨g, off, none⟩)) (hw : Region.wanted o (yielded ops a.tmps) = true)
    (ht : scalarT P t = true) (j : Nat) (hoff : off = so + j) {v : Value} (hv : xs[j]? = some v) (h : wpList P ops Q rest (a.put o.dst v) w) : wpList P ops Q (o :: rest) a w :=
  wpW hw fun _ hK => by
    subst hoff
    unfold Oper.wp execOp
    simp only [ho, hx, Instr.loadAt, Instr.sureAddr, Sem.run_bind, Sem.run_pure, Result.andThen_ok, run_loadVar_scalar ht w g _ v (M.slCell i hi hv)]
    exact hK _ _ h
/-- An element that is a struct. -/
theorem w_loadSA (M : Mem F w0 w L) (i : Nat) (t : TypeId) (x : Operand) (ho : o.op = .load t x) {size n m cap g so off : Nat} {xs : List Value} (hi : L[i]? = some (.sl size (.slice (some ⟨g, so, none⟩) m cap) n xs)) (hx : a.eval x = .pointer (some ⟨g, off, none⟩)) (hw : Region.wanted o (yielded ops a.tmps) = true)
    (ht : rowT P t = true) (j : Nat) (hoff : off = so + j) (cs : List Value) (hcs : ∀ k v, cs[k]? = some v → xs[j + k]? = some v) (hn : (P.info? t).map (·.size) = some cs.length) (h : wpList P ops Q rest (a.put o.dst (.agg cs.toArray)) w) : wpList P ops Q (o :: rest) a w :=
  wpW hw fun _ hK => by
    subst hoff
    unfold rowT at ht
    cases hu : P.underlying t with
    | none => simp [hu] at ht
    | some d =>
      simp only [hu] at ht
      refine wp_load_mid t x ho g _ hx cs d ?_ hu ht hn (hK _ _ h)
      intro k v hv
      rw [Nat.add_assoc]
      exact M.slCell i hi (hcs k v hv)
end
end TL
end Go
namespace Go
namespace TL
open Go.RowKit
section
variable {P : Program} {ops : Array Oper} {rest : List Oper} {o : Oper} {a : Act} {w w0 : World} {Q : Exit → Act → World → Prop} {F : List Nat} {L : List Chunk}
/-- []byte(s): a slice of the call's own. -/
theorem w_bytes (M : Mem F w0 w L) (src dst e : TypeId) (x : Operand) (ho : o.op = .convert src dst x) (hw : Region.wanted o (yielded ops a.tmps) = true) {l : List UInt8} (hx : a.eval x = .string (mkS l))
    (hs : P.underlying src = some .string) (hd : P.underlying dst = some (.slice e)) (he : P.underlying e = some (.int .u8)) (hl : l.length ≤ 1000000000000)
    (h : ∀ (g cap : Nat) (w' : World), l.length ≤ cap → Mem F w0 w' (.sl 1 (.slice (some ⟨g, 0, none⟩) l.length cap) l.length (bs l) :: L) → wpList P ops Q rest (a.put o.dst (.slice (some ⟨g, 0, none⟩) l.length cap)) w') : wpList P ops Q (o :: rest) a w :=
  wpW hw fun _ hK => by
    have hr := Lib.run_convert_string_bytes (P := P) w src dst e (mkS l) hs hd he
    rw [mkS_size] at hr
    obtain ⟨cap, ec⟩ : ∃ cap, cap = grownCap w l.length 0 e := ⟨_, rfl⟩
    have hc1 : l.length ≤ cap := by rw [ec]; exact grownCap_ge _ _ _ _
    have hc2 : cap ≤ maxLen := by rw [ec]; exact grownCap_le_maxLen _ _ _ _ (by simp only [maxLen]; omega)
    have hsz : (Lib.bytesCells w e (mkS l)).size = cap := by
      simp only [Lib.bytesCells, Array.size_append, Array.size_map, Array.size_replicate, mkS_size, ← ec]
      show (mkS l).data.size + _ = _
      have : (mkS l).data.size = l.length := mkS_size l
      omega
    have hnew := Lib.bytesWorld_at_new w e (mkS l)
    have hk : Kept [] w (Lib.bytesWorld w e (mkS l)) := ⟨rfl, rfl, rfl, by rw [Lib.bytesWorld_size]; omega, fun k hk _ => Lib.bytesWorld_at_old w e (mkS l) k hk⟩
    have hok : (Chunk.sl 1 (.slice (some ⟨w.heap.size, 0, none⟩) l.length cap) l.length (bs l)).ok (Lib.bytesWorld w e (mkS l)) := by
      refine ⟨by simp [bs_length], .inr ⟨w.heap.size, 0, cap, rfl, Nat.zero_le _, by rw [Lib.bytesWorld_size]; omega, hc1, hc2, ?_, ?_⟩⟩
      · intro j v hv
        have hj : j < l.length := by have := (List.getElem?_eq_some_iff.1 hv).1; rwa [bs_length] at this
        rw [Nat.zero_add, Lib.bytesWorld_cell w e (mkS l) j (by rw [mkS_size]; exact hj), mkS_data, ← hv, getD_some hj]; rfl
      · intro j hj
        rw [Nat.mul_one] at hj
        rw [Nat.zero_add]
        constructor
        · simp only [World.cell?, hnew]
          rw [if_neg (by decide), Array.getElem?_eq_getElem (by omega)]; rfl
        · simp only [World.frozen?, hnew]
          rw [hsz]; simp; omega
    rw [← ec] at hr
    unfold Oper.wp execOp
    simp only [ho, hx, Sem.run_bind, hr, Result.andThen_ok]
    exact hK _ _ (h _ cap _ hc1 (M.add _ hk hok (by simp [Chunk.fp, Value.ownBlock])))
end
end TL
end Go
namespace Go
namespace TL
open Go.RowKit
theorem w_buildSliceB {P : Program} {ops : Array Oper} {rest : List Oper} {o : Oper} {a : Act} {w w0 : World} {Q : Exit → Act → World → Prop} {F : List Nat} {L : List Chunk} (M : Mem F w0 w L) {t e : TypeId} (T : SliceT P t e 1 1) (x : Operand) (ho : o.op = .buildSlice t 1 #[(0, x)]) (hw : Region.wanted o (yielded ops a.tmps) = true) {b : UInt8} (hx : a.eval x = .int .u8 (I8 b))
    (h : ∀ (g : Nat) (w' : World), Mem F w0 w' (.row g (bs [b]) :: L) → wpList P ops Q rest (a.put o.dst (.slice (some ⟨g, 0, none⟩) 1 1)) w') : wpList P ops Q (o :: rest) a w :=
  w_buildSlice1 M T (by decide) x ho hw hx (bs [b]) rfl rfl h
end TL
end Go

/- A region that draws its order and holds calls that leave alone what was there: what is loaded there is loaded at any time. Walked in one order. Conditions: the check 'detI', by computation; what is loaded is the same in every world that meets I; behind each operation that writes I holds. -/
namespace Go
namespace TL
/-- The regular end alone. -/
def Seg (F : Act → World → Prop) : Exit → Act → World → Prop
  | .normal, a, w => F a w
  | _, _, _ => False
theorem Seg.intro {F : Act → World → Prop} {a : Act} {w : World} (h : F a w) : Seg F .normal a w := h
theorem Seg.letsOut {F : Act → World → Prop} (h : LetsOut (Seg F)) : False := by
  obtain ⟨a, w, h⟩ := h; exact h
theorem Oper.wp_seg {P : Program} {o : Oper} {a : Act} {w : World} {K K' : Act → World → Prop} {F F' : Act → World → Prop} (h : ∀ a w, K a w → K' a w) (hh : o.wp P a w K (Seg F)) : o.wp P a w K' (Seg F') := by
  unfold Oper.wp at *
  generalize (execOp a.eval o).run P w = r at *
  cases r with
  | ok n w1 =>
    cases n <;> simp only [Oper.upon] at hh ⊢
    case value v => exact h _ _ hh
    case skip => exact h _ _ hh
    case defer d => exact h _ _ hh
    case enter f args =>
      refine Calls.mono hh fun e w2 h2 => ?_
      cases e with
      | returned v => exact h _ _ h2
      | panicked c => exact h2.elim
      | outgrown => exact (Seg.letsOut h2).elim
    case row row args => exact fun b k => let ⟨v, w2, h1, h2⟩ := hh b k; ⟨v, w2, h _ _ h1, h2⟩
  | halt x w1 => cases x <;> simp only [Oper.upon] at hh <;> exact hh.elim
section
variable {P : Program} {ops : Array Oper} {Q : Exit → Act → World → Prop} {md : Region.Mode} {I : World → Prop}
def wpAnyI (P : Program) (md : Region.Mode) (ops : Array Oper) (Q : Exit → Act → World → Prop) (I : World → Prop) : Nat → Array Bool → Act → World → Prop
  | 0, listed, a, w => Region.ready md ops listed = [] ∧ Q .normal a w
  | fuel + 1, listed, a, w =>
    (Region.ready md ops listed = [] → Q .normal a w) ∧
    ∀ j ∈ Region.ready md ops listed, wpOp P ops Q j (fun a' w' => I w' ∧ wpAnyI P md ops Q I fuel (listed.setIfInBounds j true) a' w') a w
theorem wpAny_of_I : ∀ (fuel : Nat) (listed : Array Bool) (a : Act) (w : World), wpAnyI P md ops Q I fuel listed a w → wpAny P md ops Q fuel listed a w
  | 0, _, _, _, h => h
  | fuel + 1, _, _, _, h => ⟨h.1, fun j hj => wpOp_mono (fun a' w' h' => wpAny_of_I fuel _ a' w' h'.2) (h.2 j hj)⟩
/-- What yields the same in every world that meets I may be taken first. -/
theorem I_first {i : Nat} {oi : Oper} {v : Value} (hi : ops[i]? = some oi) (hsel : ∀ (j : Nat) (o : Oper) cs b, ops[j]? = some o → o.op ≠ .select cs b)
    (hQ : ∀ c a w, Q (.panic c) (a.put oi.dst v) w → Q (.panic c) a w) :
    ∀ (fuel : Nat) (listed : Array Bool) (a : Act) (w : World),
      (∀ j oj, ops[j]? = some oj → j ≠ i → listed.getD j true = false → (∀ e ∈ oj.after, Region.binds md e = true → e.on ≠ i) → oi.apart ops oj = true) →
      i ∈ Region.ready md ops listed → YieldsIf P ops I oi v a → I w →
      wpAnyI P md ops Q I fuel (listed.setIfInBounds i true) (a.put oi.dst v) w → wpAnyI P md ops Q I (fuel + 1) listed a w := by
  intro fuel
  induction fuel with
  | zero =>
    intro listed a w _ hr hy hw H
    refine ⟨fun h => (by rw [h] at hr; cases hr), fun j hj => ?_⟩
    by_cases hji : j = i
    · subst hji; exact hy.wpOp hi hw ⟨hw, H⟩
    · have := ready_mono hj hji
      rw [H.1] at this
      cases this
  | succ fuel ih =>
    intro listed a w hfree hr hy hw H
    refine ⟨fun h => (by rw [h] at hr; cases hr), fun j hj => ?_⟩
    by_cases hji : j = i
    · subst hji; exact hy.wpOp hi hw ⟨hw, H⟩
    · have h1 := H.2 j (ready_mono hj hji)
      obtain ⟨hjun, oj, hoj, hall⟩ := mem_ready.1 hj
      have hnot := not_waits hr hoj hall
      have h2 := wpOp_putIf hoj (hfree j oj hoj hji hjun hnot) (fun cs b => hsel i oi cs b hi) (fun cs b => hsel j oj cs b hoj) hQ hy h1
      have hfree' : ∀ k ok, ops[k]? = some ok → k ≠ i → (listed.setIfInBounds j true).getD k true = false →
          (∀ e ∈ ok.after, Region.binds md e = true → e.on ≠ i) → oi.apart ops ok = true := fun k ok hk hki hun hno => by
        refine hfree k ok hk hki ?_ hno
        by_cases hjk : j = k
        · subst hjk; exact hjun
        · rw [getD_set_ne true hjk] at hun; exact hun
      refine wpOp_mono (fun a' w' h3 => ⟨h3.2.1, ih (listed.setIfInBounds j true) a' w' hfree' (ready_mono hr (Ne.symm hji)) h3.1 h3.2.1 ?_⟩) h2
      rw [Array.setIfInBounds_comm _ _ hji]; exact h3.2.2
end
/-! ### The walk -/
/-- The operations up to the first that writes, and what is to hold there. -/
def planW (P : Program) (ops : Array Oper) (fin : Act → World → Prop) (I : World → Prop) : Plan → List Oper × (Act → World → Prop)
  | [] => ([], fin)
  | (i, false) :: r => (opAt ops i :: (planW P ops fin I r).1, (planW P ops fin I r).2)
  | (i, true) :: r => ([opAt ops i], fun a w => I w ∧ wpList P ops (Seg (planW P ops fin I r).2) (planW P ops fin I r).1 a w)
def lowOpnd (o : Oper) : Operand := match o.op with | .load _ x => x | .convert _ _ x => x | _ => .const undef
/-- What is loaded at p is the same in every world that meets I. -/
def Stab (P : Program) (I : World → Prop) (o : Oper) (p : Value) : Prop :=
  match o.op with
  | .load t _ => ∃ v, ∀ w, I w → (Instr.loadAt t p).run P w = .ok v w
  | .convert src dst _ => ∃ v, ∀ w, I w → (convert src dst p).run P w = .ok v w
  | _ => False
def finI (ops : Array Oper) (need : Needs) (low : List (Nat × Value)) (Q : Exit → Act → World → Prop) : Act → World → Prop := fun a w =>
  needOk need a = true ∧ (∀ x ∈ low, a.eval (lowOpnd (opAt ops x.1)) = x.2) ∧ Q .normal a w
def staysLow (ops : Array Oper) (o : Oper) (r : Plan) : Bool := r.all fun x => match (opAt ops x.1).dst with | some d => !(tmpsIn o).contains d | none => true
def detI (P : Program) (ops : Array Oper) (need : Needs) (idx : List Nat) : Array Bool → Plan → Bool
  | listed, [] => (Region.ready .any ops listed).isEmpty
  | listed, (i, false) :: r =>
    (Region.ready .any ops listed).contains i && Region.free .any ops listed i &&
      ((stays ops need (opAt ops i) ((i, false) :: r) && pureOp P (needOf need (opAt ops i)) (opAt ops i)) || (idx.contains i && staysLow ops (opAt ops i) ((i, false) :: r))) &&
      detI P ops need idx (listed.setIfInBounds i true) r
  | listed, (i, true) :: r => Region.ready .any ops listed == [i] && detI P ops need idx (listed.setIfInBounds i true) r
section
variable {P : Program} {ops : Array Oper} {I : World → Prop} {fin : Act → World → Prop}
theorem stepS {F : Act → World → Prop} {o : Oper} {l : List Oper} {a : Act} {w : World} (h : wpList P ops (Seg F) (o :: l) a w) :
    ∃ a' w', wpList P ops (Seg F) l a' w' ∧ ∀ t, o.dst ≠ some t → a'.tmps.getD t undef = a.tmps.getD t undef := by
  unfold wpList at h
  split at h
  · rcases h with h | h
    · unfold Oper.wp at h
      generalize (execOp a.eval o).run P w = r at h
      cases r with
      | ok n w1 =>
        cases n <;> simp only [Oper.upon] at h
        case value v => exact ⟨_, _, h, fun t ht => put_ne ht⟩
        case skip => exact ⟨_, _, h, fun t ht => put_ne ht⟩
        case defer d => exact ⟨_, _, h, fun t ht => put_ne (a := { a with defers := d :: a.defers }) ht⟩
        case enter f args =>
          obtain ⟨e, w2, fr, hR, _⟩ := h []
          cases e with
          | returned v => exact ⟨_, _, hR, fun t ht => put_ne ht⟩
          | panicked c => exact hR.elim
          | outgrown => exact (Seg.letsOut hR).elim
        case row row args =>
          obtain ⟨v, w2, hR, _⟩ := h default []
          exact ⟨_, _, hR, fun t ht => put_ne ht⟩
      | halt x w1 => cases x <;> simp only [Oper.upon] at h <;> exact h.elim
    · exact (Seg.letsOut h.2).elim
  · exact ⟨_, _, h, fun t ht => put_ne ht⟩
theorem endsP : ∀ (plan : Plan) (a : Act) (w : World), wpList P ops (Seg (planW P ops fin I plan).2) (planW P ops fin I plan).1 a w →
    ∃ af wf, fin af wf ∧ ∀ t, (∀ x ∈ plan, (opAt ops x.1).dst ≠ some t) → af.tmps.getD t undef = a.tmps.getD t undef
  | [], a, w, h => ⟨a, w, h, fun _ _ => rfl⟩
  | (i, false) :: r, a, w, h => by
    obtain ⟨a', w', h1, h2⟩ := stepS h
    obtain ⟨af, wf, h3, h4⟩ := endsP r a' w' h1
    exact ⟨af, wf, h3, fun t ht => (h4 t fun x hx => ht x (List.mem_cons_of_mem _ hx)).trans (h2 t (ht (i, false) List.mem_cons_self))⟩
  | (i, true) :: r, a, w, h => by
    obtain ⟨a', w', h1, h2⟩ := stepS h
    obtain ⟨af, wf, h3, h4⟩ := endsP r a' w' h1.2
    exact ⟨af, wf, h3, fun t ht => (h4 t fun x hx => ht x (List.mem_cons_of_mem _ hx)).trans (h2 t (ht (i, true) List.mem_cons_self))⟩
theorem eval_same {a a' : Act} {x : Operand} (h : ∀ t, x = .tmp t → a'.tmps.getD t undef = a.tmps.getD t undef) : a'.eval x = a.eval x := by
  cases x <;> simp only [Act.eval]
  exact h _ rfl
theorem lowOpnd_in (o : Oper) {t : Tmp} (h : lowOpnd o = .tmp t) : t ∈ tmpsIn o := by
  obtain ⟨dst, op, type, pos, after, guard⟩ := o
  cases op <;> simp only [lowOpnd, reduceCtorEq] at h
  all_goals (subst h; simp [tmpsIn, Op.operands])
theorem mainI {need : Needs} {low : List (Nat × Value)} {Q : Exit → Act → World → Prop} (hs : Region.noSelect ops = true) (hlow : ∀ x ∈ low, Stab P I (opAt ops x.1) x.2) :
    ∀ (plan : Plan) (listed : Array Bool) (a : Act) (w : World), detI P ops need (low.map (·.1)) listed plan = true → I w →
      wpList P ops (Seg (planW P ops (finI ops need low Q) I plan).2) (planW P ops (finI ops need low Q) I plan).1 a w →
      wpAnyI P .any ops (Seg (finI ops need low Q)) I plan.length listed a w
  | [], listed, a, w, hd, _, h => by
    have : Region.ready .any ops listed = [] := by simpa [detI] using hd
    exact ⟨this, h⟩
  | (i, false) :: r, listed, a, w, hd, hIw, h => by
    simp only [detI, Bool.and_eq_true] at hd
    obtain ⟨⟨⟨hr, hf⟩, hk⟩, hrest⟩ := hd
    have hr' : i ∈ Region.ready .any ops listed := by simpa using hr
    obtain ⟨_, oi, hoi, _⟩ := mem_ready.1 hr'
    have hat : opAt ops i = oi := by simp [opAt, hoi]
    have hends := endsP ((i, false) :: r) a w h
    have h' : wpList P ops (Seg (planW P ops (finI ops need low Q) I r).2) (oi :: (planW P ops (finI ops need low Q) I r).1) a w := by
      rw [← hat]; exact h
    have hQ : ∀ v c a w, Seg (finI ops need low Q) (.panic c) (a.put oi.dst v) w → Seg (finI ops need low Q) (.panic c) a w := fun _ _ _ _ h => h.elim
    have hsel := fun j o cs b ho => Region.noSelect_spec hs j o cs b ho
    -- what it comes to, in every world that meets I
    have key : ∀ (s : Sem Value), execOp a.eval oi = (do Pure.pure (Next.value (← s))) → (∀ v w1, s.run P w = .ok v w1 → w1 = w ∧ ∀ w', I w' → s.run P w' = .ok v w') →
        wpAnyI P .any ops (Seg (finI ops need low Q)) I (r.length + 1) listed a w := fun s hex hl => by
      cases hw : Region.wanted oi (yielded ops a.tmps) with
      | true =>
        unfold wpList at h'
        rw [if_pos hw] at h'
        rcases h' with h' | h'
        · unfold Oper.wp at h'
          rw [hex, Sem.run_bind] at h'
          cases hrun : s.run P w with
          | ok v w1 =>
            obtain ⟨rfl, hall⟩ := hl _ _ hrun
            rw [hrun] at h'
            have hy : YieldsIf P ops I oi v a := .inl ⟨hw, fun w' hw' => by rw [hex, Sem.run_bind, hall w' hw']; rfl⟩
            exact I_first hoi hsel (hQ v) r.length listed a w1 (Region.free_spec hoi hf) hr' hy hIw (mainI hs hlow r _ _ w1 hrest hIw h')
          | halt x w1 =>
            rw [hrun] at h'
            cases x <;> exact h'.elim
        · exact (Seg.letsOut h'.2).elim
      | false =>
        unfold wpList at h'
        rw [if_neg (by rw [hw]; decide)] at h'
        exact I_first hoi hsel (hQ undef) r.length listed a w (Region.free_spec hoi hf) hr' (.inr ⟨hw, rfl⟩) hIw (mainI hs hlow r _ _ w hrest hIw h')
    obtain ⟨af, wf, ⟨hneed, hlowf, _⟩, hsame⟩ := hends
    rcases (Bool.or_eq_true _ _).mp hk with hp | hp
    · obtain ⟨hst, hp⟩ := (Bool.and_eq_true _ _).mp hp
      have hne : needOk (needOf need (opAt ops i)) a = true := by
        unfold needOk at hneed ⊢
        rw [List.all_eq_true] at hneed ⊢
        intro p hpm
        have hp0 := hpm
        simp only [needOf, List.mem_filter] at hpm
        have h3 := hneed p hpm.1
        rw [hsame p.1 (fun x hx hd => by
          have h5 := List.all_eq_true.1 hst x hx
          simp only [hd] at h5
          have h6 := List.all_eq_true.1 h5 p hp0
          simp at h6)] at h3
        exact h3
      rw [hat] at hp hne
      obtain ⟨s, hex, hloc⟩ := pureOp_local hp hne
      exact key s hex fun v w1 hrun => ⟨(hloc _ _ _ hrun).1, fun w' _ => (hloc _ _ _ hrun).2 w'⟩
    · obtain ⟨hix, hst⟩ := (Bool.and_eq_true _ _).mp hp
      simp only [List.contains_iff_mem, List.mem_map] at hix
      obtain ⟨⟨i', p⟩, hxm, hxi⟩ := hix
      have hxi' : i' = i := hxi
      subst hxi'
      have hev : a.eval (lowOpnd oi) = p := by
        have e := hlowf _ hxm
        simp only [hat] at e
        rw [← e]
        refine (eval_same fun t ht => ?_).symm
        refine hsame t fun x hx hd => ?_
        have h5 := List.all_eq_true.1 hst x hx
        simp only [hd, hat] at h5
        have h6 := lowOpnd_in oi ht
        simp [h6] at h5
      have hstab := hlow _ hxm
      simp only [hat] at hstab
      unfold Stab at hstab
      cases hop : oi.op <;> simp only [hop] at hstab
      case load t x =>
        have hev' : a.eval x = p := by simpa only [lowOpnd, hop] using hev
        obtain ⟨v, hv⟩ := hstab
        refine key (Instr.loadAt t p) (by simp only [execOp, hop, hev']) fun u w1 hrun => ?_
        rw [hv w hIw] at hrun
        cases hrun
        exact ⟨rfl, hv⟩
      case convert src d x =>
        have hev' : a.eval x = p := by simpa only [lowOpnd, hop] using hev
        obtain ⟨v, hv⟩ := hstab
        refine key (Go.convert src d p) (by simp only [execOp, hop, hev']) fun u w1 hrun => ?_
        rw [hv w hIw] at hrun
        cases hrun
        exact ⟨rfl, hv⟩
  | (i, true) :: r, listed, a, w, hd, hIw, h => by
    simp only [detI, Bool.and_eq_true] at hd
    have hr : Region.ready .any ops listed = [i] := by simpa using hd.1
    have hr' : i ∈ Region.ready .any ops listed := by rw [hr]; simp
    obtain ⟨_, oi, hoi, _⟩ := mem_ready.1 hr'
    have hat : opAt ops i = oi := by simp [opAt, hoi]
    refine ⟨fun h0 => (by rw [hr] at h0; cases h0), fun j hj => ?_⟩
    rw [hr] at hj
    obtain rfl : j = i := by simpa using hj
    have h1 : wpList P ops (Seg (planW P ops (finI ops need low Q) I ((j, true) :: r)).2) [oi] a w := by rw [← hat]; exact h
    have cont : ∀ a' w', I w' ∧ wpList P ops (Seg (planW P ops (finI ops need low Q) I r).2) (planW P ops (finI ops need low Q) I r).1 a' w' →
        I w' ∧ wpAnyI P .any ops (Seg (finI ops need low Q)) I r.length (listed.setIfInBounds j true) a' w' := fun a' w' ⟨h2, h3⟩ => ⟨h2, mainI hs hlow r _ a' w' hd.2 h2 h3⟩
    unfold wpOp
    rw [hoi]
    unfold wpList at h1
    dsimp only
    split
    · rename_i hw
      rw [if_pos hw] at h1
      rcases h1 with h1 | h1
      · exact .inl (Oper.wp_seg cont h1)
      · exact (Seg.letsOut h1.2).elim
    · rename_i hw
      rw [if_neg hw] at h1
      exact cont _ _ h1
/-- THE REGION. 'low': the loads (and readings of bytes) that may come at any time, each with the place that it reads. -/
theorem region_low {Q : Exit → Act → World → Prop} {id : Nat} {l : List Oper} {a : Act} {w : World} (plan : Plan) (need : Needs) (low : List (Nat × Value)) (I : World → Prop) (hm : P.follows .mixedOrders = true)
    (hs : Region.noSelect l.toArray = true) (hn : plan.length = l.length) (hd : detI P l.toArray need (low.map (·.1)) (Array.replicate l.length false) plan = true)
    (hlow : ∀ x ∈ low, Stab P I (opAt l.toArray x.1) x.2) (hI : I w.drew)
    (h : wpList P l.toArray (Seg (planW P l.toArray (finI l.toArray need low Q) I plan).2) (planW P l.toArray (finI l.toArray need low Q) I plan).1 a w.drew) : (Code.region id l.toArray true).wp P Q a w := by
  refine Code.wp_mono (Q := Seg (finI l.toArray need low Q)) (fun e a w h => ?_) ?_
  · cases e <;> first | exact h.2.2 | exact h.elim
  · refine wp_region_any hm (wpAny_of_I (I := I) _ _ _ _ (?_ : wpAnyI P .any l.toArray (Seg (finI l.toArray need low Q)) I l.toArray.size (Array.replicate l.toArray.size false) a w.drew))
    have := mainI (Q := Q) hs hlow plan (Array.replicate l.length false) a w.drew hd hI h
    rw [hn] at this
    exact this
end
/-! ### What is told to it -/
theorem stab_load {P : Program} {I : World → Prop} {o : Oper} {t : TypeId} {x : Operand} (ho : o.op = .load t x) (b off : Nat) (cs : List Value) (d : TypeDesc) (hI : ∀ w', I w' → w'.rangeAt b off cs)
    (hu : P.underlying t = some d) (hd : d.isRow = true) (hi : (P.info? t).map (·.size) = some cs.length) : Stab P I o (.pointer (some ⟨b, off, none⟩)) := by
  unfold Stab; rw [ho]
  exact ⟨_, fun w' hw => run_loadAt_mid w' b off t cs d (hI w' hw) hu hd hi⟩
theorem stab_conv {P : Program} {I : World → Prop} {o : Oper} {src dst e : TypeId} {x : Operand} (ho : o.op = .convert src dst x) (v : Value) (l : List UInt8) (hI : ∀ w', I w' → SeesB w' v l)
    (hs : P.underlying src = some (.slice e)) (he : P.underlying e = some (.int .u8)) (hd : P.underlying dst = some .string) : Stab P I o v := by
  unfold Stab; rw [ho]
  exact ⟨_, fun w' hw => SeesB.run_string (hI w' hw) src dst e hs he hd w' (grownBy_refl _ _)⟩
theorem lows_cons {P : Program} {I : World → Prop} {ops : Array Oper} {x : Nat × Value} {low : List (Nat × Value)} (h : Stab P I (opAt ops x.1) x.2) (r : ∀ x ∈ low, Stab P I (opAt ops x.1) x.2) : ∀ y ∈ x :: low, Stab P I (opAt ops y.1) y.2 :=
  List.forall_mem_cons.2 ⟨h, r⟩
theorem lows_nil {P : Program} {I : World → Prop} {ops : Array Oper} : ∀ y ∈ ([] : List (Nat × Value)), Stab P I (opAt ops y.1) y.2 := fun _ h => by cases h
theorem ats_cons {ops : Array Oper} {a : Act} {x : Nat × Value} {low : List (Nat × Value)} (h : a.eval (lowOpnd (opAt ops x.1)) = x.2) (r : ∀ x ∈ low, a.eval (lowOpnd (opAt ops x.1)) = x.2) : ∀ y ∈ x :: low, a.eval (lowOpnd (opAt ops y.1)) = y.2 :=
  List.forall_mem_cons.2 ⟨h, r⟩
theorem ats_nil {ops : Array Oper} {a : Act} : ∀ y ∈ ([] : List (Nat × Value)), a.eval (lowOpnd (opAt ops y.1)) = y.2 := fun _ h => by cases h
theorem needs_nil {a : Act} : needOk [] a = true := rfl
theorem needs_cons {a : Act} {x : Tmp × Shape} {r : Needs} (h : x.2.ok (a.tmps.getD x.1 undef) = true) (k : needOk r a = true) : needOk (x :: r) a = true := by
  unfold needOk at *; rw [List.all_cons, h, k]; rfl
end TL
end Go

/- A region that draws its order, walked in one order, beside the walk's memory. No conditions but those each law names. -/
namespace Go
namespace TL
open Go.RowKit
/-! ### The walk of such a region: behind its last operation, c, nothing is asked, if it waits for all that was read -/
section
variable {P : Program} {ops : Array Oper} {Q : Exit → Act → World → Prop} {md : Region.Mode} {I : World → Prop} {c : Nat}
def wpAnyC (P : Program) (md : Region.Mode) (ops : Array Oper) (Q : Exit → Act → World → Prop) (I : World → Prop) (c : Nat) : Nat → Array Bool → Act → World → Prop
  | 0, listed, a, w => Region.ready md ops listed = [] ∧ Q .normal a w
  | fuel + 1, listed, a, w =>
    (Region.ready md ops listed = [] → Q .normal a w) ∧
    ∀ j ∈ Region.ready md ops listed, wpOp P ops Q j (fun a' w' => (j ≠ c → I w') ∧ wpAnyC P md ops Q I c fuel (listed.setIfInBounds j true) a' w') a w
theorem wpAny_of_C : ∀ (fuel : Nat) (listed : Array Bool) (a : Act) (w : World), wpAnyC P md ops Q I c fuel listed a w → wpAny P md ops Q fuel listed a w
  | 0, _, _, _, h => h
  | fuel + 1, _, _, _, h => ⟨h.1, fun j hj => wpOp_mono (fun a' w' h' => wpAny_of_C fuel _ a' w' h'.2) (h.2 j hj)⟩
/-- What yields the same in every world that meets I may be taken first. -/
theorem C_first {i : Nat} {oi : Oper} {v : Value} (hi : ops[i]? = some oi) (hsel : ∀ (j : Nat) (o : Oper) cs b, ops[j]? = some o → o.op ≠ .select cs b)
    (hQ : ∀ c a w, Q (.panic c) (a.put oi.dst v) w → Q (.panic c) a w) (hwait : ∀ oc, ops[c]? = some oc → ∃ e ∈ oc.after, Region.binds md e = true ∧ e.on = i) :
    ∀ (fuel : Nat) (listed : Array Bool) (a : Act) (w : World),
      (∀ j oj, ops[j]? = some oj → j ≠ i → listed.getD j true = false → (∀ e ∈ oj.after, Region.binds md e = true → e.on ≠ i) → oi.apart ops oj = true) →
      i ∈ Region.ready md ops listed → YieldsIf P ops I oi v a → I w →
      wpAnyC P md ops Q I c fuel (listed.setIfInBounds i true) (a.put oi.dst v) w → wpAnyC P md ops Q I c (fuel + 1) listed a w := by
  intro fuel
  induction fuel with
  | zero =>
    intro listed a w _ hr hy hw H
    refine ⟨fun h => (by rw [h] at hr; cases hr), fun j hj => ?_⟩
    by_cases hji : j = i
    · subst hji; exact hy.wpOp hi hw ⟨fun _ => hw, H⟩
    · have := ready_mono hj hji
      rw [H.1] at this
      cases this
  | succ fuel ih =>
    intro listed a w hfree hr hy hw H
    refine ⟨fun h => (by rw [h] at hr; cases hr), fun j hj => ?_⟩
    by_cases hji : j = i
    · subst hji; exact hy.wpOp hi hw ⟨fun _ => hw, H⟩
    · have h1 := H.2 j (ready_mono hj hji)
      obtain ⟨hjun, oj, hoj, hall⟩ := mem_ready.1 hj
      have hnot := not_waits hr hoj hall
      have hjc : j ≠ c := fun e => by
        subst e
        obtain ⟨x, hx, hb, hxi⟩ := hwait oj hoj
        exact hnot x hx hb hxi
      have h2 := wpOp_putIf hoj (hfree j oj hoj hji hjun hnot) (fun cs b => hsel i oi cs b hi) (fun cs b => hsel j oj cs b hoj) hQ hy h1
      have hfree' : ∀ k ok, ops[k]? = some ok → k ≠ i → (listed.setIfInBounds j true).getD k true = false →
          (∀ e ∈ ok.after, Region.binds md e = true → e.on ≠ i) → oi.apart ops ok = true := fun k ok hk hki hun hno => by
        refine hfree k ok hk hki ?_ hno
        by_cases hjk : j = k
        · subst hjk; exact hjun
        · rw [getD_set_ne true hjk] at hun; exact hun
      refine wpOp_mono (fun a' w' h3 => ⟨fun _ => h3.2.1 hjc, ih (listed.setIfInBounds j true) a' w' hfree' (ready_mono hr (Ne.symm hji)) h3.1 (h3.2.1 hjc) ?_⟩) h2
      rw [Array.setIfInBounds_comm _ _ hji]; exact h3.2.2
end
/-! ### The walk -/
/-- The operations up to the first that writes, and what is to hold there. -/
def planC (P : Program) (ops : Array Oper) (fin : Act → World → Prop) (I : World → Prop) (c : Nat) : Plan → List Oper × (Act → World → Prop)
  | [] => ([], fin)
  | (i, false) :: r => (opAt ops i :: (planC P ops fin I c r).1, (planC P ops fin I c r).2)
  | (i, true) :: r => ([opAt ops i], fun a w => (i ≠ c → I w) ∧ wpList P ops (Seg (planC P ops fin I c r).2) (planC P ops fin I c r).1 a w)
def waitsC (ops : Array Oper) (c i : Nat) : Bool := match ops[c]? with | none => true | some oc => oc.after.any fun e => Region.binds .any e && e.on == i
theorem waitsC_spec {ops : Array Oper} {c i : Nat} (h : waitsC ops c i = true) : ∀ oc, ops[c]? = some oc → ∃ e ∈ oc.after, Region.binds .any e = true ∧ e.on = i := fun oc hoc => by
  unfold waitsC at h; rw [hoc] at h
  simp only [Array.any_eq_true'] at h
  obtain ⟨e, he, h⟩ := h
  simp only [Bool.and_eq_true, beq_iff_eq] at h
  exact ⟨e, he, h.1, h.2⟩
def detC (P : Program) (ops : Array Oper) (need : Needs) (idx : List Nat) (c : Nat) : Array Bool → Plan → Bool
  | listed, [] => (Region.ready .any ops listed).isEmpty
  | listed, (i, false) :: r =>
    (Region.ready .any ops listed).contains i && Region.free .any ops listed i &&
      ((stays ops need (opAt ops i) ((i, false) :: r) && pureOp P (needOf need (opAt ops i)) (opAt ops i)) || (idx.contains i && staysLow ops (opAt ops i) ((i, false) :: r))) &&
      (waitsC ops c i && detC P ops need idx c (listed.setIfInBounds i true) r)
  | listed, (i, true) :: r => Region.ready .any ops listed == [i] && ((i != c || r.isEmpty) && detC P ops need idx c (listed.setIfInBounds i true) r)
section
variable {P : Program} {ops : Array Oper} {I : World → Prop} {fin : Act → World → Prop} {c : Nat}
theorem endsC : ∀ (plan : Plan) (a : Act) (w : World), wpList P ops (Seg (planC P ops fin I c plan).2) (planC P ops fin I c plan).1 a w →
    ∃ af wf, fin af wf ∧ ∀ t, (∀ x ∈ plan, (opAt ops x.1).dst ≠ some t) → af.tmps.getD t undef = a.tmps.getD t undef
  | [], a, w, h => ⟨a, w, h, fun _ _ => rfl⟩
  | (i, false) :: r, a, w, h => by
    obtain ⟨a', w', h1, h2⟩ := stepS h
    obtain ⟨af, wf, h3, h4⟩ := endsC r a' w' h1
    exact ⟨af, wf, h3, fun t ht => (h4 t fun x hx => ht x (List.mem_cons_of_mem _ hx)).trans (h2 t (ht (i, false) List.mem_cons_self))⟩
  | (i, true) :: r, a, w, h => by
    obtain ⟨a', w', h1, h2⟩ := stepS h
    obtain ⟨af, wf, h3, h4⟩ := endsC r a' w' h1.2
    exact ⟨af, wf, h3, fun t ht => (h4 t fun x hx => ht x (List.mem_cons_of_mem _ hx)).trans (h2 t (ht (i, true) List.mem_cons_self))⟩
theorem mainC {need : Needs} {low : List (Nat × Value)} {Q : Exit → Act → World → Prop} (hs : Region.noSelect ops = true) (hlow : ∀ x ∈ low, Stab P I (opAt ops x.1) x.2) :
    ∀ (plan : Plan) (listed : Array Bool) (a : Act) (w : World), detC P ops need (low.map (·.1)) c listed plan = true → I w →
      wpList P ops (Seg (planC P ops (finI ops need low Q) I c plan).2) (planC P ops (finI ops need low Q) I c plan).1 a w →
      wpAnyC P .any ops (Seg (finI ops need low Q)) I c plan.length listed a w
  | [], listed, a, w, hd, _, h => by
    have : Region.ready .any ops listed = [] := by simpa [detC] using hd
    exact ⟨this, h⟩
  | (i, false) :: r, listed, a, w, hd, hIw, h => by
    simp only [detC, Bool.and_eq_true] at hd
    obtain ⟨⟨⟨hr, hf⟩, hk⟩, hwt, hrest⟩ := hd
    have hwait := waitsC_spec hwt
    have hr' : i ∈ Region.ready .any ops listed := by simpa using hr
    obtain ⟨_, oi, hoi, _⟩ := mem_ready.1 hr'
    have hat : opAt ops i = oi := by simp [opAt, hoi]
    have hends := endsC ((i, false) :: r) a w h
    have h' : wpList P ops (Seg (planC P ops (finI ops need low Q) I c r).2) (oi :: (planC P ops (finI ops need low Q) I c r).1) a w := by
      rw [← hat]; exact h
    have hQ : ∀ v c a w, Seg (finI ops need low Q) (.panic c) (a.put oi.dst v) w → Seg (finI ops need low Q) (.panic c) a w := fun _ _ _ _ h => h.elim
    have hsel := fun j o cs b ho => Region.noSelect_spec hs j o cs b ho
    -- what it comes to, in every world that meets I
    have key : ∀ (s : Sem Value), execOp a.eval oi = (do Pure.pure (Next.value (← s))) → (∀ v w1, s.run P w = .ok v w1 → w1 = w ∧ ∀ w', I w' → s.run P w' = .ok v w') →
        wpAnyC P .any ops (Seg (finI ops need low Q)) I c (r.length + 1) listed a w := fun s hex hl => by
      cases hw : Region.wanted oi (yielded ops a.tmps) with
      | true =>
        unfold wpList at h'
        rw [if_pos hw] at h'
        rcases h' with h' | h'
        · unfold Oper.wp at h'
          rw [hex, Sem.run_bind] at h'
          cases hrun : s.run P w with
          | ok v w1 =>
            obtain ⟨rfl, hall⟩ := hl _ _ hrun
            rw [hrun] at h'
            have hy : YieldsIf P ops I oi v a := .inl ⟨hw, fun w' hw' => by rw [hex, Sem.run_bind, hall w' hw']; rfl⟩
            exact C_first hoi hsel (hQ v) hwait r.length listed a w1 (Region.free_spec hoi hf) hr' hy hIw (mainC hs hlow r _ _ w1 hrest hIw h')
          | halt x w1 =>
            rw [hrun] at h'
            cases x <;> exact h'.elim
        · exact (Seg.letsOut h'.2).elim
      | false =>
        unfold wpList at h'
        rw [if_neg (by rw [hw]; decide)] at h'
        exact C_first hoi hsel (hQ undef) hwait r.length listed a w (Region.free_spec hoi hf) hr' (.inr ⟨hw, rfl⟩) hIw (mainC hs hlow r _ _ w hrest hIw h')
    obtain ⟨af, wf, ⟨hneed, hlowf, _⟩, hsame⟩ := hends
    rcases (Bool.or_eq_true _ _).mp hk with hp | hp
    · obtain ⟨hst, hp⟩ := (Bool.and_eq_true _ _).mp hp
      have hne : needOk (needOf need (opAt ops i)) a = true := by
        unfold needOk at hneed ⊢
        rw [List.all_eq_true] at hneed ⊢
        intro p hpm
        have hp0 := hpm
        simp only [needOf, List.mem_filter] at hpm
        have h3 := hneed p hpm.1
        rw [hsame p.1 (fun x hx hd => by
          have h5 := List.all_eq_true.1 hst x hx
          simp only [hd] at h5
          have h6 := List.all_eq_true.1 h5 p hp0
          simp at h6)] at h3
        exact h3
      rw [hat] at hp hne
      obtain ⟨s, hex, hloc⟩ := pureOp_local hp hne
      exact key s hex fun v w1 hrun => ⟨(hloc _ _ _ hrun).1, fun w' _ => (hloc _ _ _ hrun).2 w'⟩
    · obtain ⟨hix, hst⟩ := (Bool.and_eq_true _ _).mp hp
      simp only [List.contains_iff_mem, List.mem_map] at hix
      obtain ⟨⟨i', p⟩, hxm, hxi⟩ := hix
      have hxi' : i' = i := hxi
      subst hxi'
      have hev : a.eval (lowOpnd oi) = p := by
        have e := hlowf _ hxm
        simp only [hat] at e
        rw [← e]
        refine (eval_same fun t ht => ?_).symm
        refine hsame t fun x hx hd => ?_
        have h5 := List.all_eq_true.1 hst x hx
        simp only [hd, hat] at h5
        have h6 := lowOpnd_in oi ht
        simp [h6] at h5
      have hstab := hlow _ hxm
      simp only [hat] at hstab
      unfold Stab at hstab
      cases hop : oi.op <;> simp only [hop] at hstab
      case load t x =>
        have hev' : a.eval x = p := by simpa only [lowOpnd, hop] using hev
        obtain ⟨v, hv⟩ := hstab
        refine key (Instr.loadAt t p) (by simp only [execOp, hop, hev']) fun u w1 hrun => ?_
        rw [hv w hIw] at hrun
        cases hrun
        exact ⟨rfl, hv⟩
      case convert src d x =>
        have hev' : a.eval x = p := by simpa only [lowOpnd, hop] using hev
        obtain ⟨v, hv⟩ := hstab
        refine key (Go.convert src d p) (by simp only [execOp, hop, hev']) fun u w1 hrun => ?_
        rw [hv w hIw] at hrun
        cases hrun
        exact ⟨rfl, hv⟩
  | (i, true) :: r, listed, a, w, hd, hIw, h => by
    simp only [detC, Bool.and_eq_true] at hd
    have hr : Region.ready .any ops listed = [i] := by simpa using hd.1
    have hr' : i ∈ Region.ready .any ops listed := by rw [hr]; simp
    obtain ⟨_, oi, hoi, _⟩ := mem_ready.1 hr'
    have hat : opAt ops i = oi := by simp [opAt, hoi]
    refine ⟨fun h0 => (by rw [hr] at h0; cases h0), fun j hj => ?_⟩
    rw [hr] at hj
    obtain rfl : j = i := by simpa using hj
    have h1 : wpList P ops (Seg (planC P ops (finI ops need low Q) I c ((j, true) :: r)).2) [oi] a w := by rw [← hat]; exact h
    have cont : ∀ a' w', (j ≠ c → I w') ∧ wpList P ops (Seg (planC P ops (finI ops need low Q) I c r).2) (planC P ops (finI ops need low Q) I c r).1 a' w' →
        (j ≠ c → I w') ∧ wpAnyC P .any ops (Seg (finI ops need low Q)) I c r.length (listed.setIfInBounds j true) a' w' := fun a' w' ⟨h2, h3⟩ => by
      refine ⟨h2, ?_⟩
      by_cases e : j = c
      · have hre := hd.2.1
        cases r with
        | nil =>
          have : Region.ready .any ops (listed.setIfInBounds j true) = [] := by simpa [detC] using hd.2.2
          exact ⟨this, h3⟩
        | cons x r => simp [e] at hre
      · exact mainC hs hlow r _ a' w' hd.2.2 (h2 e) h3
    unfold wpOp
    rw [hoi]
    unfold wpList at h1
    dsimp only
    split
    · rename_i hw
      rw [if_pos hw] at h1
      rcases h1 with h1 | h1
      · exact .inl (Oper.wp_seg cont h1)
      · exact (Seg.letsOut h1.2).elim
    · rename_i hw
      rw [if_neg hw] at h1
      exact cont _ _ h1
/-- THE REGION. 'low': the loads (and readings of bytes) that may come at any time, each with the place that it reads. -/
theorem region_lowc {Q : Exit → Act → World → Prop} {id : Nat} {l : List Oper} {a : Act} {w : World} (plan : Plan) (need : Needs) (low : List (Nat × Value)) (I : World → Prop) (c : Nat) (hm : P.follows .mixedOrders = true)
    (hs : Region.noSelect l.toArray = true) (hn : plan.length = l.length) (hd : detC P l.toArray need (low.map (·.1)) c (Array.replicate l.length false) plan = true)
    (hlow : ∀ x ∈ low, Stab P I (opAt l.toArray x.1) x.2) (hI : I w.drew)
    (h : wpList P l.toArray (Seg (planC P l.toArray (finI l.toArray need low Q) I c plan).2) (planC P l.toArray (finI l.toArray need low Q) I c plan).1 a w.drew) : (Code.region id l.toArray true).wp P Q a w := by
  refine Code.wp_mono (Q := Seg (finI l.toArray need low Q)) (fun e a w h => ?_) ?_
  · cases e <;> first | exact h.2.2 | exact h.elim
  · refine wp_region_any hm (wpAny_of_C (I := I) (c := c) _ _ _ _ (?_ : wpAnyC P .any l.toArray (Seg (finI l.toArray need low Q)) I c l.toArray.size (Array.replicate l.toArray.size false) a w.drew))
    have := mainC (Q := Q) hs hlow plan (Array.replicate l.length false) a w.drew hd hI h
    rw [hn] at this
    exact this
end
/-- The pieces that a region's loads read stand as they were. -/
def IxOk {F : List Nat} {w0 w : World} {L : List Chunk} (_ : Mem F w0 w L) (is : List Nat) (w' : World) : Prop := Kept F w0 w' ∧ ∀ i ∈ is, ∀ c, L[i]? = some c → Chunk.ok w' c
section
variable {P : Program} {o : Oper} {w w0 w' : World} {F : List Nat} {L : List Chunk} {M : Mem F w0 w L} {is : List Nat}
theorem ixOk_self (M : Mem F w0 w L) (is : List Nat) : IxOk M is w.drew := ⟨M.drew.kept, fun i _ c hc => M.drew.ok i c hc⟩
theorem ixOk_nil (hk : Kept F w0 w') : IxOk M [] w' := ⟨hk, fun _ h => by cases h⟩
theorem ixOk_cons {i : Nat} {c : Chunk} (hi : L[i]? = some c) (h : c.ok w') (r : IxOk M is w') : IxOk M (i :: is) w' := ⟨r.1, fun j hj d hd => by
  rcases List.mem_cons.1 hj with rfl | hj
  · rw [hi] at hd; cases hd; exact h
  · exact r.2 j hj d hd⟩
theorem rowCell {g : Nat} {cs : List Value} (h : (Chunk.row g cs).ok w') {off : Nat} {v : Value} (hv : cs[off]? = some v) : w'.cell? ⟨g, off, none⟩ = some v := by
  have := h.2.1 off v hv; rwa [Nat.zero_add] at this
theorem stab_ix (M : Mem F w0 w L) (i : Nat) (off : Nat) {t : TypeId} {x : Operand} (ho : o.op = .load t x) {g : Nat} {cs : List Value} (hi : L[i]? = some (.row g cs)) (hin : i ∈ is) (ht : scalarT P t = true) {v : Value} (hv : cs[off]? = some v) : Stab P (IxOk M is) o (.pointer (some ⟨g, off, none⟩)) := by
  unfold Stab; rw [ho]
  refine ⟨v, fun w' hw => ?_⟩
  simp only [Instr.loadAt, Instr.sureAddr, Sem.run_bind, Sem.run_pure, Result.andThen_ok, run_loadVar_scalar ht w' g off v (rowCell (hw.2 i hin _ hi) hv)]
theorem stab_ixB (M : Mem F w0 w L) (i : Nat) (off : Nat) {t : TypeId} {x : Operand} (ho : o.op = .load t x) {g : Nat} {l : List UInt8} (hi : L[i]? = some (.row g (bs l))) (hin : i ∈ is) (ht : scalarT P t = true) (hlt : off < l.length) : Stab P (IxOk M is) o (.pointer (some ⟨g, off, none⟩)) :=
  stab_ix M i off ho hi hin ht (getD_some hlt)
theorem stab_ixA (M : Mem F w0 w L) (i : Nat) (off : Nat) {t : TypeId} {x : Operand} (ho : o.op = .load t x) {g : Nat} {cs : List Value} (hi : L[i]? = some (.row g cs)) (hin : i ∈ is) (ht : rowT P t = true) (pre mid post : List Value) (hcs : cs = pre ++ (mid ++ post)) (hpre : pre.length = off) (hn : (P.info? t).map (·.size) = some mid.length) : Stab P (IxOk M is) o (.pointer (some ⟨g, off, none⟩)) := by
  unfold rowT at ht
  cases hu : P.underlying t with
  | none => simp [hu] at ht
  | some d =>
    simp only [hu] at ht
    refine stab_load ho g off mid d (fun w' hw j v hv => rowCell (hw.2 i hin _ hi) ?_) hu ht hn
    have hj : j < mid.length := (List.getElem?_eq_some_iff.1 hv).1
    rw [hcs, ← hpre, List.getElem?_append_right (by omega), Nat.add_sub_cancel_left, List.getElem?_append_left hj]; exact hv
theorem stab_ixR (M : Mem F w0 w L) (i : Nat) {t : TypeId} {x : Operand} (ho : o.op = .load t x) {g : Nat} {cs : List Value} (hi : L[i]? = some (.row g cs)) (hin : i ∈ is) (ht : rowT P t = true) (hn : (P.info? t).map (·.size) = some cs.length) : Stab P (IxOk M is) o (.pointer (some ⟨g, 0, none⟩)) :=
  stab_ixA M i 0 ho hi hin ht [] cs [] (by simp) rfl hn
theorem stab_ixH (M : Mem F w0 w L) (i : Nat) {t : TypeId} {x : Operand} (ho : o.op = .load t x) {g : Nat} {l : List UInt8} (hi : L[i]? = some (.row g (bs l))) (hin : i ∈ is) (ht : rowT P t = true) {n : Nat} (hl : l.length = n) (hn : (P.info? t).map (·.size) = some n) : Stab P (IxOk M is) o (.pointer (some ⟨g, 0, none⟩)) :=
  stab_ixR M i ho hi hin ht (by rw [bs_length, hl]; exact hn)
/-- string(a[:]), a an array. -/
theorem stab_ixW (M : Mem F w0 w L) (i : Nat) {src dst e : TypeId} {x : Operand} (ho : o.op = .convert src dst x) {g : Nat} {l : List UInt8} (hi : L[i]? = some (.row g (bs l))) (hin : i ∈ is) {n : Nat} (hl : l.length = n) (hm : n ≤ maxLen) (hs : P.underlying src = some (.slice e)) (he : P.underlying e = some (.int .u8)) (hd : P.underlying dst = some .string) : Stab P (IxOk M is) o (.slice (some ⟨g, 0, none⟩) n n) := by
  refine stab_conv ho _ l (fun w' hw => ?_) hs he hd
  have := row_sees (off := 0) (n := n) (cap := n) (hw.2 i hin _ hi) (by omega) (Nat.le_refl _) hm
  rwa [List.drop_zero, List.take_of_length_le (by omega)] at this
/-- string(b), b owned. -/
theorem stab_ixS (M : Mem F w0 w L) (i : Nat) {src dst e : TypeId} {x : Operand} (ho : o.op = .convert src dst x) {v : Value} {n : Nat} {l : List UInt8} (hi : L[i]? = some (.sl 1 v n (bs l))) (hin : i ∈ is) (hl : n = l.length) (hs : P.underlying src = some (.slice e)) (he : P.underlying e = some (.int .u8)) (hd : P.underlying dst = some .string) : Stab P (IxOk M is) o v := by
  subst hl
  exact stab_conv ho v l (fun w' hw => Own.sees (hw.2 i hin _ hi)) hs he hd
end
theorem needs_at {l : List Value} {d : List Deferred} {n : Nat} {s : Shape} {r : Needs} {v : Value} (h : l[n]? = some v) (hs : s.ok v = true) (k : needOk r ⟨l.toArray, d⟩ = true) : needOk ((n, s) :: r) ⟨l.toArray, d⟩ = true :=
  needs_cons (by simpa [h] using hs) k
theorem nums_bs (l : List UInt8) : Shape.ok .nums (.agg (bs l).toArray) = true := nums_vb l
end TL
end Go

/- Slices of structs, as the walk reads them, by elements. No conditions but those each law names. -/
namespace Go
namespace TL
open Go.RowKit
theorem flat_len {α : Type} {f : α → List Value} {size : Nat} (hf : ∀ x, (f x).length = size) (l : List α) : (l.flatMap f).length = l.length * size := by
  induction l with
  | nil => simp
  | cons a l ih => simp only [List.flatMap_cons, List.length_append, ih, hf, List.length_cons, Nat.succ_mul]; omega
theorem flat_get {α : Type} {f : α → List Value} {size : Nat} (hf : ∀ x, (f x).length = size) : ∀ (l : List α) (k : Nat) (x : α), l[k]? = some x → ∀ j, j < size → (l.flatMap f)[k * size + j]? = (f x)[j]?
  | [], k, x, h, _, _ => by simp at h
  | a :: l, 0, x, h, j, hj => by
    simp only [List.getElem?_cons_zero, Option.some.injEq] at h; subst h
    rw [List.flatMap_cons, Nat.zero_mul, Nat.zero_add, List.getElem?_append_left (by rw [hf]; exact hj)]
  | a :: l, k + 1, x, h, j, hj => by
    rw [List.flatMap_cons, List.getElem?_append_right (by rw [hf, Nat.succ_mul]; omega), hf, Nat.succ_mul, show k * size + size + j - size = k * size + j by omega]
    exact flat_get hf l k x (by simpa using h) j hj
/-- A slice's elements, seen: each is a row of 'size' cells. -/
structure SeesL {α : Type} (w : World) (size : Nat) (f : α → List Value) (v : Value) (l : List α) : Prop where
  sees : Sees w size v l.length (l.flatMap f)
  size : ∀ x, (f x).length = size
section
variable {α : Type} {P : Program} {ops : Array Oper} {rest : List Oper} {o : Oper} {a : Act} {w w0 : World} {Q : Exit → Act → World → Prop} {L : List Chunk} {size : Nat} {f : α → List Value} {v : Value} {l : List α}
theorem SeesL.form (S : SeesL w size f v l) : ∃ p cap, v = .slice p l.length cap ∧ l.length ≤ cap := S.sees.form
theorem SeesL.addr {p : Option Addr} {n cap : Nat} (S : SeesL w size f (.slice p n cap) l) (h : 0 < l.length) : ∃ g so, p = some ⟨g, so, none⟩ := by
  rcases S.sees.2 with ⟨_, h0⟩ | ⟨g, so, c, hv, _⟩
  · omega
  · injection hv with h1 h2 h3; exact ⟨g, so, h1⟩
theorem SeesL.cell {g so n cap : Nat} (S : SeesL w size f (.slice (some ⟨g, so, none⟩) n cap) l) {k : Nat} {x : α} (hk : l[k]? = some x) {j : Nat} {val : Value} (hv : (f x)[j]? = some val) : w.cell? ⟨g, so + (k * size + j), none⟩ = some val := by
  have hj : j < size := by rw [← S.size x]; exact (List.getElem?_eq_some_iff.1 hv).1
  rcases S.sees.2 with ⟨h0, _⟩ | ⟨g', o', c, hv', _, _, _, hr⟩
  · cases h0
  · injection hv' with h1 _ _; injection h1 with h1; injection h1 with h1 h2; subst h1; subst h2
    exact hr _ _ ((flat_get S.size l k x hk j hj).trans hv)
theorem SeesL.kept {G : List Nat} {w' : World} (S : SeesL w size f v l) (h : Kept G w w') (hG : ∀ k, v.ownBlock = some k → k ∉ G) : SeesL w' size f v l := by
  refine ⟨⟨S.sees.1, S.sees.2.imp id ?_⟩, S.size⟩
  rintro ⟨g, so, cap, rfl, hlt, hn, hc, hr⟩
  exact ⟨g, so, cap, rfl, Nat.lt_of_lt_of_le hlt h.size, hn, hc, rangeAt_of_block hr (h.block g hlt (hG g rfl))⟩
theorem SeesL.below {w' : World} (S : SeesL w size f v l) (h : Below w.heap.size w w') : SeesL w' size f v l := S.kept (Kept.of_below h []) (by simp)
theorem SeesL.now (M : Mem [] w0 w L) (S : SeesL w0 size f v l) : SeesL w size f v l := S.kept M.kept (by simp)
theorem seesL_nil (size : Nat) (f : α → List Value) (hf : ∀ x, (f x).length = size) (w : World) : SeesL w size f (.slice none 0 0) [] := ⟨Sees_nil _ _, hf⟩
/-- A piece of the walk's own, seen. -/
theorem SeesL.own {F : List Nat} (M : Mem F w0 w L) (i : Nat) {n : Nat} (hi : L[i]? = some (.sl size v n (l.flatMap f))) (hn : n = l.length) (hf : ∀ x, (f x).length = size) : SeesL w size f v l := by
  subst hn; exact ⟨Own.sees (M.ok i _ hi), hf⟩
/-- A field of an element. -/
theorem w_see (M : Mem [] w0 w L) {g so n cap : Nat} (S : SeesL w0 size f (.slice (some ⟨g, so, none⟩) n cap) l) {k : Nat} {x : α} (hk : l[k]? = some x) (t : TypeId) (op : Operand) (ho : o.op = .load t op) {off : Nat} (hx : a.eval op = .pointer (some ⟨g, off, none⟩)) (hw : Region.wanted o (yielded ops a.tmps) = true)
    (ht : scalarT P t = true) (j : Nat) (hoff : off = so + (k * size + j)) {val : Value} (hv : (f x)[j]? = some val) (h : wpList P ops Q rest (a.put o.dst val) w) : wpList P ops Q (o :: rest) a w :=
  wpW hw fun _ hK => by
    subst hoff
    unfold Oper.wp execOp
    simp only [ho, hx, Instr.loadAt, Instr.sureAddr, Sem.run_bind, Sem.run_pure, Result.andThen_ok, run_loadVar_scalar ht w g _ val ((S.now M).cell hk hv)]
    exact hK _ _ h
/-- A whole element. -/
theorem w_seeA (M : Mem [] w0 w L) {g so n cap : Nat} (S : SeesL w0 size f (.slice (some ⟨g, so, none⟩) n cap) l) {k : Nat} {x : α} (hk : l[k]? = some x) (t : TypeId) (op : Operand) (ho : o.op = .load t op) {off : Nat} (hx : a.eval op = .pointer (some ⟨g, off, none⟩)) (hw : Region.wanted o (yielded ops a.tmps) = true)
    (ht : rowT P t = true) (hoff : off = so + k * size) (hn : (P.info? t).map (·.size) = some (f x).length) (h : wpList P ops Q rest (a.put o.dst (.agg (f x).toArray)) w) : wpList P ops Q (o :: rest) a w :=
  wpW hw fun _ hK => by
    subst hoff
    unfold rowT at ht
    cases hu : P.underlying t with
    | none => simp [hu] at ht
    | some d =>
      simp only [hu] at ht
      refine wp_load_mid t op ho g _ hx (f x) d ?_ hu ht hn (hK _ _ h)
      intro j val hv
      rw [Nat.add_assoc]
      exact (S.now M).cell hk hv
/-- A field of an element, as a region's load that may come at any time. -/
theorem stab_see (M : Mem [] w0 w L) {is : List Nat} {g so n cap : Nat} (S : SeesL w0 size f (.slice (some ⟨g, so, none⟩) n cap) l) {k : Nat} {x : α} (hk : l[k]? = some x) (j : Nat) {t : TypeId} {op : Operand} (ho : o.op = .load t op) (ht : scalarT P t = true) {val : Value} (hv : (f x)[j]? = some val) :
    Stab P (IxOk M is) o (.pointer (some ⟨g, so + (k * size + j), none⟩)) := by
  unfold Stab; rw [ho]
  refine ⟨val, fun w' hw => ?_⟩
  simp only [Instr.loadAt, Instr.sureAddr, Sem.run_bind, Sem.run_pure, Result.andThen_ok, run_loadVar_scalar ht w' g _ val ((S.kept hw.1 (by simp)).cell hk hv)]
theorem stab_seeA (M : Mem [] w0 w L) {is : List Nat} {g so n cap : Nat} (S : SeesL w0 size f (.slice (some ⟨g, so, none⟩) n cap) l) {k : Nat} {x : α} (hk : l[k]? = some x) {t : TypeId} {op : Operand} (ho : o.op = .load t op) (ht : rowT P t = true) (hn : (P.info? t).map (·.size) = some (f x).length) :
    Stab P (IxOk M is) o (.pointer (some ⟨g, so + k * size, none⟩)) := by
  unfold rowT at ht
  cases hu : P.underlying t with
  | none => simp [hu] at ht
  | some d =>
    simp only [hu] at ht
    refine stab_load ho g _ (f x) d (fun w' hw j val hv => ?_) hu ht hn
    rw [Nat.add_assoc]
    exact (S.kept hw.1 (by simp)).cell hk hv
end
/-- A pair's cells. -/
def prV (x : List UInt8 × List UInt8) : List Value := [.string (mkS x.1), .string (mkS x.2)]
@[go_sem] theorem prV_eq (a b : List UInt8) : prV (a, b) = [.string (mkS a), .string (mkS b)] := rfl
theorem prV_len (x : List UInt8 × List UInt8) : (prV x).length = 2 := rfl
end TL
end Go

/- Bytes of texts, in a word that is closed to the walk. No conditions but those each law names. -/
namespace Go
namespace TL
open Go.RowKit
theorem lead_geI {s : List UInt8} {k : Nat} (h : k < lead s) : 128 ≤ I8 (bt s k) := by have := lead_ge s k h; rw [I8_bt]; omega
theorem lead_lastI {s : List UInt8} (h : lead s < s.length) : I8 (bt s (lead s)) < 128 := by have := lead_last s h; rw [I8_bt]; omega
theorem shl_or (n : Nat) (b : UInt8) (h : n < 144115188075855872) : I64 (w64 (n : Int) <<< 7 ||| w64 ((I8 b).tmod 128)) = ((b.toNat % 128 + 128 * n : Nat) : Int) := by
  have hb := I8_bd b
  rw [Int.tmod_eq_emod_of_nonneg hb.1, I8_eq, show ((b.toNat : Int) % 128) = ((b.toNat % 128 : Nat) : Int) by omega, w64_nat, w64_nat, I64_eq, UInt64.toNat_or, UInt64.toNat_shiftLeft]
  have e1 : (UInt64.ofNat n).toNat = n := by rw [UInt64.toNat_ofNat']; omega
  have e2 : (UInt64.ofNat (b.toNat % 128)).toNat = b.toNat % 128 := by rw [UInt64.toNat_ofNat']; omega
  rw [e1, e2]
  have e3 : ((7 : UInt64).toNat % 64) = 7 := rfl
  rw [e3, Nat.mod_eq_of_lt (by rw [Nat.shiftLeft_eq]; omega), ← Nat.shiftLeft_add_eq_or_of_lt (by omega), Nat.shiftLeft_eq]
  omega
theorem I64_nat (n : Nat) (h : n < 18446744073709551616) : I64 (w64 (n : Int)) = (n : Int) := by
  rw [w64_nat, I64_eq, UInt64.toNat_ofNat']; omega
theorem SeesB.of_own {w : World} {v : Value} {n : Nat} {l : List UInt8} (h : (Chunk.sl 1 v n (bs l)).ok w) (hn : n = l.length) : SeesB w v l := by
  subst hn; exact Own.sees h
end TL
end Go

/- The walks of the laws' GreatPairs and of the reference's Same. No conditions but those each names. -/
namespace Go
namespace TL
abbrev Pr : Type := List UInt8 × List UInt8
/-- Are pairs more than statements go through? -/
def greatP (l : List Pr) : Bool := decide (200 < l.length) || l.any fun x => decide (1000 < x.1.length) || decide (1000 < x.2.length)
theorem greatP_at {l : List Pr} {k : Nat} {x : Pr} (h : l[k]? = some x) (hb : 1000 < x.1.length ∨ 1000 < x.2.length) : greatP l = true := by
  unfold greatP
  rw [Bool.or_eq_true]; right
  rw [List.any_eq_true]
  exact ⟨x, List.mem_of_getElem? h, by simpa using hb⟩
theorem greatP_no {l : List Pr} (hl : l.length ≤ 200) (h : ∀ (k : Nat) (x : Pr), l[k]? = some x → ¬ (1000 < x.1.length ∨ 1000 < x.2.length)) : greatP l = false := by
  unfold greatP
  rw [Bool.or_eq_false_iff]
  refine ⟨by simpa using hl, ?_⟩
  rw [List.any_eq_false]
  intro x hx
  obtain ⟨k, hk⟩ := List.getElem?_of_mem hx
  simpa using h k x hk
theorem greatP_small {l : List Pr} (h : greatP l = false) : l.length ≤ 200 ∧ ∀ x ∈ l, x.1.length ≤ 1000 ∧ x.2.length ≤ 1000 := by
  unfold greatP at h
  rw [Bool.or_eq_false_iff, List.any_eq_false] at h
  refine ⟨by simpa using h.1, fun x hx => ?_⟩
  have := h.2 x hx
  simp at this; omega
end TL
end Go
namespace Go.Proofs.Ytjmhjkgcdglpaaa
open Go.RowKit Go.TL
set_option maxHeartbeats 2000000 in
theorem GreatPairs_c (l : List Pr) (v : Value) (w : World) (S : SeesL w 2 prV v l) (hm : ∀ x ∈ l, x.1.length ≤ maxLen ∧ x.2.length ≤ maxLen) :
    Calls Try.prog 11 #[v] w fun e w' => e = .returned (.bool (greatP l)) ∧ w = w' := by
  obtain ⟨p, cap, rfl, hc⟩ := S.form
  by_cases hl : 200 < l.length
  · have e : greatP l = true := by unfold greatP; rw [decide_eq_true hl]; rfl
    rw [e]; clear e
    go_enter Try.func11, Try.ntmps11
    go_wp2_with fail
    go_ret
    exact ⟨rfl, rfl⟩
  · have HY := fun k x => @greatP_at l k x
    have HN := greatP_no (l := l) (by omega)
    obtain ⟨R, eR⟩ : ∃ R, R = greatP l := ⟨_, rfl⟩
    rw [← eR] at HY HN ⊢
    replace HY := Lib.hid HY
    replace HN := Lib.hid HN
    clear eR
    have M := Mem.start [] w
    go_enter Try.func11, Try.ntmps11
    go_wp2_with fail
    go_loop [3] (fun iv => ∃ k : Nat, k ≤ l.length ∧ iv = .int .i64 k ∧ Hid (∀ (j : Nat) (x : Pr), j < k → l[j]? = some x → ¬ (1000 < x.1.length ∨ 1000 < x.2.length))) (fun iv => l.length - (intOf iv).toNat)
    case atStart => exact ⟨0, by omega, rfl, Lib.hid (by omega)⟩
    case round =>
      obtain ⟨k, hk, rfl, HK⟩ := hrel
      by_cases hlt : k < l.length
      · obtain ⟨g, so, rfl⟩ := S.addr (by omega)
        obtain ⟨⟨a, b⟩, hx⟩ : ∃ x, l[k]? = some x := ⟨_, List.getElem?_eq_getElem hlt⟩
        obtain ⟨ha, hb⟩ := hm (a, b) (List.mem_of_getElem? hx)
        unfold maxLen at ha hb
        simp only at ha hb
        have HX := Lib.hid hx; clear hx
        by_cases h1 : 1000 < a.length
        · have e : R = true := HY.out k (a, b) HX.out (.inl h1)
          subst e
          go_wp2_with (first | ((with_reducible show wpList _ _ _ (Oper.mk _ (Op.load _ _) _ _ _ _ :: _) _ _); refine w_at _ _ rfl (by first | exact ev_tmp rfl | exact ev_const) ?_; intro hx; first | (refine w_seeA M S HX.out _ _ rfl hx rfl (by decide +kernel) (by first | (with_reducible rfl) | omega) (by kernel_rfl) ?_; clear hx; (try conv => arg 5; dsimp only [Act.put, List.setIfInBounds_toArray, List.set_cons_succ, List.set_cons_zero])) | (refine w_see M S HX.out _ _ rfl hx rfl (by decide +kernel) 0 (by first | (with_reducible rfl) | omega) rfl ?_; clear hx; (try conv => arg 5; dsimp only [Act.put, List.setIfInBounds_toArray, List.set_cons_succ, List.set_cons_zero])) | (refine w_see M S HX.out _ _ rfl hx rfl (by decide +kernel) 1 (by first | (with_reducible rfl) | omega) rfl ?_; clear hx; (try conv => arg 5; dsimp only [Act.put, List.setIfInBounds_toArray, List.set_cons_succ, List.set_cons_zero])) | (refine w_see M S HX.out _ _ rfl hx rfl (by decide +kernel) 2 (by first | (with_reducible rfl) | omega) rfl ?_; clear hx; (try conv => arg 5; dsimp only [Act.put, List.setIfInBounds_toArray, List.set_cons_succ, List.set_cons_zero]))) | ((with_reducible show wpList _ _ _ (Oper.mk _ _ _ _ _ (some _) :: _) _ _); first | refine w_strip rfl (by with_reducible rfl) ?_ | ((fail_if_success (refine w_lit false rfl (by with_reducible rfl) ?_)); (fail_if_success (refine w_lit true rfl (by with_reducible rfl) ?_)); refine w_case rfl ?_ ?_ <;> (intro hgd; rw [hgd]; try (exfalso; simp at hgd; omega)))) | ((with_reducible show wpList _ _ _ (Oper.mk _ (Op.convert 48 9 _) _ _ _ _ :: _) _ _); go_must (first | (refine w_stringW M 0 _ _ _ _ rfl rfl rfl rfl (by first | assumption | exact shaL_len _ | exact macL_len _ _ | exact words_len _ | exact List.length_replicate | (rw [List.length_set]; first | assumption | exact List.length_replicate) | rfl) (by decide) Try.underlying48 Try.underlying5 Try.underlying9 ?_; (try conv => arg 5; dsimp only [Act.put, List.setIfInBounds_toArray, List.set_cons_succ, List.set_cons_zero])) | (refine w_string M 0 _ _ _ _ rfl rfl rfl (by first | rfl | (simp; done) | assumption) rfl Try.underlying48 Try.underlying5 Try.underlying9 ?_; (try conv => arg 5; dsimp only [Act.put, List.setIfInBounds_toArray, List.set_cons_succ, List.set_cons_zero])))) | ((with_reducible show wpList _ _ _ (Oper.mk _ (Op.load _ _) _ _ _ _ :: _) _ _); go_must (refine w_at _ _ rfl (by first | exact ev_tmp rfl | exact ev_const) ?_; intro hx; first | (refine w_load M 0 _ _ rfl rfl hx rfl (by decide +kernel) rfl ?_; clear hx; (try conv => arg 5; dsimp only [Act.put, List.setIfInBounds_toArray, List.set_cons_succ, List.set_cons_zero])) | (refine w_loadB M 0 _ _ rfl rfl hx rfl (by decide +kernel) (by first | assumption | omega | (simp; omega)) ?_; clear hx; (try conv => arg 5; dsimp only [Act.put, List.setIfInBounds_toArray, List.set_cons_succ, List.set_cons_zero])) | (refine w_loadH M 0 _ _ rfl rfl hx rfl (by decide +kernel) (by first | assumption | exact shaL_len _ | exact macL_len _ _ | exact words_len _ | exact List.length_replicate | (rw [List.length_set]; first | assumption | exact List.length_replicate) | rfl) (by decide +kernel) ?_; clear hx; (try conv => arg 5; dsimp only [Act.put, List.setIfInBounds_toArray, List.set_cons_succ, List.set_cons_zero])) | (refine w_loadR M 0 _ _ rfl rfl hx rfl (by decide +kernel) (by kernel_rfl) ?_; clear hx; (try conv => arg 5; dsimp only [Act.put, List.setIfInBounds_toArray, List.set_cons_succ, List.set_cons_zero])))) | ((with_reducible show wpList _ _ _ (Oper.mk _ (Op.store _ _ _) _ _ _ _ :: _) _ _); go_must (refine w_at2 _ _ _ rfl (by first | exact ev_tmp rfl | exact ev_const) (by first | exact ev_tmp rfl | exact ev_const) ?_; intro hx hy; first | (refine w_storeB M 0 _ _ _ rfl rfl hx rfl hy (by decide +kernel) (by first | assumption | omega | (simp; omega)) ?_; clear hx hy M; intro w1 M; (try simp only [List.set_cons_zero] at M); (try conv => arg 5; dsimp only [Act.put, List.setIfInBounds_toArray, List.set_cons_succ, List.set_cons_zero])) | (refine w_storeH M 0 _ _ _ rfl rfl hx rfl hy (by first | assumption | exact shaL_len _ | exact macL_len _ _ | exact words_len _ | exact List.length_replicate | (rw [List.length_set]; first | assumption | exact List.length_replicate) | rfl) (by decide +kernel) (by first | assumption | exact shaL_len _ | exact macL_len _ _ | exact words_len _ | exact List.length_replicate | (rw [List.length_set]; first | assumption | exact List.length_replicate) | rfl) ?_; clear hx hy M; intro w1 M; (try simp only [List.set_cons_zero] at M); (try conv => arg 5; dsimp only [Act.put, List.setIfInBounds_toArray, List.set_cons_succ, List.set_cons_zero])) | (refine w_store M 0 _ _ _ rfl rfl hx rfl hy rfl rfl (by decide +kernel) (by first | decide | simp | (simp; omega)) ?_; clear hx hy M; intro w1 M; (try simp only [List.set_cons_zero] at M); (try conv => arg 5; dsimp only [Act.put, List.setIfInBounds_toArray, List.set_cons_succ, List.set_cons_zero])) | (refine w_storeR M 0 _ _ _ rfl rfl hx rfl _ hy rfl (by kernel_rfl) (by simp [Value.oneCell']) (by first | rfl | assumption) ?_; clear hx hy M; intro w1 M; (try simp only [List.set_cons_zero] at M); (try conv => arg 5; dsimp only [Act.put, List.setIfInBounds_toArray, List.set_cons_succ, List.set_cons_zero])))) | ((with_reducible show wpList _ _ _ (Oper.mk _ (Op.box _ _) _ _ _ _ :: _) _ _); (refine w_box M _ _ rfl rfl _ rfl _ rfl ?_; clear M; intro g w1 M; (try conv => arg 5; dsimp only [Act.put, List.setIfInBounds_toArray, List.set_cons_succ, List.set_cons_zero]))))
          go_ret
          exact ⟨rfl, rfl⟩
        · by_cases h2 : 1000 < b.length
          · have e : R = true := HY.out k (a, b) HX.out (.inr h2)
            subst e
            replace h1 : (a.length : Int) ≤ 1000 := by omega
            go_wp2_with (first | ((with_reducible show wpList _ _ _ (Oper.mk _ (Op.load _ _) _ _ _ _ :: _) _ _); refine w_at _ _ rfl (by first | exact ev_tmp rfl | exact ev_const) ?_; intro hx; first | (refine w_seeA M S HX.out _ _ rfl hx rfl (by decide +kernel) (by first | (with_reducible rfl) | omega) (by kernel_rfl) ?_; clear hx; (try conv => arg 5; dsimp only [Act.put, List.setIfInBounds_toArray, List.set_cons_succ, List.set_cons_zero])) | (refine w_see M S HX.out _ _ rfl hx rfl (by decide +kernel) 0 (by first | (with_reducible rfl) | omega) rfl ?_; clear hx; (try conv => arg 5; dsimp only [Act.put, List.setIfInBounds_toArray, List.set_cons_succ, List.set_cons_zero])) | (refine w_see M S HX.out _ _ rfl hx rfl (by decide +kernel) 1 (by first | (with_reducible rfl) | omega) rfl ?_; clear hx; (try conv => arg 5; dsimp only [Act.put, List.setIfInBounds_toArray, List.set_cons_succ, List.set_cons_zero])) | (refine w_see M S HX.out _ _ rfl hx rfl (by decide +kernel) 2 (by first | (with_reducible rfl) | omega) rfl ?_; clear hx; (try conv => arg 5; dsimp only [Act.put, List.setIfInBounds_toArray, List.set_cons_succ, List.set_cons_zero]))) | ((with_reducible show wpList _ _ _ (Oper.mk _ _ _ _ _ (some _) :: _) _ _); first | refine w_strip rfl (by with_reducible rfl) ?_ | ((fail_if_success (refine w_lit false rfl (by with_reducible rfl) ?_)); (fail_if_success (refine w_lit true rfl (by with_reducible rfl) ?_)); refine w_case rfl ?_ ?_ <;> (intro hgd; rw [hgd]; try (exfalso; simp at hgd; omega)))) | ((with_reducible show wpList _ _ _ (Oper.mk _ (Op.convert 48 9 _) _ _ _ _ :: _) _ _); go_must (first | (refine w_stringW M 0 _ _ _ _ rfl rfl rfl rfl (by first | assumption | exact shaL_len _ | exact macL_len _ _ | exact words_len _ | exact List.length_replicate | (rw [List.length_set]; first | assumption | exact List.length_replicate) | rfl) (by decide) Try.underlying48 Try.underlying5 Try.underlying9 ?_; (try conv => arg 5; dsimp only [Act.put, List.setIfInBounds_toArray, List.set_cons_succ, List.set_cons_zero])) | (refine w_string M 0 _ _ _ _ rfl rfl rfl (by first | rfl | (simp; done) | assumption) rfl Try.underlying48 Try.underlying5 Try.underlying9 ?_; (try conv => arg 5; dsimp only [Act.put, List.setIfInBounds_toArray, List.set_cons_succ, List.set_cons_zero])))) | ((with_reducible show wpList _ _ _ (Oper.mk _ (Op.load _ _) _ _ _ _ :: _) _ _); go_must (refine w_at _ _ rfl (by first | exact ev_tmp rfl | exact ev_const) ?_; intro hx; first | (refine w_load M 0 _ _ rfl rfl hx rfl (by decide +kernel) rfl ?_; clear hx; (try conv => arg 5; dsimp only [Act.put, List.setIfInBounds_toArray, List.set_cons_succ, List.set_cons_zero])) | (refine w_loadB M 0 _ _ rfl rfl hx rfl (by decide +kernel) (by first | assumption | omega | (simp; omega)) ?_; clear hx; (try conv => arg 5; dsimp only [Act.put, List.setIfInBounds_toArray, List.set_cons_succ, List.set_cons_zero])) | (refine w_loadH M 0 _ _ rfl rfl hx rfl (by decide +kernel) (by first | assumption | exact shaL_len _ | exact macL_len _ _ | exact words_len _ | exact List.length_replicate | (rw [List.length_set]; first | assumption | exact List.length_replicate) | rfl) (by decide +kernel) ?_; clear hx; (try conv => arg 5; dsimp only [Act.put, List.setIfInBounds_toArray, List.set_cons_succ, List.set_cons_zero])) | (refine w_loadR M 0 _ _ rfl rfl hx rfl (by decide +kernel) (by kernel_rfl) ?_; clear hx; (try conv => arg 5; dsimp only [Act.put, List.setIfInBounds_toArray, List.set_cons_succ, List.set_cons_zero])))) | ((with_reducible show wpList _ _ _ (Oper.mk _ (Op.store _ _ _) _ _ _ _ :: _) _ _); go_must (refine w_at2 _ _ _ rfl (by first | exact ev_tmp rfl | exact ev_const) (by first | exact ev_tmp rfl | exact ev_const) ?_; intro hx hy; first | (refine w_storeB M 0 _ _ _ rfl rfl hx rfl hy (by decide +kernel) (by first | assumption | omega | (simp; omega)) ?_; clear hx hy M; intro w1 M; (try simp only [List.set_cons_zero] at M); (try conv => arg 5; dsimp only [Act.put, List.setIfInBounds_toArray, List.set_cons_succ, List.set_cons_zero])) | (refine w_storeH M 0 _ _ _ rfl rfl hx rfl hy (by first | assumption | exact shaL_len _ | exact macL_len _ _ | exact words_len _ | exact List.length_replicate | (rw [List.length_set]; first | assumption | exact List.length_replicate) | rfl) (by decide +kernel) (by first | assumption | exact shaL_len _ | exact macL_len _ _ | exact words_len _ | exact List.length_replicate | (rw [List.length_set]; first | assumption | exact List.length_replicate) | rfl) ?_; clear hx hy M; intro w1 M; (try simp only [List.set_cons_zero] at M); (try conv => arg 5; dsimp only [Act.put, List.setIfInBounds_toArray, List.set_cons_succ, List.set_cons_zero])) | (refine w_store M 0 _ _ _ rfl rfl hx rfl hy rfl rfl (by decide +kernel) (by first | decide | simp | (simp; omega)) ?_; clear hx hy M; intro w1 M; (try simp only [List.set_cons_zero] at M); (try conv => arg 5; dsimp only [Act.put, List.setIfInBounds_toArray, List.set_cons_succ, List.set_cons_zero])) | (refine w_storeR M 0 _ _ _ rfl rfl hx rfl _ hy rfl (by kernel_rfl) (by simp [Value.oneCell']) (by first | rfl | assumption) ?_; clear hx hy M; intro w1 M; (try simp only [List.set_cons_zero] at M); (try conv => arg 5; dsimp only [Act.put, List.setIfInBounds_toArray, List.set_cons_succ, List.set_cons_zero])))) | ((with_reducible show wpList _ _ _ (Oper.mk _ (Op.box _ _) _ _ _ _ :: _) _ _); (refine w_box M _ _ rfl rfl _ rfl _ rfl ?_; clear M; intro g w1 M; (try conv => arg 5; dsimp only [Act.put, List.setIfInBounds_toArray, List.set_cons_succ, List.set_cons_zero]))))
            go_ret
            exact ⟨rfl, rfl⟩
          · replace h1 : (a.length : Int) ≤ 1000 := by omega
            replace h2 : (b.length : Int) ≤ 1000 := by omega
            go_wp2_with (first | ((with_reducible show wpList _ _ _ (Oper.mk _ (Op.load _ _) _ _ _ _ :: _) _ _); refine w_at _ _ rfl (by first | exact ev_tmp rfl | exact ev_const) ?_; intro hx; first | (refine w_seeA M S HX.out _ _ rfl hx rfl (by decide +kernel) (by first | (with_reducible rfl) | omega) (by kernel_rfl) ?_; clear hx; (try conv => arg 5; dsimp only [Act.put, List.setIfInBounds_toArray, List.set_cons_succ, List.set_cons_zero])) | (refine w_see M S HX.out _ _ rfl hx rfl (by decide +kernel) 0 (by first | (with_reducible rfl) | omega) rfl ?_; clear hx; (try conv => arg 5; dsimp only [Act.put, List.setIfInBounds_toArray, List.set_cons_succ, List.set_cons_zero])) | (refine w_see M S HX.out _ _ rfl hx rfl (by decide +kernel) 1 (by first | (with_reducible rfl) | omega) rfl ?_; clear hx; (try conv => arg 5; dsimp only [Act.put, List.setIfInBounds_toArray, List.set_cons_succ, List.set_cons_zero])) | (refine w_see M S HX.out _ _ rfl hx rfl (by decide +kernel) 2 (by first | (with_reducible rfl) | omega) rfl ?_; clear hx; (try conv => arg 5; dsimp only [Act.put, List.setIfInBounds_toArray, List.set_cons_succ, List.set_cons_zero]))) | ((with_reducible show wpList _ _ _ (Oper.mk _ _ _ _ _ (some _) :: _) _ _); first | refine w_strip rfl (by with_reducible rfl) ?_ | ((fail_if_success (refine w_lit false rfl (by with_reducible rfl) ?_)); (fail_if_success (refine w_lit true rfl (by with_reducible rfl) ?_)); refine w_case rfl ?_ ?_ <;> (intro hgd; rw [hgd]; try (exfalso; simp at hgd; omega)))) | ((with_reducible show wpList _ _ _ (Oper.mk _ (Op.convert 48 9 _) _ _ _ _ :: _) _ _); go_must (first | (refine w_stringW M 0 _ _ _ _ rfl rfl rfl rfl (by first | assumption | exact shaL_len _ | exact macL_len _ _ | exact words_len _ | exact List.length_replicate | (rw [List.length_set]; first | assumption | exact List.length_replicate) | rfl) (by decide) Try.underlying48 Try.underlying5 Try.underlying9 ?_; (try conv => arg 5; dsimp only [Act.put, List.setIfInBounds_toArray, List.set_cons_succ, List.set_cons_zero])) | (refine w_string M 0 _ _ _ _ rfl rfl rfl (by first | rfl | (simp; done) | assumption) rfl Try.underlying48 Try.underlying5 Try.underlying9 ?_; (try conv => arg 5; dsimp only [Act.put, List.setIfInBounds_toArray, List.set_cons_succ, List.set_cons_zero])))) | ((with_reducible show wpList _ _ _ (Oper.mk _ (Op.load _ _) _ _ _ _ :: _) _ _); go_must (refine w_at _ _ rfl (by first | exact ev_tmp rfl | exact ev_const) ?_; intro hx; first | (refine w_load M 0 _ _ rfl rfl hx rfl (by decide +kernel) rfl ?_; clear hx; (try conv => arg 5; dsimp only [Act.put, List.setIfInBounds_toArray, List.set_cons_succ, List.set_cons_zero])) | (refine w_loadB M 0 _ _ rfl rfl hx rfl (by decide +kernel) (by first | assumption | omega | (simp; omega)) ?_; clear hx; (try conv => arg 5; dsimp only [Act.put, List.setIfInBounds_toArray, List.set_cons_succ, List.set_cons_zero])) | (refine w_loadH M 0 _ _ rfl rfl hx rfl (by decide +kernel) (by first | assumption | exact shaL_len _ | exact macL_len _ _ | exact words_len _ | exact List.length_replicate | (rw [List.length_set]; first | assumption | exact List.length_replicate) | rfl) (by decide +kernel) ?_; clear hx; (try conv => arg 5; dsimp only [Act.put, List.setIfInBounds_toArray, List.set_cons_succ, List.set_cons_zero])) | (refine w_loadR M 0 _ _ rfl rfl hx rfl (by decide +kernel) (by kernel_rfl) ?_; clear hx; (try conv => arg 5; dsimp only [Act.put, List.setIfInBounds_toArray, List.set_cons_succ, List.set_cons_zero])))) | ((with_reducible show wpList _ _ _ (Oper.mk _ (Op.store _ _ _) _ _ _ _ :: _) _ _); go_must (refine w_at2 _ _ _ rfl (by first | exact ev_tmp rfl | exact ev_const) (by first | exact ev_tmp rfl | exact ev_const) ?_; intro hx hy; first | (refine w_storeB M 0 _ _ _ rfl rfl hx rfl hy (by decide +kernel) (by first | assumption | omega | (simp; omega)) ?_; clear hx hy M; intro w1 M; (try simp only [List.set_cons_zero] at M); (try conv => arg 5; dsimp only [Act.put, List.setIfInBounds_toArray, List.set_cons_succ, List.set_cons_zero])) | (refine w_storeH M 0 _ _ _ rfl rfl hx rfl hy (by first | assumption | exact shaL_len _ | exact macL_len _ _ | exact words_len _ | exact List.length_replicate | (rw [List.length_set]; first | assumption | exact List.length_replicate) | rfl) (by decide +kernel) (by first | assumption | exact shaL_len _ | exact macL_len _ _ | exact words_len _ | exact List.length_replicate | (rw [List.length_set]; first | assumption | exact List.length_replicate) | rfl) ?_; clear hx hy M; intro w1 M; (try simp only [List.set_cons_zero] at M); (try conv => arg 5; dsimp only [Act.put, List.setIfInBounds_toArray, List.set_cons_succ, List.set_cons_zero])) | (refine w_store M 0 _ _ _ rfl rfl hx rfl hy rfl rfl (by decide +kernel) (by first | decide | simp | (simp; omega)) ?_; clear hx hy M; intro w1 M; (try simp only [List.set_cons_zero] at M); (try conv => arg 5; dsimp only [Act.put, List.setIfInBounds_toArray, List.set_cons_succ, List.set_cons_zero])) | (refine w_storeR M 0 _ _ _ rfl rfl hx rfl _ hy rfl (by kernel_rfl) (by simp [Value.oneCell']) (by first | rfl | assumption) ?_; clear hx hy M; intro w1 M; (try simp only [List.set_cons_zero] at M); (try conv => arg 5; dsimp only [Act.put, List.setIfInBounds_toArray, List.set_cons_succ, List.set_cons_zero])))) | ((with_reducible show wpList _ _ _ (Oper.mk _ (Op.box _ _) _ _ _ _ :: _) _ _); (refine w_box M _ _ rfl rfl _ rfl _ rfl ?_; clear M; intro g w1 M; (try conv => arg 5; dsimp only [Act.put, List.setIfInBounds_toArray, List.set_cons_succ, List.set_cons_zero]))))
            go_round
            case rel => exact ⟨k + 1, by omega, by go_num, Lib.hid fun j x hj hx => by
              rcases Nat.lt_succ_iff_lt_or_eq.1 hj with hj | rfl
              · exact HK.out j x hj hx
              · have := HX.out; rw [hx] at this; cases this; simp only; omega⟩
            case measure => simp [intOf]; omega
      · obtain rfl : k = l.length := by omega
        have e : R = false := HN.out fun j x hx => HK.out j x (List.getElem?_eq_some_iff.1 hx).1 hx
        subst e
        go_wp2_with fail
        go_ret
        exact ⟨rfl, rfl⟩
set_option maxHeartbeats 2000000 in
theorem Same13_c (l m : List Pr) (v u : Value) (w : World) (S : SeesL w 2 prV v l) (T : SeesL w 2 prV u m) (hl : l.length ≤ 1000000) (hm : m.length ≤ 1000000) :
    Calls Try.prog 18 #[v, u] w fun e w' => e = .returned (.bool (l == m)) ∧ Below w.heap.size w w' := by
  obtain ⟨p, cap, rfl, hc⟩ := S.form
  obtain ⟨q, cap', rfl, hc'⟩ := T.form
  have hne : ∀ (k : Nat) (x y : Pr), l[k]? = some x → m[k]? = some y → x ≠ y → (l == m) = false := fun k x y h1 h2 h => by
    rw [beq_eq_false_iff_ne]; rintro rfl; rw [h1] at h2; cases h2; exact h rfl
  have heq : l.length = m.length → (∀ (k : Nat), k < l.length → l[k]? = m[k]?) → (l == m) = true := fun h0 h => by
    rw [beq_iff_eq]
    apply List.ext_getElem?
    intro k
    by_cases hk : k < l.length
    · exact h k hk
    · rw [List.getElem?_eq_none (by omega), List.getElem?_eq_none (by omega)]
  have hln : l.length ≠ m.length → (l == m) = false := fun h => by
    rw [beq_eq_false_iff_ne]; rintro rfl; exact h rfl
  obtain ⟨R, eR⟩ : ∃ R, R = (l == m) := ⟨_, rfl⟩
  rw [← eR] at hne heq hln ⊢
  replace hne := Lib.hid hne
  replace heq := Lib.hid heq
  replace hln := Lib.hid hln
  clear eR
  have M := Mem.start [] w
  by_cases hn : l.length = m.length
  · have hq : ((l.length : Int) != (m.length : Int)) = false := by simp; omega
    go_enter Try.func18, Try.ntmps18
    replace hn := Lib.hid hn
    go_wp2_with fail
    go_loopw [5] (fun iv wr => ∃ k : Nat, k ≤ l.length ∧ iv = .int .i64 k ∧ Hid (∀ (j : Nat), j < k → l[j]? = m[j]?) ∧ Mem [] w wr []) (fun iv _ => l.length - (intOf iv).toNat)
    case atStart => exact ⟨0, by omega, rfl, Lib.hid (by omega), M⟩
    case round =>
      clear M
      obtain ⟨k, hk, rfl, HK, M⟩ := hrel
      by_cases hlt : k < l.length
      · obtain ⟨g, so, rfl⟩ := S.addr (by omega)
        obtain ⟨g', so', rfl⟩ := T.addr (by have := hn.out; omega)
        have hkm : k < m.length := by have := hn.out; omega
        obtain ⟨⟨a, b⟩, hx⟩ : ∃ x, l[k]? = some x := ⟨_, List.getElem?_eq_getElem hlt⟩
        obtain ⟨⟨c, d⟩, hy⟩ : ∃ x, m[k]? = some x := ⟨_, List.getElem?_eq_getElem hkm⟩
        have HX := Lib.hid hx; clear hx
        have HY := Lib.hid hy; clear hy
        by_cases hab : (a, b) = (c, d)
        · simp only [Prod.mk.injEq] at hab
          obtain ⟨rfl, rfl⟩ := hab
          go_wp2_with (first | ((with_reducible show wpList _ _ _ (Oper.mk _ (Op.load _ _) _ _ _ _ :: _) _ _); refine w_at _ _ rfl (by first | exact ev_tmp rfl | exact ev_const) ?_; intro hx; first | (refine w_seeA M S HX.out _ _ rfl hx rfl (by decide +kernel) (by first | (with_reducible rfl) | omega) (by kernel_rfl) ?_; clear hx; (try conv => arg 5; dsimp only [Act.put, List.setIfInBounds_toArray, List.set_cons_succ, List.set_cons_zero])) | (refine w_see M S HX.out _ _ rfl hx rfl (by decide +kernel) 0 (by first | (with_reducible rfl) | omega) rfl ?_; clear hx; (try conv => arg 5; dsimp only [Act.put, List.setIfInBounds_toArray, List.set_cons_succ, List.set_cons_zero])) | (refine w_see M S HX.out _ _ rfl hx rfl (by decide +kernel) 1 (by first | (with_reducible rfl) | omega) rfl ?_; clear hx; (try conv => arg 5; dsimp only [Act.put, List.setIfInBounds_toArray, List.set_cons_succ, List.set_cons_zero])) | (refine w_see M S HX.out _ _ rfl hx rfl (by decide +kernel) 2 (by first | (with_reducible rfl) | omega) rfl ?_; clear hx; (try conv => arg 5; dsimp only [Act.put, List.setIfInBounds_toArray, List.set_cons_succ, List.set_cons_zero])) | (refine w_seeA M T HY.out _ _ rfl hx rfl (by decide +kernel) (by first | (with_reducible rfl) | omega) (by kernel_rfl) ?_; clear hx; (try conv => arg 5; dsimp only [Act.put, List.setIfInBounds_toArray, List.set_cons_succ, List.set_cons_zero])) | (refine w_see M T HY.out _ _ rfl hx rfl (by decide +kernel) 0 (by first | (with_reducible rfl) | omega) rfl ?_; clear hx; (try conv => arg 5; dsimp only [Act.put, List.setIfInBounds_toArray, List.set_cons_succ, List.set_cons_zero])) | (refine w_see M T HY.out _ _ rfl hx rfl (by decide +kernel) 1 (by first | (with_reducible rfl) | omega) rfl ?_; clear hx; (try conv => arg 5; dsimp only [Act.put, List.setIfInBounds_toArray, List.set_cons_succ, List.set_cons_zero])) | (refine w_see M T HY.out _ _ rfl hx rfl (by decide +kernel) 2 (by first | (with_reducible rfl) | omega) rfl ?_; clear hx; (try conv => arg 5; dsimp only [Act.put, List.setIfInBounds_toArray, List.set_cons_succ, List.set_cons_zero]))) | ((with_reducible show Code.wp _ (Code.region 6 _ _) _ _ _); go_must (refine region_det [(0, false), (1, false), (2, false), (4, false), (5, false), (6, false), (3, false), (7, false), (8, false)] [(20, .cells), (24, .cells)] (by kernel_rfl) (by kernel_rfl) rfl (by kernel_rfl) ?_; replace M := M.drew; simp only [reord, opAt, List.map_cons, List.map_nil, List.getElem?_toArray, List.getElem?_cons_zero, List.getElem?_cons_succ, Option.getD_some])) | ((with_reducible show Seg _ _ _ _); go_must (first | refine Seg.intro ⟨fun h => absurd rfl h, ?_⟩ | refine Seg.intro ⟨fun _ => (by repeat' (first | exact ixOk_nil M.kept | refine ixOk_cons rfl (by first | exact M.ok 0 _ rfl | exact M.ok 1 _ rfl | exact M.ok 2 _ rfl) ?_)), ?_⟩ | refine Seg.intro ⟨(by repeat' (first | (with_reducible exact needs_nil) | refine needs_at rfl (by first | (show Shape.ok Shape.nums _ = true; exact nums_bs _) | rfl) ?_)), (by repeat' (first | (with_reducible exact ats_nil) | refine ats_cons (by first | exact ev_tmp rfl | rfl) ?_)), ?_⟩)) | ((with_reducible show OnlyN _ _ _ _ _); refine OnlyN.intro (by kernel_rfl) ?_) | ((with_reducible show wpList _ _ _ (Oper.mk _ _ _ _ _ (some _) :: _) _ _); first | refine w_strip rfl (by with_reducible rfl) ?_ | ((fail_if_success (refine w_lit false rfl (by with_reducible rfl) ?_)); (fail_if_success (refine w_lit true rfl (by with_reducible rfl) ?_)); refine w_case rfl ?_ ?_ <;> (intro hgd; rw [hgd]; try (exfalso; simp at hgd; omega)))) | ((with_reducible show wpList _ _ _ (Oper.mk _ (Op.convert 48 9 _) _ _ _ _ :: _) _ _); go_must (first | (refine w_stringW M 0 _ _ _ _ rfl rfl rfl rfl (by first | assumption | exact shaL_len _ | exact macL_len _ _ | exact words_len _ | exact List.length_replicate | (rw [List.length_set]; first | assumption | exact List.length_replicate) | rfl) (by decide) Try.underlying48 Try.underlying5 Try.underlying9 ?_; (try conv => arg 5; dsimp only [Act.put, List.setIfInBounds_toArray, List.set_cons_succ, List.set_cons_zero])) | (refine w_string M 0 _ _ _ _ rfl rfl rfl (by first | rfl | (simp; done) | assumption) rfl Try.underlying48 Try.underlying5 Try.underlying9 ?_; (try conv => arg 5; dsimp only [Act.put, List.setIfInBounds_toArray, List.set_cons_succ, List.set_cons_zero])))) | ((with_reducible show wpList _ _ _ (Oper.mk _ (Op.load _ _) _ _ _ _ :: _) _ _); go_must (refine w_at _ _ rfl (by first | exact ev_tmp rfl | exact ev_const) ?_; intro hx; first | (refine w_load M 0 _ _ rfl rfl hx rfl (by decide +kernel) rfl ?_; clear hx; (try conv => arg 5; dsimp only [Act.put, List.setIfInBounds_toArray, List.set_cons_succ, List.set_cons_zero])) | (refine w_loadB M 0 _ _ rfl rfl hx rfl (by decide +kernel) (by first | assumption | omega | (simp; omega)) ?_; clear hx; (try conv => arg 5; dsimp only [Act.put, List.setIfInBounds_toArray, List.set_cons_succ, List.set_cons_zero])) | (refine w_loadH M 0 _ _ rfl rfl hx rfl (by decide +kernel) (by first | assumption | exact shaL_len _ | exact macL_len _ _ | exact words_len _ | exact List.length_replicate | (rw [List.length_set]; first | assumption | exact List.length_replicate) | rfl) (by decide +kernel) ?_; clear hx; (try conv => arg 5; dsimp only [Act.put, List.setIfInBounds_toArray, List.set_cons_succ, List.set_cons_zero])) | (refine w_loadR M 0 _ _ rfl rfl hx rfl (by decide +kernel) (by kernel_rfl) ?_; clear hx; (try conv => arg 5; dsimp only [Act.put, List.setIfInBounds_toArray, List.set_cons_succ, List.set_cons_zero])))) | ((with_reducible show wpList _ _ _ (Oper.mk _ (Op.store _ _ _) _ _ _ _ :: _) _ _); go_must (refine w_at2 _ _ _ rfl (by first | exact ev_tmp rfl | exact ev_const) (by first | exact ev_tmp rfl | exact ev_const) ?_; intro hx hy; first | (refine w_storeB M 0 _ _ _ rfl rfl hx rfl hy (by decide +kernel) (by first | assumption | omega | (simp; omega)) ?_; clear hx hy M; intro w1 M; (try simp only [List.set_cons_zero] at M); (try conv => arg 5; dsimp only [Act.put, List.setIfInBounds_toArray, List.set_cons_succ, List.set_cons_zero])) | (refine w_storeH M 0 _ _ _ rfl rfl hx rfl hy (by first | assumption | exact shaL_len _ | exact macL_len _ _ | exact words_len _ | exact List.length_replicate | (rw [List.length_set]; first | assumption | exact List.length_replicate) | rfl) (by decide +kernel) (by first | assumption | exact shaL_len _ | exact macL_len _ _ | exact words_len _ | exact List.length_replicate | (rw [List.length_set]; first | assumption | exact List.length_replicate) | rfl) ?_; clear hx hy M; intro w1 M; (try simp only [List.set_cons_zero] at M); (try conv => arg 5; dsimp only [Act.put, List.setIfInBounds_toArray, List.set_cons_succ, List.set_cons_zero])) | (refine w_store M 0 _ _ _ rfl rfl hx rfl hy rfl rfl (by decide +kernel) (by first | decide | simp | (simp; omega)) ?_; clear hx hy M; intro w1 M; (try simp only [List.set_cons_zero] at M); (try conv => arg 5; dsimp only [Act.put, List.setIfInBounds_toArray, List.set_cons_succ, List.set_cons_zero])) | (refine w_storeR M 0 _ _ _ rfl rfl hx rfl _ hy rfl (by kernel_rfl) (by simp [Value.oneCell']) (by first | rfl | assumption) ?_; clear hx hy M; intro w1 M; (try simp only [List.set_cons_zero] at M); (try conv => arg 5; dsimp only [Act.put, List.setIfInBounds_toArray, List.set_cons_succ, List.set_cons_zero])))) | ((with_reducible show wpList _ _ _ (Oper.mk _ (Op.box _ _) _ _ _ _ :: _) _ _); (refine w_box M _ _ rfl rfl _ rfl _ rfl ?_; clear M; intro g w1 M; (try conv => arg 5; dsimp only [Act.put, List.setIfInBounds_toArray, List.set_cons_succ, List.set_cons_zero]))))
          go_roundw
          case rel => exact ⟨k + 1, by omega, by go_num, Lib.hid fun j hj => by
            rcases Nat.lt_succ_iff_lt_or_eq.1 hj with hj | rfl
            · exact HK.out j hj
            · exact HX.out.trans HY.out.symm, M⟩
          case measure => simp [intOf]; omega
        · have e : R = false := hne.out k _ _ HX.out HY.out hab
          subst e
          go_wp2_with (first | ((with_reducible show wpList _ _ _ (Oper.mk _ (Op.load _ _) _ _ _ _ :: _) _ _); refine w_at _ _ rfl (by first | exact ev_tmp rfl | exact ev_const) ?_; intro hx; first | (refine w_seeA M S HX.out _ _ rfl hx rfl (by decide +kernel) (by first | (with_reducible rfl) | omega) (by kernel_rfl) ?_; clear hx; (try conv => arg 5; dsimp only [Act.put, List.setIfInBounds_toArray, List.set_cons_succ, List.set_cons_zero])) | (refine w_see M S HX.out _ _ rfl hx rfl (by decide +kernel) 0 (by first | (with_reducible rfl) | omega) rfl ?_; clear hx; (try conv => arg 5; dsimp only [Act.put, List.setIfInBounds_toArray, List.set_cons_succ, List.set_cons_zero])) | (refine w_see M S HX.out _ _ rfl hx rfl (by decide +kernel) 1 (by first | (with_reducible rfl) | omega) rfl ?_; clear hx; (try conv => arg 5; dsimp only [Act.put, List.setIfInBounds_toArray, List.set_cons_succ, List.set_cons_zero])) | (refine w_see M S HX.out _ _ rfl hx rfl (by decide +kernel) 2 (by first | (with_reducible rfl) | omega) rfl ?_; clear hx; (try conv => arg 5; dsimp only [Act.put, List.setIfInBounds_toArray, List.set_cons_succ, List.set_cons_zero])) | (refine w_seeA M T HY.out _ _ rfl hx rfl (by decide +kernel) (by first | (with_reducible rfl) | omega) (by kernel_rfl) ?_; clear hx; (try conv => arg 5; dsimp only [Act.put, List.setIfInBounds_toArray, List.set_cons_succ, List.set_cons_zero])) | (refine w_see M T HY.out _ _ rfl hx rfl (by decide +kernel) 0 (by first | (with_reducible rfl) | omega) rfl ?_; clear hx; (try conv => arg 5; dsimp only [Act.put, List.setIfInBounds_toArray, List.set_cons_succ, List.set_cons_zero])) | (refine w_see M T HY.out _ _ rfl hx rfl (by decide +kernel) 1 (by first | (with_reducible rfl) | omega) rfl ?_; clear hx; (try conv => arg 5; dsimp only [Act.put, List.setIfInBounds_toArray, List.set_cons_succ, List.set_cons_zero])) | (refine w_see M T HY.out _ _ rfl hx rfl (by decide +kernel) 2 (by first | (with_reducible rfl) | omega) rfl ?_; clear hx; (try conv => arg 5; dsimp only [Act.put, List.setIfInBounds_toArray, List.set_cons_succ, List.set_cons_zero]))) | ((with_reducible show Code.wp _ (Code.region 6 _ _) _ _ _); go_must (refine region_det [(0, false), (1, false), (2, false), (4, false), (5, false), (6, false), (3, false), (7, false), (8, false)] [(20, .cells), (24, .cells)] (by kernel_rfl) (by kernel_rfl) rfl (by kernel_rfl) ?_; replace M := M.drew; simp only [reord, opAt, List.map_cons, List.map_nil, List.getElem?_toArray, List.getElem?_cons_zero, List.getElem?_cons_succ, Option.getD_some])) | ((with_reducible show Seg _ _ _ _); go_must (first | refine Seg.intro ⟨fun h => absurd rfl h, ?_⟩ | refine Seg.intro ⟨fun _ => (by repeat' (first | exact ixOk_nil M.kept | refine ixOk_cons rfl (by first | exact M.ok 0 _ rfl | exact M.ok 1 _ rfl | exact M.ok 2 _ rfl) ?_)), ?_⟩ | refine Seg.intro ⟨(by repeat' (first | (with_reducible exact needs_nil) | refine needs_at rfl (by first | (show Shape.ok Shape.nums _ = true; exact nums_bs _) | rfl) ?_)), (by repeat' (first | (with_reducible exact ats_nil) | refine ats_cons (by first | exact ev_tmp rfl | rfl) ?_)), ?_⟩)) | ((with_reducible show OnlyN _ _ _ _ _); refine OnlyN.intro (by kernel_rfl) ?_) | ((with_reducible show wpList _ _ _ (Oper.mk _ _ _ _ _ (some _) :: _) _ _); first | refine w_strip rfl (by with_reducible rfl) ?_ | ((fail_if_success (refine w_lit false rfl (by with_reducible rfl) ?_)); (fail_if_success (refine w_lit true rfl (by with_reducible rfl) ?_)); refine w_case rfl ?_ ?_ <;> (intro hgd; rw [hgd]; try (exfalso; simp at hgd; omega)))) | ((with_reducible show wpList _ _ _ (Oper.mk _ (Op.convert 48 9 _) _ _ _ _ :: _) _ _); go_must (first | (refine w_stringW M 0 _ _ _ _ rfl rfl rfl rfl (by first | assumption | exact shaL_len _ | exact macL_len _ _ | exact words_len _ | exact List.length_replicate | (rw [List.length_set]; first | assumption | exact List.length_replicate) | rfl) (by decide) Try.underlying48 Try.underlying5 Try.underlying9 ?_; (try conv => arg 5; dsimp only [Act.put, List.setIfInBounds_toArray, List.set_cons_succ, List.set_cons_zero])) | (refine w_string M 0 _ _ _ _ rfl rfl rfl (by first | rfl | (simp; done) | assumption) rfl Try.underlying48 Try.underlying5 Try.underlying9 ?_; (try conv => arg 5; dsimp only [Act.put, List.setIfInBounds_toArray, List.set_cons_succ, List.set_cons_zero])))) | ((with_reducible show wpList _ _ _ (Oper.mk _ (Op.load _ _) _ _ _ _ :: _) _ _); go_must (refine w_at _ _ rfl (by first | exact ev_tmp rfl | exact ev_const) ?_; intro hx; first | (refine w_load M 0 _ _ rfl rfl hx rfl (by decide +kernel) rfl ?_; clear hx; (try conv => arg 5; dsimp only [Act.put, List.setIfInBounds_toArray, List.set_cons_succ, List.set_cons_zero])) | (refine w_loadB M 0 _ _ rfl rfl hx rfl (by decide +kernel) (by first | assumption | omega | (simp; omega)) ?_; clear hx; (try conv => arg 5; dsimp only [Act.put, List.setIfInBounds_toArray, List.set_cons_succ, List.set_cons_zero])) | (refine w_loadH M 0 _ _ rfl rfl hx rfl (by decide +kernel) (by first | assumption | exact shaL_len _ | exact macL_len _ _ | exact words_len _ | exact List.length_replicate | (rw [List.length_set]; first | assumption | exact List.length_replicate) | rfl) (by decide +kernel) ?_; clear hx; (try conv => arg 5; dsimp only [Act.put, List.setIfInBounds_toArray, List.set_cons_succ, List.set_cons_zero])) | (refine w_loadR M 0 _ _ rfl rfl hx rfl (by decide +kernel) (by kernel_rfl) ?_; clear hx; (try conv => arg 5; dsimp only [Act.put, List.setIfInBounds_toArray, List.set_cons_succ, List.set_cons_zero])))) | ((with_reducible show wpList _ _ _ (Oper.mk _ (Op.store _ _ _) _ _ _ _ :: _) _ _); go_must (refine w_at2 _ _ _ rfl (by first | exact ev_tmp rfl | exact ev_const) (by first | exact ev_tmp rfl | exact ev_const) ?_; intro hx hy; first | (refine w_storeB M 0 _ _ _ rfl rfl hx rfl hy (by decide +kernel) (by first | assumption | omega | (simp; omega)) ?_; clear hx hy M; intro w1 M; (try simp only [List.set_cons_zero] at M); (try conv => arg 5; dsimp only [Act.put, List.setIfInBounds_toArray, List.set_cons_succ, List.set_cons_zero])) | (refine w_storeH M 0 _ _ _ rfl rfl hx rfl hy (by first | assumption | exact shaL_len _ | exact macL_len _ _ | exact words_len _ | exact List.length_replicate | (rw [List.length_set]; first | assumption | exact List.length_replicate) | rfl) (by decide +kernel) (by first | assumption | exact shaL_len _ | exact macL_len _ _ | exact words_len _ | exact List.length_replicate | (rw [List.length_set]; first | assumption | exact List.length_replicate) | rfl) ?_; clear hx hy M; intro w1 M; (try simp only [List.set_cons_zero] at M); (try conv => arg 5; dsimp only [Act.put, List.setIfInBounds_toArray, List.set_cons_succ, List.set_cons_zero])) | (refine w_store M 0 _ _ _ rfl rfl hx rfl hy rfl rfl (by decide +kernel) (by first | decide | simp | (simp; omega)) ?_; clear hx hy M; intro w1 M; (try simp only [List.set_cons_zero] at M); (try conv => arg 5; dsimp only [Act.put, List.setIfInBounds_toArray, List.set_cons_succ, List.set_cons_zero])) | (refine w_storeR M 0 _ _ _ rfl rfl hx rfl _ hy rfl (by kernel_rfl) (by simp [Value.oneCell']) (by first | rfl | assumption) ?_; clear hx hy M; intro w1 M; (try simp only [List.set_cons_zero] at M); (try conv => arg 5; dsimp only [Act.put, List.setIfInBounds_toArray, List.set_cons_succ, List.set_cons_zero])))) | ((with_reducible show wpList _ _ _ (Oper.mk _ (Op.box _ _) _ _ _ _ :: _) _ _); (refine w_box M _ _ rfl rfl _ rfl _ rfl ?_; clear M; intro g w1 M; (try conv => arg 5; dsimp only [Act.put, List.setIfInBounds_toArray, List.set_cons_succ, List.set_cons_zero]))))
          all_goals (first | exact absurd (Prod.ext ‹a = c› ‹b = d›) hab | (go_ret; exact ⟨rfl, M.below⟩))
      · obtain rfl : k = l.length := by omega
        have e : R = true := heq.out hn.out HK.out
        subst e
        have hkm : ¬ l.length < m.length := by have := hn.out; omega
        go_wp2_with fail
        go_ret
        exact ⟨rfl, M.below⟩
  · have e : R = false := hln.out hn
    subst e
    have hq : ((l.length : Int) != (m.length : Int)) = true := by simp; omega
    go_enter Try.func18, Try.ntmps18
    go_wp2_with fail
    go_ret
    exact ⟨rfl, M.below⟩
end Go.Proofs.Ytjmhjkgcdglpaaa

/- Plain laws of layer 14 (bucket): which pairs may be, a page's bytes, and how they are read. No program in this text. No conditions but those each lemma names. -/
namespace Go
namespace TL
theorem readN_le (s : List UInt8) (m : Nat) : (readN s m).2.1 ≤ s.length ∧ (readN s m).2.1 ≤ 10 ∧ (readN s m).1 ≤ m := read_le (s := s) (most := m) rfl
/-- A path's bucket. -/
def ofL (p : List UInt8) : Nat := ((shaL p).getD 0 0).toNat / 16
/-- Those of a bucket. -/
def partL (l : List Pr) (i : Int) : List Pr := l.filter fun x => (ofL x.1 : Int) == i
def okP (x : Pr) : Bool := (cutL x.1).2.2 && decide (x.2.length ≤ 32)
def mayAt (l : List Pr) (k : Nat) : Bool := okP (l.getD k ([], [])) && (k == 0 || Op.bytesLess (l.getD (k - 1) ([], [])).1 (l.getD k ([], [])).1)
/-- May pairs be? -/
def mayL (l : List Pr) : Bool := (List.range l.length).all (mayAt l)
theorem may_bad {l : List Pr} {k : Nat} (h : k < l.length) (hb : mayAt l k = false) : mayL l = false := by
  unfold mayL; rw [List.all_eq_false]; exact ⟨k, List.mem_range.2 h, by simpa using hb⟩
theorem may_good {l : List Pr} (h : ∀ k, k < l.length → mayAt l k = true) : mayL l = true := by
  unfold mayL; rw [List.all_eq_true]; exact fun k hk => h k (List.mem_range.1 hk)
theorem may_at {l : List Pr} (h : mayL l = true) {k : Nat} (hk : k < l.length) : mayAt l k = true := by
  unfold mayL at h; rw [List.all_eq_true] at h; exact h k (List.mem_range.2 hk)
def pairB (x : Pr) : List UInt8 := textL x.1 ++ textL x.2
/-- A page's bytes. -/
def pageB (l : List Pr) : List UInt8 := numL l.length ++ l.flatMap pairB
def inB (i : Int) : Bool := decide (0 ≤ i) && decide (i < 16)
/-- A bucket's page, or why there is none. -/
def pageL (i : Int) (l : List Pr) : List UInt8 × Nat :=
  if inB i = true ∧ mayL l = true ∧ (partL l i).length = l.length then (if l.length ≤ 48 then (pageB l, 0) else ([], 3)) else ([], 1)
/-- Pairs, read one behind the other. -/
def rdPairs : Nat → InS → List Pr × InS
  | 0, x => ([], x)
  | n + 1, x => if (((x.text 33).2.text 32).2).err = 0 then (((x.text 33).1, ((x.text 33).2.text 32).1) :: (rdPairs n ((x.text 33).2.text 32).2).1, (rdPairs n ((x.text 33).2.text 32).2).2) else ([], ((x.text 33).2.text 32).2)
def inStart (s : List UInt8) : InS := ⟨s, 0, 0⟩
/-- The pairs of bytes, or the fault. -/
def readL (i : Int) (s : List UInt8) : List Pr × Nat :=
  if inB i = true then
    if (rdPairs ((inStart s).most 48).1 ((inStart s).most 48).2).2.fin = 0 then
      if (pageL i (rdPairs ((inStart s).most 48).1 ((inStart s).most 48).2).1).2 = 0 then ((rdPairs ((inStart s).most 48).1 ((inStart s).most 48).2).1, 0) else ([], 8)
    else ([], (rdPairs ((inStart s).most 48).1 ((inStart s).most 48).2).2.fin)
  else ([], 1)
/-! ### The reader stays within its bounds -/
theorem InS.take_fit {x : InS} {k e : Nat} (h : x.fit) (hk : k ≤ x.rest.length) : (x.take k e).fit := by
  unfold InS.take InS.fit at *
  split
  · simp only [List.length_drop]; omega
  · exact h
theorem InS.most_fit {x : InS} (h : x.fit) (m : Nat) : (x.most m).2.fit := by
  unfold InS.most
  split
  · exact InS.take_fit h (read_le (s := x.rest) (most := m) rfl).1
  · exact h
theorem InS.text_fit {x : InS} (h : x.fit) (m : Nat) : (x.text m).2.fit := by
  unfold InS.text
  split
  · split
    · split
      · have := (readN_le x.rest m).1
        exact InS.take_fit h (by omega)
      · exact InS.take_fit h (Nat.zero_le _)
    · exact InS.take_fit h (Nat.zero_le _)
  · exact h
theorem InS.byte_fit {x : InS} (h : x.fit) : x.byte.2.fit := by
  unfold InS.byte
  split
  · split
    · exact InS.take_fit h (Nat.zero_le _)
    · rename_i b l e; exact InS.take_fit h (by rw [e]; simp)
  · exact h
theorem InS.most_le (x : InS) (m : Nat) : (x.most m).1 ≤ m := by
  unfold InS.most
  split
  · exact (read_le (s := x.rest) (most := m) rfl).2.2
  · exact Nat.zero_le _
theorem InS.text_len (x : InS) (m : Nat) : (x.text m).1.length ≤ m := by
  unfold InS.text
  split
  · split
    · split
      · have := (readN_le x.rest m).2.2
        simp; omega
      · simp
    · simp
  · simp
/-- Behind a fault nothing is read. -/
theorem InS.text_err {x : InS} (h : x.err ≠ 0) (m : Nat) : x.text m = ([], x) := by unfold InS.text; rw [if_neg h]
theorem InS.most_err {x : InS} (h : x.err ≠ 0) (m : Nat) : x.most m = (0, x) := by unfold InS.most; rw [if_neg h]
theorem rd_len : ∀ (n : Nat) (x : InS), (rdPairs n x).1.length ≤ n
  | 0, _ => by simp [rdPairs]
  | n + 1, x => by
    unfold rdPairs; split
    · simp only [List.length_cons]; have := rd_len n ((x.text 33).2.text 32).2; omega
    · simp
theorem rd_ok : ∀ (n : Nat) (x : InS), (rdPairs n x).2.err = 0 → (rdPairs n x).1.length = n
  | 0, _, _ => by simp [rdPairs]
  | n + 1, x, h => by
    unfold rdPairs at h ⊢; split
    · rename_i h0; rw [if_pos h0] at h
      simp only [List.length_cons]; have := rd_ok n ((x.text 33).2.text 32).2 h; omega
    · rename_i h0; rw [if_neg h0] at h; exact absurd h h0
end TL
end Go

/- The contract of sha.Sum in closed words (bs, mkS), and hashes compared. Conditions: lengths. -/
namespace Go.Proofs.Ytjmhjkgcdglpaaa
open Go.RowKit Go.TL
theorem hashT : ∀ l m : List UInt8, l.length = 32 → m.length = 32 → EqRow Try.prog 37 l m := fun l m hl hm =>
  eqRow Try.underlying37 Try.underlying5 (by kernel_rfl) (by kernel_rfl) l m hl hm
theorem shaSum_c (l : List UInt8) (w : World) (h : l.length ≤ 100000000000) :
    Calls Try.prog 19 #[.string (mkS l)] w fun e w' => e = .returned (.agg (bs (shaL l)).toArray) ∧ Below w.heap.size w w' :=
  shaSum_any (mkS l) w (by rw [mkS_size]; omega)
@[go_sem] theorem shaL_len (l : List UInt8) : (shaL l).length = 32 := by have := shaL_length l; omega
section
variable (l m : List UInt8) (hl : l.length = 32) (hm : m.length = 32) (w : World)
include hl hm
@[go_sem ↓] theorem hash_in : (Op.equalIn 10000 37 (.agg (bs l).toArray) (.agg (bs m).toArray)).run Try.prog w = .ok (l == m) w := eqInRow Try.underlying37 Try.underlying5 (by kernel_rfl) l m hl hm w
@[go_sem ↓] theorem hash_eql : (binOp .eql 37 (.agg (bs l).toArray) (.agg (bs m).toArray)).run Try.prog w = .ok (.bool (l == m)) w := (hashT l m hl hm).eql w
@[go_sem ↓] theorem hash_neq : (binOp .neq 37 (.agg (bs l).toArray) (.agg (bs m).toArray)).run Try.prog w = .ok (.bool (!(l == m))) w := (hashT l m hl hm).neq w
@[go_sem ↓] theorem hash_guardE (x y : Operand) : (eqGuard .eql 37 x y (.agg (bs l).toArray) (.agg (bs m).toArray)).run Try.prog w = .ok () w := (hashT l m hl hm).guardE x y w
@[go_sem ↓] theorem hash_guardN (x y : Operand) : (eqGuard .neq 37 x y (.agg (bs l).toArray) (.agg (bs m).toArray)).run Try.prog w = .ok () w := (hashT l m hl hm).guardN x y w
end
end Go.Proofs.Ytjmhjkgcdglpaaa

/- The reference's numbers in plain words: primes, and the bits behind the point of their roots. No program is in sight; no conditions. -/
namespace Go
namespace TL
def mulHi (x y : UInt64) : UInt64 :=
  let x0 := x &&& 4294967295
  let x1 := x >>> 32
  let y0 := y &&& 4294967295
  let y1 := y >>> 32
  let t := x1 * y0 + (x0 * y0) >>> 32
  x1 * y1 + t >>> 32 + ((t &&& 4294967295) + x0 * y1) >>> 32
def sqB (n p : UInt64) : Bool := decide (mulHi n n < p) || (mulHi n n == p && n * n == 0)
def cuB (n p : UInt64) : Bool :=
  let top := mulHi n n * n + mulHi (n * n) n
  decide (top < p <<< 32) || (top == p <<< 32 && n * n * n == 0)
def bh (p : UInt64) (three : Bool) : Nat → UInt64
  | 0 => 0
  | j + 1 =>
    let b := bh p three j
    let m := b + (1 : UInt64) <<< UInt64.ofNat (36 - j)
    if (three && decide (m < 68719476736) && cuB m p) || (!three && sqB m p) then m else b
def behindW (p : UInt64) (three : Bool) : UInt32 := (bh p three 37 % 4294967296).toUInt32
/-- The primes below p. -/
def prB : Nat → List UInt64
  | 0 => []
  | p + 1 => let l := prB p; if 2 ≤ p ∧ l.all (fun q => (UInt64.ofNat p) % q != 0) then l ++ [UInt64.ofNat p] else l
def P64 : List UInt64 := [2, 3, 5, 7, 11, 13, 17, 19, 23, 29, 31, 37, 41, 43, 47, 53, 59, 61, 67, 71, 73, 79, 83, 89, 97, 101, 103, 107, 109, 113, 127, 131, 137, 139, 149, 151, 157, 163, 167, 173, 179, 181, 191, 193, 197, 199, 211, 223, 227, 229, 233, 239, 241, 251, 257, 263, 269, 271, 277, 281, 283, 293, 307, 311]
theorem P64_length : P64.length = 64 := by decide
theorem roots3 : P64.map (behindW · true) = K64 := by decide +kernel
theorem roots2 : (P64.take 8).map (behindW · false) = H0.words := by decide +kernel
end TL
end Go

/- The walks of the reference's numbers: bits.Mul64, square, cube, behind, primes. No conditions but those each theorem names. -/
namespace Go.Proofs.Ytjmhjkgcdglpaaa
open Go.RowKit Go.TL
set_option maxHeartbeats 400000 in
theorem Mul64_c (x y : UInt64) (w : World) :
    Calls Try.prog 75 #[.int .u64 (I64 x), .int .u64 (I64 y)] w fun e w' => e = .returned (.tuple #[.int .u64 (I64 (mulHi x y)), .int .u64 (I64 (x * y))]) ∧ w = w' := by
  go_enter Try.func75, Try.ntmps75
  go_wp2
  go_ret2
  exact ⟨rfl, rfl⟩
theorem I64_eqB (x y : UInt64) : (I64 x = I64 y) ↔ x = y := I64_inj
theorem I64_zeroB (x : UInt64) : (I64 x == 0) = (x == 0) := by
  rw [Bool.eq_iff_iff, beq_iff_eq, beq_iff_eq, show (0 : Int) = I64 0 from rfl, I64_inj]
set_option maxHeartbeats 400000 in
theorem square_c (n p : UInt64) (w : World) :
    Calls Try.prog 71 #[.int .u64 (I64 n), .int .u64 (I64 p)] w fun e w' => e = .returned (.bool (sqB n p)) ∧ w = w' := by
  go_enter Try.func71, Try.ntmps71
  go_wp2_with (first | (go_at_call 75; go_must (refine (Mul64_c _ _ _).mono ?_; rintro e w1 ⟨rfl, rfl⟩)))
  all_goals
    go_ret
    refine ⟨?_, rfl⟩
    simp_all [sqB, I64_lt, I64_le, I64_eqB, I64_zeroB]
set_option maxHeartbeats 400000 in
theorem cube_c (n p : UInt64) (w : World) :
    Calls Try.prog 70 #[.int .u64 (I64 n), .int .u64 (I64 p)] w fun e w' => e = .returned (.bool (cuB n p)) ∧ w = w' := by
  go_enter Try.func70, Try.ntmps70
  go_upto_region 5 with (first | (go_at_call 75; go_must (refine (Mul64_c _ _ _).mono ?_; rintro e w1 ⟨rfl, rfl⟩)))
  obtain ⟨tp, etp⟩ : ∃ tp, tp = mulHi n n * n + mulHi (n * n) n := ⟨_, rfl⟩
  rw [← etp]
  obtain ⟨en, een⟩ : ∃ en, en = n * n * n := ⟨_, rfl⟩
  rw [← een]
  have ES : cuB n p = (decide (tp < p <<< 32) || (tp == p <<< 32 && en == 0)) := by rw [etp, een]; rfl
  have ES' := Lib.hid ES; clear ES etp een
  by_cases h1 : tp < p <<< 32
  · have d1 : decide (I64 tp < I64 (p <<< 32)) = true := by simpa [I64_lt] using h1
    go_wp2
    go_ret
    exact ⟨by rw [ES'.out]; simp [h1], rfl⟩
  · have d1 : decide (I64 tp < I64 (p <<< 32)) = false := by simpa [I64_lt] using h1
    by_cases h2 : tp = p <<< 32
    · have d2 : (I64 tp == I64 (p <<< 32)) = true := by rw [h2]; simp
      have H1 := Lib.hid h1; clear h1
      have H2 := Lib.hid h2; clear h2
      go_wp2
      go_ret
      exact ⟨by rw [ES'.out, I64_zeroB, H2.out]; simp, rfl⟩
    · have d2 : (I64 tp == I64 (p <<< 32)) = false := by rw [beq_eq_false_iff_ne]; intro h; exact h2 (I64_inj.1 h)
      have H1 := Lib.hid h1; clear h1
      have H2 := Lib.hid h2; clear h2
      go_wp2
      go_ret
      exact ⟨by rw [ES'.out]; simp [H1.out, H2.out], rfl⟩
theorem low32 (x : UInt64) : w32 ((I64 x).tmod 4294967296) = (x % 4294967296).toUInt32 := by
  apply UInt32.toNat_inj.1
  rw [toNat_w32, I64_eq]
  simp only [UInt64.toNat_toUInt32, UInt64.toNat_mod, UInt64.reduceToNat]
  rw [Int.tmod_eq_emod_of_nonneg (by omega)]
  omega
theorem I64_natW (i : Nat) (h : i < 1000) : I64 (w64 (i : Int)) = (i : Int) := by
  rw [w64_nat, I64_eq, UInt64.toNat_ofNat']; omega
theorem shl_one (i : Nat) (h : i < 64) : (1 : UInt64) <<< UInt64.ofNat i = w64 (2 ^ i) := by
  have := w64_shl 1 i h
  rw [Int.one_mul] at this
  rw [this]; rfl
set_option maxHeartbeats 400000 in
theorem behind_c (p : UInt64) (three : Bool) (w : World) :
    Calls Try.prog 60 #[.int .u64 (I64 p), .bool three] w fun e w' => e = .returned (.int .u32 (I32 (behindW p three))) ∧ w = w' := by
  cases three
  all_goals
    go_enter Try.func60, Try.ntmps60
    go_wp2
  · go_loop [5, 6] (fun n k => ∃ i : Nat, i ≤ 37 ∧ k = .int .i64 ((i : Int) - 1) ∧ n = .int .u64 (I64 (bh p false (37 - i)))) (fun _ k => (intOf k + 1).toNat)
    case atStart => exact ⟨37, by omega, rfl, rfl⟩
    case round =>
      obtain ⟨i, hi, rfl, rfl⟩ := hrel
      cases i with
      | zero =>
        go_wp2
        go_ret
        exact ⟨by rw [low32]; unfold behindW; rfl, rfl⟩
      | succ i =>
        have e : ((i + 1 : Nat) : Int) - 1 = i := by omega
        rw [e]; clear e
        have hI := I64_natW i (by omega)
        have hi2 : (i : Int) ≤ 36 := by omega
        obtain ⟨b, eb⟩ : ∃ b, b = bh p false (37 - (i + 1)) := ⟨_, rfl⟩
        rw [← eb]
        have EB := Lib.hid eb; clear eb
        have N : bh p false (37 - i) = if sqB (b + w64 (2 ^ i)) p then b + w64 (2 ^ i) else b := by
          rw [EB.out, show 37 - i = (37 - (i + 1)) + 1 by omega, bh, show 36 - (37 - (i + 1)) = i by omega, shl_one i (by omega)]; simp
        have N' := Lib.hid N; clear N
        by_cases hq : sqB (b + w64 (2 ^ i)) p = true
        · go_wp2_with ((go_at_call 71; go_must (refine (square_c _ _ _).mono ?_; rintro e w1 ⟨rfl, rfl⟩)))
          go_round
          case rel => exact ⟨i, by omega, by go_num, by rw [N'.out, if_pos hq]⟩
          case measure => simp [intOf]
        · have hq' : sqB (b + w64 (2 ^ i)) p = false := by simpa using hq
          clear hq
          go_wp2_with ((go_at_call 71; go_must (refine (square_c _ _ _).mono ?_; rintro e w1 ⟨rfl, rfl⟩)))
          go_round
          case rel => exact ⟨i, by omega, by go_num, by rw [N'.out, if_neg (by rw [hq']; decide)]⟩
          case measure => simp [intOf]
  · go_loop [5, 6] (fun n k => ∃ i : Nat, i ≤ 37 ∧ k = .int .i64 ((i : Int) - 1) ∧ n = .int .u64 (I64 (bh p true (37 - i)))) (fun _ k => (intOf k + 1).toNat)
    case atStart => exact ⟨37, by omega, rfl, rfl⟩
    case round =>
      obtain ⟨i, hi, rfl, rfl⟩ := hrel
      cases i with
      | zero =>
        go_wp2
        go_ret
        exact ⟨by rw [low32]; unfold behindW; rfl, rfl⟩
      | succ i =>
        have e : ((i + 1 : Nat) : Int) - 1 = i := by omega
        rw [e]; clear e
        have hI := I64_natW i (by omega)
        have hi2 : (i : Int) ≤ 36 := by omega
        obtain ⟨b, eb⟩ : ∃ b, b = bh p true (37 - (i + 1)) := ⟨_, rfl⟩
        rw [← eb]
        have EB := Lib.hid eb; clear eb
        have N : bh p true (37 - i) = if (decide (b + w64 (2 ^ i) < 68719476736) && cuB (b + w64 (2 ^ i)) p) then b + w64 (2 ^ i) else b := by
          rw [EB.out, show 37 - i = (37 - (i + 1)) + 1 by omega, bh, show 36 - (37 - (i + 1)) = i by omega, shl_one i (by omega)]; simp
        have N' := Lib.hid N; clear N
        by_cases h1 : b + w64 (2 ^ i) < 68719476736
        · have d1 : decide (I64 (b + w64 (2 ^ i)) < 68719476736) = true := by
            rw [show (68719476736 : Int) = I64 68719476736 from rfl]; simpa [I64_lt] using h1
          have H1 := Lib.hid h1; clear h1
          by_cases hq : cuB (b + w64 (2 ^ i)) p = true
          · go_wp2_with ((go_at_call 70; go_must (refine (cube_c _ _ _).mono ?_; rintro e w1 ⟨rfl, rfl⟩)))
            go_round
            case rel => exact ⟨i, by omega, by go_num, by rw [N'.out, if_pos (by rw [hq]; simpa using H1.out)]⟩
            case measure => simp [intOf]
          · have hq' : cuB (b + w64 (2 ^ i)) p = false := by simpa using hq
            clear hq
            go_wp2_with ((go_at_call 70; go_must (refine (cube_c _ _ _).mono ?_; rintro e w1 ⟨rfl, rfl⟩)))
            go_round
            case rel => exact ⟨i, by omega, by go_num, by rw [N'.out, if_neg (by rw [hq']; simp)]⟩
            case measure => simp [intOf]
        · have d1 : decide (I64 (b + w64 (2 ^ i)) < 68719476736) = false := by
            rw [show (68719476736 : Int) = I64 68719476736 from rfl]; simpa [I64_lt] using h1
          have H1 := Lib.hid h1; clear h1
          go_wp2_with ((go_at_call 70; go_must (refine (cube_c _ _ _).mono ?_; rintro e w1 ⟨rfl, rfl⟩)))
          go_round
          case rel => exact ⟨i, by omega, by go_num, by rw [N'.out, if_neg (by simp only [Bool.and_eq_true, decide_eq_true_eq]; intro h; exact H1.out h.1)]⟩
          case measure => simp [intOf]
end Go.Proofs.Ytjmhjkgcdglpaaa

/- The walk of the reference's primes. No conditions. -/
namespace Go
namespace TL
open Go.RowKit
def us (l : List UInt64) : List Value := l.map fun x => .int .u64 (I64 x)
theorem us_length (l : List UInt64) : (us l).length = l.length := by simp [us]
theorem us_one (l : List UInt64) : ∀ q ∈ us l, q.oneCell' = true := by
  intro q hq; obtain ⟨b, _, rfl⟩ := List.mem_map.1 hq; rfl
theorem us_get {l : List UInt64} {i : Nat} (h : i < l.length) : (us l)[i]? = some (.int .u64 (I64 (l.getD i 0))) := by
  rw [us, List.getElem?_map, List.getD_eq_getElem?_getD, List.getElem?_eq_getElem h]; rfl
theorem prB_pre (p : Nat) : prB p <+: prB (p + 1) := by
  rw [prB]; split
  · exact List.prefix_append _ _
  · exact List.prefix_refl _
theorem prB_pre' (p d : Nat) : prB p <+: prB (p + d) := by
  induction d with
  | zero => exact List.prefix_refl _
  | succ d ih => exact ih.trans (prB_pre (p + d))
theorem prB_312 : prB 312 = P64 := by decide +kernel
theorem prB_311 : (prB 311).length = 63 := by decide +kernel
theorem prB_lt (p : Nat) (h : p ≤ 311) : (prB p).length < 64 := by
  have := (prB_pre' p (311 - p)).length_le
  rw [show p + (311 - p) = 311 by omega, prB_311] at this; omega
theorem prB_ne (p : Nat) (h : p ≤ 312) (i : Nat) (hi : i < (prB p).length) : (prB p).getD i 0 ≠ 0 := by
  have hp := prB_pre' p (312 - p)
  rw [show p + (312 - p) = 312 by omega, prB_312] at hp
  have h1 : P64[i]? = some ((prB p)[i]) := by
    obtain ⟨t, ht⟩ := hp
    rw [← ht, List.getElem?_append_left hi, List.getElem?_eq_getElem hi]
  have h2 : ∀ q ∈ P64, q ≠ 0 := by decide
  rw [List.getD_eq_getElem?_getD, List.getElem?_eq_getElem hi]
  exact h2 _ (List.mem_of_getElem? h1)
theorem all_take (l : List UInt64) (f : UInt64 → Bool) (k : Nat) (h : k < l.length) : (l.take (k + 1)).all f = ((l.take k).all f && f (l.getD k 0)) := by
  rw [List.take_succ_eq_append_getElem h, List.all_append, List.getD_eq_getElem?_getD, List.getElem?_eq_getElem h]; simp
end TL
end Go
namespace Go.Proofs.Ytjmhjkgcdglpaaa
open Go.RowKit Go.TL
theorem mod0 (x y : UInt64) : ((I64 x).tmod (I64 y) == 0) = (x % y == 0) := by
  rw [Bool.eq_iff_iff, beq_iff_eq, beq_iff_eq, Int.tmod_eq_emod_of_nonneg (I64_bd x).1, I64_mod, show (0 : Int) = I64 0 from rfl, I64_inj]
set_option maxRecDepth 1000000 in
theorem u64T : SliceT Try.prog 92 52 1 8 := ⟨Try.underlying92, ⟨_, _, rfl, rfl, rfl, rfl, rfl⟩, by omega⟩
set_option maxHeartbeats 1000000 in
theorem primes_c (w : World) :
    Calls Try.prog 59 #[.int .i64 64] w fun e w' => ∃ q cap, e = .returned (.slice q 64 cap) ∧ Mem [] w w' [.sl 1 (.slice q 64 cap) 64 (us P64)] := by
  have M := (Mem.start [] w).nil 1
  go_enter Try.func59, Try.ntmps59
  go_wp2_with fail
  go_loopw [3, 4] (fun l p wr => ∃ (n : Nat) (q : Option Addr) (cap : Nat), 2 ≤ n ∧ n ≤ 312 ∧ p = .int .u64 (I64 (UInt64.ofNat n)) ∧ l = .slice q (prB n).length cap ∧ Mem [] w wr [.sl 1 (.slice q (prB n).length cap) (prB n).length (us (prB n))]) (fun _ p _ => (312 - intOf p).toNat)
  case atStart => exact ⟨2, none, 0, by omega, by omega, rfl, rfl, M⟩
  case round =>
    clear M
    obtain ⟨n, q, cap, h2, hn, rfl, rfl, M⟩ := hrel
    have hI : I64 (UInt64.ofNat n) = (n : Int) := by rw [I64_eq, UInt64.toNat_ofNat']; omega
    have HI := Lib.hid hI; clear hI
    by_cases hlt : n ≤ 311
    · have hl := prB_lt n hlt
      have hll : ((prB n).length : Int) < 64 := by omega
      go_wp2_with fail
      go_loopw [5, 6] (fun is i wr => ∃ k : Nat, k ≤ (prB n).length ∧ i = .int .i64 k ∧ is = .bool (((prB n).take k).all fun q => UInt64.ofNat n % q != 0) ∧ Mem [] w wr [.sl 1 (.slice q (prB n).length cap) (prB n).length (us (prB n))]) (fun _ i _ => (prB n).length - (intOf i).toNat)
      case atStart => exact ⟨0, by omega, rfl, rfl, M⟩
      case round =>
        clear M
        obtain ⟨k, hk, rfl, rfl, M⟩ := hrel
        by_cases hkl : k < (prB n).length
        · obtain ⟨g, o, rfl⟩ := M.slAddr 0 rfl (by omega)
          have hne := prB_ne n hn k hkl
          obtain ⟨y, ey⟩ : ∃ y, y = (prB n).getD k 0 := ⟨_, rfl⟩
          have hy : (us (prB n))[k]? = some (.int .u64 (I64 y)) := by rw [ey]; exact us_get hkl
          have hm := all_take (prB n) (fun q => UInt64.ofNat n % q != 0) k hkl
          rw [← ey] at hm hne
          have Hm := Lib.hid hm; clear hm ey
          have Hy := Lib.hid hy; clear hy
          have y0 : ¬ I64 y = 0 := fun h => hne (I64_inj.1 (h.trans (rfl : (0 : Int) = I64 0)))
          go_wp2_with (first | ((with_reducible show wpList _ _ _ (Oper.mk _ (Op.load _ _) _ _ _ _ :: _) _ _); go_must (refine w_loadS M 0 _ _ rfl rfl rfl rfl (by decide +kernel) k rfl Hy.out ?_)))
          all_goals
            have hr : _ := ‹((I64 (UInt64.ofNat n)).tmod (I64 y) == 0) = _›
            rw [mod0] at hr
            go_roundw
            case rel => exact ⟨k + 1, by omega, by go_num, by rw [Hm.out, bne, hr]; simp, M⟩
            case measure => simp [intOf]; omega
        · obtain rfl : k = (prB n).length := by omega
          rw [List.take_length]
          have hs : prB (n + 1) = if ((prB n).all fun q => UInt64.ofNat n % q != 0) = true then prB n ++ [UInt64.ofNat n] else prB n := by
            rw [prB]; simp [h2]
          have Hs := Lib.hid hs; clear hs
          have hI2 : I64 (UInt64.ofNat n + 1) = ((n + 1 : Nat) : Int) := by rw [I64_eq, UInt64.toNat_add, UInt64.toNat_ofNat']; simp; omega
          have HI2 := Lib.hid hI2; clear hI2
          have e1 : UInt64.ofNat n + 1 = UInt64.ofNat (n + 1) := by apply UInt64.toNat_inj.1; rw [UInt64.toNat_add]; simp
          have E1 := Lib.hid e1; clear e1
          go_wp2_with (first | ((with_reducible show wpList _ _ _ (Oper.mk _ (Op.buildSlice _ 1 _) _ _ _ _ :: _) _ _); go_must (refine w_buildSlice1 M u64T (by decide) _ rfl rfl (by first | exact ev_tmp rfl | exact ev_const) _ rfl rfl ?_; clear M; intro g w1 M; (try conv => arg 5; dsimp only [Act.put, List.setIfInBounds_toArray, List.set_cons_succ, List.set_cons_zero]))) | ((with_reducible show wpList _ _ _ (Oper.mk _ (Op.call ⟨Callee.builtin Builtin.append, _, _⟩) _ _ _ _ :: _) _ _); go_must (refine w_append_new M 0 u64T _ _ rfl rfl rfl rfl rfl rfl (by first | decide | (intro q hq; simp at hq; subst hq; rfl) | (intro q hq; simp at hq; rcases hq with rfl | rfl; rfl; rfl)) (by decide) (by first | (simp only [maxLen]; omega) | (simp [maxLen]; omega)) (by first | omega | (simp; omega)) ?_; clear M; intro q cap w1 M; (try simp only [List.set_cons_zero] at M); (try conv => arg 5; dsimp only [Act.put, List.setIfInBounds_toArray, List.set_cons_succ, List.set_cons_zero]))))
          · have ha : ((prB n).all fun q => UInt64.ofNat n % q != 0) = true := by assumption
            have hs := Hs.out
            rw [if_pos ha] at hs
            go_roundw
            case rel => exact ⟨n + 1, _, _, by omega, by omega, by rw [E1.out], by rw [hs, List.length_append]; rfl, by
              rw [hs, List.length_append]; simpa [us] using M⟩
            case measure =>
              show (312 - I64 (UInt64.ofNat n + 1)).toNat < (312 - I64 (UInt64.ofNat n)).toNat
              rw [HI2.out, HI.out]; omega
          · have ha : ((prB n).all fun q => UInt64.ofNat n % q != 0) = false := by assumption
            have hs := Hs.out
            rw [if_neg (by rw [ha]; decide)] at hs
            go_roundw
            case rel => exact ⟨n + 1, _, _, by omega, by omega, by rw [E1.out], by rw [hs], by rw [hs]; exact M⟩
            case measure =>
              show (312 - I64 (UInt64.ofNat n + 1)).toNat < (312 - I64 (UInt64.ofNat n)).toNat
              rw [HI2.out, HI.out]; omega
    · obtain rfl : n = 312 := by omega
      rw [prB_312, P64_length] at M ⊢
      go_wp2_with fail
      go_ret
      exact ⟨_, _, rfl, M⟩
end Go.Proofs.Ytjmhjkgcdglpaaa
