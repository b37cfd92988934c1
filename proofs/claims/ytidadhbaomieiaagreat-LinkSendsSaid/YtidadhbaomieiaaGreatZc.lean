/- Texts of this seat, put together: Law2, Sum, Hash, Pad, Low, Tag, Equal. Each begins with a remark that says what is proved in it, and under which conditions. -/
import Derived.Test.YtidadhbaomieiaaGreatY
import Derived.Deep.DeepMust
import Derived.Deep.QuietTactic
import Derived.BigQuiet
import Derived.Lib.Strings
import Derived.Deep.MidRow
import Derived.Test.YtidadhbaomieiaaGreatZa
import Derived.Test.YtidadhbaomieiaaGreatZb
set_option maxRecDepth 100000
set_option maxHeartbeats 16000000
namespace Go
namespace TL
open Go.RowKit
section
variable {P : Program} {w : World}
theorem run_copy_any {t e : TypeId} {size bytes : Nat} (T : SliceT P t e size bytes) (u ty : TypeId) (b o dl dc : Nat) (xv : Value) (m : Nat) (news : List Value) (hsrc : Src P w size xv m news)
  (k : Nat) (hk : k = Nat.min m dl) (hth : w.there b o (k * size)) :
  (Builtin.copy_ #[t, u] ty #[.slice (some ⟨b, o, none⟩) dl dc, xv]).run P w = .ok (.int .i64 k) (w.setCells b o (news.take (k * size))) := by
 obtain ⟨ht, ⟨i, z, hi, hz, hsize, hby, hzs⟩, hsz⟩ := T
 obtain ⟨hl, h1, hlen, hfirst⟩ := hsrc
 have hkm : k ≤ m := by rw [hk]; exact Nat.min_le_left _ _
 have hf := hfirst w k hkm (grownBy_refl w none)
 have hlk : (news.take (k * size)).length = k * size := by
  rw [List.length_take, hl]; exact Nat.min_eq_left (Nat.mul_le_mul_right _ hkm)
 have hst := run_storeCells_mid (P := P) (news.take (k * size)) (by rw [hlk]; exact hth) (fun u hu => h1 u (List.mem_of_mem_take hu))
 simp [Builtin.copy_, run_underlying ht, hlen, sizeOf, typeInfo, hi, hsize, ← hk, hf, hst, goInt]
theorem wpList_copy {ops : Array Oper} {rest : List Oper} {op : Oper} {a : Act} {Q : Exit → Act → World → Prop} {t e : TypeId} {size bytes : Nat} (T : SliceT P t e size bytes) (hgd : op.guard = none) (d x : Operand) (u : TypeId)
  (ho : op.op = .call { callee := .builtin .copy, args := #[d, x], argTypes := #[t, u] })
  (b o dl dc : Nat) (hd : a.eval d = .slice (some ⟨b, o, none⟩) dl dc) (xv : Value) (m : Nat) (news : List Value) (hx : a.eval x = xv) (hsrc : Src P w size xv m news)
  (k : Nat) (hk : k = Nat.min m dl) (hth : w.there b o (k * size))
  (h : wpList P ops Q rest (a.put op.dst (.int .i64 k)) (w.setCells b o (news.take (k * size)))) : wpList P ops Q (op :: rest) a w :=
 wpList_plain hgd fun _ hK => by
  have hr := run_copy_any (P := P) (w := w) T u op.type b o dl dc xv m news hsrc k hk hth
  unfold Oper.wp execOp
  simp only [ho, resolve, invoke, builtin, Sem.run_bind, Sem.run_pure, Result.andThen_ok, List.map_toArray, List.map_cons, List.map_nil, hd, hx, hr]
  exact hK _ _ h
theorem wpList_newRow {ops : Array Oper} {rest : List Oper} {op : Oper} {a : Act} {Q : Exit → Act → World → Prop} (hgd : op.guard = none) (t : TypeId) (ho : op.op = .alloc t) (C : Array Value) (hz : (zeroValue t).run P w = .ok (.agg C) w)
  (h : ∀ w1, Below w.heap.size w w1 → w1.heap.size = w.heap.size + 1 → w1.rangeAt w.heap.size 0 C.toList → w1.there w.heap.size 0 C.size → wpList P ops Q rest (a.put op.dst (.pointer (some ⟨w.heap.size, 0, none⟩))) w1) : wpList P ops Q (op :: rest) a w :=
 wpList_plain hgd fun _ hK => by
  unfold Oper.wp execOp
  have hr : (Instr.alloc t true (.tuple #[])).run P w = .ok (.pointer (some ⟨w.heap.size, 0, none⟩)) (w.alloc (.cells C t)) := by
   simp only [Instr.alloc, Sem.run_bind, hz, Result.andThen_ok]; rfl
  simp only [ho, Sem.run_bind, hr, Result.andThen_ok]
  exact hK _ _ (h _ ((Below.refl _ _).alloc (Nat.le_refl _) _) (by simp) (rangeAt_new w C t (0, 0)) (there_new w C t C.size (Nat.le_refl _)))
theorem OwnB_empty (w : World) (base g : Nat) (hb : base ≤ g) (hg : g < w.heap.size) : OwnB w base (.slice (some ⟨g, 0, none⟩) 0 0) [] :=
 ⟨by simp, .inr ⟨g, 0, 0, rfl, hb, hg, Nat.le_refl _, Nat.zero_le _, rangeAt_nil _ _ _, fun j hj => by simp at hj⟩⟩
def lenV : Value → Nat | .slice _ n _ => n | _ => 0
theorem Sees.lenV {size : Nat} {v : Value} {n : Nat} {xs : List Value} (h : Sees w size v n xs) : lenV v = n := by
 obtain ⟨a, c, rfl, _⟩ := h.form; rfl
theorem run_index_agg {P : Program} (t e : TypeId) (n : Nat) (cs : Array Value) (h : P.underlying t = some (.array n e)) (d : TypeDesc) (hu : P.underlying e = some d) (hd : d.isRow = false) (hi : (P.info? e).map (·.size) = some 1)
  (i : Nat) (hn : i < n) (v : Value) (hv : cs[i]? = some v) (w : World) : (Instr.index t (.agg cs) (.int .i64 i)).run P w = .ok v w := by
 cases hq : P.info? e with
 | none => simp [hq] at hi
 | some inf =>
  have hsz : inf.size = 1 := by simpa [hq] using hi
  cases d <;> first | (simp [TypeDesc.isRow] at hd; done) | simp [Instr.index, run_underlying h, run_underlying hu, asIntOf, hn, sizeOf, typeInfo, hq, hsz, part, isAgg, hv]
theorem run_sliceAt_row {P : Program} (t e : TypeId) (n : Nat) (ht : P.underlying t = some (.array n e)) (hi : (P.info? e).map (·.size) = some 1) (b o l : Nat) (hl : l < n) (z : Int) (hz : z = l) (w : World) :
  (Instr.sliceAt t (.pointer (some ⟨b, o, none⟩)) (some (.int .i64 z)) none none).run P w = .ok (.slice (some ⟨b, o + l, none⟩) (n - l) (n - l)) w := by
 have hn : P.arrayLen t = n := by simp [Program.arrayLen, ht]
 have he : P.elem t = e := by simp [Program.elem, ht]
 subst hz
 rw [run_sliceAt_array_l w t _ (by rw [hn, he]; exact ht) .i64 l yE (by rw [hn]; omega), hn, he]
 cases hq : P.info? e with
 | none => simp [hq] at hi
 | some inf =>
  have hsz : inf.size = 1 := by simpa [hq] using hi
  simp [sizeOf, typeInfo, hq, hsz, slicedAt, Addr.add, show n ≠ l by omega]
theorem wpList_want {P : Program} {ops : Array Oper} {rest : List Oper} {o : Oper} {a : Act} {w : World} {Q : Exit → Act → World → Prop} (hw : Region.wanted o (yielded ops a.tmps) = true)
  (h : o.wp P a w (fun a' w' => wpList P ops Q rest a' w') Q) : wpList P ops Q (o :: rest) a w := by
 unfold wpList
 rw [if_pos hw]
 exact .inl h
/-! ### Two arrays of bytes, compared -/
theorem run_partB {P : Program} {e : TypeId} (he : P.underlying e = some (.int .u8)) (l : List UInt8) (i : Nat) (h : i < l.length) (w : World) : (part e (l.map vb).toArray i).run P w = .ok (vb l[i]) w := by
 simp [part, isAgg, run_underlying he, h]
theorem run_eqItemsB {P : Program} {e : TypeId} (he : P.underlying e = some (.int .u8)) (d : Nat) (l m : List UInt8) (hlm : l.length = m.length) (w : World) : ∀ is : List Nat, (∀ i ∈ is, i < l.length) →
  (Op.eqItems (d + 1) e 1 (l.map vb).toArray (m.map vb).toArray is).run P w = .ok (is.all fun i => l[i]? == m[i]?) w
 | [], _ => rfl
 | i :: is, h => by
  have hi := h i List.mem_cons_self
  have hi2 : i < m.length := hlm ▸ hi
  unfold Op.eqItems
  simp only [Nat.mul_one, Sem.run_bind, run_partB he l i hi w, run_partB he m i hi2 w, Result.andThen_ok, vb, run_equalIn_int w d e .u8 .u8 _ _ he, List.all_cons, List.getElem?_eq_getElem hi, List.getElem?_eq_getElem hi2]
  have e1 : (I8 l[i] == I8 m[i]) = (l[i] == m[i]) := by
   rw [Bool.eq_iff_iff, beq_iff_eq, beq_iff_eq, I8_eq, I8_eq]
   exact ⟨fun h => UInt8.toNat_inj.1 yE, fun h => by rw [h]⟩
  rw [e1]
  cases hq : (l[i] == m[i]) with
  | false => simp [hq]
  | true => simp [hq, run_eqItemsB he d l m hlm w is fun j hj => h j (List.mem_cons_of_mem _ hj)]
theorem all_range_eq (l m : List UInt8) (h : l.length = m.length) : ((List.range l.length).all fun i => l[i]? == m[i]?) = (l == m) := by
 rw [Bool.eq_iff_iff, beq_iff_eq, List.all_eq_true]
 constructor
 ·intro hall
  refine List.ext_getElem? fun i => ?_
  by_cases hi : i < l.length
  ·simpa using hall i (List.mem_range.2 hi)
  ·rw [List.getElem?_eq_none yE, List.getElem?_eq_none yE]
 ·rintro rfl i _; simp
structure EqRow (P : Program) (t : TypeId) (l m : List UInt8) : Prop where
 eql : ∀ w : World, (binOp .eql t (.agg (l.map vb).toArray) (.agg (m.map vb).toArray)).run P w = .ok (.bool (l == m)) w
 neq : ∀ w : World, (binOp .neq t (.agg (l.map vb).toArray) (.agg (m.map vb).toArray)).run P w = .ok (.bool (!(l == m))) w
 guardE : ∀ (x y : Operand) (w : World), (eqGuard .eql t x y (.agg (l.map vb).toArray) (.agg (m.map vb).toArray)).run P w = .ok () w
 guardN : ∀ (x y : Operand) (w : World), (eqGuard .neq t x y (.agg (l.map vb).toArray) (.agg (m.map vb).toArray)).run P w = .ok () w
theorem eqRow {P : Program} {t e : TypeId} {n : Nat} (hu : P.underlying t = some (.array n e)) (he : P.underlying e = some (.int .u8)) (hc : P.cellsOf e = 1) (hg : P.eqGuardType P.depth t = false) (l m : List UInt8) (hl : l.length = n) (hm : m.length = n) : EqRow P t l m := by
 have key : ∀ w : World, (Op.equal t (.agg (l.map vb).toArray) (.agg (m.map vb).toArray)).run P w = .ok (l == m) w := fun w => by
  obtain ⟨i, hi⟩ := info_of_underlying he
  have := run_equalIn_array w 9999 (l.map vb).toArray (m.map vb).toArray hu hi
  rw [hc, run_eqItemsB he 9998 l m yE w (List.range n) (fun i hi => by rw [hl]; exact List.mem_range.1 hi)] at this
  rw [← hl, all_range_eq l m yE] at this
  exact this
 refine ⟨fun w => ?_, fun w => ?_, fun x y w => ?_, fun x y w => ?_⟩
 ·simp only [binOp, Sem.run_bind, key w, Result.andThen_ok, Sem.run_pure]
 ·simp only [binOp, Sem.run_bind, key w, Result.andThen_ok, Sem.run_pure]
 ·have : (eqGuard .eql t x y (.agg (l.map vb).toArray) (.agg (m.map vb).toArray)).run P w = (Pure.pure () : Sem Unit).run P w := by
   have hp : ∀ w : World, (program).run P w = .ok P w := fun _ => rfl
   simp only [eqGuard]; simp [hp, hg]
  rw [this]; rfl
 ·have : (eqGuard .neq t x y (.agg (l.map vb).toArray) (.agg (m.map vb).toArray)).run P w = (Pure.pure () : Sem Unit).run P w := by
   have hp : ∀ w : World, (program).run P w = .ok P w := fun _ => rfl
   simp only [eqGuard]; simp [hp, hg]
  rw [this]; rfl
theorem nums_vb (l : List UInt8) : Shape.ok .nums (.agg (l.map vb).toArray) = true := by
 refine Shape.ok_of ?_
 simp [Shape.strict, numsV, vb, isIntV]
end
end TL
end Go

namespace Go
namespace TL
open Go.RowKit
def zpad (r : Nat) : Nat := (119 - r % 64) % 64
def padB (rest : List UInt8) (n : Nat) : List UInt8 := rest ++ [128] ++ List.replicate (zpad rest.length) 0 ++ bigB (UInt64.ofNat n * 8) 8
def outB (s : St) : List UInt8 := s.words.flatMap fun x => bigB x.toUInt64 4
def sumS (h : St) (rest : List UInt8) (n : Nat) : List UInt8 := outB (absorb ((padB rest n).length / 64) h (padB rest n))
theorem outB_length (s : St) : (outB s).length = 32 := rfl
structure PI (w wr : World) (bv : Value) (l : List UInt8) : Prop where
 bel : Below w.heap.size w wr
 own : OwnB wr (w.heap.size + 1) bv l
 out : wr.there w.heap.size 0 32
 sz : w.heap.size < wr.heap.size
theorem PI.step {w wr w' : World} {bv v' : Value} {l l' : List UInt8} (h : PI w wr bv l) (ho : OwnB w' (w.heap.size + 1) v' l') (hg : wr.grownBy w' bv.ownBlock) : PI w w' v' l' := by
 have hne : ∀ k, bv.ownBlock = some k → w.heap.size + 1 ≤ k := fun k e => (Own.base_le h.own e).1
 refine ⟨h.bel.trans (below_of_grownBy hg (Nat.le_of_lt h.sz) fun k e => by have := hne k e; omega), ho, there_of_block h.out (hg.block _ h.sz ?_), Nat.lt_of_lt_of_le h.sz hg.size⟩
 cases e : bv.ownBlock with
 | none => simp
 | some k => intro e2; injection e2 with e2; have := hne k e; omega
theorem PI.drew {w wr : World} {bv : Value} {l : List UInt8} (h : PI w wr bv l) : PI w wr.drew bv l := ⟨h.bel.drew, h.own, h.out, h.sz⟩
structure RI (w wr : World) (s : St) (i : Nat) : Prop where
 bel : Below w.heap.size w wr
 out : wr.there w.heap.size 0 32
 sz : w.heap.size < wr.heap.size
 got : wr.rangeAt w.heap.size 0 (((outB s).take (4 * i)).map vb)
theorem outB_take (s : St) (i : Nat) (hi : i < 8) : ∃ x, s.words[i]? = some x ∧ s.cells.toArray[i]? = some (vw x) ∧ (outB s).take (4 * (i + 1)) = (outB s).take (4 * i) ++ bigB x.toUInt64 4 := by
 have : i = 0 ∨ i = 1 ∨ i = 2 ∨ i = 3 ∨ i = 4 ∨ i = 5 ∨ i = 6 ∨ i = 7 := by omega
 rcases this with rfl | rfl | rfl | rfl | rfl | rfl | rfl | rfl <;> exact ⟨_, rfl, rfl, rfl⟩
theorem RI.step {w wr w1 : World} {s : St} {i : Nat} (h : RI w wr s i) (hb : Below wr.heap.size wr w1) (hi : i < 8) (x : UInt32) (hx : (outB s).take (4 * (i + 1)) = (outB s).take (4 * i) ++ bigB x.toUInt64 4) :
  RI w (w1.setCells w.heap.size (4 * i) ((bigB x.toUInt64 4).map vb)) s (i + 1) := by
 have e := hb.block _ h.sz
 have hl : ((bigB x.toUInt64 4).map vb).length = 4 := by rw [List.length_map, bigB_length]
 have hlt : (((outB s).take (4 * i)).map vb).length = 4 * i := by rw [List.length_map, List.length_take, outB_length]; omega
 refine ⟨below_setCells (Nat.le_refl _) _ _ _ (h.bel.trans (hb.mono h.bel.size)), World.there_setCells (there_of_block h.out e) _ _ _, by rw [size_setCells]; exact Nat.lt_of_lt_of_le h.sz hb.size, ?_⟩
 rw [hx, List.map_append]
 refine rangeAt_append (World.rangeAt_setCells_apart (rangeAt_of_block h.got e) _ _ _ (.inr (.inl (by rw [hlt]; omega)))) ?_
 rw [hlt, Nat.zero_add]
 refine World.rangeAt_setCells_same _ _ _ _ ?_
 rw [hl]
 have := there_drop (there_of_block h.out e) (4 * i)
 rw [Nat.zero_add] at this
 exact there_mono this yE
structure QI (w wr : World) (g : Nat) (bv : Value) (l : List UInt8) (s : St) : Prop where
 pi : PI w wr bv l
 glo : w.heap.size < g
 glt : g < wr.heap.size
 gne : bv.ownBlock ≠ some g
 gr : wr.rangeAt g 0 s.cells
 gt : wr.there g 0 8
theorem QI.drew {w wr : World} {g : Nat} {bv : Value} {l : List UInt8} {s : St} (h : QI w wr g bv l s) : QI w wr.drew g bv l s := ⟨h.pi.drew, h.glo, h.glt, h.gne, h.gr, h.gt⟩
theorem QI.below {w wr w' : World} {g : Nat} {bv : Value} {l : List UInt8} {s : St} (h : QI w wr g bv l s) (hb : Below wr.heap.size wr w') : QI w w' g bv l s := by
 have e := hb.block g h.glt
 exact ⟨h.pi.step (Own.below h.pi.own hb) (grownBy_of_below hb _), h.glo, Nat.lt_of_lt_of_le h.glt hb.size, h.gne, rangeAt_of_block h.gr e, there_of_block h.gt e⟩
theorem QI.set' {w wr : World} {g : Nat} {bv : Value} {l : List UInt8} (hpi : PI w wr bv l) (glo : w.heap.size < g) (glt : g < wr.heap.size) (gne : bv.ownBlock ≠ some g) (gt : wr.there g 0 8) (s' : St) : QI w (wr.setCells g 0 s'.cells) g bv l s' := by
 have hg := grownBy_setCells wr g 0 s'.cells
 refine ⟨⟨below_setCells (Nat.le_of_lt glo) _ _ _ hpi.bel, Own.kept hpi.own hg (.inr gne), there_of_block hpi.out (block_setCells g _ 0 wr _ yE), by rw [size_setCells]; exact hpi.sz⟩, glo, by rw [size_setCells]; exact glt, gne, World.rangeAt_setCells_same _ _ _ _ gt, World.there_setCells gt _ _ _⟩
theorem QI.set {w wr : World} {g : Nat} {bv : Value} {l : List UInt8} {s : St} (h : QI w wr g bv l s) (s' : St) : QI w (wr.setCells g 0 s'.cells) g bv l s' := QI.set' h.pi h.glo h.glt h.gne h.gt s'
theorem padB_length (rest : List UInt8) (n : Nat) (hr : rest.length < 64) : ∃ N, N ≤ 2 ∧ (padB rest n).length = 64 * N := by
 have e : (padB rest n).length = rest.length + 1 + zpad rest.length + 8 := by simp [padB, bigB_length]; omega
 rw [e]; unfold zpad
 exact ⟨(rest.length + 1 + (119 - rest.length % 64) % 64 + 8) / 64, by omega, by omega⟩
theorem QI.slice {w wr : World} {g : Nat} {bv bv' : Value} {l l' : List UInt8} {s : St} (h : QI w wr g bv l s) (ho : OwnB wr (w.heap.size + 1) bv' l') (hne : bv'.ownBlock = bv.ownBlock) : QI w wr g bv' l' s :=
 ⟨⟨h.pi.bel, ho, h.pi.out, h.pi.sz⟩, h.glo, h.glt, by rw [hne]; exact h.gne, h.gr, h.gt⟩
end TL
end Go
namespace Go.Proofs.YtidadhbaomieiaaGreat
open Go.RowKit Go.TL
theorem Sum_any (base b : Nat) (h : St) (rv : Value) (rest : List UInt8) (n : Nat) (w : World) (S : ShaAt w base b h rv rest n) (hr : rest.length < 64) :
  Calls Tryz.prog 118 #[.pointer (some ⟨b, 0, none⟩)] w fun e w' => e = .returned (.agg ((sumS h rest n).map vb).toArray) ∧ Below w.heap.size w w' := by
 have m0 := S.mc
 have n0 := S.nc
 have r0 := S.rc
 have hbl := S.lt
 have S' := Lib.hid S; clear S
 go_enter Tryz.func118, Tryz.ntmps118
 go_wp2_with (first | ((with_reducible show wpList _ _ _ (Oper.mk _ (Op.alloc 64) _ _ _ _ :: _) _ _); (refine wpList_newRow rfl _ rfl (Array.replicate 32 (.int .u8 0)) yC ?_; intro w1 hb1 hs1 hr1 ht1; have S1 := S'.out.below hb1; have m1 := S1.mc; have n1 := S1.nc; have r1 := S1.rc; have l1 : b < w1.heap.size := S1.lt; have T1 := Lib.hid S1; clear S1 hr1; have Hb1 := Lib.hid hb1; clear hb1; have Hs1 := Lib.hid hs1; clear hs1; have Ht1 := Lib.hid ht1; clear ht1)) | (go_at_call 158; (refine (none_no _ b m1).mono ?_; rintro e w2 ⟨rfl, rfl⟩)) | ((with_reducible show wpList _ _ _ (Oper.mk _ (Op.call ⟨Callee.builtin Builtin.append, #[.tmp 10, .tmp 14], _⟩) _ _ _ _ :: _) _ _); (refine wpList_append bytesT rfl _ _ _ rfl uB (w.heap.size + 1) (.slice (some ⟨w1.heap.size, 0, none⟩) 0 0) 0 [] rfl (OwnB_empty _ _ w1.heap.size (by rw [Hs1.out]; exact Nat.le_refl _) (by simp)) rv rest.length _ rfl (SeesB.src (Sees.alloc T1.out.ro.sees _)) (by simp only [maxLen]; omega) yE (by simp; rw [Hs1.out]; omega) ?_; intro v1 w2 ho2 hg2 hf2 _; have B2 : Below w1.heap.size w1 w2 := below_of_grownBy (grownBy_trans (World.grownBy_alloc w1 _ _) hg2) (Nat.le_refl _) (by simp [Value.ownBlock]); have T2 := Lib.hid (T1.out.below B2); have hsz2 : w1.heap.size + 1 ≤ w2.heap.size := (by have := hg2.size; simpa using this); have hOut2 := Lib.hid (there_of_block Ht1.out (B2.block w.heap.size (by rw [Hs1.out]; omega))); have HB2 := Lib.hid (Hb1.out.trans (B2.mono (by rw [Hs1.out]; omega))); have Ho2 : Hid (OwnB w2 (w.heap.size + 1) v1 rest) := Lib.hid (by simpa [OwnB] using ho2); have Hsz2 : Hid (w.heap.size + 2 ≤ w2.heap.size) := Lib.hid (by rw [Hs1.out] at hsz2; exact hsz2); clear ho2 hg2 hf2 B2 hsz2 m1 n1 r1 T1 Ht1 Hb1 Hs1)) | ((with_reducible show wpList _ _ _ (Oper.mk _ (Op.call ⟨Callee.builtin Builtin.append, #[.tmp 15, .tmp 16], _⟩) _ _ _ _ :: _) _ _); (refine wpList_append_new bytesT rfl _ _ rfl (w.heap.size + 1) w2 [128] _ _ rfl v1 rest rfl Ho2.out rfl (by simp; omega) (by have := Hsz2.out; omega) ?_; intro v2 w3 ho3 hg3 hf3)))
 have I3 : Hid (PI w w3 v2 (rest ++ [128])) := Lib.hid (PI.step ⟨HB2.out, Ho2.out, by simpa using hOut2.out, by have := Hsz2.out; omega⟩ ho3 hg3)
 clear ho3 hg3 hf3 Ho2 hOut2 HB2 Hsz2 T2
 go_loopw [3] (fun bv wr => ∃ k : Nat, k ≤ zpad rest.length ∧ PI w wr bv (rest ++ [128] ++ List.replicate k 0)) (fun bv _ => rest.length + 1 + zpad rest.length - lenV bv)
 case atStart => exact ⟨0, by omega, by simpa using I3.out⟩
 case round =>
  obtain ⟨k, hk, I⟩ := hrel
  have hln := Sees.run_len I.own.sees 70 5 3 Tryz.underlying70
  have elen : (rest ++ [128] ++ List.replicate k 0).length = rest.length + 1 + k := by simp; omega
  rw [elen] at hln
  have I' := Lib.hid I; clear I I3
  by_cases hlt : k < zpad rest.length
  ·have hd : (rest.length + 1 + k) % 64 ≠ 56 := by unfold zpad at hlt; omega
   go_wp2_with ((with_reducible show wpList _ _ _ (Oper.mk _ (Op.call ⟨Callee.builtin Builtin.append, #[.tmp 22, .tmp 23], _⟩) _ _ _ _ :: _) _ _); (refine wpList_append_new bytesT rfl _ _ rfl (w.heap.size + 1) wr [0] _ _ rfl _ (rest ++ [128] ++ List.replicate k 0) rfl I'.out.own rfl (by rw [elen]; simp; unfold zpad at hlt; omega) (by have := I'.out.sz; omega) ?_; intro v4 w4 ho4 hg4 _; have I4 := Lib.hid (I'.out.step ho4 hg4); clear ho4 hg4))
   go_roundw
   case rel => exact ⟨k + 1, by omega, by have := I4.out; simpa [List.replicate_succ'] using this⟩
   case measure => rw [I4.out.own.sees.lenV, I'.out.own.sees.lenV]; simp; omega
  ·have hkz : k = zpad rest.length := by omega
   have hd : (rest.length + 1 + k) % 64 = 56 := by unfold zpad at hkz; omega
   have T4 := Lib.hid (S'.out.below I'.out.bel)
   have n4 := T4.out.nc
   go_wp2_with (first | (go_at_call 160; (refine (putBig_any (w.heap.size + 1) _ (rest ++ [128] ++ List.replicate k 0) (UInt64.ofNat n * 8) 8 wr I'.out.own (by have := I'.out.sz; omega) yN (by rw [elen]; unfold zpad at hkz; omega)).mono ?_; rintro e w5 ⟨v5, rfl, ho5, hg5, _⟩; have I5 := Lib.hid (I'.out.step ho5 hg5); have T5 := Lib.hid (S'.out.below I5.out.bel); clear ho5 hg5 T4 n4)) | ((with_reducible show wpList _ _ _ (Oper.mk (some 36) (Op.load 213 _) _ _ _ _ :: _) _ _); (refine wpList_load_mid rfl 213 _ rfl b 0 rfl _ _ (by exact T5.out.hh) Tryz.underlying213 rfl yC ?_)) | ((with_reducible show wpList _ _ _ (Oper.mk _ (Op.alloc 213) _ _ _ _ :: _) _ _); (refine wpList_newRow rfl _ rfl (Array.replicate 8 (.int .u32 0)) yC ?_; intro w6 hb6 hs6 hr6 ht6; have Hb6 := Lib.hid hb6; clear hb6; have Hs6 := Lib.hid hs6; clear hs6 hr6; have Ht6 := Lib.hid ht6; clear ht6)) | ((with_reducible show wpList _ _ _ (Oper.mk none (Op.store 213 _ _) _ _ _ _ :: _) _ _); (refine wpList_putRow rfl 213 _ _ rfl w5.heap.size 0 h.cells rfl rfl (by simpa [St.cells] using Ht6.out) yC (by simp [Value.oneCell', St.cells, vw]) ?_)))
   have J6 : Hid (QI w (w6.setCells w5.heap.size 0 h.cells) w5.heap.size v5 (padB rest n) h) := Lib.hid (by
    have hpi := I5.out.step (Own.below I5.out.own Hb6.out) (grownBy_of_below Hb6.out _)
    rw [hkz] at hpi
    have hlt5 := Hs6.out
    exact QI.set' hpi I5.out.sz yE (fun e => by have := (Own.base_le I5.out.own e).2; omega) (by simpa using Ht6.out) h)
   clear Hs6 Ht6 Hb6 I5 T5 I'
   obtain ⟨N, hN, hpl⟩ := padB_length rest n hr
   go_simp
   go_loopw [3] (fun bv wr => ∃ j : Nat, j ≤ N ∧ QI w wr w5.heap.size bv ((padB rest n).drop (64 * j)) (absorb j h (padB rest n))) (fun bv _ => lenV bv)
   case atStart => exact ⟨0, by omega, by simpa [absorb] using J6.out⟩
   case round =>
    clear J6
    obtain ⟨j, hj, J⟩ := hrel
    have hdl : ((padB rest n).drop (64 * j)).length = 64 * N - 64 * j := by rw [List.length_drop, hpl]
    have hln2 := Sees.run_len J.pi.own.sees 70 5 3 Tryz.underlying70
    rw [hdl] at hln2
    have J' := Lib.hid J; clear J
    have Hdl := Lib.hid hdl; clear hdl
    by_cases hjN : j < N
    ·have hpos : decide ((64 * N - 64 * j : Nat) > (0 : Int)) = true := by simp; omega
     obtain ⟨hj', ehj⟩ : ∃ x, x = absorb j h (padB rest n) := ⟨_, rfl⟩
     rw [← ehj] at J'
     have Ehj := Lib.hid ehj; clear ehj
     have hcut := J'.out.pi.own.sees.run_cut_hi bytesT 64 yE (by rw [Hdl.out]; omega)
     have hsee := SeesB.cut J'.out.pi.own.sees 0 64 yE (by rw [Hdl.out]; omega)
     obtain ⟨cv, ecv⟩ : ∃ x, x = cutV 1 u3 0 64 := ⟨_, rfl⟩
     rw [show (64 : Int).toNat = 64 from rfl, ← ecv] at hcut
     rw [← ecv, List.drop_zero] at hsee
     have Hsee := Lib.hid hsee; clear hsee ecv
     go_wp2_with fail
     refine region_det [(2, false), (3, false), (4, false), (5, false), (6, false), (0, false), (1, false), (7, true), (8, true)] [(44, .ptr)] yC yC rfl yC ?_
     simp only [reord, opAt, List.map_cons, List.map_nil, List.getElem?_toArray, List.getElem?_cons_zero, List.getElem?_cons_succ, Option.getD_some]
     have T6 := Lib.hid (S'.out.below J'.out.drew.pi.bel)
     go_wp2_with (first | ((with_reducible show wpList _ _ _ (Oper.mk _ (Op.load 213 _) _ _ _ _ :: _) _ _); (refine wpList_load_mid rfl 213 _ rfl w5.heap.size 0 rfl _ _ (by exact J'.out.drew.gr) Tryz.underlying213 rfl yC ?_)) | (go_at_call 159; (refine (turn_any hj' hj' K64 K64_length b 8 cv (((padB rest n).drop (64 * j)).take 64) (by rw [List.length_take, Hdl.out]; omega) _ (by exact T6.out.kk) (by exact Sees.drew Hsee.out)).mono ?_; rintro e w7 ⟨rfl, hb7⟩; have J3 := Lib.hid (J'.out.drew.below hb7); clear hb7)) | ((with_reducible show wpList _ _ _ (Oper.mk none (Op.store 213 _ _) _ _ _ _ :: _) _ _); (refine wpList_putRow rfl 213 _ _ rfl w5.heap.size 0 _ rfl rfl (by exact J3.out.gt) yC (by simp [Value.oneCell', St.cells, vw]) ?_)))
     refine OnlyN.intro yC ?_
     have J4 := Lib.hid (J3.out.set (turnS hj' hj' K64 (((padB rest n).drop (64 * j)).take 64)))
     have hlo := J4.out.pi.own.sees.run_cut_lo bytesT 64 yE (by rw [Hdl.out]; omega)
     have ho5 := OwnB.cut J4.out.pi.own 64 ((padB rest n).drop (64 * j)).length (by rw [Hdl.out]; omega) (Nat.le_refl _)
     rw [List.take_length, List.drop_drop, show 64 * j + 64 = 64 * (j + 1) by omega] at ho5
     have J5 := Lib.hid (J4.out.slice ho5 (ownBlock_cutV (size := 1) u3 64 ((padB rest n).drop (64 * j)).length))
     have hlen5 : ((padB rest n).drop (64 * (j + 1))).length = 64 * N - 64 * (j + 1) := by rw [List.length_drop, hpl]
     have Hlen5 := Lib.hid hlen5; clear hlen5 ho5
     rw [Hdl.out] at J5
     go_wp2_with fail
     go_roundw
     case rel =>
      have e : absorb (j + 1) h (padB rest n) = turnS hj' hj' K64 (((padB rest n).drop (64 * j)).take 64) := by rw [absorb_step, ← Ehj.out]
      exact ⟨j + 1, by omega, by rw [e]; exact J5.out⟩
     case measure => rw [J5.out.pi.own.sees.lenV, J'.out.pi.own.sees.lenV, Hlen5.out, Hdl.out]; omega
    ·have hjn : j = N := by omega
     subst hjn
     have hneg : decide ((64 * j - 64 * j : Nat) > (0 : Int)) = false := by simp
     go_wp2_with ((with_reducible show wpList _ _ _ (Oper.mk _ (Op.load 213 _) _ _ _ _ :: _) _ _); (refine wpList_load_mid rfl 213 _ rfl w5.heap.size 0 rfl _ _ (by exact J'.out.gr) Tryz.underlying213 rfl yC ?_))
     go_simp
     obtain ⟨sN, esN⟩ : ∃ s, s = absorb j h (padB rest n) := ⟨_, rfl⟩
     rw [← esN] at J'
     have R0 : Hid (RI w wr sN 0) := Lib.hid ⟨J'.out.pi.bel, J'.out.pi.out, J'.out.pi.sz, rangeAt_nil _ _ _⟩
     have EsN := Lib.hid esN
     rw [← esN]; clear esN J'
     go_loopw [51] (fun iv wr => ∃ i : Nat, i ≤ 8 ∧ iv = .int .i64 i ∧ RI w wr sN i) (fun iv _ => 8 - (intOf iv).toNat)
     case atStart => exact ⟨0, by omega, rfl, R0.out⟩
     case round =>
      clear R0
      obtain ⟨i, hi8, rfl, R⟩ := hrel
      have R' := Lib.hid R; clear R
      by_cases hlt : i < 8
      ·obtain ⟨x, hx1, hx2, hx3⟩ := outB_take sN i hlt
       have hix : ∀ w'', (Instr.index 213 (.agg sN.cells.toArray) (.int .i64 i)).run Tryz.prog w'' = .ok (.int .u32 (I32 x)) w'' := fun w'' => run_index_agg _ _ 8 _ Tryz.underlying213 _ Tryz.underlying22 rfl yC i hlt _ hx2 w''
       have hsl : ∀ w'', (Instr.sliceAt 64 (.pointer (some ⟨w.heap.size, 0, none⟩)) (some (.int .i64 (4 * (i : Int)))) none none).run Tryz.prog w'' = .ok (.slice (some ⟨w.heap.size, 4 * i, none⟩) (32 - 4 * i) (32 - 4 * i)) w'' := fun w'' => by
        have := run_sliceAt_row 64 _ 32 Tryz.underlying64 yC w.heap.size 0 (4 * i) yE (4 * (i : Int)) yE w''
        rwa [Nat.zero_add] at this
       have Hx3 := Lib.hid hx3; clear hx3 hx1 hx2
       go_wp2_with fail
       refine region_det [(0, false), (1, false), (2, false), (3, false), (4, false), (5, true), (6, true)] [(55, .int), (58, .int)] yC yC rfl yC ?_
       simp only [reord, opAt, List.map_cons, List.map_nil, List.getElem?_toArray, List.getElem?_cons_zero, List.getElem?_cons_succ, Option.getD_some]
       go_wp2_with (first | (go_at_call 160; (refine (putBig_any (w.heap.size + 1) (.slice none 0 0) [] x.toUInt64 4 wr.drew (Own_nil _ _ _) (by exact R'.out.sz) yN (by simp)).mono ?_; rintro e w8 ⟨v8, rfl, ho8, hg8, hf8⟩; have Ho8 : Hid (OwnB w8 (w.heap.size + 1) v8 (bigB x.toUInt64 4)) := Lib.hid (by simpa using ho8); have Hb8 : Hid (Below wr.heap.size wr w8) := Lib.hid ((Below.refl _ wr).drew.trans (below_of_grownBy hg8 (Nat.le_refl _) (by simp [Value.ownBlock]))); clear ho8 hg8 hf8)) | ((with_reducible show wpList _ _ _ (Oper.mk _ (Op.call ⟨Callee.builtin Builtin.copy, _, _⟩) _ _ _ _ :: _) _ _); (refine wpList_copy bytesT rfl _ _ 70 rfl w.heap.size (4 * i) (32 - 4 * i) (32 - 4 * i) rfl v8 4 ((bigB x.toUInt64 4).map vb) rfl (SeesB.src Ho8.out.sees) 4 ?_ ?_ ?_)))
       ·show 4 = Nat.min 4 (32 - 4 * i)
        exact (Nat.min_eq_left yE).symm
       ·have := there_drop (there_of_block R'.out.out (Hb8.out.block _ R'.out.sz)) (4 * i)
        rw [Nat.zero_add] at this
        exact there_mono this yE
       have R8 := Lib.hid (R'.out.step Hb8.out hlt x Hx3.out)
       rw [show List.take (4 * 1) ((bigB x.toUInt64 4).map vb) = (bigB x.toUInt64 4).map vb from rfl]
       go_wp2_with fail
       refine OnlyN.intro yC ?_
       go_wp2_with fail
       go_roundw
       case rel => exact ⟨i + 1, by omega, by go_num, R8.out⟩
       case measure => simp [intOf]; omega
      ·have hi8' : i = 8 := by omega
       subst hi8'
       have hgot := R'.out.got
       rw [show 4 * 8 = (outB sN).length from rfl, List.take_length] at hgot
       have Hgot := Lib.hid hgot; clear hgot
       go_wp2_with (first | ((with_reducible show wpList _ _ _ (Oper.mk _ (Op.load 64 _) _ _ _ _ :: _) _ _); (refine wpList_load_mid rfl 64 _ rfl w.heap.size 0 rfl _ _ Hgot.out Tryz.underlying64 rfl yC ?_)) | ((with_reducible show wpList _ _ _ (Oper.mk none (Op.store 64 _ _) _ _ _ _ :: _) _ _); (refine wpList_putRow rfl 64 _ _ rfl w.heap.size 0 ((outB sN).map vb) rfl rfl (by rw [List.length_map, outB_length]; exact R'.out.out) (by rw [List.length_map, outB_length]; kernel_rfl) (vb_one _) ?_)))
       refine bodyPost_ret (results_row rfl _ _ w.heap.size 0 ((outB sN).map vb) _ rfl (World.rangeAt_setCells_same _ _ _ _ (by rw [List.length_map, outB_length]; exact R'.out.out)) Tryz.underlying64 rfl (by rw [List.length_map, outB_length]; kernel_rfl)) rfl ?_
       refine ⟨?_, below_setCells (Nat.le_refl _) _ _ _ R'.out.bel⟩
       have e : sumS h rest n = outB sN := by rw [EsN.out]; unfold sumS; rw [hpl, Nat.mul_div_cancel_left _ yN]
       rw [e]
end Go.Proofs.YtidadhbaomieiaaGreat

namespace Go
namespace TL
open Go.RowKit
def bytesOf (s : ByteArray) : List UInt8 := s.data.toList
def shaL (l : List UInt8) : List UInt8 := sumS (absorb (l.length / 64) H0 l) (l.drop (64 * (l.length / 64))) l.length
theorem shaL_length (l : List UInt8) : (shaL l).length = 32 := rfl
def hexTab : ByteArray := ⟨#[48, 49, 50, 51, 52, 53, 54, 55, 56, 57, 97, 98, 99, 100, 101, 102]⟩
def hexD (x : UInt8) : UInt8 := (hexTab[x.toNat]?).getD 0
@[go_sem high] theorem fold_hexTab : (⟨#[48, 49, 50, 51, 52, 53, 54, 55, 56, 57, 97, 98, 99, 100, 101, 102]⟩ : ByteArray) = hexTab := rfl
@[go_sem high] theorem run_index_hexTab {P : Program} (w : World) (t : TypeId) (k : IntKind) (x : UInt8) (h : P.underlying t = some .string) (h1 : I8 x ≤ 15) :
  (Instr.index t (.string hexTab) (.int k (I8 x))).run P w = .ok (.int .u8 (I8 (hexD x))) w := by
 rw [I8_eq] at h1 ⊢
 have hs : hexTab.size = 16 := rfl
 have hi : 0 ≤ (x.toNat : Int) ∧ (x.toNat : Int) < (hexTab.size : Int) := by rw [hs]; omega
 rw [run_index_string w t hexTab k _ h, dif_pos hi]
 have h2 : x.toNat < hexTab.size := by rw [hs]; omega
 simp [hexD, ByteArray.getElem?_lt' _ _ h2, I8_eq]
theorem bytesOf_length (s : ByteArray) : (bytesOf s).length = s.size := by simp [bytesOf]
end TL
end Go
namespace Go.Proofs.YtidadhbaomieiaaGreat
open Go.RowKit Go.TL
theorem shaSum_any (s : ByteArray) (w : World) (hs : s.size ≤ 1000000000000) :
  Calls Tryz.prog 87 #[.string s] w fun e w' => e = .returned (.agg ((shaL (bytesOf s)).map vb).toArray) ∧ Below w.heap.size w w' := by
 go_enter Tryz.func87, Tryz.ntmps87
 go_wp2_with (first | ((with_reducible show wpList _ _ _ (Oper.mk _ (Op.alloc 64) _ _ _ _ :: _) _ _); (refine wpList_newRow rfl _ rfl (Array.replicate 32 (.int .u8 0)) yC ?_; intro w0 hb0 hs0 hr0 ht0; have Hb0 := Lib.hid hb0; clear hb0 hr0; have Hs0 := Lib.hid hs0; clear hs0; have Ht0 := Lib.hid ht0; clear ht0)) | (go_at_call 116; (refine (New_any w0).mono ?_; rintro e w1 ⟨b, rfl, S1, hb1⟩; have S1' := Lib.hid S1; have hb1' := Lib.hid hb1; clear S1 hb1)) | (go_at_call 117; (refine (Write_any w0.heap.size b s w1 hs hb1'.out.size S1'.out).mono ?_; rintro e w2 ⟨rfl, ⟨rv, S2⟩, hb2⟩; have S2' := Lib.hid S2; have hb2' := Lib.hid hb2; clear S2 hb2)) | (go_at_call 118; (refine (Sum_any w0.heap.size b _ rv _ _ w2 S2'.out (by rw [List.length_drop]; have := bytesOf_length s; unfold bytesOf at this; omega)).mono ?_; rintro e w3 ⟨rfl, hb3⟩; have hb3' := Lib.hid hb3; have Ht3 : Hid (w3.there w.heap.size 0 32) := Lib.hid (by have e := (hb1'.out.trans (hb2'.out.trans (hb3'.out.mono (Nat.le_trans hb1'.out.size hb2'.out.size)))).block w.heap.size (by have := Hs0.out; omega); exact there_of_block (by simpa using Ht0.out) e); clear hb3)) | ((with_reducible show wpList _ _ _ (Oper.mk none (Op.store 64 _ _) _ _ _ _ :: _) _ _); (refine wpList_putRow rfl 64 _ _ rfl w.heap.size 0 ((sumS (absorb (s.size / 64) H0 s.data.toList) (List.drop (64 * (s.size / 64)) s.data.toList) s.size).map vb) rfl rfl (by exact Ht3.out) yC (vb_one _) ?_)))
 refine bodyPost_ret (results_row rfl _ _ w.heap.size 0 ((shaL (bytesOf s)).map vb) _ rfl ?_ Tryz.underlying64 rfl yC) rfl ⟨rfl, ?_⟩
 ·rw [shaL, bytesOf_length]; exact World.rangeAt_setCells_same _ _ _ _ Ht3.out
 ·have hb := Hb0.out.trans ((hb1'.out.trans hb2'.out).mono (Nat.le_of_lt (by have := Hs0.out; omega)))
  exact below_setCells (Nat.le_refl _) _ _ _ (hb.trans (hb3'.out.mono hb.size))
end Go.Proofs.YtidadhbaomieiaaGreat

namespace Go
namespace TL
open Go.RowKit
def keyL (key : List UInt8) : List UInt8 := if 64 < key.length then shaL key else key
def keyB (key : List UInt8) : List UInt8 := keyL key ++ List.replicate (64 - (keyL key).length) 0
def macPad (key : List UInt8) (x : UInt8) : List UInt8 := (keyB key).map (· ^^^ x)
theorem keyL_length (key : List UInt8) : (keyL key).length ≤ 64 := by
 unfold keyL; split
 ·rw [shaL_length]; omega
 ·omega
theorem keyB_length (key : List UInt8) : (keyB key).length = 64 := by
 have := keyL_length key
 simp [keyB]; omega
def padK (l : List UInt8) (x : UInt8) (k : Nat) : List UInt8 := (l.take k).map (· ^^^ x) ++ l.drop k
theorem padK_length (l : List UInt8) (x : UInt8) (k : Nat) : (padK l x k).length = l.length := by
 simp [padK]; omega
theorem padK_get (l : List UInt8) (x : UInt8) (k : Nat) (h : k < l.length) : (padK l x k)[k]? = some l[k] := by
 unfold padK
 rw [List.getElem?_append_right (by simp; omega)]
 simp [List.length_take, Nat.min_eq_left (Nat.le_of_lt h), h]
theorem padK_set (l : List UInt8) (x : UInt8) (k : Nat) (h : k < l.length) : (padK l x k).set k (l[k] ^^^ x) = padK l x (k + 1) := by
 unfold padK
 rw [List.set_append_right _ _ (by simp; omega)]
 simp only [List.length_map, List.length_take, Nat.min_eq_left (Nat.le_of_lt h), Nat.sub_self]
 rw [List.drop_eq_getElem_cons h, List.set_cons_zero, List.take_succ_eq_append_getElem h, List.map_append, List.append_assoc]
 rfl
theorem padK_all (key : List UInt8) (x : UInt8) : padK (keyB key) x 64 = macPad key x := by
 unfold padK macPad
 rw [← keyB_length key, List.take_length, List.drop_length, List.append_nil]
structure MI (w wr : World) (g : Nat) (l : List UInt8) : Prop where
 bel : Below w.heap.size w wr
 lo : w.heap.size ≤ g
 lt : g < wr.heap.size
 got : wr.rangeAt g 0 (l.map vb)
 out : wr.there g 0 64
theorem MI.set {w wr : World} {g : Nat} {l : List UInt8} (h : MI w wr g l) (k : Nat) (hk : k < l.length) (y : UInt8) : MI w (wr.setCell ⟨g, k, none⟩ (vb y)) g (l.set k y) := by
 refine ⟨h.bel.setCell h.lo _, h.lo, by simpa using h.lt, ?_, there_setCell h.out _ _⟩
 have := rangeAt_setCell_same h.got k (by simpa using hk) (vb y)
 rw [Nat.zero_add] at this
 rwa [List.map_set]
theorem MI.copied {w wr : World} {g : Nat} (hb : Below w.heap.size w wr) (lo : w.heap.size ≤ g) (lt : g < wr.heap.size) (hr : wr.rangeAt g 0 (List.replicate 64 (Value.int .u8 0))) (ht : wr.there g 0 64) (K : List UInt8) (hK : K.length ≤ 64) :
  MI w (wr.setCells g 0 (K.map vb)) g (K ++ List.replicate (64 - K.length) 0) := by
 refine ⟨below_setCells lo _ _ _ hb, lo, by rw [size_setCells]; exact lt, ?_, World.there_setCells ht _ _ _⟩
 rw [List.map_append]
 refine rangeAt_append (World.rangeAt_setCells_same _ _ _ _ (there_mono ht (by simpa using hK))) ?_
 rw [Nat.zero_add, List.length_map]
 refine World.rangeAt_setCells_apart ?_ _ _ _ (.inr (.inr (by simp)))
 have := rangeAt_drop hr K.length
 rw [Nat.zero_add, List.drop_replicate] at this
 simpa [vb, I8_eq] using this
theorem MI.sees {w wr : World} {g : Nat} {l : List UInt8} (h : MI w wr g l) (hl : l.length = 64) : SeesB wr (.slice (some ⟨g, 0, none⟩) 64 64) l := by
 refine ⟨by simp, .inr ⟨g, 0, 64, by rw [hl], h.lt, by omega, by simp [maxLen], h.got⟩⟩
end TL
end Go
namespace Go.Proofs.YtidadhbaomieiaaGreat
open Go.RowKit Go.TL
theorem pad_any (key : ByteArray) (x : UInt8) (w : World) (hs : key.size ≤ 1000000000000) :
  Calls Tryz.prog 88 #[.string key, .int .u8 (I8 x)] w fun e w' => e = .returned (.string ⟨(macPad (bytesOf key) x).toArray⟩) ∧ Below w.heap.size w w' := by
 by_cases hk : 64 < key.size
 ·have EK : Hid (bytesOf ⟨(shaL (bytesOf key)).toArray⟩ = keyL (bytesOf key)) := Lib.hid (by rw [keyL, if_pos (by rw [bytesOf_length]; exact hk)]; rfl)
  have HK : Hid (ByteArray.size ⟨(shaL (bytesOf key)).toArray⟩ ≤ 64) := Lib.hid (by show (shaL (bytesOf key)).toArray.size ≤ 64; simp [shaL_length])
  go_enter Tryz.func88, Tryz.ntmps88
  go_wp2_with (first | (go_at_call 87; (refine (shaSum_any key w hs).mono ?_; rintro e w1 ⟨rfl, hb1⟩; have Hb1 := Lib.hid hb1; clear hb1)) | ((with_reducible show wpList _ _ _ (Oper.mk _ (Op.alloc 64) _ _ _ _ :: _) _ _); (refine wpList_newRow rfl _ rfl (Array.replicate 32 (.int .u8 0)) yC ?_; intro w2 hb2 hs2 hr2 ht2; have Hb2 := Lib.hid hb2; clear hb2 hr2; have Hs2 := Lib.hid hs2; clear hs2; have Ht2 := Lib.hid ht2; clear ht2)) | ((with_reducible show wpList _ _ _ (Oper.mk none (Op.store 64 _ _) _ _ _ _ :: _) _ _); (refine wpList_putRow rfl 64 _ _ rfl w1.heap.size 0 ((shaL (bytesOf key)).map vb) rfl rfl (by exact Ht2.out) yC (vb_one _) ?_; have hrs2 : (convert 70 9 (.slice (some ⟨w1.heap.size, 0, none⟩) 32 32)).run Tryz.prog (w2.setCells w1.heap.size 0 ((shaL (bytesOf key)).map vb)) = .ok (.string ⟨(shaL (bytesOf key)).toArray⟩) (w2.setCells w1.heap.size 0 ((shaL (bytesOf key)).map vb)) := SeesB.run_string (l := shaL (bytesOf key)) ⟨by simp, .inr ⟨w1.heap.size, 0, 32, by rw [shaL_length], by rw [size_setCells]; have := Hs2.out; omega, by simp [shaL_length], by simp [maxLen], World.rangeAt_setCells_same _ _ _ _ (by exact Ht2.out)⟩⟩ 70 9 5 Tryz.underlying70 Tryz.underlying5 Tryz.underlying9 _ (grownBy_refl _ _); obtain ⟨wS, eS⟩ : ∃ wS, wS = w2.setCells w1.heap.size 0 ((shaL (bytesOf key)).map vb) := ⟨_, rfl⟩; have HbS : Hid (Below w.heap.size w wS) := Lib.hid (by rw [eS]; exact below_setCells Hb1.out.size _ _ _ (Hb1.out.trans (Hb2.out.mono Hb1.out.size))); rw [← eS] at hrs2; rw [← eS]; clear eS)) | ((with_reducible show wpList _ _ _ (Oper.mk _ (Op.alloc 209) _ _ _ _ :: _) _ _); (refine wpList_newRow rfl _ rfl (Array.replicate 64 (.int .u8 0)) yC ?_; intro w3 hb3 hs3 hr3 ht3; have Hb3 := Lib.hid hb3; clear hb3; have Hs3 := Lib.hid hs3; clear hs3; have Hr3 := Lib.hid hr3; clear hr3; have Ht3 := Lib.hid ht3; clear ht3)) | ((with_reducible show wpList _ _ _ (Oper.mk _ (Op.call ⟨Callee.builtin Builtin.copy, _, _⟩) _ _ _ _ :: _) _ _); (refine wpList_copy bytesT rfl _ _ 9 rfl wS.heap.size 0 64 64 rfl (.string (ByteArray.mk (shaL (bytesOf key)).toArray)) (ByteArray.mk (shaL (bytesOf key)).toArray).size _ rfl (Src_string _ _) (ByteArray.mk (shaL (bytesOf key)).toArray).size (by exact (Nat.min_eq_left HK.out).symm) (by rw [Nat.mul_one]; exact there_mono (by simpa using Ht3.out) HK.out) ?_)))
  have BW : Hid (Below w.heap.size w w3) := Lib.hid (HbS.out.trans (Hb3.out.mono HbS.out.size))
  have LO : Hid (w.heap.size ≤ wS.heap.size) := Lib.hid HbS.out.size
  have M0 : Hid (MI w (w3.setCells wS.heap.size 0 ((((ByteArray.mk (shaL (bytesOf key)).toArray)).data.toList.map vb).take (((ByteArray.mk (shaL (bytesOf key)).toArray)).size * 1))) wS.heap.size (padK (keyB (bytesOf key)) x 0)) := Lib.hid (by
   have := MI.copied BW.out (LO.out) (by have := Hs3.out; omega) (by simpa using Hr3.out) (by simpa using Ht3.out) (bytesOf (ByteArray.mk (shaL (bytesOf key)).toArray)) (by rw [bytesOf_length]; exact HK.out)
   rw [show padK (keyB (bytesOf key)) x 0 = keyB (bytesOf key) from rfl, keyB, ← EK.out, show (((ByteArray.mk (shaL (bytesOf key)).toArray)).data.toList.map vb).take (((ByteArray.mk (shaL (bytesOf key)).toArray)).size * 1) = (bytesOf (ByteArray.mk (shaL (bytesOf key)).toArray)).map vb from by rw [Nat.mul_one, ← bytesOf_length, ← List.length_map (f := vb)]; exact List.take_length]
   exact this)
  clear Hb3 Hs3 Hr3 Ht3
  go_simp
  go_loopw [18] (fun iv wr => ∃ k : Nat, k ≤ 64 ∧ iv = .int .i64 k ∧ MI w wr wS.heap.size (padK (keyB (bytesOf key)) x k)) (fun iv _ => 64 - (intOf iv).toNat)
  case atStart => exact ⟨0, by omega, rfl, by first | exact M0.out | (have := M0.out; rw [Nat.mul_one] at this; exact this)⟩
  case round =>
   clear M0
   obtain ⟨k, hk64, rfl, M⟩ := hrel
   have M' := Lib.hid M; clear M
   by_cases hlt : k < 64
   ·have hkl : k < (keyB (bytesOf key)).length := by rw [keyB_length]; exact hlt
    obtain ⟨y, hy⟩ : ∃ y, y = (keyB (bytesOf key))[k] := ⟨_, rfl⟩
    have c1 : wr.cell? ⟨wS.heap.size, k, none⟩ = some (.int .u8 (I8 y)) := by
     have := M'.out.got k (vb y) (by rw [List.getElem?_map, padK_get _ _ _ hkl, hy]; rfl)
     rwa [Nat.zero_add] at this
    have c2 : wr.frozen? ⟨wS.heap.size, k, none⟩ = false := by
     have := (M'.out.out k hlt).2
     rwa [Nat.zero_add] at this
    have M1 := Lib.hid (M'.out.set k (by rw [padK_length]; exact hkl) (y ^^^ x))
    rw [hy, padK_set _ _ _ hkl, ← hy] at M1
    clear hy hkl
    go_wp2_with fail
    go_roundw
    case rel => exact ⟨k + 1, by omega, by go_num, M1.out⟩
    case measure => simp [intOf]; omega
   ·have hk' : k = 64 := by omega
    subst hk'
    have hrs := SeesB.run_string (M'.out.sees (by rw [padK_length, keyB_length])) 70 9 5 Tryz.underlying70 Tryz.underlying5 Tryz.underlying9 _ (grownBy_refl _ _)
    rw [padK_all] at hrs
    go_wp2_with fail
    go_ret
    exact ⟨rfl, M'.out.bel⟩
 ·have EK : Hid (bytesOf key = keyL (bytesOf key)) := Lib.hid (by rw [keyL, if_neg (by rw [bytesOf_length]; exact hk)])
  have HK : Hid (key.size ≤ 64) := Lib.hid yE
  go_enter Tryz.func88, Tryz.ntmps88
  go_wp2_with (first | ((with_reducible show wpList _ _ _ (Oper.mk _ (Op.alloc 209) _ _ _ _ :: _) _ _); (refine wpList_newRow rfl _ rfl (Array.replicate 64 (.int .u8 0)) yC ?_; intro w3 hb3 hs3 hr3 ht3; have Hb3 := Lib.hid hb3; clear hb3; have Hs3 := Lib.hid hs3; clear hs3; have Hr3 := Lib.hid hr3; clear hr3; have Ht3 := Lib.hid ht3; clear ht3)) | ((with_reducible show wpList _ _ _ (Oper.mk _ (Op.call ⟨Callee.builtin Builtin.copy, _, _⟩) _ _ _ _ :: _) _ _); (refine wpList_copy bytesT rfl _ _ 9 rfl w.heap.size 0 64 64 rfl (.string (key)) (key).size _ rfl (Src_string _ _) (key).size (by exact (Nat.min_eq_left HK.out).symm) (by rw [Nat.mul_one]; exact there_mono (by simpa using Ht3.out) HK.out) ?_)))
  have BW : Hid (Below w.heap.size w w3) := Lib.hid Hb3.out
  have LO : Hid (w.heap.size ≤ w.heap.size) := Lib.hid (Nat.le_refl _)
  have M0 : Hid (MI w (w3.setCells w.heap.size 0 (((key).data.toList.map vb).take ((key).size * 1))) w.heap.size (padK (keyB (bytesOf key)) x 0)) := Lib.hid (by
   have := MI.copied BW.out (LO.out) (by have := Hs3.out; omega) (by simpa using Hr3.out) (by simpa using Ht3.out) (bytesOf key) (by rw [bytesOf_length]; exact HK.out)
   rw [show padK (keyB (bytesOf key)) x 0 = keyB (bytesOf key) from rfl, keyB, ← EK.out, show ((key).data.toList.map vb).take ((key).size * 1) = (bytesOf key).map vb from by rw [Nat.mul_one, ← bytesOf_length, ← List.length_map (f := vb)]; exact List.take_length]
   exact this)
  clear Hb3 Hs3 Hr3 Ht3
  go_simp
  go_loopw [18] (fun iv wr => ∃ k : Nat, k ≤ 64 ∧ iv = .int .i64 k ∧ MI w wr w.heap.size (padK (keyB (bytesOf key)) x k)) (fun iv _ => 64 - (intOf iv).toNat)
  case atStart => exact ⟨0, by omega, rfl, by first | exact M0.out | (have := M0.out; rw [Nat.mul_one] at this; exact this)⟩
  case round =>
   clear M0
   obtain ⟨k, hk64, rfl, M⟩ := hrel
   have M' := Lib.hid M; clear M
   by_cases hlt : k < 64
   ·have hkl : k < (keyB (bytesOf key)).length := by rw [keyB_length]; exact hlt
    obtain ⟨y, hy⟩ : ∃ y, y = (keyB (bytesOf key))[k] := ⟨_, rfl⟩
    have c1 : wr.cell? ⟨w.heap.size, k, none⟩ = some (.int .u8 (I8 y)) := by
     have := M'.out.got k (vb y) (by rw [List.getElem?_map, padK_get _ _ _ hkl, hy]; rfl)
     rwa [Nat.zero_add] at this
    have c2 : wr.frozen? ⟨w.heap.size, k, none⟩ = false := by
     have := (M'.out.out k hlt).2
     rwa [Nat.zero_add] at this
    have M1 := Lib.hid (M'.out.set k (by rw [padK_length]; exact hkl) (y ^^^ x))
    rw [hy, padK_set _ _ _ hkl, ← hy] at M1
    clear hy hkl
    go_wp2_with fail
    go_roundw
    case rel => exact ⟨k + 1, by omega, by go_num, M1.out⟩
    case measure => simp [intOf]; omega
   ·have hk' : k = 64 := by omega
    subst hk'
    have hrs := SeesB.run_string (M'.out.sees (by rw [padK_length, keyB_length])) 70 9 5 Tryz.underlying70 Tryz.underlying5 Tryz.underlying9 _ (grownBy_refl _ _)
    rw [padK_all] at hrs
    go_wp2_with fail
    go_ret
    exact ⟨rfl, M'.out.bel⟩
end Go.Proofs.YtidadhbaomieiaaGreat

namespace Go
namespace TL
def Seg (F : Act → World → Prop) : Exit → Act → World → Prop
 | .normal, a, w => F a w
 | _, _, _ => False
theorem Seg.intro {F : Act → World → Prop} {a : Act} {w : World} (h : F a w) : Seg F .normal a w := h
theorem Seg.letsOut {F : Act → World → Prop} (h : LetsOut (Seg F)) : False := by
 obtain ⟨a, w, h⟩ := h; exact h
theorem Oper.wp_seg {P : Program} {o : Oper} {a : Act} {w : World} {K K' : Act → World → Prop} {F F' : Act → World → Prop} (h : ∀ a w, K a w → K' a w) (hh : o.wp P a w K (Seg F)) : o.wp P a w K' (Seg F') := by
 unfold Oper.wp at *
 generalize (execOp a.eval o).run P w = r at *
 cases r with
 | ok n w1 =>
  cases n <;> simp only [Oper.upon] at hh ⊢
  case value v => exact h _ _ hh
  case skip => exact h _ _ hh
  case defer d => exact h _ _ hh
  case enter f args =>
   refine Calls.mono hh fun e w2 h2 => ?_
   cases e with
   | returned v => exact h _ _ h2
   | panicked c => exact h2.elim
   | outgrown => exact (Seg.letsOut h2).elim
  case row row args => exact fun b k => let ⟨v, w2, h1, h2⟩ := hh b k; ⟨v, w2, h _ _ h1, h2⟩
 | halt x w1 => cases x <;> simp only [Oper.upon] at hh <;> exact hh.elim
section
variable {P : Program} {ops : Array Oper} {Q : Exit → Act → World → Prop} {md : Region.Mode} {I : World → Prop}
def wpAnyI (P : Program) (md : Region.Mode) (ops : Array Oper) (Q : Exit → Act → World → Prop) (I : World → Prop) : Nat → Array Bool → Act → World → Prop
 | 0, listed, a, w => Region.ready md ops listed = [] ∧ Q .normal a w
 | fuel + 1, listed, a, w =>
  (Region.ready md ops listed = [] → Q .normal a w) ∧
  ∀ j ∈ Region.ready md ops listed, wpOp P ops Q j (fun a' w' => I w' ∧ wpAnyI P md ops Q I fuel (listed.setIfInBounds j true) a' w') a w
theorem wpAny_of_I : ∀ (fuel : Nat) (listed : Array Bool) (a : Act) (w : World), wpAnyI P md ops Q I fuel listed a w → wpAny P md ops Q fuel listed a w
 | 0, _, _, _, h => h
 | fuel + 1, _, _, _, h => ⟨h.1, fun j hj => wpOp_mono (fun a' w' h' => wpAny_of_I fuel _ a' w' h'.2) (h.2 j hj)⟩
theorem I_first {i : Nat} {oi : Oper} {v : Value} (hi : ops[i]? = some oi) (hsel : ∀ (j : Nat) (o : Oper) cs b, ops[j]? = some o → o.op ≠ .select cs b)
  (hQ : ∀ c a w, Q (.panic c) (a.put oi.dst v) w → Q (.panic c) a w) :
  ∀ (fuel : Nat) (listed : Array Bool) (a : Act) (w : World),
   (∀ j oj, ops[j]? = some oj → j ≠ i → listed.getD j true = false → (∀ e ∈ oj.after, Region.binds md e = true → e.on ≠ i) → oi.apart ops oj = true) →
   i ∈ Region.ready md ops listed → YieldsIf P ops I oi v a → I w →
   wpAnyI P md ops Q I fuel (listed.setIfInBounds i true) (a.put oi.dst v) w → wpAnyI P md ops Q I (fuel + 1) listed a w := by
 intro fuel
 induction fuel with
 | zero =>
  intro listed a w _ hr hy hw H
  refine ⟨fun h => (by rw [h] at hr; cases hr), fun j hj => ?_⟩
  by_cases hji : j = i
  ·subst hji; exact hy.wpOp hi hw ⟨hw, H⟩
  ·have := ready_mono hj hji
   rw [H.1] at this
   cases this
 | succ fuel ih =>
  intro listed a w hfree hr hy hw H
  refine ⟨fun h => (by rw [h] at hr; cases hr), fun j hj => ?_⟩
  by_cases hji : j = i
  ·subst hji; exact hy.wpOp hi hw ⟨hw, H⟩
  ·have h1 := H.2 j (ready_mono hj hji)
   obtain ⟨hjun, oj, hoj, hall⟩ := mem_ready.1 hj
   have hnot := not_waits hr hoj hall
   have h2 := wpOp_putIf hoj (hfree j oj hoj hji hjun hnot) (fun cs b => hsel i oi cs b hi) (fun cs b => hsel j oj cs b hoj) hQ hy h1
   have hfree' : ∀ k ok, ops[k]? = some ok → k ≠ i → (listed.setIfInBounds j true).getD k true = false →
     (∀ e ∈ ok.after, Region.binds md e = true → e.on ≠ i) → oi.apart ops ok = true := fun k ok hk hki hun hno => by
    refine hfree k ok hk hki ?_ hno
    by_cases hjk : j = k
    ·subst hjk; exact hjun
    ·rw [getD_set_ne true hjk] at hun; exact hun
   refine wpOp_mono (fun a' w' h3 => ⟨h3.2.1, ih (listed.setIfInBounds j true) a' w' hfree' (ready_mono hr (Ne.symm hji)) h3.1 h3.2.1 ?_⟩) h2
   rw [Array.setIfInBounds_comm _ _ hji]; exact h3.2.2
end
/-! ### The walk -/
def planW (P : Program) (ops : Array Oper) (fin : Act → World → Prop) (I : World → Prop) : Plan → List Oper × (Act → World → Prop)
 | [] => ([], fin)
 | (i, false) :: r => (opAt ops i :: (planW P ops fin I r).1, (planW P ops fin I r).2)
 | (i, true) :: r => ([opAt ops i], fun a w => I w ∧ wpList P ops (Seg (planW P ops fin I r).2) (planW P ops fin I r).1 a w)
def lowOpnd (o : Oper) : Operand := match o.op with | .load _ x => x | .convert _ _ x => x | _ => .const undef
def Stab (P : Program) (I : World → Prop) (o : Oper) (p : Value) : Prop :=
 match o.op with
 | .load t _ => ∃ v, ∀ w, I w → (Instr.loadAt t p).run P w = .ok v w
 | .convert src dst _ => ∃ v, ∀ w, I w → (convert src dst p).run P w = .ok v w
 | _ => False
def finI (ops : Array Oper) (need : Needs) (low : List (Nat × Value)) (Q : Exit → Act → World → Prop) : Act → World → Prop := fun a w =>
 needOk need a = true ∧ (∀ x ∈ low, a.eval (lowOpnd (opAt ops x.1)) = x.2) ∧ Q .normal a w
def staysLow (ops : Array Oper) (o : Oper) (r : Plan) : Bool := r.all fun x => match (opAt ops x.1).dst with | some d => !(tmpsIn o).contains d | none => true
def detI (P : Program) (ops : Array Oper) (need : Needs) (idx : List Nat) : Array Bool → Plan → Bool
 | listed, [] => (Region.ready .any ops listed).isEmpty
 | listed, (i, false) :: r =>
  (Region.ready .any ops listed).contains i && Region.free .any ops listed i &&
   ((stays ops need (opAt ops i) ((i, false) :: r) && pureOp P (needOf need (opAt ops i)) (opAt ops i)) || (idx.contains i && staysLow ops (opAt ops i) ((i, false) :: r))) &&
   detI P ops need idx (listed.setIfInBounds i true) r
 | listed, (i, true) :: r => Region.ready .any ops listed == [i] && detI P ops need idx (listed.setIfInBounds i true) r
section
variable {P : Program} {ops : Array Oper} {I : World → Prop} {fin : Act → World → Prop}
theorem stepS {F : Act → World → Prop} {o : Oper} {l : List Oper} {a : Act} {w : World} (h : wpList P ops (Seg F) (o :: l) a w) :
  ∃ a' w', wpList P ops (Seg F) l a' w' ∧ ∀ t, o.dst ≠ some t → a'.tmps.getD t undef = a.tmps.getD t undef := by
 unfold wpList at h
 split at h
 ·rcases h with h | h
  ·unfold Oper.wp at h
   generalize (execOp a.eval o).run P w = r at h
   cases r with
   | ok n w1 =>
    cases n <;> simp only [Oper.upon] at h
    case value v => exact ⟨_, _, h, fun t ht => put_ne ht⟩
    case skip => exact ⟨_, _, h, fun t ht => put_ne ht⟩
    case defer d => exact ⟨_, _, h, fun t ht => put_ne (a := { a with defers := d :: a.defers }) ht⟩
    case enter f args =>
     obtain ⟨e, w2, fr, hR, _⟩ := h []
     cases e with
     | returned v => exact ⟨_, _, hR, fun t ht => put_ne ht⟩
     | panicked c => exact hR.elim
     | outgrown => exact (Seg.letsOut hR).elim
    case row row args =>
     obtain ⟨v, w2, hR, _⟩ := h default []
     exact ⟨_, _, hR, fun t ht => put_ne ht⟩
   | halt x w1 => cases x <;> simp only [Oper.upon] at h <;> exact h.elim
  ·exact (Seg.letsOut h.2).elim
 ·exact ⟨_, _, h, fun t ht => put_ne ht⟩
theorem endsP : ∀ (plan : Plan) (a : Act) (w : World), wpList P ops (Seg (planW P ops fin I plan).2) (planW P ops fin I plan).1 a w →
  ∃ af wf, fin af wf ∧ ∀ t, (∀ x ∈ plan, (opAt ops x.1).dst ≠ some t) → af.tmps.getD t undef = a.tmps.getD t undef
 | [], a, w, h => ⟨a, w, h, fun _ _ => rfl⟩
 | (i, false) :: r, a, w, h => by
  obtain ⟨a', w', h1, h2⟩ := stepS h
  obtain ⟨af, wf, h3, h4⟩ := endsP r a' w' h1
  exact ⟨af, wf, h3, fun t ht => (h4 t fun x hx => ht x (List.mem_cons_of_mem _ hx)).trans (h2 t (ht (i, false) List.mem_cons_self))⟩
 | (i, true) :: r, a, w, h => by
  obtain ⟨a', w', h1, h2⟩ := stepS h
  obtain ⟨af, wf, h3, h4⟩ := endsP r a' w' h1.2
  exact ⟨af, wf, h3, fun t ht => (h4 t fun x hx => ht x (List.mem_cons_of_mem _ hx)).trans (h2 t (ht (i, true) List.mem_cons_self))⟩
theorem eval_same {a a' : Act} {x : Operand} (h : ∀ t, x = .tmp t → a'.tmps.getD t undef = a.tmps.getD t undef) : a'.eval x = a.eval x := by
 cases x <;> simp only [Act.eval]
 exact h _ rfl
theorem lowOpnd_in (o : Oper) {t : Tmp} (h : lowOpnd o = .tmp t) : t ∈ tmpsIn o := by
 obtain ⟨dst, op, type, pos, after, guard⟩ := o
 cases op <;> simp only [lowOpnd, reduceCtorEq] at h
 all_goals (subst h; simp [tmpsIn, Op.operands])
theorem mainI {need : Needs} {low : List (Nat × Value)} {Q : Exit → Act → World → Prop} (hs : Region.noSelect ops = true) (hlow : ∀ x ∈ low, Stab P I (opAt ops x.1) x.2) :
  ∀ (plan : Plan) (listed : Array Bool) (a : Act) (w : World), detI P ops need (low.map (·.1)) listed plan = true → I w →
   wpList P ops (Seg (planW P ops (finI ops need low Q) I plan).2) (planW P ops (finI ops need low Q) I plan).1 a w →
   wpAnyI P .any ops (Seg (finI ops need low Q)) I plan.length listed a w
 | [], listed, a, w, hd, _, h => by
  have : Region.ready .any ops listed = [] := by simpa [detI] using hd
  exact ⟨this, h⟩
 | (i, false) :: r, listed, a, w, hd, hIw, h => by
  simp only [detI, Bool.and_eq_true] at hd
  obtain ⟨⟨⟨hr, hf⟩, hk⟩, hrest⟩ := hd
  have hr' : i ∈ Region.ready .any ops listed := by simpa using hr
  obtain ⟨_, oi, hoi, _⟩ := mem_ready.1 hr'
  have hat : opAt ops i = oi := by simp [opAt, hoi]
  have hends := endsP ((i, false) :: r) a w h
  have h' : wpList P ops (Seg (planW P ops (finI ops need low Q) I r).2) (oi :: (planW P ops (finI ops need low Q) I r).1) a w := by
   rw [← hat]; exact h
  have hQ : ∀ v c a w, Seg (finI ops need low Q) (.panic c) (a.put oi.dst v) w → Seg (finI ops need low Q) (.panic c) a w := fun _ _ _ _ h => h.elim
  have hsel := fun j o cs b ho => Region.noSelect_spec hs j o cs b ho
  -- what it comes to, in every world that meets I
  have key : ∀ (s : Sem Value), execOp a.eval oi = (do Pure.pure (Next.value (← s))) → (∀ v w1, s.run P w = .ok v w1 → w1 = w ∧ ∀ w', I w' → s.run P w' = .ok v w') →
    wpAnyI P .any ops (Seg (finI ops need low Q)) I (r.length + 1) listed a w := fun s hex hl => by
   cases hw : Region.wanted oi (yielded ops a.tmps) with
   | true =>
    unfold wpList at h'
    rw [if_pos hw] at h'
    rcases h' with h' | h'
    ·unfold Oper.wp at h'
     rw [hex, Sem.run_bind] at h'
     cases hrun : s.run P w with
     | ok v w1 =>
      obtain ⟨rfl, hall⟩ := hl _ _ hrun
      rw [hrun] at h'
      have hy : YieldsIf P ops I oi v a := .inl ⟨hw, fun w' hw' => by rw [hex, Sem.run_bind, hall w' hw']; rfl⟩
      exact I_first hoi hsel (hQ v) r.length listed a w1 (Region.free_spec hoi hf) hr' hy hIw (mainI hs hlow r _ _ w1 hrest hIw h')
     | halt x w1 =>
      rw [hrun] at h'
      cases x <;> exact h'.elim
    ·exact (Seg.letsOut h'.2).elim
   | false =>
    unfold wpList at h'
    rw [if_neg (by rw [hw]; decide)] at h'
    exact I_first hoi hsel (hQ undef) r.length listed a w (Region.free_spec hoi hf) hr' (.inr ⟨hw, rfl⟩) hIw (mainI hs hlow r _ _ w hrest hIw h')
  obtain ⟨af, wf, ⟨hneed, hlowf, _⟩, hsame⟩ := hends
  rcases (Bool.or_eq_true _ _).mp hk with hp | hp
  ·obtain ⟨hst, hp⟩ := (Bool.and_eq_true _ _).mp hp
   have hne : needOk (needOf need (opAt ops i)) a = true := by
    unfold needOk at hneed ⊢
    rw [List.all_eq_true] at hneed ⊢
    intro p hpm
    have hp0 := hpm
    simp only [needOf, List.mem_filter] at hpm
    have h3 := hneed p hpm.1
    rw [hsame p.1 (fun x hx hd => by
     have h5 := List.all_eq_true.1 hst x hx
     simp only [hd] at h5
     have h6 := List.all_eq_true.1 h5 p hp0
     simp at h6)] at h3
    exact h3
   rw [hat] at hp hne
   obtain ⟨s, hex, hloc⟩ := pureOp_local hp hne
   exact key s hex fun v w1 hrun => ⟨(hloc _ _ _ hrun).1, fun w' _ => (hloc _ _ _ hrun).2 w'⟩
  ·obtain ⟨hix, hst⟩ := (Bool.and_eq_true _ _).mp hp
   simp only [List.contains_iff_mem, List.mem_map] at hix
   obtain ⟨⟨i', p⟩, hxm, hxi⟩ := hix
   have hxi' : i' = i := hxi
   subst hxi'
   have hev : a.eval (lowOpnd oi) = p := by
    have e := hlowf _ hxm
    simp only [hat] at e
    rw [← e]
    refine (eval_same fun t ht => ?_).symm
    refine hsame t fun x hx hd => ?_
    have h5 := List.all_eq_true.1 hst x hx
    simp only [hd, hat] at h5
    have h6 := lowOpnd_in oi ht
    simp [h6] at h5
   have hstab := hlow _ hxm
   simp only [hat] at hstab
   unfold Stab at hstab
   cases hop : oi.op <;> simp only [hop] at hstab
   case load t x =>
    have hev' : a.eval x = p := by simpa only [lowOpnd, hop] using hev
    obtain ⟨v, hv⟩ := hstab
    refine key (Instr.loadAt t p) (by simp only [execOp, hop, hev']) fun u w1 hrun => ?_
    rw [hv w hIw] at hrun
    cases hrun
    exact ⟨rfl, hv⟩
   case convert src d x =>
    have hev' : a.eval x = p := by simpa only [lowOpnd, hop] using hev
    obtain ⟨v, hv⟩ := hstab
    refine key (Go.convert src d p) (by simp only [execOp, hop, hev']) fun u w1 hrun => ?_
    rw [hv w hIw] at hrun
    cases hrun
    exact ⟨rfl, hv⟩
 | (i, true) :: r, listed, a, w, hd, hIw, h => by
  simp only [detI, Bool.and_eq_true] at hd
  have hr : Region.ready .any ops listed = [i] := by simpa using hd.1
  have hr' : i ∈ Region.ready .any ops listed := by rw [hr]; simp
  obtain ⟨_, oi, hoi, _⟩ := mem_ready.1 hr'
  have hat : opAt ops i = oi := by simp [opAt, hoi]
  refine ⟨fun h0 => (by rw [hr] at h0; cases h0), fun j hj => ?_⟩
  rw [hr] at hj
  obtain rfl : j = i := by simpa using hj
  have h1 : wpList P ops (Seg (planW P ops (finI ops need low Q) I ((j, true) :: r)).2) [oi] a w := by rw [← hat]; exact h
  have cont : ∀ a' w', I w' ∧ wpList P ops (Seg (planW P ops (finI ops need low Q) I r).2) (planW P ops (finI ops need low Q) I r).1 a' w' →
    I w' ∧ wpAnyI P .any ops (Seg (finI ops need low Q)) I r.length (listed.setIfInBounds j true) a' w' := fun a' w' ⟨h2, h3⟩ => ⟨h2, mainI hs hlow r _ a' w' hd.2 h2 h3⟩
  unfold wpOp
  rw [hoi]
  unfold wpList at h1
  dsimp only
  split
  ·rename_i hw
   rw [if_pos hw] at h1
   rcases h1 with h1 | h1
   ·exact .inl (Oper.wp_seg cont h1)
   ·exact (Seg.letsOut h1.2).elim
  ·rename_i hw
   rw [if_neg hw] at h1
   exact cont _ _ h1
theorem region_low {Q : Exit → Act → World → Prop} {id : Nat} {l : List Oper} {a : Act} {w : World} (plan : Plan) (need : Needs) (low : List (Nat × Value)) (I : World → Prop) (hm : P.follows .mixedOrders = true)
  (hs : Region.noSelect l.toArray = true) (hn : plan.length = l.length) (hd : detI P l.toArray need (low.map (·.1)) (Array.replicate l.length false) plan = true)
  (hlow : ∀ x ∈ low, Stab P I (opAt l.toArray x.1) x.2) (hI : I w.drew)
  (h : wpList P l.toArray (Seg (planW P l.toArray (finI l.toArray need low Q) I plan).2) (planW P l.toArray (finI l.toArray need low Q) I plan).1 a w.drew) : (Code.region id l.toArray true).wp P Q a w := by
 refine Code.wp_mono (Q := Seg (finI l.toArray need low Q)) (fun e a w h => ?_) ?_
 ·cases e <;> first | exact h.2.2 | exact h.elim
 ·refine wp_region_any hm (wpAny_of_I (I := I) _ _ _ _ (?_ : wpAnyI P .any l.toArray (Seg (finI l.toArray need low Q)) I l.toArray.size (Array.replicate l.toArray.size false) a w.drew))
  have := mainI (Q := Q) hs hlow plan (Array.replicate l.length false) a w.drew hd hI h
  rw [hn] at this
  exact this
end
/-! ### What is told to it -/
theorem stab_load {P : Program} {I : World → Prop} {o : Oper} {t : TypeId} {x : Operand} (ho : o.op = .load t x) (b off : Nat) (cs : List Value) (d : TypeDesc) (hI : ∀ w', I w' → w'.rangeAt b off cs)
  (hu : P.underlying t = some d) (hd : d.isRow = true) (hi : (P.info? t).map (·.size) = some cs.length) : Stab P I o (.pointer (some ⟨b, off, none⟩)) := by
 unfold Stab; rw [ho]
 exact ⟨_, fun w' hw => run_loadAt_mid w' b off t cs d (hI w' hw) hu hd hi⟩
theorem stab_conv {P : Program} {I : World → Prop} {o : Oper} {src dst e : TypeId} {x : Operand} (ho : o.op = .convert src dst x) (v : Value) (l : List UInt8) (hI : ∀ w', I w' → SeesB w' v l)
  (hs : P.underlying src = some (.slice e)) (he : P.underlying e = some (.int .u8)) (hd : P.underlying dst = some .string) : Stab P I o v := by
 unfold Stab; rw [ho]
 exact ⟨_, fun w' hw => SeesB.run_string (hI w' hw) src dst e hs he hd w' (grownBy_refl _ _)⟩
theorem lows_cons {P : Program} {I : World → Prop} {ops : Array Oper} {x : Nat × Value} {low : List (Nat × Value)} (h : Stab P I (opAt ops x.1) x.2) (r : ∀ x ∈ low, Stab P I (opAt ops x.1) x.2) : ∀ y ∈ x :: low, Stab P I (opAt ops y.1) y.2 :=
 List.forall_mem_cons.2 ⟨h, r⟩
theorem lows_nil {P : Program} {I : World → Prop} {ops : Array Oper} : ∀ y ∈ ([] : List (Nat × Value)), Stab P I (opAt ops y.1) y.2 := fun _ h => by cases h
theorem ats_cons {ops : Array Oper} {a : Act} {x : Nat × Value} {low : List (Nat × Value)} (h : a.eval (lowOpnd (opAt ops x.1)) = x.2) (r : ∀ x ∈ low, a.eval (lowOpnd (opAt ops x.1)) = x.2) : ∀ y ∈ x :: low, a.eval (lowOpnd (opAt ops y.1)) = y.2 :=
 List.forall_mem_cons.2 ⟨h, r⟩
theorem ats_nil {ops : Array Oper} {a : Act} : ∀ y ∈ ([] : List (Nat × Value)), a.eval (lowOpnd (opAt ops y.1)) = y.2 := fun _ h => by cases h
theorem needs_nil {a : Act} : needOk [] a = true := rfl
theorem needs_cons {a : Act} {x : Tmp × Shape} {r : Needs} (h : x.2.ok (a.tmps.getD x.1 undef) = true) (k : needOk r a = true) : needOk (x :: r) a = true := by
 unfold needOk at *; rw [List.all_cons, h, k]; rfl
end TL
end Go

namespace Go
namespace TL
open Go.RowKit
def macL (key text : List UInt8) : List UInt8 := shaL (macPad key 92 ++ shaL (macPad key 54 ++ text))
theorem macL_length (key text : List UInt8) : (macL key text).length = 32 := rfl
theorem macPad_length (key : List UInt8) (x : UInt8) : (macPad key x).length = 64 := by rw [macPad, List.length_map, keyB_length]
theorem bytesOf_append (a b : ByteArray) : bytesOf (a ++ b) = bytesOf a ++ bytesOf b := by simp [bytesOf]
theorem size_mk (l : List UInt8) : (⟨l.toArray⟩ : ByteArray).size = l.length := by simp [ByteArray.size]
theorem seesB_row {w : World} {g : Nat} {l : List UInt8} {n : Nat} (hn : l.length = n) (hm : n ≤ 1000) (hg : g < w.heap.size) (hr : w.rangeAt g 0 (l.map vb)) : SeesB w (.slice (some ⟨g, 0, none⟩) n n) l := by
 refine ⟨by simp, .inr ⟨g, 0, n, by rw [hn], hg, by omega, by simp only [maxLen]; omega, hr⟩⟩
end TL
end Go
namespace Go.Proofs.YtidadhbaomieiaaGreat
open Go.RowKit Go.TL
theorem Tag_any (key text : ByteArray) (w : World) (hk : key.size ≤ 100000000000) (ht : text.size ≤ 100000000000) :
  Calls Tryz.prog 47 #[.string key, .string text] w fun e w' => e = .returned (.agg ((macL (bytesOf key) (bytesOf text)).map vb).toArray) ∧ Below w.heap.size w w' := by
 have z1 : (⟨(macPad (bytesOf key) 54).toArray⟩ : ByteArray).size = 64 := by rw [size_mk, macPad_length]
 have z2 : (⟨(macPad (bytesOf key) 92).toArray⟩ : ByteArray).size = 64 := by rw [size_mk, macPad_length]
 obtain ⟨s1, e1⟩ : ∃ s, s = (⟨(macPad (bytesOf key) 54).toArray⟩ : ByteArray) ++ text := ⟨_, rfl⟩
 have E1 := Lib.hid e1
 have e1' := e1.symm
 clear e1
 go_enter Tryz.func47, Tryz.ntmps47
 go_wp2_with (first | ((with_reducible show wpList _ _ _ (Oper.mk (some 4) (Op.alloc 64) _ _ _ _ :: _) _ _); (refine wpList_newRow rfl _ rfl (Array.replicate 32 (.int .u8 0)) yC ?_; intro w1 hb1 hs1 hr1 ht1; have Hb1 := Lib.hid hb1; clear hb1 hr1; have Hs1 := Lib.hid hs1; clear hs1; have Ht1 := Lib.hid ht1; clear ht1)) | (go_at_call 88; (refine (pad_any key 54 w1 yE).mono ?_; rintro e w2 ⟨rfl, hb2⟩; have Hb2 := Lib.hid hb2; clear hb2)) | (go_at_call 87; (refine (shaSum_any s1 w2 (by rw [E1.out, ByteArray.size_append, z1]; omega)).mono ?_; rintro e w3 ⟨rfl, hb3⟩; have Hb3 := Lib.hid hb3; clear hb3)) | ((with_reducible show wpList _ _ _ (Oper.mk (some 5) (Op.alloc 64) _ _ _ _ :: _) _ _); (refine wpList_newRow rfl _ rfl (Array.replicate 32 (.int .u8 0)) yC ?_; intro w4 hb4 hs4 hr4 ht4; have Hb4 := Lib.hid hb4; clear hb4 hr4; have Hs4 := Lib.hid hs4; clear hs4; have Ht4 := Lib.hid ht4; clear ht4)) | ((with_reducible show wpList _ _ _ (Oper.mk none (Op.store 64 (.tmp 5) _) _ _ _ _ :: _) _ _); (refine wpList_putRow rfl 64 _ _ rfl w3.heap.size 0 ((shaL (bytesOf s1)).map vb) rfl rfl (by exact Ht4.out) yC (vb_one _) ?_)))
 go_simp
 obtain ⟨lH, elH⟩ : ∃ l, l = shaL (bytesOf s1) := ⟨_, rfl⟩
 obtain ⟨w5, e5⟩ : ∃ w5, w5 = w4.setCells w3.heap.size 0 ((shaL (bytesOf s1)).map vb) := ⟨_, rfl⟩
 have h3 : Hid (w.heap.size + 1 ≤ w3.heap.size) := Lib.hid (by have := Hs1.out; have := Hb2.out.size; have := Hb3.out.size; omega)
 have S5 : Hid (SeesB w5 (.slice (some ⟨w3.heap.size, 0, none⟩) 32 32) lH) := Lib.hid (by rw [e5, elH]; exact seesB_row (shaL_length _) yE (by rw [size_setCells]; have := Hs4.out; omega) (World.rangeAt_setCells_same _ _ _ _ (by exact Ht4.out)))
 have B5 : Hid (Below w.heap.size w w5) := Lib.hid (by
  have b2 := Hb1.out.trans (Hb2.out.mono Hb1.out.size)
  have b3 := b2.trans (Hb3.out.mono b2.size)
  rw [e5]; exact below_setCells b3.size _ _ _ (b3.trans (Hb4.out.mono b3.size)))
 have T5 : Hid (w5.there w.heap.size 0 32) := Lib.hid (by
  have b3 := Hb2.out.trans (Hb3.out.mono Hb2.out.size)
  have b4 := b3.trans (Hb4.out.mono b3.size)
  have l1 := Hs1.out
  rw [e5]
  refine World.there_setCells (there_of_block (by simpa using Ht1.out) (b4.block _ yE)) _ _ _)
 rw [← e5]
 have hlen : lH.length = 32 := by rw [elH]; rfl
 have z3 : (⟨lH.toArray⟩ : ByteArray).size = 32 := by rw [size_mk, hlen]
 have ElH := Lib.hid elH; clear elH
 clear e5 Hb1 Hb2 Hb3 Hb4 Hs1 Hs4 Ht1 Ht4 e1'
 obtain ⟨s2, e2⟩ : ∃ s, s = (⟨(macPad (bytesOf key) 92).toArray⟩ : ByteArray) ++ ⟨lH.toArray⟩ := ⟨_, rfl⟩
 have E2 := Lib.hid e2
 have e2' := e2.symm
 clear e2
 refine region_low [(0, false), (2, false), (3, false), (1, true), (4, false), (5, true), (6, true)] [(12, .str), (14, .str)] [(3, .slice (some ⟨w3.heap.size, 0, none⟩) 32 32)] (fun w' => SeesB w' (.slice (some ⟨w3.heap.size, 0, none⟩) 32 32) lH) yC yC rfl yC
  (lows_cons (stab_conv rfl _ lH (fun _ h => h) Tryz.underlying70 Tryz.underlying5 Tryz.underlying9) lows_nil) S5.out ?_
 simp only [planW, opAt, List.getElem?_toArray, List.getElem?_cons_zero, List.getElem?_cons_succ, Option.getD_some]
 have hrs := SeesB.run_string S5.out 70 9 5 Tryz.underlying70 Tryz.underlying5 Tryz.underlying9 w5.drew (grownBy_drew _ _)
 go_wp2_with (go_at_call 88; (refine (pad_any key 92 w5.drew yE).mono ?_; rintro e w6 ⟨rfl, hb6⟩; have B6 : Hid (Below w5.heap.size w5 w6) := Lib.hid ((Below.refl _ w5).drew.trans hb6); clear hb6))
 refine Seg.intro ⟨Sees.below S5.out B6.out, ?_⟩
 clear hrs
 go_wp2_with (go_at_call 87; (refine (shaSum_any s2 w6 (by rw [E2.out, ByteArray.size_append, z2, z3]; omega)).mono ?_; rintro e w7 ⟨rfl, hb7⟩; have B7 : Hid (Below w5.heap.size w5 w7) := Lib.hid (B6.out.trans (hb7.mono B6.out.size)); clear hb7))
 refine Seg.intro ⟨Sees.below S5.out B7.out, ?_⟩
 have l0 : w.heap.size < w5.heap.size := by
  have h1 := h3.out
  obtain ⟨g, o, c, e, hg, _⟩ := (S5.out.2.resolve_left (by simp))
  injection e with e1 e2
  injection e1 with e1
  injection e1 with e1
  omega
 have T7 : Hid (w7.there w.heap.size 0 32) := Lib.hid (there_of_block T5.out (B7.out.block _ l0))
 go_wp2_with ((with_reducible show wpList _ _ _ (Oper.mk none (Op.store 64 (.tmp 4) _) _ _ _ _ :: _) _ _); (refine wpList_putRow rfl 64 _ _ rfl w.heap.size 0 ((shaL (bytesOf s2)).map vb) rfl rfl (by exact T7.out) yC (vb_one _) ?_))
 refine Seg.intro ⟨Sees.kept (Sees.below S5.out B7.out) (grownBy_setCells _ _ _ _) (.inr (by simp only [Value.ownBlock]; intro e; injection e with e; have := h3.out; omega)), ?_⟩
 refine Seg.intro ⟨needs_cons rfl (needs_cons rfl needs_nil), ats_cons rfl ats_nil, ?_⟩
 go_wp2_with fail
 refine bodyPost_ret (results_row rfl _ _ w.heap.size 0 ((shaL (bytesOf s2)).map vb) _ rfl (World.rangeAt_setCells_same _ _ _ _ (by exact T7.out)) Tryz.underlying64 rfl yC) rfl ⟨?_, below_setCells (Nat.le_refl _) _ _ _ (B5.out.trans (B7.out.mono (Nat.le_of_lt l0)))⟩
 have e1 : bytesOf s1 = macPad (bytesOf key) 54 ++ bytesOf text := by rw [E1.out, bytesOf_append]; rfl
 have e2 : bytesOf s2 = macPad (bytesOf key) 92 ++ lH := by rw [E2.out, bytesOf_append]; rfl
 rw [macL, e2, ElH.out, e1]
end Go.Proofs.YtidadhbaomieiaaGreat

namespace Go
namespace TL
open Go.RowKit
def diffB (a b : List UInt8) : Nat → UInt8
 | 0 => 0
 | k + 1 => diffB a b k ||| (a.getD k 0 ^^^ b.getD k 0)
theorem or_zero8 (x y : UInt8) : (x ||| y = 0) ↔ x = 0 ∧ y = 0 := by
 rw [← UInt8.toNat_inj, ← UInt8.toNat_inj, ← UInt8.toNat_inj, UInt8.toNat_or]
 simp [Nat.or_eq_zero_iff]
theorem xor_zero8 (x y : UInt8) : (x ^^^ y = 0) ↔ x = y := by
 constructor
 ·intro h
  have : x ^^^ y ^^^ y = 0 ^^^ y := by rw [h]
  simpa [UInt8.xor_assoc] using this
 ·rintro rfl; simp
theorem diffB_zero (a b : List UInt8) : ∀ k, diffB a b k = 0 ↔ ∀ i, i < k → a.getD i 0 = b.getD i 0
 | 0 => by simp [diffB]
 | k + 1 => by
  rw [diffB, or_zero8, diffB_zero a b k, xor_zero8]
  constructor
  ·rintro ⟨h1, h2⟩ i hi
   by_cases e : i = k
   ·subst e; exact h2
   ·exact h1 i yE
  ·intro h; exact ⟨fun i hi => h i yE, h k yE⟩
theorem diffB_eq (a b : List UInt8) (h : a.length = b.length) : (diffB a b a.length = 0) ↔ a = b := by
 rw [diffB_zero]
 constructor
 ·intro k
  refine List.ext_getElem h fun i h1 h2 => ?_
  have := k i h1
  simpa [h1, h2] using this
 ·rintro rfl i _; rfl
end TL
end Go
namespace Go.Proofs.YtidadhbaomieiaaGreat
open Go.RowKit Go.TL
theorem Equal_any (a b : List UInt8) (ha : a.length = 32) (hb : b.length = 32) (w : World) :
  Calls Tryz.prog 83 #[.agg (a.map vb).toArray, .agg (b.map vb).toArray] w fun e w' => e = .returned (.bool (a == b)) ∧ Below w.heap.size w w' := by
 have hA0 : Hid (((w.alloc (.cells (a.map vb).toArray 64)).alloc (.cells (b.map vb).toArray 64)).rangeAt w.heap.size 0 (a.map vb)) := Lib.hid (rangeAt_of_block (rangeAt_new w (a.map vb).toArray 64 (0, 0)) (((Below.refl (w.heap.size + 1) _).alloc (by simp) (.cells (b.map vb).toArray 64)).block _ yE))
 have hB0 : Hid (((w.alloc (.cells (a.map vb).toArray 64)).alloc (.cells (b.map vb).toArray 64)).rangeAt (w.heap.size + 1) 0 (b.map vb)) := Lib.hid (by have := rangeAt_new (w.alloc (.cells (a.map vb).toArray 64)) (b.map vb).toArray 64 (0, 0); simpa using this)
 go_enter Tryz.func83, Tryz.ntmps83
 go_wp2_with fail
 go_loopw [5, 7] (fun v iv wr => ∃ k : Nat, k ≤ 32 ∧ iv = .int .i64 k ∧ v = .int .u8 (I8 (diffB a b k)) ∧ Below (w.heap.size + 2) ((w.alloc (.cells (a.map vb).toArray 64)).alloc (.cells (b.map vb).toArray 64)) wr) (fun _ iv _ => 32 - (intOf iv).toNat)
 case atStart => exact ⟨0, by omega, rfl, rfl, Below.refl _ _⟩
 case round =>
  obtain ⟨k, hk, rfl, rfl, hbel⟩ := hrel
  have Hb := Lib.hid hbel; clear hbel
  by_cases hlt : k < 32
  ·obtain ⟨x, hx⟩ : ∃ x, x = a.getD k 0 := ⟨_, rfl⟩
   obtain ⟨y, hy⟩ : ∃ y, y = b.getD k 0 := ⟨_, rfl⟩
   obtain ⟨dk, hd⟩ : ∃ d, d = diffB a b k := ⟨_, rfl⟩
   have c1 : wr.cell? ⟨w.heap.size, k, none⟩ = some (.int .u8 (I8 x)) := by
    have := rangeAt_of_block hA0.out (Hb.out.block _ yE) k (vb x) (by rw [hx]; simp [ha, hlt])
    rwa [Nat.zero_add] at this
   have c2 : wr.cell? ⟨w.heap.size + 1, k, none⟩ = some (.int .u8 (I8 y)) := by
    have := rangeAt_of_block hB0.out (Hb.out.block _ yE) k (vb y) (by rw [hy]; simp [hb, hlt])
    rwa [Nat.zero_add] at this
   have e : diffB a b (k + 1) = dk ||| (x ^^^ y) := by rw [diffB, hx, hy, hd]
   rw [← hd]
   have E := Lib.hid e
   clear e hx hy hd
   go_wp2_with fail
   refine region_det [(0, false), (1, false), (2, false), (4, false), (5, false), (3, false), (6, false), (7, false), (8, false), (9, false)] [(13, .int), (16, .int), (10, .int), (17, .int)] yC yC rfl yC ?_
   simp only [reord, opAt, List.map_cons, List.map_nil, List.getElem?_toArray, List.getElem?_cons_zero, List.getElem?_cons_succ, Option.getD_some]
   go_wp2_with fail
   refine OnlyN.intro yC ?_
   go_wp2_with fail
   go_roundw
   case rel => exact ⟨k + 1, by omega, by go_num, by rw [E.out], Hb.out.drew⟩
   case measure => simp [intOf]; omega
  ·have hk' : k = 32 := by omega
   subst hk'
   have hq : (I8 (diffB a b 32) == 0) = (a == b) := by
    rw [Bool.eq_iff_iff, beq_iff_eq, beq_iff_eq, ← diffB_eq a b yE, ha, I8_eq]
    constructor
    ·intro h; exact UInt8.toNat_inj.1 (by simpa using h)
    ·intro h; rw [h]; rfl
   go_wp2_with fail
   go_ret
   refine ⟨rfl, ?_⟩
   have B0 : Below w.heap.size w ((w.alloc (.cells (a.map vb).toArray 64)).alloc (.cells (b.map vb).toArray 64)) := ((Below.refl _ w).alloc (Nat.le_refl _) _).alloc (by simp) _
   exact B0.trans (Hb.out.mono yE)
end Go.Proofs.YtidadhbaomieiaaGreat
