/- What all walks of this seat lean on: the slice types of the program as the memory laws want them; growth over several steps. No conditions but those each lemma names. -/
import Derived.Test.YtolmejipggdodaaRows
import Derived.Test.YtolmejipggdodaaMem
namespace Go
namespace TL
open Go.RowKit
/-- The value's block is as it was, or a new one. -/
def FreshOr (w : World) (v v' : Value) : Prop := v'.ownBlock = v.ownBlock ∨ ∃ g, v'.ownBlock = some g ∧ w.heap.size ≤ g
theorem FreshOr.refl (w : World) (v : Value) : FreshOr w v v := .inl rfl
theorem grow_step {w wr w2 : World} {v bv : Value} (h : w.grownBy wr v.ownBlock) (hf : FreshOr w v bv) (k : wr.grownBy w2 bv.ownBlock) : w.grownBy w2 v.ownBlock := by
  refine ⟨k.os.trans h.os, k.tape.trans h.tape, k.output.trans h.output, Nat.le_trans h.size k.size, fun i hi hne => ?_⟩
  refine (k.block i (Nat.lt_of_lt_of_le hi h.size) ?_).trans (h.block i hi hne)
  rcases hf with hf | ⟨g, hg, hge⟩
  · rw [hf]; exact hne
  · rw [hg]; intro e; injection e; omega
theorem fresh_step {w wr : World} {v bv bv' : Value} (hs : w.heap.size ≤ wr.heap.size) (hf : FreshOr w v bv) (k : bv'.ownBlock = bv.ownBlock ∨ bv'.ownBlock = some wr.heap.size) : FreshOr w v bv' := by
  rcases k with k | k
  · rcases hf with hf | ⟨g, hg, hge⟩
    · exact .inl (k.trans hf)
    · exact .inr ⟨g, k.trans hg, hge⟩
  · exact .inr ⟨_, k, hs⟩
theorem grow_alloc {w wr : World} {row : Option Nat} (h : w.grownBy wr row) (o : Obj) : w.grownBy (wr.alloc o) row :=
  grownBy_trans h (World.grownBy_alloc wr o row)
/-- A freshly laid row of bytes, as append reads it. -/
theorem Src_new {P : Program} (w : World) (t : TypeId) (l : List UInt8) (v : Value) (hv : v = .slice (some ⟨w.heap.size, 0, none⟩) l.length l.length) (hl : l.length ≤ maxLen) :
    Src P (w.alloc (.cells (l.map vb).toArray t)) 1 v l.length (l.map vb) := by
  refine Src_of_sees ⟨by simp, .inr ⟨w.heap.size, 0, l.length, hv, by simp, Nat.le_refl _, hl, ?_⟩⟩ (vb_one l)
  exact rangeAt_new w _ t (0, 0)
/-- append(v, b..) of bytes that were laid into a new row of their own just ahead. -/
theorem wp_append_new {P : Program} {o : Oper} {a : Act} {K : Act → World → Prop} {Q : Exit → Act → World → Prop} {t e : TypeId} (T : SliceT P t e 1 1) (s x : Operand)
    (ho : o.op = .call { callee := .builtin .append, args := #[s, x], argTypes := #[t, t] })
    (base : Nat) (W : World) (bs : List UInt8) (C : Array Value) (t' : TypeId) (hC : C = (bs.map vb).toArray) (v : Value) (l : List UInt8) (hs : a.eval s = v) (hown : OwnB W base v l)
    (hx : a.eval x = .slice (some ⟨W.heap.size, 0, none⟩) bs.length bs.length) (hlen : l.length + bs.length ≤ 100000000000000) (hbase : base ≤ W.heap.size)
    (h : ∀ v' w', OwnB w' base v' (l ++ bs) → W.grownBy w' v.ownBlock → FreshOr W v v' → K (a.put o.dst v') w') : o.wp P a (W.alloc (.cells C t')) K Q := by
  subst hC
  refine wp_append T s x t ho (.inr ⟨e, T.ht⟩) base v l.length (l.map vb) hs (hown.alloc _) _ bs.length (bs.map vb) hx (Src_new W t' bs _ rfl (by simp only [maxLen]; omega)) (by simp only [maxLen]; omega) (by omega) (by simp; omega) ?_
  intro v' w' h1 h2 h3 _
  refine h v' w' (by simpa [OwnB, List.map_append] using h1) (grownBy_trans (World.grownBy_alloc W _ _) h2) ?_
  rcases h3 with h3 | h3
  · exact .inl h3
  · exact .inr ⟨_, h3, by simp⟩
theorem wpList_append_new {P : Program} {ops : Array Oper} {rest : List Oper} {o : Oper} {a : Act} {Q : Exit → Act → World → Prop} {t e : TypeId} (T : SliceT P t e 1 1) (hgd : o.guard = none) (s x : Operand)
    (ho : o.op = .call { callee := .builtin .append, args := #[s, x], argTypes := #[t, t] })
    (base : Nat) (W : World) (bs : List UInt8) (C : Array Value) (t' : TypeId) (hC : C = (bs.map vb).toArray) (v : Value) (l : List UInt8) (hs : a.eval s = v) (hown : OwnB W base v l)
    (hx : a.eval x = .slice (some ⟨W.heap.size, 0, none⟩) bs.length bs.length) (hlen : l.length + bs.length ≤ 100000000000000) (hbase : base ≤ W.heap.size)
    (h : ∀ v' w', OwnB w' base v' (l ++ bs) → W.grownBy w' v.ownBlock → FreshOr W v v' → wpList P ops Q rest (a.put o.dst v') w') : wpList P ops Q (o :: rest) a (W.alloc (.cells C t')) :=
  wpList_plain hgd fun _ hK => wp_append_new T s x ho base W bs C t' hC v l hs hown hx hlen hbase fun v' w' h2 h3 h4 => hK _ _ (h v' w' h2 h3 h4)
theorem step_append_new {P : Program} {ops : Array Oper} {o : Oper} {a : Act} {K : Act → World → Prop} {Q : Exit → Act → World → Prop} {E : Prop} {t e : TypeId} (T : SliceT P t e 1 1) (hgd : o.guard = none) (s x : Operand)
    (ho : o.op = .call { callee := .builtin .append, args := #[s, x], argTypes := #[t, t] })
    (base : Nat) (W : World) (bs : List UInt8) (C : Array Value) (t' : TypeId) (hC : C = (bs.map vb).toArray) (v : Value) (l : List UInt8) (hs : a.eval s = v) (hown : OwnB W base v l)
    (hx : a.eval x = .slice (some ⟨W.heap.size, 0, none⟩) bs.length bs.length) (hlen : l.length + bs.length ≤ 100000000000000) (hbase : base ≤ W.heap.size)
    (h : ∀ v' w', OwnB w' base v' (l ++ bs) → W.grownBy w' v.ownBlock → FreshOr W v v' → K (a.put o.dst v') w') :
    if Region.wanted o (yielded ops a.tmps) = true then Oper.wp P o a (W.alloc (.cells C t')) K Q else E := by
  have hw : Region.wanted o (yielded ops a.tmps) = true := by simp [Region.wanted, hgd]
  rw [if_pos hw]
  exact wp_append_new T s x ho base W bs C t' hC v l hs hown hx hlen hbase h
theorem fresh_trans {w wr : World} {v bv bv' : Value} (hs : w.heap.size ≤ wr.heap.size) (hf : FreshOr w v bv) (k : FreshOr wr bv bv') : FreshOr w v bv' := by
  rcases k with k | ⟨g, hg, hge⟩
  · rcases hf with hf | ⟨g, hg, hge⟩
    · exact .inl (k.trans hf)
    · exact .inr ⟨g, k.trans hg, hge⟩
  · exact .inr ⟨g, hg, Nat.le_trans hs hge⟩
/-- A struct or an array is built: the value that it comes to is a closed fact. -/
theorem wpList_built {P : Program} {ops : Array Oper} {rest : List Oper} {o : Oper} {a : Act} {w : World} {Q : Exit → Act → World → Prop} (hgd : o.guard = none) (t : TypeId) (parts : Array (Nat × Operand)) (ho : o.op = .build t parts)
    (v : Value) (hrun : (Instr.build t (parts.map fun (i, x) => (i, a.eval x))).run P w = .ok v w)
    (h : wpList P ops Q rest (a.put o.dst v) w) : wpList P ops Q (o :: rest) a w :=
  wpList_plain hgd fun _ hK => by
    unfold Oper.wp execOp
    simp only [ho, Sem.run_bind, hrun, Result.andThen_ok]
    exact hK _ _ h
/-- A result that lies in a range of cells. -/
theorem results_row {P : Program} {fn : Func} {p : Tmp} {ty : TypeId} (h : fn.results = #[.cell p ty]) (tmps : Array Value) (w : World) (b o : Nat) (cs : List Value) (d : TypeDesc)
    (hp : tmps.getD p undef = .pointer (some ⟨b, o, none⟩)) (hc : w.rangeAt b o cs) (hu : P.underlying ty = some d) (hd : d.isRow = true) (hi : (P.info? ty).map (·.size) = some cs.length) :
    (results fn tmps).run P w = .ok (.agg cs.toArray) w := by
  have hp' : tmps[p]?.getD undef = .pointer (some ⟨b, o, none⟩) := by simpa using hp
  simp [results, h, hp', asAddr, run_loadVar_mid w b o ty cs d hc hu hd hi]
/-- A whole array is stored into a range of cells. -/
theorem wpList_putRow {P : Program} {ops : Array Oper} {rest : List Oper} {op : Oper} {a : Act} {w : World} {Q : Exit → Act → World → Prop} (hgd : op.guard = none) (ty : TypeId) (x y : Operand) (ho : op.op = .store ty x y)
    (b o : Nat) (cells : List Value) (hx : a.eval x = .pointer (some ⟨b, o, none⟩)) (hy : a.eval y = .agg cells.toArray)
    (ht : w.there b o cells.length) (hi : (P.info? ty).map (·.size) = some cells.length) (h1 : ∀ v ∈ cells, v.oneCell' = true)
    (h : wpList P ops Q rest (a.put op.dst undef) (w.setCells b o cells)) : wpList P ops Q (op :: rest) a w :=
  wpList_store_mid hgd ty x y ho b o cells.toArray hx hy (by simpa using ht) (by simpa using hi) (all_oneCell_toArray h1) (by simpa using h)
end TL
end Go
namespace Go.Proofs.Ytolmejipggdodaa
open Go.RowKit Go.TL
theorem bytesT : SliceT Try.prog 31 5 1 1 := ⟨Try.underlying31, ⟨_, _, rfl, rfl, rfl, rfl, rfl⟩, by omega⟩
theorem uB : Try.prog.underlying 31 = some .string ∨ ∃ e', Try.prog.underlying 31 = some (.slice e') := .inr ⟨_, Try.underlying31⟩
theorem uS : Try.prog.underlying 9 = some .string ∨ ∃ e', Try.prog.underlying 9 = some (.slice e') := .inl Try.underlying9
end Go.Proofs.Ytolmejipggdodaa
