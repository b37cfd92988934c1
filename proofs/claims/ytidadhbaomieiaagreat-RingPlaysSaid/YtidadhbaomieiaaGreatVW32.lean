/- Rows of 32-bit words, and slices that were there, in the walk. No conditions but those each law names. -/
import Derived.Test.YtidadhbaomieiaaGreatZb
namespace Go
namespace TL
open Go.RowKit
def ws (l : List UInt32) : List Value := l.map fun x => .int .u32 (I32 x)
theorem ws_length (l : List UInt32) : (ws l).length = l.length := by simp [ws]
theorem ws_one (l : List UInt32) : ∀ q ∈ ws l, q.oneCell' = true := by
  intro q hq; obtain ⟨b, _, rfl⟩ := List.mem_map.1 hq; rfl
theorem ws_get {l : List UInt32} {i : Nat} (h : i < l.length) : (ws l)[i]? = some (.int .u32 (I32 (l.getD i 0))) := by
  rw [ws, List.getElem?_map, List.getD_eq_getElem?_getD, List.getElem?_eq_getElem h]; rfl
theorem ws_set (l : List UInt32) (i : Nat) (b : UInt32) : ws (l.set i b) = (ws l).set i (.int .u32 (I32 b)) := by simp [ws, List.map_set]
section
variable {P : Program} {ops : Array Oper} {rest : List Oper} {o : Oper} {a : Act} {w w0 : World} {Q : Exit → Act → World → Prop} {F : List Nat} {L : List Chunk}
theorem w_load32 (M : Mem F w0 w L) (i : Nat) (t : TypeId) (x : Operand) (ho : o.op = .load t x) {g off : Nat} {l : List UInt32} (hi : L[i]? = some (.row g (ws l))) (hx : a.eval x = .pointer (some ⟨g, off, none⟩)) (hw : Region.wanted o (yielded ops a.tmps) = true)
    (ht : scalarT P t = true) (hlt : off < l.length) (h : wpList P ops Q rest (a.put o.dst (.int .u32 (I32 (l.getD off 0)))) w) : wpList P ops Q (o :: rest) a w :=
  w_load M i t x ho hi hx hw ht (ws_get hlt) h
theorem w_loadW (M : Mem F w0 w L) (i : Nat) (t : TypeId) (x : Operand) (ho : o.op = .load t x) {g : Nat} {l : List UInt32} (hi : L[i]? = some (.row g (ws l))) (hx : a.eval x = .pointer (some ⟨g, 0, none⟩)) (hw : Region.wanted o (yielded ops a.tmps) = true)
    (ht : rowT P t = true) {n : Nat} (hl : l.length = n) (hn : (P.info? t).map (·.size) = some n) (h : wpList P ops Q rest (a.put o.dst (.agg (ws l).toArray)) w) : wpList P ops Q (o :: rest) a w :=
  w_loadR M i t x ho hi hx hw ht (by rw [ws_length, hl]; exact hn) h
theorem w_store32 (M : Mem F w0 w L) (i : Nat) (t : TypeId) (x y : Operand) (ho : o.op = .store t x y) {g off : Nat} {l : List UInt32} (hi : L[i]? = some (.row g (ws l))) (hx : a.eval x = .pointer (some ⟨g, off, none⟩)) (hw : Region.wanted o (yielded ops a.tmps) = true)
    {b : UInt32} (hy : a.eval y = .int .u32 (I32 b)) (hn : (P.info? t).map (·.size) = some 1) (hlt : off < l.length)
    (h : ∀ w' : World, Mem F w0 w' (L.set i (.row g (ws (l.set off b)))) → wpList P ops Q rest (a.put o.dst undef) w') : wpList P ops Q (o :: rest) a w :=
  w_store M i t x y ho hi hx hw hy rfl rfl hn (by rw [ws_length]; exact hlt) (fun w' M' => h w' (by rw [ws_set]; exact M'))
theorem w_storeW (M : Mem F w0 w L) (i : Nat) (t : TypeId) (x y : Operand) (ho : o.op = .store t x y) {g : Nat} {l : List UInt32} (hi : L[i]? = some (.row g (ws l))) (hx : a.eval x = .pointer (some ⟨g, 0, none⟩)) (hw : Region.wanted o (yielded ops a.tmps) = true)
    {m : List UInt32} (hy : a.eval y = .agg (ws m).toArray) {n : Nat} (hm : m.length = n) (hn : (P.info? t).map (·.size) = some n) (hl : l.length = n)
    (h : ∀ w' : World, Mem F w0 w' (L.set i (.row g (ws m))) → wpList P ops Q rest (a.put o.dst undef) w') : wpList P ops Q (o :: rest) a w :=
  w_storeR M i t x y ho hi hx hw (ws m) hy rfl (by rw [ws_length, hm]; exact hn) (ws_one _) (by simp [ws_length, hm, hl]) h
theorem LdA.w32 {t : TypeId} {g off i : Nat} {l : List UInt32} (M : Mem F w0 w L) (hi : L[i]? = some (.row g (ws l))) (ht : scalarT P t = true) (hlt : off < l.length) : LdA P w t (.pointer (some ⟨g, off, none⟩)) (.int .u32 (I32 (l.getD off 0))) := fun _ _ _ x _ _ ho hx hw h => w_load32 M i t x ho hi hx hw ht hlt h
theorem LdA.arr32 {t : TypeId} {g i : Nat} {l : List UInt32} (M : Mem F w0 w L) (hi : L[i]? = some (.row g (ws l))) (ht : rowT P t = true) {n : Nat} (hl : l.length = n) (hn : (P.info? t).map (·.size) = some n) : LdA P w t (.pointer (some ⟨g, 0, none⟩)) (.agg (ws l).toArray) := fun _ _ _ x _ _ ho hx hw h => w_loadW M i t x ho hi hx hw ht hl hn h
theorem StA.w32 {t : TypeId} {g off i : Nat} {l : List UInt32} (M : Mem F w0 w L) (hi : L[i]? = some (.row g (ws l))) {b : UInt32} (hn : (P.info? t).map (·.size) = some 1) (hlt : off < l.length) : StA P w t (.pointer (some ⟨g, off, none⟩)) (.int .u32 (I32 b)) fun w' => Mem F w0 w' (L.set i (.row g (ws (l.set off b)))) := fun _ _ _ x y _ _ ho hx hy hw h => w_store32 M i t x y ho hi hx hw hy hn hlt h
theorem StA.arr32 {t : TypeId} {g i : Nat} {l : List UInt32} (M : Mem F w0 w L) (hi : L[i]? = some (.row g (ws l))) {m : List UInt32} {n : Nat} (hm : m.length = n) (hn : (P.info? t).map (·.size) = some n) (hl : l.length = n) : StA P w t (.pointer (some ⟨g, 0, none⟩)) (.agg (ws m).toArray) fun w' => Mem F w0 w' (L.set i (.row g (ws m))) := fun _ _ _ x y _ _ ho hx hy hw h => w_storeW M i t x y ho hi hx hw hy hm hn hl h
/-- A byte of a slice that was there. -/
theorem w_loadX (M : Mem F w0 w L) (t : TypeId) (x : Operand) (ho : o.op = .load t x) {g so n m cap off : Nat} {l : List UInt8} (S : Sees w0 1 (.slice (some ⟨g, so, none⟩) m cap) n (bs l)) (hF : g ∉ F) (hx : a.eval x = .pointer (some ⟨g, off, none⟩)) (hw : Region.wanted o (yielded ops a.tmps) = true)
    (ht : scalarT P t = true) (j : Nat) (hoff : off = so + j) (hj : j < l.length) (h : wpList P ops Q rest (a.put o.dst (.int .u8 (I8 (l.getD j 0)))) w) : wpList P ops Q (o :: rest) a w :=
  wpW hw fun _ hK => by
    subst hoff
    have S' := M.sees S (by intro k hk; simp [Value.ownBlock] at hk; subst hk; exact hF)
    have hc : w.cell? ⟨g, so + j, none⟩ = some (.int .u8 (I8 (l.getD j 0))) := by
      rcases S'.2 with ⟨h0, _⟩ | ⟨g', o', c, hv', _, _, _, hr⟩
      · cases h0
      · injection hv' with h1 _ _; injection h1 with h1; injection h1 with h1 h2; subst h1; subst h2; exact hr j _ (getD_some hj)
    unfold Oper.wp execOp
    simp only [ho, hx, Instr.loadAt, Instr.sureAddr, Sem.run_bind, Sem.run_pure, Result.andThen_ok, run_loadVar_scalar ht w g _ _ hc]
    exact hK _ _ h
theorem sees_addr {size n m cap : Nat} {q : Option Addr} {xs : List Value} (S : Sees w size (.slice q m cap) n xs) (hn : 0 < n) : ∃ g o, q = some ⟨g, o, none⟩ := by
  rcases S.2 with ⟨_, h0⟩ | ⟨g, o, c, hv, _⟩
  · omega
  · injection hv with h1 h2 h3; exact ⟨g, o, h1⟩
variable {M : Mem F w0 w L} {is : List Nat}
theorem stab_ix32 (M : Mem F w0 w L) (i : Nat) (off : Nat) {t : TypeId} {x : Operand} (ho : o.op = .load t x) {g : Nat} {l : List UInt32} (hi : L[i]? = some (.row g (ws l))) (hin : i ∈ is) (ht : scalarT P t = true) (hlt : off < l.length) : Stab P (IxOk M is) o (.pointer (some ⟨g, off, none⟩)) :=
  stab_ix M i off ho hi hin ht (ws_get hlt)
theorem stab_ixW32 (M : Mem F w0 w L) (i : Nat) {t : TypeId} {x : Operand} (ho : o.op = .load t x) {g : Nat} {l : List UInt32} (hi : L[i]? = some (.row g (ws l))) (hin : i ∈ is) (ht : rowT P t = true) {n : Nat} (hl : l.length = n) (hn : (P.info? t).map (·.size) = some n) : Stab P (IxOk M is) o (.pointer (some ⟨g, 0, none⟩)) :=
  stab_ixR M i ho hi hin ht (by rw [ws_length, hl]; exact hn)
theorem sa_ix32 {i off : Nat} {t : TypeId} {x : Operand} (ho : o.op = .load t x) {g : Nat} {l : List UInt32} (hi : L[i]? = some (.row g (ws l))) (hin : i ∈ is) (ht : scalarT P t = true) (hlt : off < l.length) : StabAt P M is o i off (.pointer (some ⟨g, off, none⟩)) := stab_ix32 M i off ho hi hin ht hlt
theorem sa_ixW32 {i off : Nat} {t : TypeId} {x : Operand} (ho : o.op = .load t x) {g : Nat} {l : List UInt32} (hi : L[i]? = some (.row g (ws l))) (hin : i ∈ is) (ht : rowT P t = true) {n : Nat} (hl : l.length = n) (hn : (P.info? t).map (·.size) = some n) : StabAt P M is o i off (.pointer (some ⟨g, 0, none⟩)) := stab_ixW32 M i ho hi hin ht hl hn
/-- A part of an owned slice, to be read. -/
theorem Mem.part (M : Mem F w0 w L) (i : Nat) {m n cap g so : Nat} {l : List UInt8} (hi : L[i]? = some (.sl 1 (.slice (some ⟨g, so, none⟩) m cap) n (bs l))) (at_ k : Nat) (h : at_ + k ≤ l.length) (hn : n = l.length) (c : Nat) (hc : k ≤ c) (hcm : c ≤ maxLen) :
    Sees w 1 (.slice (some ⟨g, so + at_, none⟩) k c) k (bs ((l.drop at_).take k)) := by
  have hl : ((l.drop at_).take k).length = k := by simp; omega
  refine ⟨by rw [bs_length, hl, Nat.mul_one], .inr ⟨g, so + at_, c, rfl, ?_, hc, hcm, ?_⟩⟩
  · exact (M.ok i _ hi).lt g (by simp [Chunk.fp, Value.ownBlock])
  · intro j v hv
    have hj : j < k := by have := (List.getElem?_eq_some_iff.1 hv).1; rw [bs_length, hl] at this; exact this
    rw [Nat.add_assoc]
    refine M.slCell i hi ?_
    rw [← hv, bs, bs, List.getElem?_map, List.getElem?_map, List.getElem?_take, if_pos hj, List.getElem?_drop]
end
/-- What is written word by word. -/
theorem setTake32 (l : List UInt32) (n k : Nat) (hl : l.length = n) (hk : k < n) (x : UInt32) (hx : x = l.getD k 0) : (l.take k ++ List.replicate (n - k) 0).set k x = l.take (k + 1) ++ List.replicate (n - (k + 1)) 0 := by
  subst hx
  rw [List.set_append_right _ _ (by simp; omega)]
  simp only [List.length_take, Nat.min_eq_left (show k ≤ l.length by omega), Nat.sub_self]
  rw [List.take_succ_eq_append_getElem (by omega), List.append_assoc, show n - k = (n - (k + 1)) + 1 by omega, List.replicate_succ, List.set_cons_zero, List.getD_eq_getElem?_getD, List.getElem?_eq_getElem (by omega)]
  rfl
end TL
end Go
