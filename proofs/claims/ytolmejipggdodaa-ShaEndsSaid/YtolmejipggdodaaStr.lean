/- Texts as lists of bytes, in the walk. No conditions but those each law names. -/
import Derived.Test.YtolmejipggdodaaHeap
import Derived.Lib.ConvBytes
namespace Go
namespace TL
open Go.RowKit
attribute [go_sem] mkS_size mkS_toList mkS_append
@[go_sem] theorem mkS_fold (l : List UInt8) : ByteArray.mk (List.toArray l) = mkS l := rfl
theorem mkS_extract (l : List UInt8) (i j : Nat) : (mkS l).extract i j = mkS ((l.take j).drop i) := by
  apply ByteArray.ext; apply Array.ext'; simp [mkS, ByteArray.data_extract, List.extract, List.drop_take]
@[go_sem high] theorem mkS_extract0 (l : List UInt8) (j : Nat) : (mkS l).extract 0 j = mkS (l.take j) := by rw [mkS_extract, List.drop_zero]
@[go_sem high] theorem mkS_extractE (l : List UInt8) (i : Nat) : (mkS l).extract i l.length = mkS (l.drop i) := by rw [mkS_extract, List.take_length]
@[go_sem] theorem mkS_extractM (l : List UInt8) (i j : Nat) : (mkS l).extract i j = mkS ((l.take j).drop i) := mkS_extract l i j
@[go_sem ↓] theorem run_index_mkS {P : Program} (w : World) (t : TypeId) (l : List UInt8) (k : IntKind) (i : Int) (hu : P.underlying t = some .string) (h0 : 0 ≤ i) (h1 : i < l.length) :
    (Instr.index t (.string (mkS l)) (.int k i)).run P w = .ok (.int .u8 (I8 (l.getD i.toNat 0))) w := by
  have hs : i.toNat < (mkS l).size := by rw [mkS_size]; omega
  have hl : i.toNat < l.length := by omega
  have e : (mkS l)[i.toNat]? = some (l.getD i.toNat 0) := by
    rw [getElem?_pos (mkS l) i.toNat hs, List.getD_eq_getElem?_getD, List.getElem?_eq_getElem hl]; rfl
  simp only [Instr.index, asIntOf, Sem.run_bind, Sem.run_pure, Result.andThen_ok, run_underlying hu]
  simp only [h0, if_true, e]
  rfl
section
variable {P : Program} {ops : Array Oper} {rest : List Oper} {o : Oper} {a : Act} {w w0 : World} {Q : Exit → Act → World → Prop} {F : List Nat} {L : List Chunk}
/-- make([]byte, n). -/
theorem w_makeB (M : Mem F w0 w L) (t : TypeId) (x y : Operand) (ho : o.op = .makeSlice t x y) (hw : Region.wanted o (yielded ops a.tmps) = true) (n : Nat) {kl kc : IntKind} {m m' : Int} (hx : a.eval x = .int kl m) (hy : a.eval y = .int kc m') (hm : m = (n : Nat)) (hm' : m' = (n : Nat)) {e : TypeId} (ht : P.underlying t = some (.slice e)) (hz : (P.info? e).bind (·.zero) = some (.int .u8 0)) (hs : (P.info? e).map (fun i => (i.size, i.bytes)) = some (1, 1)) (hn : n ≤ 16777216)
    (h : ∀ (g : Nat) (w' : World), Mem F w0 w' (.row g (bs (List.replicate n 0)) :: L) → wpList P ops Q rest (a.put o.dst (.slice (some ⟨g, 0, none⟩) n n)) w') : wpList P ops Q (o :: rest) a w :=
  wpW hw fun _ hK => by
    subst hm hm'
    cases hq : P.info? e with
    | none => simp [hq] at hz
    | some inf =>
      have hzz : inf.zero = some (.int .u8 0) := by simpa [hq] using hz
      have hss : inf.size = 1 ∧ inf.bytes = 1 := by simpa [hq] using hs
      have hr := run_makeSlice (P := P) (w := w) t e inf (.int .u8 0) ht hq hzz kl kc n n (by omega) (Int.le_refl _) (by rw [hss.1]; simp; omega) (by rw [hss.2]; omega) (by omega)
      have e1 : madeCells (Value.int .u8 0).cells ((n : Int).toNat * inf.size) = (bs (List.replicate n 0)).toArray := by
        rw [hss.1]
        apply Array.ext'
        simp [madeCells, bs, vb, I8, Value.cells]
        apply List.ext_getElem
        · simp
        · intro i h1 h2; simp [Nat.mod_one]
      rw [e1] at hr
      unfold Oper.wp execOp
      simp only [ho, hx, hy, Sem.run_bind, hr, Result.andThen_ok]
      refine hK _ _ ?_
      have := h _ _ (M.alloc (bs (List.replicate n 0)).toArray e)
      simpa using this
end
theorem eqInRow {P : Program} {t e : TypeId} {n : Nat} (hu : P.underlying t = some (.array n e)) (he : P.underlying e = some (.int .u8)) (hc : P.cellsOf e = 1) (l m : List UInt8) (hl : l.length = n) (hm : m.length = n) (w : World) : (Op.equalIn 10000 t (.agg (bs l).toArray) (.agg (bs m).toArray)).run P w = .ok (l == m) w := by
  obtain ⟨i, hi⟩ := info_of_underlying he
  have := run_equalIn_array w 9999 (bs l).toArray (bs m).toArray hu hi
  unfold bs at this ⊢
  rw [hc, run_eqItemsB he 9998 l m (by omega) w (List.range n) (fun i hi => by rw [hl]; exact List.mem_range.1 hi)] at this
  rw [← hl, all_range_eq l m (by omega)] at this
  exact this
/-- What is written byte by byte. -/
theorem setTake (l : List UInt8) (n k : Nat) (hl : l.length = n) (hk : k < n) : (l.take k ++ List.replicate (n - k) 0).set k (l.getD k 0) = l.take (k + 1) ++ List.replicate (n - (k + 1)) 0 := by
  rw [List.set_append_right _ _ (by simp; omega)]
  simp only [List.length_take, Nat.min_eq_left (show k ≤ l.length by omega), Nat.sub_self]
  rw [List.take_succ_eq_append_getElem (by omega), List.append_assoc, show n - k = (n - (k + 1)) + 1 by omega, List.replicate_succ, List.set_cons_zero, List.getD_eq_getElem?_getD, List.getElem?_eq_getElem (by omega)]
  rfl
end TL
end Go
namespace Go
namespace TL
open Go.RowKit
section
variable {P : Program} {ops : Array Oper} {rest : List Oper} {o : Oper} {a : Act} {w w0 : World} {Q : Exit → Act → World → Prop} {F : List Nat} {L : List Chunk}
/-- A slice that has elements lies somewhere. -/
theorem Mem.slAddr (M : Mem F w0 w L) (i : Nat) {size n cap : Nat} {q : Option Addr} {m : Nat} {xs : List Value} (hi : L[i]? = some (.sl size (.slice q m cap) n xs)) (hn : 0 < n) : ∃ g o, q = some ⟨g, o, none⟩ := by
  rcases (M.ok i _ hi).2 with ⟨_, h0⟩ | ⟨g, o, c, hv, _⟩
  · omega
  · injection hv with h1 h2 h3; exact ⟨g, o, h1⟩
theorem Mem.slCap (M : Mem F w0 w L) (i : Nat) {size n cap : Nat} {q : Option Addr} {m : Nat} {xs : List Value} (hi : L[i]? = some (.sl size (.slice q m cap) n xs)) : m = n ∧ n ≤ cap ∧ cap ≤ maxLen ∧ xs.length = n * size := by
  have h := M.ok i _ hi
  rcases h.2 with ⟨hv, h0⟩ | ⟨g, o, c, hv, _, _, h1, h2, _⟩
  · injection hv with _ e1 e2; exact ⟨by omega, by omega, by omega, h.1⟩
  · injection hv with _ e1 e2; exact ⟨e1, by omega, by omega, h.1⟩
theorem Mem.slCell (M : Mem F w0 w L) (i : Nat) {size n m cap g so : Nat} {xs : List Value} (hi : L[i]? = some (.sl size (.slice (some ⟨g, so, none⟩) m cap) n xs)) {j : Nat} {v : Value} (hv : xs[j]? = some v) : w.cell? ⟨g, so + j, none⟩ = some v := by
  rcases (M.ok i _ hi).2 with ⟨h0, _⟩ | ⟨g', o', c, hv', _, _, _, _, hr, _⟩
  · cases h0
  · injection hv' with h1 _ _; injection h1 with h1; injection h1 with h1 h2; subst h1; subst h2; exact hr j v hv
/-- An element of one cell. -/
theorem w_loadS (M : Mem F w0 w L) (i : Nat) (t : TypeId) (x : Operand) (ho : o.op = .load t x) {size n m cap g so off : Nat} {xs : List Value} (hi : L[i]? = some (.sl size (.slice (some ⟨g, so, none⟩) m cap) n xs)) (hx : a.eval x = .pointer (some ⟨g, off, none⟩)) (hw : Region.wanted o (yielded ops a.tmps) = true)
    (ht : scalarT P t = true) (j : Nat) (hoff : off = so + j) {v : Value} (hv : xs[j]? = some v) (h : wpList P ops Q rest (a.put o.dst v) w) : wpList P ops Q (o :: rest) a w :=
  wpW hw fun _ hK => by
    subst hoff
    unfold Oper.wp execOp
    simp only [ho, hx, Instr.loadAt, Instr.sureAddr, Sem.run_bind, Sem.run_pure, Result.andThen_ok, run_loadVar_scalar ht w g _ v (M.slCell i hi hv)]
    exact hK _ _ h
/-- An element that is a struct. -/
theorem w_loadSA (M : Mem F w0 w L) (i : Nat) (t : TypeId) (x : Operand) (ho : o.op = .load t x) {size n m cap g so off : Nat} {xs : List Value} (hi : L[i]? = some (.sl size (.slice (some ⟨g, so, none⟩) m cap) n xs)) (hx : a.eval x = .pointer (some ⟨g, off, none⟩)) (hw : Region.wanted o (yielded ops a.tmps) = true)
    (ht : rowT P t = true) (j : Nat) (hoff : off = so + j) (cs : List Value) (hcs : ∀ k v, cs[k]? = some v → xs[j + k]? = some v) (hn : (P.info? t).map (·.size) = some cs.length) (h : wpList P ops Q rest (a.put o.dst (.agg cs.toArray)) w) : wpList P ops Q (o :: rest) a w :=
  wpW hw fun _ hK => by
    subst hoff
    unfold rowT at ht
    cases hu : P.underlying t with
    | none => simp [hu] at ht
    | some d =>
      simp only [hu] at ht
      refine wp_load_mid t x ho g _ hx cs d ?_ hu ht hn (hK _ _ h)
      intro k v hv
      rw [Nat.add_assoc]
      exact M.slCell i hi (hcs k v hv)
end
end TL
end Go
namespace Go
namespace TL
open Go.RowKit
section
variable {P : Program} {ops : Array Oper} {rest : List Oper} {o : Oper} {a : Act} {w w0 : World} {Q : Exit → Act → World → Prop} {F : List Nat} {L : List Chunk}
/-- []byte(s): a slice of the call's own. -/
theorem w_bytes (M : Mem F w0 w L) (src dst e : TypeId) (x : Operand) (ho : o.op = .convert src dst x) (hw : Region.wanted o (yielded ops a.tmps) = true) {l : List UInt8} (hx : a.eval x = .string (mkS l))
    (hs : P.underlying src = some .string) (hd : P.underlying dst = some (.slice e)) (he : P.underlying e = some (.int .u8)) (hl : l.length ≤ 1000000000000)
    (h : ∀ (g cap : Nat) (w' : World), l.length ≤ cap → Mem F w0 w' (.sl 1 (.slice (some ⟨g, 0, none⟩) l.length cap) l.length (bs l) :: L) → wpList P ops Q rest (a.put o.dst (.slice (some ⟨g, 0, none⟩) l.length cap)) w') : wpList P ops Q (o :: rest) a w :=
  wpW hw fun _ hK => by
    have hr := Lib.run_convert_string_bytes (P := P) w src dst e (mkS l) hs hd he
    rw [mkS_size] at hr
    obtain ⟨cap, ec⟩ : ∃ cap, cap = grownCap w l.length 0 e := ⟨_, rfl⟩
    have hc1 : l.length ≤ cap := by rw [ec]; exact grownCap_ge _ _ _ _
    have hc2 : cap ≤ maxLen := by rw [ec]; exact grownCap_le_maxLen _ _ _ _ (by simp only [maxLen]; omega)
    have hsz : (Lib.bytesCells w e (mkS l)).size = cap := by
      simp only [Lib.bytesCells, Array.size_append, Array.size_map, Array.size_replicate, mkS_size, ← ec]
      show (mkS l).data.size + _ = _
      have : (mkS l).data.size = l.length := mkS_size l
      omega
    have hnew := Lib.bytesWorld_at_new w e (mkS l)
    have hk : Kept [] w (Lib.bytesWorld w e (mkS l)) := ⟨rfl, rfl, rfl, by rw [Lib.bytesWorld_size]; omega, fun k hk _ => Lib.bytesWorld_at_old w e (mkS l) k hk⟩
    have hok : (Chunk.sl 1 (.slice (some ⟨w.heap.size, 0, none⟩) l.length cap) l.length (bs l)).ok (Lib.bytesWorld w e (mkS l)) := by
      refine ⟨by simp [bs_length], .inr ⟨w.heap.size, 0, cap, rfl, Nat.zero_le _, by rw [Lib.bytesWorld_size]; omega, hc1, hc2, ?_, ?_⟩⟩
      · intro j v hv
        have hj : j < l.length := by have := (List.getElem?_eq_some_iff.1 hv).1; rwa [bs_length] at this
        rw [Nat.zero_add, Lib.bytesWorld_cell w e (mkS l) j (by rw [mkS_size]; exact hj), mkS_data, ← hv, getD_some hj]; rfl
      · intro j hj
        rw [Nat.mul_one] at hj
        rw [Nat.zero_add]
        constructor
        · simp only [World.cell?, hnew]
          rw [if_neg (by decide), Array.getElem?_eq_getElem (by omega)]; rfl
        · simp only [World.frozen?, hnew]
          rw [hsz]; simp; omega
    rw [← ec] at hr
    unfold Oper.wp execOp
    simp only [ho, hx, Sem.run_bind, hr, Result.andThen_ok]
    exact hK _ _ (h _ cap _ hc1 (M.add _ hk hok (by simp [Chunk.fp, Value.ownBlock])))
end
end TL
end Go
