/- Rows of cells in memory: a slice that the call owns, a slice that it sees; what append, slicing, len, indexing, string conversion and copy do to them. Conditions: each law names its own. -/
import Derived.WalkKit
import Derived.WalkSpells
import Derived.WalkLawsBesides
import Derived.Deep.MidRow
import Derived.Lib.Hide
import Derived.Test.YtolmejipggdodaaWords
namespace Go
namespace TL
open Go.RowKit
/-! ### setCells: the frame -/
theorem size_setCells (b : Nat) : ∀ (vs : List Value) (o : Nat) (w : World), (w.setCells b o vs).heap.size = w.heap.size
  | [], _, _ => rfl
  | v :: r, o, w => by rw [World.setCells, size_setCells b r]; simp
theorem below_setCells {B b : Nat} (hb : B ≤ b) {a : World} : ∀ (vs : List Value) (o : Nat) (w : World), Below B a w → Below B a (w.setCells b o vs)
  | [], _, _, h => h
  | v :: r, o, w, h => by rw [World.setCells]; exact below_setCells hb r (o + 1) _ (h.setCell hb v)
theorem block_setCells (b : Nat) : ∀ (vs : List Value) (o : Nat) (w : World) (k : Nat), k ≠ b → (w.setCells b o vs).heap[k]? = w.heap[k]?
  | [], _, _, _, _ => rfl
  | v :: r, o, w, k, h => by rw [World.setCells, block_setCells b r _ _ k h]; exact Below.heap_setCell _ _ _ _ h
theorem tape_setCells (b : Nat) : ∀ (vs : List Value) (o : Nat) (w : World), (w.setCells b o vs).tape = w.tape
  | [], _, _ => rfl
  | v :: r, o, w => by rw [World.setCells, tape_setCells b r]; simp
theorem os_setCells (b : Nat) : ∀ (vs : List Value) (o : Nat) (w : World), (w.setCells b o vs).os = w.os
  | [], _, _ => rfl
  | v :: r, o, w => by rw [World.setCells, os_setCells b r]; rfl
theorem output_setCells (b : Nat) : ∀ (vs : List Value) (o : Nat) (w : World), (w.setCells b o vs).output = w.output
  | [], _, _ => rfl
  | v :: r, o, w => by rw [World.setCells, output_setCells b r]; rfl
theorem grownBy_setCells (w : World) (b o : Nat) (vs : List Value) : w.grownBy (w.setCells b o vs) (some b) :=
  ⟨os_setCells b vs o w, tape_setCells b vs o w, output_setCells b vs o w, Nat.le_of_eq (size_setCells b vs o w).symm, fun k _ hne => block_setCells b vs o w k (fun e => hne (by rw [e]))⟩
theorem grownBy_refl (w : World) (row : Option Nat) : w.grownBy w row := ⟨rfl, rfl, rfl, Nat.le_refl _, fun _ _ _ => rfl⟩
theorem grownBy_drew (w : World) (row : Option Nat) : w.grownBy w.drew row := ⟨rfl, rfl, rfl, Nat.le_refl _, fun _ _ _ => rfl⟩
theorem grownBy_trans {a b c : World} {row : Option Nat} (h : a.grownBy b row) (k : b.grownBy c row) : a.grownBy c row :=
  ⟨k.os.trans h.os, k.tape.trans h.tape, k.output.trans h.output, Nat.le_trans h.size k.size, fun i hi hne => (k.block i (Nat.lt_of_lt_of_le hi h.size) hne).trans (h.block i hi hne)⟩
theorem grownBy_setCell (w : World) (a : Addr) (v : Value) : w.grownBy (w.setCell a v) (some a.block) :=
  ⟨rfl, rfl, rfl, by simp, fun k _ hne => Below.heap_setCell _ _ _ _ (fun e => hne (by rw [e]))⟩
theorem grownBy_of_below {w w' : World} (h : Below w.heap.size w w') (row : Option Nat) : w.grownBy w' row :=
  ⟨h.os, h.tape, h.output, h.size, fun k hk _ => h.block k hk⟩
theorem below_of_grownBy {B : Nat} {w w' : World} {row : Option Nat} (h : w.grownBy w' row) (hB : B ≤ w.heap.size) (hr : ∀ k, row = some k → B ≤ k) : Below B w w' :=
  (Below.refl B w).grown h hB hr
/-! ### ranges -/
theorem rangeAt_of_block {w w' : World} {g o : Nat} {xs : List Value} (h : w.rangeAt g o xs) (hb : w'.heap[g]? = w.heap[g]?) : w'.rangeAt g o xs := fun j v hv => by
  rw [World.cell?_of_block (w := w) (w' := w') (a := ⟨g, o + j, none⟩) hb]; exact h j v hv
theorem there_of_block {w w' : World} {g o n : Nat} (h : w.there g o n) (hb : w'.heap[g]? = w.heap[g]?) : w'.there g o n := fun j hj => by
  rw [World.cell?_of_block (w := w) (w' := w') (a := ⟨g, o + j, none⟩) hb, World.frozen?_of_block (w := w) (w' := w') (a := ⟨g, o + j, none⟩) hb]; exact h j hj
theorem rangeAt_take {w : World} {g o : Nat} {xs : List Value} (h : w.rangeAt g o xs) (k : Nat) : w.rangeAt g o (xs.take k) := fun j v hv => by
  rw [List.getElem?_take] at hv; split at hv
  · exact h j v hv
  · cases hv
theorem rangeAt_drop {w : World} {g o : Nat} {xs : List Value} (h : w.rangeAt g o xs) (k : Nat) : w.rangeAt g (o + k) (xs.drop k) := fun j v hv => by
  rw [List.getElem?_drop] at hv; rw [Nat.add_assoc]; exact h _ v hv
theorem there_mono {w : World} {g o n m : Nat} (h : w.there g o n) (hm : m ≤ n) : w.there g o m := fun j hj => h j (by omega)
theorem there_drop {w : World} {g o n : Nat} (h : w.there g o n) (k : Nat) : w.there g (o + k) (n - k) := fun j hj => by
  rw [Nat.add_assoc]; exact h (k + j) (by omega)
theorem rangeAt_nil (w : World) (g o : Nat) : w.rangeAt g o [] := fun j v hv => by simp at hv
theorem rangeAt_append {w : World} {g o : Nat} {xs ys : List Value} (h : w.rangeAt g o xs) (k : w.rangeAt g (o + xs.length) ys) : w.rangeAt g o (xs ++ ys) := fun j v hv => by
  rw [List.getElem?_append] at hv; split at hv
  · exact h j v hv
  · have := k (j - xs.length) v hv; rw [show o + xs.length + (j - xs.length) = o + j by omega] at this; exact this
theorem rangeAt_setCell_same {w : World} {g o : Nat} {xs : List Value} (h : w.rangeAt g o xs) (i : Nat) (hi : i < xs.length) (u : Value) : (w.setCell ⟨g, o + i, none⟩ u).rangeAt g o (xs.set i u) := fun j v hv => by
  by_cases e : i = j
  · subst e; rw [List.getElem?_set_self hi] at hv; cases hv
    exact World.cell?_setCell_same _ _ _ (h i _ (List.getElem?_eq_getElem hi))
  · rw [List.getElem?_set_ne e] at hv
    rw [World.cell?_setCell_other _ _ _ _ (by intro e2; injection e2; omega)]; exact h j v hv
theorem rangeAt_setCell_apart {w : World} {g o : Nat} {xs : List Value} (h : w.rangeAt g o xs) (a : Addr) (ha : a.block ≠ g ∨ a.off < o ∨ o + xs.length ≤ a.off) (u : Value) : (w.setCell a u).rangeAt g o xs := fun j v hv => by
  have hj : j < xs.length := (List.getElem?_eq_some_iff.1 hv).1
  rw [World.cell?_setCell_other _ _ _ _ (by intro e; subst e; simp at ha; omega)]; exact h j v hv
theorem there_setCell {w : World} {g o n : Nat} (h : w.there g o n) (a : Addr) (u : Value) : (w.setCell a u).there g o n := fun j hj => by
  obtain ⟨h1, h2⟩ := h j hj
  refine ⟨?_, by rw [World.frozen?_setCell]; exact h2⟩
  obtain ⟨x, hx⟩ := Option.isSome_iff_exists.1 h1
  by_cases e : a = ⟨g, o + j, none⟩
  · subst e; rw [World.cell?_setCell_same _ _ _ hx]; rfl
  · rw [World.cell?_setCell_other _ _ _ _ e, hx]; rfl
theorem rangeAt_new (w : World) (C : Array Value) (t : TypeId) (fr : Nat × Nat) : (w.alloc (.cells C t fr)).rangeAt w.heap.size 0 C.toList := fun j v hv => by
  rw [World.cell?_alloc_mark, Nat.zero_add]; simpa using hv
theorem there_new (w : World) (C : Array Value) (t : TypeId) (n : Nat) (hn : n ≤ C.size) : (w.alloc (.cells C t)).there w.heap.size 0 n := fun j hj => by
  refine ⟨?_, World.frozen?_alloc_new _ _ _ _⟩
  rw [World.cell?_alloc_new, Array.getElem?_eq_getElem (by omega)]; rfl
theorem rangeAt.lt {w : World} {g o : Nat} {xs : List Value} (h : w.rangeAt g o xs) (hx : xs ≠ []) : g < w.heap.size := by
  cases xs with
  | nil => exact absurd rfl hx
  | cons a r => exact World.block_lt_of_cell? _ _ (h 0 a rfl)
/-! ### a slice that is seen; a slice that is owned -/
/-- The slice value 'v' has 'n' elements of 'size' cells each, which read 'xs'. -/
def Sees (w : World) (size : Nat) (v : Value) (n : Nat) (xs : List Value) : Prop :=
  xs.length = n * size ∧ ((v = .slice none 0 0 ∧ n = 0) ∨ ∃ g o cap, v = .slice (some ⟨g, o, none⟩) n cap ∧ g < w.heap.size ∧ n ≤ cap ∧ cap ≤ maxLen ∧ w.rangeAt g o xs)
/-- The same, and it lies in a block from 'base' on, up to its capacity not frozen. -/
def Own (w : World) (base size : Nat) (v : Value) (n : Nat) (xs : List Value) : Prop :=
  xs.length = n * size ∧ ((v = .slice none 0 0 ∧ n = 0) ∨ ∃ g o cap, v = .slice (some ⟨g, o, none⟩) n cap ∧ base ≤ g ∧ g < w.heap.size ∧ n ≤ cap ∧ cap ≤ maxLen ∧ w.rangeAt g o xs ∧ w.there g o (cap * size))
theorem Own.sees {w : World} {base size : Nat} {v : Value} {n : Nat} {xs : List Value} (h : Own w base size v n xs) : Sees w size v n xs :=
  ⟨h.1, h.2.imp id fun ⟨g, o, cap, hv, _, hg, hn, hc, hr, _⟩ => ⟨g, o, cap, hv, hg, hn, hc, hr⟩⟩
theorem Own_nil (w : World) (base size : Nat) : Own w base size (.slice none 0 0) 0 [] := ⟨by simp, .inl ⟨rfl, rfl⟩⟩
theorem Sees_nil (w : World) (size : Nat) : Sees w size (.slice none 0 0) 0 [] := ⟨by simp, .inl ⟨rfl, rfl⟩⟩
section
variable {w w' : World} {base size : Nat} {v : Value} {n : Nat} {xs : List Value}
theorem Own.kept {row : Option Nat} (h : Own w base size v n xs) (hg : w.grownBy w' row) (hne : v.ownBlock = none ∨ v.ownBlock ≠ row) : Own w' base size v n xs := by
  refine ⟨h.1, h.2.imp id ?_⟩
  rintro ⟨g, o, cap, rfl, hb, hlt, hn, hc, hr, ht⟩
  have e : w'.heap[g]? = w.heap[g]? := hg.block g hlt (by simpa [Value.ownBlock] using hne)
  exact ⟨g, o, cap, rfl, hb, Nat.lt_of_lt_of_le hlt hg.size, hn, hc, rangeAt_of_block hr e, there_of_block ht e⟩
theorem Sees.kept {row : Option Nat} (h : Sees w size v n xs) (hg : w.grownBy w' row) (hne : v.ownBlock = none ∨ v.ownBlock ≠ row) : Sees w' size v n xs := by
  refine ⟨h.1, h.2.imp id ?_⟩
  rintro ⟨g, o, cap, rfl, hlt, hn, hc, hr⟩
  have e : w'.heap[g]? = w.heap[g]? := hg.block g hlt (by simpa [Value.ownBlock] using hne)
  exact ⟨g, o, cap, rfl, Nat.lt_of_lt_of_le hlt hg.size, hn, hc, rangeAt_of_block hr e⟩
theorem Own.below (h : Own w base size v n xs) (hb : Below w.heap.size w w') : Own w' base size v n xs :=
  h.kept (grownBy_of_below hb none) (by cases v.ownBlock <;> simp)
theorem Sees.below (h : Sees w size v n xs) (hb : Below w.heap.size w w') : Sees w' size v n xs :=
  h.kept (grownBy_of_below hb none) (by cases v.ownBlock <;> simp)
theorem Own.mono {b' : Nat} (h : Own w base size v n xs) (hb : b' ≤ base) : Own w b' size v n xs :=
  ⟨h.1, h.2.imp id fun ⟨g, o, cap, hv, h1, h2⟩ => ⟨g, o, cap, hv, by omega, h2⟩⟩
theorem Own.alloc (h : Own w base size v n xs) (o : Obj) : Own (w.alloc o) base size v n xs :=
  h.below ((Below.refl _ _).alloc (Nat.le_refl _) o)
theorem Sees.alloc (h : Sees w size v n xs) (o : Obj) : Sees (w.alloc o) size v n xs :=
  h.below ((Below.refl _ _).alloc (Nat.le_refl _) o)
theorem Own.drew (h : Own w base size v n xs) : Own w.drew base size v n xs := h
theorem Sees.drew (h : Sees w size v n xs) : Sees w.drew size v n xs := h
theorem Own.setCell (h : Own w base size v n xs) (a : Addr) (ha : v.ownBlock ≠ some a.block) (u : Value) : Own (w.setCell a u) base size v n xs :=
  h.kept (grownBy_setCell w a u) (.inr ha)
theorem Sees.setCell (h : Sees w size v n xs) (a : Addr) (ha : v.ownBlock ≠ some a.block) (u : Value) : Sees (w.setCell a u) size v n xs :=
  h.kept (grownBy_setCell w a u) (.inr ha)
theorem Own.base_le (h : Own w base size v n xs) {g : Nat} (hg : v.ownBlock = some g) : base ≤ g ∧ g < w.heap.size := by
  rcases h.2 with ⟨rfl, _⟩ | ⟨g', o, cap, rfl, hb, hlt, _⟩
  · simp [Value.ownBlock] at hg
  · simp [Value.ownBlock] at hg; subst hg; exact ⟨hb, hlt⟩
theorem Sees.len_le (h : Sees w size v n xs) : n ≤ maxLen := by
  rcases h.2 with ⟨_, rfl⟩ | ⟨_, _, _, _, _, h1, h2, _⟩
  · exact Nat.zero_le _
  · exact Nat.le_trans h1 h2
/-- The shape: a slice. -/
theorem Sees.form (h : Sees w size v n xs) : ∃ a cap, v = .slice a n cap ∧ n ≤ cap := by
  rcases h.2 with ⟨rfl, rfl⟩ | ⟨g, o, cap, rfl, _, h1, _⟩
  · exact ⟨none, 0, rfl, Nat.le_refl _⟩
  · exact ⟨_, cap, rfl, h1⟩
variable {P : Program}
/-- len(v). -/
theorem Sees.run_len (h : Sees w size v n xs) (t e ty : TypeId) (ht : P.underlying t = some (.slice e)) : ∀ w'' : World, (Builtin.len_ #[t] ty #[v]).run P w'' = .ok (.int .i64 (n : Int)) w'' := fun w'' => by
  obtain ⟨a, cap, rfl, _⟩ := h.form
  simp [Builtin.len_, run_underlying ht, goInt]
/-- The first cells: as append, copy read them. -/
theorem Sees.run_lenOf (h : Sees w size v n xs) : ∀ w'' : World, (Builtin.lenOf v).run P w'' = .ok n w'' := fun w'' => by
  obtain ⟨a, cap, rfl, _⟩ := h.form
  simp [Builtin.lenOf]
theorem run_loadCells_mid {g o : Nat} (h : w.rangeAt g o xs) : (loadCells ⟨g, o, none⟩ xs.length).run P w = .ok xs.toArray w :=
  run_loadCells_list (P := P) w ⟨g, o, none⟩ xs (fun j v hv => by rw [Addr.add_mid]; exact h j v hv)
theorem Sees.run_firstCells (h : Sees w size v n xs) (m : Nat) (hm : m ≤ n) : (Builtin.firstCells size m v).run P w = .ok (xs.take (m * size)).toArray w := by
  have hl : (xs.take (m * size)).length = m * size := by
    rw [List.length_take, h.1]; exact Nat.min_eq_left (Nat.mul_le_mul_right _ hm)
  rcases h.2 with ⟨rfl, rfl⟩ | ⟨g, o, cap, rfl, _, _, _, hr⟩
  · have : m = 0 := by omega
    subst this; simp [Builtin.firstCells]
  · simp only [Builtin.firstCells]
    have := run_loadCells_mid (P := P) (rangeAt_take hr (m * size))
    rwa [hl] at this
theorem run_storeCells_mid {g o : Nat} (vs : List Value) (ht : w.there g o vs.length) (h1 : ∀ u ∈ vs, u.oneCell' = true) : (storeCells ⟨g, o, none⟩ vs).run P w = .ok () (w.setCells g o vs) := by
  have := run_storeCells_cells (P := P) g o vs 0 w (fun j hj => by simpa using (ht j hj).1) (fun j hj => by simpa using (ht j hj).2) h1
  simpa using this
/-- A slice type: its element's type, cells and bytes. -/
structure SliceT (P : Program) (t e : TypeId) (size bytes : Nat) : Prop where
  ht : P.underlying t = some (.slice e)
  hi : ∃ i z, P.info? e = some i ∧ i.zero = some z ∧ i.size = size ∧ i.bytes = bytes ∧ z.cells.size = size
  hsz : 0 < size
/-- What append and copy read: 'm' elements, the cells 'news'. -/
def Src (P : Program) (w : World) (size : Nat) (x : Value) (m : Nat) (news : List Value) : Prop :=
  news.length = m * size ∧ (∀ q ∈ news, q.oneCell' = true) ∧ (∀ w'' : World, (Builtin.lenOf x).run P w'' = .ok m w'') ∧
    (∀ (w'' : World) (k : Nat), k ≤ m → w.grownBy w'' none → (Builtin.firstCells size k x).run P w'' = .ok (news.take (k * size)).toArray w'')
theorem Src_of_sees {x : Value} {m : Nat} {news : List Value} (h : Sees w size x m news) (h1 : ∀ q ∈ news, q.oneCell' = true) : Src P w size x m news :=
  ⟨h.1, h1, h.run_lenOf, fun w'' k hk hg => (h.kept hg (by cases x.ownBlock <;> simp)).run_firstCells k hk⟩
/-- append(v, x): the appended cells 'news' are read by whatever the second operand is. -/
theorem run_append_any (base : Nat) (t u ty e : TypeId) (size bytes : Nat) (T : SliceT P t e size bytes) (hu : P.underlying u = some .string ∨ ∃ e', P.underlying u = some (.slice e'))
    (v : Value) (n : Nat) (xs : List Value) (hown : Own w base size v n xs)
    (x : Value) (m : Nat) (news : List Value) (hsrc : Src P w size x m news)
    (h63 : n + m ≤ maxLen) (hbytes : (n + m) * bytes ≤ 140737488355328) (hbase : base ≤ w.heap.size) :
    ∃ v' w', (Builtin.append_ #[t, u] ty #[v, x]).run P w = .ok v' w' ∧ Own w' base size v' (n + m) (xs ++ news) ∧ w.grownBy w' v.ownBlock ∧
      (v'.ownBlock = v.ownBlock ∨ v'.ownBlock = some w.heap.size) ∧ (v = .slice none 0 0 → m = 0 → v' = .slice none 0 0 ∧ w' = w) := by
  obtain ⟨ht, ⟨i, z, hi, hz, hsize, hby, hzs⟩, hsz⟩ := T
  obtain ⟨hl, h1, hlen, hfirst'⟩ := hsrc
  have hfirst : ∀ w'' : World, w.grownBy w'' none → (Builtin.firstCells size m x).run P w'' = .ok news.toArray w'' := fun w'' hg => by
    have := hfirst' w'' m (Nat.le_refl _) hg
    rwa [← hl, List.take_length] at this
  clear hfirst'
  obtain ⟨du, hu, hui⟩ : ∃ du, P.underlying u = some du ∧ (du = .string ∨ ∃ e', du = .slice e') := by
    rcases hu with hu | ⟨e', hu⟩
    · exact ⟨_, hu, .inl rfl⟩
    · exact ⟨_, hu, .inr ⟨e', rfl⟩⟩
  subst hsize; subst hby
  have hlen2 : (xs ++ news).length = (n + m) * i.size := by rw [List.length_append, hown.1, hl, Nat.add_mul]
  have h0 := hfirst w (grownBy_refl w none)
  obtain ⟨a, sCap, hv, hnc⟩ := hown.sees.form
  by_cases hroom : n + m ≤ sCap
  · -- there is room
    rcases hown.2 with ⟨rfl, hn0⟩ | ⟨g, o, cap, rfl, hbg, hlt, hnc', hcm, hr, hth⟩
    · have hc0 : sCap = 0 := by injection hv with _ _ h3; exact h3.symm
      have hm0 : m = 0 := by omega
      subst hn0; subst hm0
      have hn : news = [] := List.eq_nil_of_length_eq_zero (by simpa using hl)
      have hx : xs = [] := List.eq_nil_of_length_eq_zero (by simpa using hown.1)
      subst hn; subst hx
      refine ⟨.slice none 0 0, w, ?_, Own_nil w base i.size, grownBy_refl _ _, .inl rfl, fun _ _ => ⟨rfl, rfl⟩⟩
      rcases hui with rfl | ⟨e', rfl⟩ <;> simp [Builtin.append_, run_underlying ht, run_underlying hu, sizeOf, typeInfo, hi, hlen, h0]
    · have hc : sCap = cap := by injection hv with _ _ h3; exact h3.symm
      subst hc
      have hthn : w.there g (o + n * i.size) news.length := by
        have := there_drop hth (n * i.size)
        refine there_mono this ?_
        rw [hl, ← Nat.sub_mul]; exact Nat.mul_le_mul_right _ (by omega)
      have hst := run_storeCells_mid (P := P) news hthn h1
      refine ⟨.slice (some ⟨g, o, none⟩) (n + m) sCap, w.setCells g (o + n * i.size) news, ?_, ⟨hlen2, .inr ⟨g, o, sCap, rfl, hbg, by rw [size_setCells]; exact hlt, hroom, hcm, ?_, ?_⟩⟩, grownBy_setCells _ _ _ _, .inl rfl, fun h => by cases h⟩
      · rcases hui with rfl | ⟨e', rfl⟩ <;> simp [Builtin.append_, run_underlying ht, run_underlying hu, sizeOf, typeInfo, hi, hlen, h0, hroom, Addr.add_mid, hst]
      · refine rangeAt_append (World.rangeAt_setCells_apart hr _ _ _ (.inr (.inl (by rw [hown.1]; omega)))) ?_
        rw [hown.1]; exact World.rangeAt_setCells_same _ _ _ _ hthn
      · exact World.there_setCells hth _ _ _
  · -- it grows
    have hgrow : sCap < n + m := by omega
    have h63' : ¬ (9223372036854775807 < ((n : Int) + (m : Int))) := by simp only [maxLen] at h63; omega
    have h48' : ¬ (281474976710656 < Builtin.nextslicecap (n + m) sCap * i.bytes) := by have := growslice_fits hgrow hbytes; omega
    have hold : (Builtin.firstCells i.size n v).run P w.drew = .ok xs.toArray w.drew := by
      have := Sees.run_firstCells (P := P) (hown.sees.drew) n (Nat.le_refl _)
      rwa [← hown.1, List.take_length] at this
    have hnew := hfirst w.drew (grownBy_drew w none)
    have hge := grownCap_ge w (n + m) sCap e
    have hcm : grownCap w (n + m) sCap e ≤ maxLen := grownCap_le_maxLen w (n + m) sCap e h63
    have hsizeC : (xs.toArray ++ news.toArray ++ Builtin.zeroCells z.cells (grownCap w (n + m) sCap e - (n + m))).size = grownCap w (n + m) sCap e * i.size := by
      simp only [Array.size_append, List.size_toArray, size_zeroCells, hzs, hown.1, hl, ← Nat.add_mul]
      congr 1; omega
    refine ⟨.slice (some ⟨w.heap.size, 0, none⟩) (n + m) (grownCap w (n + m) sCap e), w.drew.alloc (.cells (xs.toArray ++ news.toArray ++ Builtin.zeroCells z.cells (grownCap w (n + m) sCap e - (n + m))) e), ?_,
      ⟨hlen2, .inr ⟨w.heap.size, 0, _, rfl, hbase, by simp, hge, hcm, ?_, there_new w.drew _ _ _ (Nat.le_of_eq hsizeC.symm)⟩⟩, ⟨rfl, rfl, rfl, by simp, fun k hk _ => Below.heap_alloc w.drew _ k hk⟩, .inr rfl, fun hv0 hm0 => ?_⟩
    · subst hv
      have hnr : ¬ (n + m ≤ sCap) := by omega
      rcases hui with rfl | ⟨e', rfl⟩ <;> simp [Builtin.append_, run_underlying ht, run_underlying hu, sizeOf, typeInfo, zeroValue, hi, hz, hlen, hnr, h63', h48', Question.forced, hold, hnew, newRow, grownCap]
      all_goals (congr 2; apply Array.ext'; simp [List.append_assoc])
    · have := rangeAt_new w.drew (xs.toArray ++ news.toArray ++ Builtin.zeroCells z.cells (grownCap w (n + m) sCap e - (n + m))) e (0, 0)
      have h2 := rangeAt_take this ((n + m) * i.size)
      simp only [Array.toList_append] at h2
      rw [← hlen2, List.take_left' rfl] at h2
      exact h2
    · subst hv0; injection hv with _ h2 h3; omega
/-- At the operation; at a plain region's list; at a step of a region that draws. -/
theorem wp_append {o : Oper} {a : Act} {K : Act → World → Prop} {Q : Exit → Act → World → Prop} {t e : TypeId} {size bytes : Nat} (T : SliceT P t e size bytes) (s x : Operand) (u : TypeId)
    (ho : o.op = .call { callee := .builtin .append, args := #[s, x], argTypes := #[t, u] }) (hu : P.underlying u = some .string ∨ ∃ e', P.underlying u = some (.slice e'))
    (base : Nat) (v : Value) (n : Nat) (xs : List Value) (hs : a.eval s = v) (hown : Own w base size v n xs)
    (xv : Value) (m : Nat) (news : List Value) (hx : a.eval x = xv) (hsrc : Src P w size xv m news)
    (h63 : n + m ≤ maxLen) (hbytes : (n + m) * bytes ≤ 140737488355328) (hbase : base ≤ w.heap.size)
    (h : ∀ v' w', Own w' base size v' (n + m) (xs ++ news) → w.grownBy w' v.ownBlock → (v'.ownBlock = v.ownBlock ∨ v'.ownBlock = some w.heap.size) → (v = .slice none 0 0 → m = 0 → v' = .slice none 0 0 ∧ w' = w) → K (a.put o.dst v') w') : o.wp P a w K Q := by
  obtain ⟨v', w', hr, h2, h3, h4, h5⟩ := run_append_any (P := P) (w := w) base t u o.type e size bytes T hu v n xs hown xv m news hsrc h63 hbytes hbase
  unfold Oper.wp execOp
  simp only [ho, resolve, invoke, builtin, Sem.run_bind, Sem.run_pure, Result.andThen_ok, List.map_toArray, List.map_cons, List.map_nil, hs, hx, hr]
  exact h v' w' h2 h3 h4 h5
theorem wpList_append {ops : Array Oper} {rest : List Oper} {o : Oper} {a : Act} {Q : Exit → Act → World → Prop} {t e : TypeId} {size bytes : Nat} (T : SliceT P t e size bytes) (hgd : o.guard = none) (s x : Operand) (u : TypeId)
    (ho : o.op = .call { callee := .builtin .append, args := #[s, x], argTypes := #[t, u] }) (hu : P.underlying u = some .string ∨ ∃ e', P.underlying u = some (.slice e'))
    (base : Nat) (v : Value) (n : Nat) (xs : List Value) (hs : a.eval s = v) (hown : Own w base size v n xs)
    (xv : Value) (m : Nat) (news : List Value) (hx : a.eval x = xv) (hsrc : Src P w size xv m news)
    (h63 : n + m ≤ maxLen) (hbytes : (n + m) * bytes ≤ 140737488355328) (hbase : base ≤ w.heap.size)
    (h : ∀ v' w', Own w' base size v' (n + m) (xs ++ news) → w.grownBy w' v.ownBlock → (v'.ownBlock = v.ownBlock ∨ v'.ownBlock = some w.heap.size) → (v = .slice none 0 0 → m = 0 → v' = .slice none 0 0 ∧ w' = w) → wpList P ops Q rest (a.put o.dst v') w') : wpList P ops Q (o :: rest) a w :=
  wpList_plain hgd fun _ hK => wp_append T s x u ho hu base v n xs hs hown xv m news hx hsrc h63 hbytes hbase fun v' w' h2 h3 h4 h5 => hK _ _ (h v' w' h2 h3 h4 h5)
theorem step_append {ops : Array Oper} {o : Oper} {a : Act} {K : Act → World → Prop} {Q : Exit → Act → World → Prop} {E : Prop} {t e : TypeId} {size bytes : Nat} (T : SliceT P t e size bytes) (hgd : o.guard = none) (s x : Operand) (u : TypeId)
    (ho : o.op = .call { callee := .builtin .append, args := #[s, x], argTypes := #[t, u] }) (hu : P.underlying u = some .string ∨ ∃ e', P.underlying u = some (.slice e'))
    (base : Nat) (v : Value) (n : Nat) (xs : List Value) (hs : a.eval s = v) (hown : Own w base size v n xs)
    (xv : Value) (m : Nat) (news : List Value) (hx : a.eval x = xv) (hsrc : Src P w size xv m news)
    (h63 : n + m ≤ maxLen) (hbytes : (n + m) * bytes ≤ 140737488355328) (hbase : base ≤ w.heap.size)
    (h : ∀ v' w', Own w' base size v' (n + m) (xs ++ news) → w.grownBy w' v.ownBlock → (v'.ownBlock = v.ownBlock ∨ v'.ownBlock = some w.heap.size) → (v = .slice none 0 0 → m = 0 → v' = .slice none 0 0 ∧ w' = w) → K (a.put o.dst v') w') :
    if Region.wanted o (yielded ops a.tmps) = true then Oper.wp P o a w K Q else E := by
  have hw : Region.wanted o (yielded ops a.tmps) = true := by simp [Region.wanted, hgd]
  rw [if_pos hw]
  exact wp_append T s x u ho hu base v n xs hs hown xv m news hx hsrc h63 hbytes hbase h
/-! ### slicing -/
/-- v[l:h]. -/
def cutV (size : Nat) (v : Value) (l h : Nat) : Value :=
  match v with
  | .slice a _ cap => .slice (if cap = l then a else a.map (·.add (l * size))) (h - l) (cap - l)
  | v => v
theorem ownBlock_cutV (v : Value) (l h : Nat) : (cutV size v l h).ownBlock = v.ownBlock := by
  cases v <;> try rfl
  rename_i a n cap
  simp only [cutV]
  cases a with
  | none => simp [Value.ownBlock]
  | some a =>
    by_cases h : cap = l
    · simp [Value.ownBlock, h]
    · simp only [h, if_false, Option.map_some, Value.ownBlock, Addr.add]; split <;> rfl
theorem cut_parts {g o cap l : Nat} : ∃ o', (if cap = l then some (⟨g, o, none⟩ : Addr) else some ((⟨g, o, none⟩ : Addr).add (l * size))) = some ⟨g, o', none⟩ ∧ (cap = l ∨ o' = o + l * size) := by
  by_cases h : cap = l
  · exact ⟨o, by rw [if_pos h], .inl h⟩
  · exact ⟨o + l * size, by rw [if_neg h, Addr.add_mid], .inr rfl⟩
theorem Own.cut (h : Own w base size v n xs) (l k : Nat) (hl : l ≤ k) (hk : k ≤ n) : Own w base size (cutV size v l k) (k - l) ((xs.take (k * size)).drop (l * size)) := by
  refine ⟨?_, ?_⟩
  · rw [List.length_drop, List.length_take, h.1, Nat.min_eq_left (Nat.mul_le_mul_right _ hk), Nat.sub_mul]
  · rcases h.2 with ⟨rfl, rfl⟩ | ⟨g, o, cap, rfl, hb, hlt, hn, hc, hr, ht⟩
    · left; have : k = 0 := by omega
      have : l = 0 := by omega
      subst_vars; exact ⟨rfl, rfl⟩
    · right
      obtain ⟨o', ho', hor⟩ := cut_parts (size := size) (g := g) (o := o) (cap := cap) (l := l)
      refine ⟨g, o', cap - l, by simp only [cutV, Option.map_some]; rw [ho'], hb, hlt, by omega, by omega, ?_, ?_⟩
      · rcases hor with hor | rfl
        · have e1 : k = l := by omega
          subst e1
          have : (List.take (k * size) xs).drop (k * size) = [] := List.drop_eq_nil_of_le (List.length_take_le _ _)
          rw [this]; exact rangeAt_nil _ _ _
        · exact rangeAt_drop (rangeAt_take hr _) _
      · rcases hor with hor | rfl
        · have e1 : cap - l = 0 := by omega
          rw [e1, Nat.zero_mul]; intro j hj; omega
        · rw [Nat.sub_mul]; exact there_drop ht _
theorem Sees.cut (h : Sees w size v n xs) (l k : Nat) (hl : l ≤ k) (hk : k ≤ n) : Sees w size (cutV size v l k) (k - l) ((xs.take (k * size)).drop (l * size)) := by
  refine ⟨?_, ?_⟩
  · rw [List.length_drop, List.length_take, h.1, Nat.min_eq_left (Nat.mul_le_mul_right _ hk), Nat.sub_mul]
  · rcases h.2 with ⟨rfl, rfl⟩ | ⟨g, o, cap, rfl, hlt, hn, hc, hr⟩
    · left; have : k = 0 := by omega
      have : l = 0 := by omega
      subst_vars; exact ⟨rfl, rfl⟩
    · right
      obtain ⟨o', ho', hor⟩ := cut_parts (size := size) (g := g) (o := o) (cap := cap) (l := l)
      refine ⟨g, o', cap - l, by simp only [cutV, Option.map_some]; rw [ho'], hlt, by omega, by omega, ?_⟩
      rcases hor with hor | rfl
      · have e1 : k = l := by omega
        subst e1
        have : (List.take (k * size) xs).drop (k * size) = [] := List.drop_eq_nil_of_le (List.length_take_le _ _)
        rw [this]; exact rangeAt_nil _ _ _
      · exact rangeAt_drop (rangeAt_take hr _) _
/-- The runs: v[l:], v[:k], v[l:k]. -/
theorem Sees.run_cut_lo (h : Sees w size v n xs) {t e : TypeId} {bytes : Nat} (T : SliceT P t e size bytes) (l : Int) (h0 : 0 ≤ l) (h1 : l ≤ n) :
    ∀ w'' : World, (Instr.sliceAt t v (some (.int .i64 l)) none none).run P w'' = .ok (cutV size v l.toNat n) w'' := fun w'' => by
  obtain ⟨ht, ⟨i, z, hi, hz, hsize, hby, hzs⟩, hsz⟩ := T
  obtain ⟨a, cap, rfl, hnc⟩ := h.form
  obtain ⟨l, rfl⟩ := Int.eq_ofNat_of_zero_le h0
  have h1' : l ≤ n := by omega
  simp [Instr.sliceAt, Instr.slice, Instr.sliceBounds, Instr.sliceBound, run_underlying ht, asIntOf, sizeOf, typeInfo, hi, hsize, cutV, h1']
theorem Sees.run_cut_hi (h : Sees w size v n xs) {t e : TypeId} {bytes : Nat} (T : SliceT P t e size bytes) (k : Int) (h0 : 0 ≤ k) (h1 : k ≤ n) :
    ∀ w'' : World, (Instr.sliceAt t v none (some (.int .i64 k)) none).run P w'' = .ok (cutV size v 0 k.toNat) w'' := fun w'' => by
  obtain ⟨ht, ⟨i, z, hi, hz, hsize, hby, hzs⟩, hsz⟩ := T
  obtain ⟨a, cap, rfl, hnc⟩ := h.form
  obtain ⟨k, rfl⟩ := Int.eq_ofNat_of_zero_le h0
  have h1' : k ≤ cap := by omega
  simp [Instr.sliceAt, Instr.slice, Instr.sliceBounds, Instr.sliceBound, run_underlying ht, asIntOf, sizeOf, typeInfo, hi, cutV, h1']
theorem Sees.run_cut (h : Sees w size v n xs) {t e : TypeId} {bytes : Nat} (T : SliceT P t e size bytes) (l k : Int) (h0 : 0 ≤ l) (hlk : l ≤ k) (h1 : k ≤ n) :
    ∀ w'' : World, (Instr.sliceAt t v (some (.int .i64 l)) (some (.int .i64 k)) none).run P w'' = .ok (cutV size v l.toNat k.toNat) w'' := fun w'' => by
  obtain ⟨ht, ⟨i, z, hi, hz, hsize, hby, hzs⟩, hsz⟩ := T
  obtain ⟨a, cap, rfl, hnc⟩ := h.form
  obtain ⟨l, rfl⟩ := Int.eq_ofNat_of_zero_le h0
  obtain ⟨k, rfl⟩ := Int.eq_ofNat_of_zero_le (Int.le_trans h0 hlk)
  have h1' : k ≤ cap := by omega
  have h2' : l ≤ k := by omega
  simp [Instr.sliceAt, Instr.slice, Instr.sliceBounds, Instr.sliceBound, run_underlying ht, asIntOf, sizeOf, typeInfo, hi, hsize, cutV, h1', h2']
/-! ### bytes -/
/-- A byte's cell. -/
def vb (b : UInt8) : Value := .int .u8 (I8 b)
theorem vb_one (l : List UInt8) : ∀ q ∈ l.map vb, q.oneCell' = true := by
  intro q hq; obtain ⟨b, _, rfl⟩ := List.mem_map.1 hq; rfl
abbrev OwnB (w : World) (base : Nat) (v : Value) (l : List UInt8) : Prop := Own w base 1 v l.length (l.map vb)
abbrev SeesB (w : World) (v : Value) (l : List UInt8) : Prop := Sees w 1 v l.length (l.map vb)
theorem SeesB.src {l : List UInt8} (h : SeesB w v l) : Src P w 1 v l.length (l.map vb) := Src_of_sees h (vb_one l)
theorem Src_string (w : World) (s : ByteArray) : Src P w 1 (.string s) s.size (s.data.toList.map vb) := by
  refine ⟨by simp only [List.length_map, Array.length_toList, Nat.mul_one]; rfl, vb_one _, fun w'' => by simp [Builtin.lenOf], fun w'' k hk _ => ?_⟩
  simp only [Builtin.firstCells, Nat.mul_one]
  show Result.ok _ _ = _
  congr 1
  apply Array.ext'
  simp only [Array.toList_map, ByteArray.data_extract, Array.toList_extract, List.extract, List.drop_zero, Nat.sub_zero, List.map_take]
  rfl
theorem OwnB.cut {l : List UInt8} (h : OwnB w base v l) (i k : Nat) (hi : i ≤ k) (hk : k ≤ l.length) : OwnB w base (cutV 1 v i k) ((l.take k).drop i) := by
  have := Own.cut h i k hi hk
  simp only [Nat.mul_one, ← List.map_take, ← List.map_drop] at this
  show Own w base 1 _ ((l.take k).drop i).length _
  rw [show ((l.take k).drop i).length = k - i by simp; omega]; exact this
theorem SeesB.cut {l : List UInt8} (h : SeesB w v l) (i k : Nat) (hi : i ≤ k) (hk : k ≤ l.length) : SeesB w (cutV 1 v i k) ((l.take k).drop i) := by
  have := Sees.cut h i k hi hk
  simp only [Nat.mul_one, ← List.map_take, ← List.map_drop] at this
  show Sees w 1 _ ((l.take k).drop i).length _
  rw [show ((l.take k).drop i).length = k - i by simp; omega]; exact this
/-- string(v). -/
theorem SeesB.run_string {l : List UInt8} (h : SeesB w v l) (src dst e : TypeId) (hs : P.underlying src = some (.slice e)) (he : P.underlying e = some (.int .u8)) (hd : P.underlying dst = some .string) :
    ∀ w'' : World, w.grownBy w'' none → (convert src dst v).run P w'' = .ok (.string ⟨l.toArray⟩) w'' := fun w'' hg => by
  have h' := h.kept hg (by cases v.ownBlock <;> simp)
  rcases h'.2 with ⟨rfl, hn⟩ | ⟨g, o, cap, rfl, _, _, _, hr⟩
  · have : l = [] := List.eq_nil_of_length_eq_zero hn
    subst this
    rw [run_convert_bytes_string w'' src dst e none 0 0 hs he hd]
    rfl
  · exact run_convert_bytes_back w'' src dst e ⟨g, o, none⟩ cap l hs he hd (fun j hj => by
      rw [Addr.add_mid]; exact hr j _ (by simp [vb, I8, List.getElem?_eq_getElem hj]))
/-- A cell of it. -/
theorem Sees.cell (h : Sees w size v n xs) {g o cap : Nat} (hv : v = .slice (some ⟨g, o, none⟩) n cap) (j : Nat) (u : Value) (hu : xs[j]? = some u) : w.cell? ⟨g, o + j, none⟩ = some u := by
  rcases h.2 with ⟨rfl, _⟩ | ⟨g', o', cap', rfl, _, _, _, hr⟩
  · cases hv
  · injection hv with h1 h2 h3; injection h1 with h1; injection h1 with h4 h5 h6; subst h4; subst h5; exact hr j u hu
end
end TL
end Go
