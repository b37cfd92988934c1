/- Texts of this seat, put together: RegT, RegF, BatK0, BatF. Each begins with a remark that says what is proved in it, and under which conditions. -/
import Derived.Test.YtepjillcmpmlkaaZb
import Derived.Test.YtepjillcmpmlkaaZc
import Derived.Test.YtepjillcmpmlkaaZe
/- A region that draws its order and lays literals: whichever order is drawn, each literal lies at a place of its own, and the rest comes to the same. No conditions but those the law names. -/
namespace Go
namespace TL
open Go.RowKit
theorem Mem.perm {F : List Nat} {w0 w : World} {L L' : List Chunk} (M : Mem F w0 w L) (h : L.Perm L') : Mem F w0 w L' := by
  have hp : L.Pairwise fun c d => ∀ k, k ∈ c.fp → k ∈ d.fp → False := List.pairwise_iff_getElem.2 fun i j hi hj hij k hk hk' => M.nd i j _ _ (by omega) (List.getElem?_eq_getElem hi) (List.getElem?_eq_getElem hj) k hk hk'
  have hp' := (h.pairwise_iff fun {c d} hcd k hk hk' => hcd k hk' hk).1 hp
  have hm : ∀ (i : Nat) (c : Chunk), L'[i]? = some c → ∃ j, L[j]? = some c := fun i c hc => List.mem_iff_getElem?.1 (h.symm.subset (List.mem_of_getElem? hc))
  refine ⟨M.kept, fun i c hc => ?_, fun i c hc => ?_, fun i j c d hij hi hj k hk hk' => ?_⟩
  · obtain ⟨j, hj⟩ := hm i c hc; exact M.ok j c hj
  · obtain ⟨j, hj⟩ := hm i c hc; exact M.own j c hj
  · obtain ⟨hi1, rfl⟩ := List.getElem?_eq_some_iff.1 hi
    obtain ⟨hj1, rfl⟩ := List.getElem?_eq_some_iff.1 hj
    rcases Nat.lt_or_gt_of_ne hij with h1 | h1
    · exact List.pairwise_iff_getElem.1 hp' i j hi1 hj1 h1 k hk hk'
    · exact List.pairwise_iff_getElem.1 hp' j i hj1 hi1 h1 k hk' hk
structure Tab where
  T : Nat → Nat
  val : Nat → Nat → Value
  lit : Nat → Nat
  lits : List Nat
  cells : Nat → List Value
def Tab.fin (t : Tab) (g : Nat → Nat) (a : Act) : Nat → Act
  | 0 => a
  | k + 1 => (t.fin g a k).put (some (t.T k)) (t.val k (g (t.lit k)))
def waitsFor (ops : Array Oper) (i j : Nat) : Bool := match ops[i]? with | none => false | some o => o.after.any fun e => Region.binds .any e && e.on == j
theorem put_size (a : Act) (d : Option Tmp) (v : Value) : (a.put d v).tmps.size = a.tmps.size := by cases d <;> simp [Act.put]
theorem put_def (a : Act) (d : Option Tmp) (v : Value) : (a.put d v).defers = a.defers := by cases d <;> rfl
theorem put_at {a : Act} {d : Nat} {v : Value} (h : d < a.tmps.size) (t : Nat) : (a.put (some d) v).tmps.getD t undef = if t = d then v else a.tmps.getD t undef := by
  simp only [Act.put, Array.getD_eq_getD_getElem?, Array.getElem?_setIfInBounds]
  by_cases e : d = t
  · subst e; simp [h]
  · rw [if_neg e, if_neg (fun h => e h.symm)]
theorem fin_size (t : Tab) (g : Nat → Nat) (a : Act) (k : Nat) : (t.fin g a k).tmps.size = a.tmps.size := by
  induction k with
  | zero => rfl
  | succ k ih => rw [Tab.fin, put_size, ih]
theorem fin_def (t : Tab) (g : Nat → Nat) (a : Act) (k : Nat) : (t.fin g a k).defers = a.defers := by
  induction k with
  | zero => rfl
  | succ k ih => rw [Tab.fin, put_def, ih]
theorem fin_in (t : Tab) (g : Nat → Nat) (a : Act) {m : Nat} (hT : ∀ i j, i < m → j < m → t.T i = t.T j → i = j) (hs : ∀ i, i < m → t.T i < a.tmps.size) : ∀ k, k ≤ m → ∀ i, i < k → (t.fin g a k).tmps.getD (t.T i) undef = t.val i (g (t.lit i))
  | 0, _, i, hi => absurd hi (Nat.not_lt_zero _)
  | k + 1, hk, i, hi => by
    rw [Tab.fin, put_at (by rw [fin_size]; exact hs k (by omega))]
    by_cases e : i = k
    · subst e; rw [if_pos rfl]
    · rw [if_neg fun h => e (hT i k (by omega) (by omega) h)]
      exact fin_in t g a hT hs k (by omega) i (by omega)
theorem fin_out (t : Tab) (g : Nat → Nat) (a : Act) {d : Nat} : ∀ k, (∀ i, i < k → t.T i ≠ d) → (t.fin g a k).tmps.getD d undef = a.tmps.getD d undef
  | 0, _ => rfl
  | k + 1, h => by
    rw [Tab.fin]
    refine (?_ : _ = _).trans (fin_out t g a k fun i hi => h i (by omega))
    have := h k (by omega)
    simp only [Act.put, Array.getD_eq_getD_getElem?, Array.getElem?_setIfInBounds, if_neg this]
theorem act_ext {a b : Act} (hs : a.tmps.size = b.tmps.size) (hd : a.defers = b.defers) (h : ∀ d, a.tmps.getD d undef = b.tmps.getD d undef) : a = b := by
  obtain ⟨x, d⟩ := a
  obtain ⟨y, e⟩ := b
  simp only at hs hd h
  subst hd
  congr 1
  refine Array.ext hs fun i h1 h2 => ?_
  have := h i
  rwa [Array.getD_eq_getD_getElem?, Array.getD_eq_getD_getElem?, Array.getElem?_eq_getElem h1, Array.getElem?_eq_getElem h2] at this
section
variable {P : Program} {ops : Array Oper} {Q : Exit → Act → World → Prop} {F : List Nat} {w0 : World}
structure Lays (ops : Array Oper) (F : List Nat) (w0 : World) (t : Tab) (m : Nat) (a0 : Act) (base : List Chunk) (listed : Array Bool) (g : Nat → Nat) (S : List Nat) (a : Act) (w : World) : Prop where
  size : listed.size = ops.size
  nd : S.Nodup
  mem : ∀ i, i ∈ S ↔ i ∈ t.lits ∧ listed.getD i false = true
  hi : ∀ i, m ≤ i → listed.getD i false = false
  dep : ∀ i, i < m → listed.getD i false = true → ∀ j, waitsFor ops i j = true → listed.getD j false = true
  val : ∀ i, i < m → listed.getD i false = true → a.tmps.getD (t.T i) undef = t.val i (g (t.lit i))
  old : ∀ d, (∀ i, i < m → t.T i ≠ d) → a.tmps.getD d undef = a0.tmps.getD d undef
  asize : a.tmps.size = a0.tmps.size
  adef : a.defers = a0.defers
  M : Mem F w0 w (S.map (fun i => .row (g i) (t.cells i)) ++ base)
theorem getD_true_false {l : Array Bool} {i : Nat} (h : i < l.size) : l.getD i true = l.getD i false := by
  rw [Array.getD_eq_getD_getElem?, Array.getD_eq_getD_getElem?, Array.getElem?_eq_getElem h]; rfl
theorem ready_deps {listed : Array Bool} {i : Nat} (h : i ∈ Region.ready .any ops listed) (j : Nat) (hw : waitsFor ops i j = true) : listed.getD j false = true := by
  unfold Region.ready at h
  rw [List.mem_filter, Bool.and_eq_true] at h
  obtain ⟨_, _, h⟩ := h
  unfold waitsFor at hw
  cases e : ops[i]? with
  | none => rw [e] at hw; cases hw
  | some o =>
    rw [e] at h hw
    simp only [Option.map_some, Option.getD_some, Array.all_eq_true'] at h
    simp only [Array.any_eq_true'] at hw
    obtain ⟨x, hx, hw⟩ := hw
    rw [Bool.and_eq_true, beq_iff_eq] at hw
    have := h x hx
    rw [hw.1, hw.2] at this
    simpa using this
theorem wpOp_run {i : Nat} {o : Oper} {a : Act} {w w' : World} {v : Value} {K : Act → World → Prop} (ho : ops[i]? = some o) (hg : o.guard = none) (hr : (execOp a.eval o).run P w = .ok (.value v) w') (h : K (a.put o.dst v) w') : wpOp P ops Q i K a w := by
  unfold wpOp
  rw [ho]
  simp only
  rw [if_pos (by unfold Region.wanted; rw [hg])]
  refine .inl ?_
  unfold Oper.wp
  rw [hr]
  exact h
theorem getD_set (listed : Array Bool) (i j : Nat) (h : i < listed.size) : (listed.setIfInBounds i true).getD j false = if j = i then true else listed.getD j false := by
  rw [Array.getD_eq_getD_getElem?, Array.getD_eq_getD_getElem?, Array.getElem?_setIfInBounds]
  by_cases e : i = j
  · subst e; simp [h]
  · rw [if_neg e, if_neg (fun h => e h.symm)]
theorem lays_main {t : Tab} {m : Nat} {a0 : Act} {base : List Chunk} (hm : m < ops.size) (hT : ∀ i j, i < m → j < m → t.T i = t.T j → i = j) (hs : ∀ i, i < m → t.T i < a0.tmps.size) (hln : t.lits.Nodup) (hlm : ∀ i ∈ t.lits, i < m ∧ t.lit i = i)
    (hlit : ∀ i, i < m → t.lit i = i ∨ waitsFor ops i (t.lit i) = true)
    (hdown : ∀ i, i < m → ∀ j, waitsFor ops i j = true → j < i) (hup : ∀ j, j < m → ∃ k, j < k ∧ k ≤ m ∧ waitsFor ops k j = true) (hlast : ∀ i, m < i → i < ops.size → ∃ j, m ≤ j ∧ waitsFor ops i j = true)
    (hop : ∀ i, i < m → ∃ o, ops[i]? = some o ∧ o.guard = none ∧ o.dst = some (t.T i))
    (hpure : ∀ i, i < m → i ∉ t.lits → ∀ (g : Nat → Nat) (a : Act) (w : World) (o : Oper), ops[i]? = some o → (∀ j, j < m → waitsFor ops i j = true → a.tmps.getD (t.T j) undef = t.val j (g (t.lit j))) → (∀ d, (∀ i, i < m → t.T i ≠ d) → a.tmps.getD d undef = a0.tmps.getD d undef) → Mem F w0 w base → (execOp a.eval o).run P w = .ok (.value (t.val i (g (t.lit i)))) w)
    (hrow : ∀ i, i ∈ t.lits → ∀ (g : Nat → Nat) (a : Act) (w : World) (o : Oper), ops[i]? = some o → (∀ j, j < m → waitsFor ops i j = true → a.tmps.getD (t.T j) undef = t.val j (g (t.lit j))) → (∀ d, (∀ i, i < m → t.T i ≠ d) → a.tmps.getD d undef = a0.tmps.getD d undef) → ∃ e, (execOp a.eval o).run P w = .ok (.value (t.val i w.heap.size)) (w.alloc (.cells (t.cells i).toArray e)))
    (hend : ∀ (k : Nat) (g : Nat → Nat) (w : World), Mem F w0 w (t.lits.map (fun i => .row (g i) (t.cells i)) ++ base) → wpAny P .any ops Q (k + (ops.size - m)) (Array.replicate m true ++ Array.replicate (ops.size - m) false) (t.fin g a0 m) w) :
    ∀ (fuel : Nat) (listed : Array Bool) (g : Nat → Nat) (S : List Nat) (a : Act) (w : World), unlisted ops listed ≤ fuel → Lays ops F w0 t m a0 base listed g S a w → wpAny P .any ops Q fuel listed a w := by
  have hfull : ∀ (fuel : Nat) (listed : Array Bool) (g : Nat → Nat) (S : List Nat) (a : Act) (w : World), unlisted ops listed ≤ fuel → Lays ops F w0 t m a0 base listed g S a w → (∀ i, i < m → listed.getD i false = true) → wpAny P .any ops Q fuel listed a w := fun fuel listed g S a w hf L hall => by
    have hl : listed = Array.replicate m true ++ Array.replicate (ops.size - m) false := by
      refine Array.ext (by rw [L.size]; simp; omega) fun i h1 h2 => ?_
      have hg : listed[i] = listed.getD i false := by rw [Array.getD_eq_getD_getElem?, Array.getElem?_eq_getElem h1]; rfl
      rw [hg]
      by_cases e : i < m
      · rw [hall i e, Array.getElem_append_left (by simpa using e)]; simp
      · rw [L.hi i (by omega), Array.getElem_append_right (by simpa using Nat.le_of_not_lt e)]; simp
    have hu : ops.size - m ≤ unlisted ops listed := by
      unfold unlisted
      rw [show List.range ops.size = List.range m ++ (List.range (ops.size - m)).map (m + ·) by rw [← List.range_add]; congr 1; omega, List.filter_append, List.length_append]
      refine Nat.le_trans ?_ (Nat.le_add_left _ _)
      rw [List.filter_eq_self.2, List.length_map, List.length_range]
      · exact Nat.le_refl _
      · intro x hx
        obtain ⟨y, hy, rfl⟩ := List.mem_map.1 hx
        rw [List.mem_range] at hy
        rw [getD_true_false (by rw [L.size]; omega), L.hi _ (by omega)]; rfl
    have ea : a = t.fin g a0 m := by
      refine act_ext (by rw [L.asize, fin_size]) (by rw [L.adef, fin_def]) fun d => ?_
      by_cases e : ∃ i, i < m ∧ t.T i = d
      · obtain ⟨i, hi, rfl⟩ := e
        rw [L.val i hi (hall i hi), fin_in t g a0 hT hs m (Nat.le_refl _) i hi]
      · have e' : ∀ i, i < m → t.T i ≠ d := fun i hi h => e ⟨i, hi, h⟩
        rw [L.old d e', fin_out t g a0 m e']
    have hp : S.Perm t.lits := (List.perm_ext_iff_of_nodup L.nd hln).2 fun i => ⟨fun h => ((L.mem i).1 h).1, fun h => (L.mem i).2 ⟨h, hall i (hlm i h).1⟩⟩
    have hM := L.M.perm ((hp.map (fun i => Chunk.row (g i) (t.cells i))).append_right base)
    have := hend (fuel - (ops.size - m)) g w hM
    rw [← hl, ← ea, show fuel - (ops.size - m) + (ops.size - m) = fuel by omega] at this
    exact this
  have hback : ∀ (listed : Array Bool), listed.size = ops.size → (∀ i, i < m → listed.getD i false = true → ∀ j, waitsFor ops i j = true → listed.getD j false = true) → (∀ j, waitsFor ops m j = true → listed.getD j false = true) → ∀ i, i < m → listed.getD i false = true := fun listed _ hdep hmd => by
    have key : ∀ n i, m - i ≤ n → i < m → listed.getD i false = true := by
      intro n
      induction n with
      | zero => intro i h1 h2; omega
      | succ n ih =>
        intro i h1 h2
        obtain ⟨k, hk1, hk2, hk3⟩ := hup i h2
        by_cases e : k = m
        · subst e; exact hmd i hk3
        · exact hdep k (by omega) (ih k (by omega) (by omega)) i hk3
    exact fun i hi => key m i (by omega) hi
  intro fuel
  induction fuel with
  | zero =>
    intro listed g S a w hf L
    exfalso
    have : 0 < unlisted ops listed := by
      unfold unlisted
      refine List.length_pos_of_mem (a := m) (List.mem_filter.2 ⟨List.mem_range.2 hm, ?_⟩)
      rw [getD_true_false (by rw [L.size]; exact hm), L.hi m (Nat.le_refl _)]; rfl
    omega
  | succ fuel ih =>
    intro listed g S a w hf L
    by_cases hall : ∀ i, i < m → listed.getD i false = true
    · exact hfull _ _ _ _ _ _ hf L hall
    have hready : ∀ i, i ∈ Region.ready .any ops listed → i < m := fun i hi => by
      obtain ⟨h1, h2⟩ := ready_lt hi
      apply Decidable.byContradiction
      intro hn
      by_cases e : i = m
      · subst e; exact hall (hback listed L.size L.dep (fun j hj => ready_deps hi j hj))
      · obtain ⟨j, hj1, hj2⟩ := hlast i (by omega) h1
        have := ready_deps hi j hj2
        rw [L.hi j hj1] at this; cases this
    refine ⟨fun hr => ?_, fun i hi => ?_⟩
    · -- nothing is ready: all are listed
      exfalso
      refine hall fun i => ?_
      induction i using Nat.strongRecOn with
      | _ i hi =>
        intro him
        apply Decidable.byContradiction
        intro hn
        have hn' : listed.getD i false = false := by simpa using hn
        obtain ⟨o, ho, _⟩ := hop i him
        have : i ∈ Region.ready .any ops listed := by
          unfold Region.ready
          rw [List.mem_filter, List.mem_range, Bool.and_eq_true, ho]
          refine ⟨by omega, by rw [getD_true_false (by rw [L.size]; omega), hn']; rfl, ?_⟩
          simp only [Option.map_some, Option.getD_some, Array.all_eq_true']
          intro e he
          cases hb : Region.binds .any e with
          | false => rfl
          | true =>
            have hw : waitsFor ops i e.on = true := by
              unfold waitsFor
              rw [ho]
              simp only [Array.any_eq_true']
              exact ⟨e, he, by rw [hb]; simp⟩
            have := hdown i him _ hw
            rw [hi _ this (by omega)]; rfl
        rw [hr] at this; cases this
    · have him := hready i hi
      obtain ⟨h1, h2⟩ := ready_lt hi
      have hil : i < listed.size := by rw [L.size]; exact h1
      have h2' : listed.getD i false = false := by rw [← getD_true_false hil]; exact h2
      obtain ⟨o, ho, hg, hd⟩ := hop i him
      have hdeps : ∀ j, j < m → waitsFor ops i j = true → a.tmps.getD (t.T j) undef = t.val j (g (t.lit j)) := fun j hj hw => L.val j hj (ready_deps hi j hw)
      have hu := unlisted_set h1 h2
      have hTs := hs i him
      by_cases hlit' : i ∈ t.lits
      · obtain ⟨e, hr⟩ := hrow i hlit' g a w o ho hdeps L.old
        refine wpOp_run ho hg hr ?_
        rw [hd]
        have hli := (hlm i hlit').2
        have hiS : i ∉ S := fun h => by rw [((L.mem i).1 h).2] at h2'; cases h2'
        refine ih _ (fun j => if j = i then w.heap.size else g j) (i :: S) _ _ (by omega) ⟨by simp [L.size], List.nodup_cons.2 ⟨hiS, L.nd⟩, fun j => ?_, fun j hj => ?_, fun j hj hl k hk => ?_, fun j hj hl => ?_, fun d hd => ?_, by rw [put_size, L.asize], by rw [put_def, L.adef], ?_⟩
        · rw [List.mem_cons, L.mem, getD_set _ _ _ hil]
          by_cases e : j = i
          · subst e; simp [hlit']
          · simp [e]
        · rw [getD_set _ _ _ hil, if_neg (by omega)]; exact L.hi j hj
        · rw [getD_set _ _ _ hil] at hl ⊢
          by_cases e : j = i
          · subst e
            split
            · rfl
            · exact ready_deps hi k hk
          · rw [if_neg e] at hl
            split
            · rfl
            · exact L.dep j hj hl k hk
        · rw [getD_set _ _ _ hil] at hl
          rw [put_at (by rw [L.asize]; exact hTs)]
          by_cases e : j = i
          · subst e; rw [if_pos rfl, hli, if_pos rfl]
          · rw [if_neg e] at hl
            rw [if_neg fun h => e (hT j i hj him h), L.val j hj hl]
            have : t.lit j ≠ i := by
              rcases hlit j hj with h | h
              · rw [h]; exact e
              · intro h'
                rw [h'] at h
                have := L.dep j hj hl i h
                rw [h2'] at this; cases this
            rw [if_neg this]
        · rw [put_at (by rw [L.asize]; exact hTs), if_neg (fun h => hd i him h.symm)]; exact L.old d hd
        · have := L.M.alloc (t.cells i).toArray e
          rw [List.map_cons, List.cons_append, if_pos rfl]
          have em : S.map (fun j => Chunk.row (if j = i then w.heap.size else g j) (t.cells j)) = S.map (fun j => Chunk.row (g j) (t.cells j)) := List.map_congr_left fun j hj => by
            rw [if_neg (fun h : j = i => hiS (h ▸ hj))]
          rw [em]
          exact this
      · have hb : Mem F w0 w base := by
          have := L.M
          exact this.pick base (· + (S.map (fun i => Chunk.row (g i) (t.cells i))).length) (fun _ _ _ _ h => by simpa using h) (fun j c hc => by
            rw [List.getElem?_append_right (by omega), Nat.add_sub_cancel]; exact hc)
        have hr := hpure i him hlit' g a w o ho hdeps L.old hb
        refine wpOp_run ho hg hr ?_
        rw [hd]
        refine ih _ g S _ _ (by omega) ⟨by simp [L.size], L.nd, fun j => ?_, fun j hj => ?_, fun j hj hl k hk => ?_, fun j hj hl => ?_, fun d hd => ?_, by rw [put_size, L.asize], by rw [put_def, L.adef], L.M⟩
        · rw [L.mem, getD_set _ _ _ hil]
          by_cases e : j = i
          · subst e; simp [hlit']
          · simp [e]
        · rw [getD_set _ _ _ hil, if_neg (by omega)]; exact L.hi j hj
        · rw [getD_set _ _ _ hil] at hl ⊢
          by_cases e : j = i
          · subst e
            split
            · rfl
            · exact ready_deps hi k hk
          · rw [if_neg e] at hl
            split
            · rfl
            · exact L.dep j hj hl k hk
        · rw [getD_set _ _ _ hil] at hl
          rw [put_at (by rw [L.asize]; exact hTs)]
          by_cases e : j = i
          · subst e; rw [if_pos rfl]
          · rw [if_neg e] at hl
            rw [if_neg fun h => e (hT j i hj him h), L.val j hj hl]
        · rw [put_at (by rw [L.asize]; exact hTs), if_neg (fun h => hd i him h.symm)]; exact L.old d hd
def laysOk (ops : Array Oper) (t : Tab) (m : Nat) (n : Nat) : Bool :=
  (m < ops.size && (List.range m).all fun i => (List.range i).all fun j => t.T i != t.T j) &&
  ((List.range m).all fun i => decide (t.T i < n) && (t.lit i == i || waitsFor ops i (t.lit i)) && (match ops[i]? with | none => false | some o => o.guard.isNone && o.dst == some (t.T i) && o.after.all fun e => !Region.binds .any e || decide (e.on < i))) &&
  (decide t.lits.Nodup && (t.lits.all fun i => decide (i < m) && t.lit i == i)) &&
  ((List.range m).all fun j => (List.range (m + 1)).any fun k => decide (j < k) && waitsFor ops k j) &&
  ((List.range (ops.size - m)).all fun k => Region.ready .any ops (Array.replicate (m + k) true ++ Array.replicate (ops.size - (m + k)) false) == [m + k]) &&
  ((List.range (ops.size - (m + 1))).all fun k => (List.range ops.size).any fun j => decide (m ≤ j) && waitsFor ops (m + 1 + k) j)
theorem any_rest : ∀ (r s k : Nat) (a : Act) (w : World), s + r = ops.size → (∀ s', s ≤ s' → s' < ops.size → Region.ready .any ops (Array.replicate s' true ++ Array.replicate (ops.size - s') false) = [s']) → wpList P ops Q (ops.toList.drop s) a w → wpAny P .any ops Q (k + r) (Array.replicate s true ++ Array.replicate r false) a w
  | 0, s, k, a, w, hs, _, h => by
    have hr : Region.ready .any ops (Array.replicate s true ++ Array.replicate 0 false) = [] := by
      apply List.eq_nil_iff_forall_not_mem.2
      intro i hi
      obtain ⟨h1, h2⟩ := ready_lt hi
      rw [Array.getD_eq_getD_getElem?] at h2
      simp [show i < s by omega] at h2
    have h' : Q .normal a w := by
      rw [List.drop_eq_nil_of_le (by simp; omega)] at h
      exact h
    cases k with
    | zero => exact ⟨hr, h'⟩
    | succ k => exact ⟨fun _ => h', fun i hi => by rw [hr] at hi; cases hi⟩
  | r + 1, s, k, a, w, hs, hr, h => by
    have hlt : s < ops.size := by omega
    have e := hr s (Nat.le_refl _) hlt
    rw [show ops.size - s = r + 1 by omega] at e
    refine ⟨fun h' => (by rw [e] at h'; cases h'), fun i hi => ?_⟩
    rw [e, List.mem_singleton] at hi
    subst hi
    have el : (Array.replicate i true ++ Array.replicate (r + 1) false).setIfInBounds i true = Array.replicate (i + 1) true ++ Array.replicate r false := by
      apply Array.ext (by simp; omega)
      intro j h1 h2
      simp only [Array.size_setIfInBounds, Array.size_append, Array.size_replicate] at h1
      rw [Array.getElem_setIfInBounds]
      by_cases ej : i = j
      · subst ej; rw [if_pos rfl, Array.getElem_append_left (by simp)]; simp
      · rw [if_neg ej]
        by_cases h3 : j < i
        · rw [Array.getElem_append_left (by simpa using h3), Array.getElem_append_left (by simp; omega)]; simp
        · rw [Array.getElem_append_right (by simp; omega), Array.getElem_append_right (by simp; omega)]; simp
      simp; omega
    have hd : ops.toList.drop i = ops[i] :: ops.toList.drop (i + 1) := by
      rw [List.drop_eq_getElem_cons (by simpa using hlt)]; simp
    rw [hd] at h
    rw [el]
    have key := fun a w h => any_rest r (i + 1) k a w (by omega) (fun s' h1 h2 => hr s' (by omega) h2) h
    show wpOp P ops Q i (wpAny P .any ops Q (k + r) (Array.replicate (i + 1) true ++ Array.replicate r false)) a w
    unfold wpOp
    rw [Array.getElem?_eq_getElem hlt]
    simp only
    unfold wpList at h
    by_cases hw : Region.wanted ops[i] (yielded ops a.tmps) = true
    · rw [if_pos hw] at h ⊢
      exact h.imp (Oper.wp_mono fun a w h => key a w h) id
    · rw [if_neg hw] at h ⊢
      exact key _ _ h
theorem region_lays {id : Nat} {l : List Oper} {a0 : Act} {w : World} {base : List Chunk} (M : Mem F w0 w base) (hmo : P.follows .mixedOrders = true) (t : Tab) (m : Nat) (hc : laysOk l.toArray t m a0.tmps.size = true)
    (hpure : ∀ i, i < m → i ∉ t.lits → ∀ (g : Nat → Nat) (a : Act) (w : World) (o : Oper), l[i]? = some o → (∀ j, j < m → waitsFor l.toArray i j = true → a.tmps.getD (t.T j) undef = t.val j (g (t.lit j))) → (∀ d, (∀ i, i < m → t.T i ≠ d) → a.tmps.getD d undef = a0.tmps.getD d undef) → Mem F w0 w base → (execOp a.eval o).run P w = .ok (.value (t.val i (g (t.lit i)))) w)
    (hrow : ∀ i, i ∈ t.lits → ∀ (g : Nat → Nat) (a : Act) (w : World) (o : Oper), l[i]? = some o → (∀ j, j < m → waitsFor l.toArray i j = true → a.tmps.getD (t.T j) undef = t.val j (g (t.lit j))) → (∀ d, (∀ i, i < m → t.T i ≠ d) → a.tmps.getD d undef = a0.tmps.getD d undef) → ∃ e, (execOp a.eval o).run P w = .ok (.value (t.val i w.heap.size)) (w.alloc (.cells (t.cells i).toArray e)))
    (hend : ∀ (g : Nat → Nat) (w : World), Mem F w0 w (t.lits.map (fun i => .row (g i) (t.cells i)) ++ base) → wpList P l.toArray Q (l.drop m) (t.fin g a0 m) w) : (Code.region id l.toArray true).wp P Q a0 w := by
  unfold laysOk at hc
  simp only [Bool.and_eq_true, decide_eq_true_eq, List.all_eq_true, List.mem_range, List.any_eq_true, beq_iff_eq, bne_iff_ne, Bool.or_eq_true] at hc
  obtain ⟨⟨⟨⟨⟨⟨h1, h2⟩, h3⟩, h4, h5⟩, h6⟩, h7⟩, h8⟩ := hc
  have hop : ∀ i, i < m → ∃ o, l.toArray[i]? = some o ∧ o.guard = none ∧ o.dst = some (t.T i) ∧ ∀ e ∈ o.after, Region.binds .any e = true → e.on < i := fun i hi => by
    obtain ⟨_, h⟩ := h3 i hi
    cases e : l.toArray[i]? with
    | none => rw [e] at h; cases h
    | some o =>
      rw [e] at h
      simp only [Bool.and_eq_true, Option.isNone_iff_eq_none, beq_iff_eq, Array.all_eq_true', Bool.or_eq_true, decide_eq_true_eq, Bool.not_eq_true'] at h
      exact ⟨o, rfl, h.1.1, h.1.2, fun e he hb => (h.2 e he).resolve_left (by rw [hb]; decide)⟩
  refine wp_region_any hmo ?_
  refine lays_main (F := F) (w0 := w0) (t := t) (m := m) (a0 := a0) (base := base) h1 ?_ (fun i hi => (h3 i hi).1.1) h4 h5 (fun i hi => (h3 i hi).1.2) ?_ ?_ ?_ ?_ ?_ ?_ ?_ _ _ (fun _ => 0) [] _ _ ?_ ?_
  · intro i j hi hj h
    rcases Nat.lt_trichotomy i j with h' | h' | h'
    · exact absurd h.symm (h2 j hj i h')
    · exact h'
    · exact absurd h (h2 i hi j h')
  · intro i hi j hw
    obtain ⟨o, ho, _, _, h⟩ := hop i hi
    unfold waitsFor at hw
    rw [ho] at hw
    simp only [Array.any_eq_true', Bool.and_eq_true, beq_iff_eq] at hw
    obtain ⟨e, he, hb, rfl⟩ := hw
    exact h e he hb
  · intro j hj
    obtain ⟨k, hk, h⟩ := h6 j hj
    exact ⟨k, h.1, by omega, h.2⟩
  · intro i hi hi'
    obtain ⟨j, _, hj, hw⟩ := h8 (i - (m + 1)) (by omega)
    rw [show m + 1 + (i - (m + 1)) = i by omega] at hw
    exact ⟨j, hj, hw⟩
  · intro i hi
    obtain ⟨o, ho, hg, hd, _⟩ := hop i hi
    exact ⟨o, ho, hg, hd⟩
  · intro i hi hl g a w o ho
    exact hpure i hi hl g a w o (by simpa using ho)
  · intro i hi g a w o ho
    exact hrow i hi g a w o (by simpa using ho)
  · intro k g w M'
    refine any_rest _ _ _ _ _ (by omega) (fun s' hs1 hs2 => ?_) (by simpa using hend g w M')
    have := h7 (s' - m) (by omega)
    rwa [show m + (s' - m) = s' by omega] at this
  · unfold unlisted; exact Nat.le_trans (List.length_filter_le _ _) (by rw [List.length_range]; exact Nat.le_refl _)
  · have hz : ∀ i, (Array.replicate l.toArray.size false).getD i false = false := fun i => by
      rw [Array.getD_eq_getD_getElem?, Array.getElem?_replicate]; split <;> rfl
    refine ⟨by simp, List.nodup_nil, fun i => ?_, fun i _ => hz i, fun i _ h => ?_, fun i _ h => ?_, fun _ _ => rfl, rfl, rfl, by simpa using M.drew⟩
    · rw [hz]; simp
    · rw [hz] at h; cases h
    · rw [hz] at h; cases h
end
/-! ### Literals of several structs -/
theorem foldl_setO (off : Nat) (l : List Value) : ∀ (j : Nat) (C : Array Value), off + j + l.length ≤ C.size → ((l.zipIdx j).foldl (fun cs x => cs.setIfInBounds (off + x.2) x.1) C).toList = C.toList.take (off + j) ++ l ++ C.toList.drop (off + j + l.length) := by
  induction l with
  | nil => intro j C h; simp
  | cons v r ih =>
    intro j C h
    simp only [List.length_cons] at h
    rw [List.zipIdx_cons, List.foldl_cons, ih (j + 1) _ (by simp; omega)]
    have hk : off + j < C.toList.length := by simpa using (by omega : off + j < C.size)
    rw [Array.toList_setIfInBounds, show off + (j + 1) = off + j + 1 by omega, List.take_set, List.take_succ_eq_append_getElem hk, List.drop_set_of_lt (by omega), List.set_append_right _ _ (by simp; omega)]
    simp only [List.length_take, Nat.min_eq_left (Nat.le_of_lt hk), Nat.sub_self, List.set_cons_zero, List.length_cons]
    rw [show off + j + 1 + r.length = off + j + (r.length + 1) by omega]
    simp
theorem fill_all (size : Nat) : ∀ (cs : List (List Value)) (k : Nat) (C : Array Value), (∀ c ∈ cs, c.length = size) → C.size = (k + cs.length) * size → Instr.fill (fun i => some (i * size, size)) C ((cs.zipIdx k).map fun x => (x.2, .agg x.1.toArray)) = some (C.toList.take (k * size) ++ cs.flatten).toArray
  | [], k, C, _, h => by
    simp only [List.zipIdx_nil, List.map_nil, Instr.fill, List.flatten_nil, List.append_nil]
    rw [List.take_of_length_le (by simp at h; simp; omega)]
  | c :: cs, k, C, hl, h => by
    have hc := hl c List.mem_cons_self
    have hsz : k * size + size ≤ C.size := by
      rw [h, List.length_cons, ← Nat.succ_mul]; exact Nat.mul_le_mul_right _ (by omega)
    rw [List.zipIdx_cons, List.map_cons]
    simp only [Instr.fill, Value.cells, List.size_toArray, hc]
    rw [if_neg (by simp; omega)]
    have e : (c.toArray.zipIdx.foldl (fun cs (x : Value × Nat) => cs.setIfInBounds (k * size + x.2) x.1) C) = (C.toList.take (k * size) ++ c ++ C.toList.drop (k * size + size)).toArray := by
      apply Array.ext'
      rw [← Array.foldl_toList]
      simp only [Array.toList_zipIdx]
      rw [foldl_setO (k * size) c 0 C (by omega), Nat.add_zero, hc]
    have e' := fill_all size cs (k + 1) (C.toList.take (k * size) ++ c ++ C.toList.drop (k * size + size)).toArray (fun c hc => hl c (List.mem_cons_of_mem _ hc)) (by
      simp only [List.size_toArray, List.length_append, List.length_take, List.length_drop, Array.length_toList]
      rw [List.length_cons] at h
      rw [Nat.min_eq_left (by omega), hc, h, show k + 1 + cs.length = k + (cs.length + 1) by omega]
      all_goals omega)
    refine Eq.trans ?_ (e'.trans ?_)
    · congr 1
    · congr 2
      rw [List.flatten_cons, ← List.append_assoc]
      congr 1
      rw [List.take_append_of_le_length (by simp; rw [Nat.min_eq_left (by omega), hc, Nat.succ_mul]; omega), List.take_of_length_le (by simp; rw [Nat.min_eq_left (by omega), hc, Nat.succ_mul]; omega)]
theorem run_lits {P : Program} {t e : TypeId} {size bytes : Nat} (T : SliceT P t e size bytes) (w : World) (cs : List (List Value)) (hcs : ∀ c ∈ cs, c.length = size) (h0 : 0 < cs.length ∧ cs.length * size ≤ 16777216) (parts : Array (Nat × Value)) (hp : parts.toList = cs.zipIdx.map fun x => (x.2, .agg x.1.toArray)) :
    (Instr.buildSlice t cs.length parts).run P w = .ok (.slice (some ⟨w.heap.size, 0, none⟩) cs.length cs.length) (w.alloc (.cells cs.flatten.toArray e)) := by
  obtain ⟨ht, ⟨i, z', hi, hz', hsize, hby, hzs⟩, hsz⟩ := T
  subst hsize
  refine run_buildSlice w t e cs.length parts cs.flatten.toArray i z' ht hi hz' (by omega) (by have := Nat.mul_pos h0.1 hsz; omega) ?_
  rw [hp, fill_all i.size cs 0 _ hcs (by simp)]
  simp
end TL
end Go

/- A region that draws its order and in which two operations that write may come in either order: walked once for each. No conditions but those each law names. -/
namespace Go
namespace TL
open Go.RowKit
inductive PT where
  | nil
  | rd (i : Nat) (r : PT)
  | wr (i : Nat) (r : PT)
  | alt (i : Nat) (r s : PT)
def PT.flat : PT → Plan
  | .nil => []
  | .rd i r => (i, false) :: r.flat
  | .wr i r => (i, true) :: r.flat
  | .alt i r _ => (i, true) :: r.flat
def PT.heads : PT → List Nat
  | .wr i _ => [i]
  | .alt i _ s => i :: s.heads
  | _ => []
def planT (P : Program) (ops : Array Oper) (fin : Act → World → Prop) (I : World → Prop) (c : Nat) : PT → List Oper × (Act → World → Prop)
  | .nil => ([], fin)
  | .rd i r => (opAt ops i :: (planT P ops fin I c r).1, (planT P ops fin I c r).2)
  | .wr i r => ([opAt ops i], fun a w => (i ≠ c → I w) ∧ wpList P ops (Seg (planT P ops fin I c r).2) (planT P ops fin I c r).1 a w)
  | .alt i r s => ([], fun a w => wpList P ops (Seg fun a w => (i ≠ c → I w) ∧ wpList P ops (Seg (planT P ops fin I c r).2) (planT P ops fin I c r).1 a w) [opAt ops i] a w ∧
      wpList P ops (Seg (planT P ops fin I c s).2) (planT P ops fin I c s).1 a w)
def detT (P : Program) (ops : Array Oper) (need : Needs) (idx : List Nat) (c : Nat) : Bool → Array Bool → PT → Bool
  | chk, listed, .nil => chk && (Region.ready .any ops listed).isEmpty
  | chk, listed, .rd i r =>
    chk && ((Region.ready .any ops listed).contains i && Region.free .any ops listed i &&
      ((stays ops need (opAt ops i) ((i, false) :: r.flat) && pureOp P (needOf need (opAt ops i)) (opAt ops i)) || (idx.contains i && staysLow ops (opAt ops i) ((i, false) :: r.flat))) &&
      (waitsC ops c i && detT P ops need idx c true (listed.setIfInBounds i true) r))
  | chk, listed, .wr i r => (!chk || Region.ready .any ops listed == [i]) && ((i != c || r.flat.isEmpty) && detT P ops need idx c true (listed.setIfInBounds i true) r)
  | chk, listed, .alt i r s => (!chk || Region.ready .any ops listed == i :: s.heads) && (((i != c || r.flat.isEmpty) && detT P ops need idx c true (listed.setIfInBounds i true) r) && ((r.flat.length + 1 == s.flat.length) && detT P ops need idx c false listed s))
section
variable {P : Program} {ops : Array Oper} {I : World → Prop} {fin : Act → World → Prop} {c : Nat}
theorem Seg.alt {Q1 Q2 : Exit → Act → World → Prop} {l1 l2 : List Oper} {a : Act} {w : World} (h : wpList P ops Q1 l1 a w) (h' : wpList P ops Q2 l2 a w) : Seg (fun a w => wpList P ops Q1 l1 a w ∧ wpList P ops Q2 l2 a w) .normal a w := ⟨h, h'⟩
theorem endsT : ∀ (t : PT) (a : Act) (w : World), wpList P ops (Seg (planT P ops fin I c t).2) (planT P ops fin I c t).1 a w →
    ∃ af wf, fin af wf ∧ ∀ p, (∀ x ∈ t.flat, (opAt ops x.1).dst ≠ some p) → af.tmps.getD p undef = a.tmps.getD p undef
  | .nil, a, w, h => ⟨a, w, h, fun _ _ => rfl⟩
  | .rd i r, a, w, h => by
    obtain ⟨a', w', h1, h2⟩ := stepS h
    obtain ⟨af, wf, h3, h4⟩ := endsT r a' w' h1
    exact ⟨af, wf, h3, fun t ht => (h4 t fun x hx => ht x (List.mem_cons_of_mem _ hx)).trans (h2 t (ht (i, false) List.mem_cons_self))⟩
  | .wr i r, a, w, h => by
    obtain ⟨a', w', h1, h2⟩ := stepS h
    obtain ⟨af, wf, h3, h4⟩ := endsT r a' w' h1.2
    exact ⟨af, wf, h3, fun t ht => (h4 t fun x hx => ht x (List.mem_cons_of_mem _ hx)).trans (h2 t (ht (i, true) List.mem_cons_self))⟩
  | .alt i r s, a, w, h => by
    obtain ⟨a', w', h1, h2⟩ := stepS h.1
    obtain ⟨af, wf, h3, h4⟩ := endsT r a' w' h1.2
    exact ⟨af, wf, h3, fun t ht => (h4 t fun x hx => ht x (List.mem_cons_of_mem _ hx)).trans (h2 t (ht (i, true) List.mem_cons_self))⟩
theorem writeT {F G K : Act → World → Prop} {i : Nat} {listed : Array Bool} {a : Act} {w : World} (hr : i ∈ Region.ready .any ops listed) (h : wpList P ops (Seg G) [opAt ops i] a w) (cont : ∀ a' w', G a' w' → K a' w') : wpOp P ops (Seg F) i K a w := by
  obtain ⟨_, oi, hoi, _⟩ := mem_ready.1 hr
  have hat : opAt ops i = oi := by simp [opAt, hoi]
  rw [hat] at h
  unfold wpOp
  rw [hoi]
  unfold wpList at h
  dsimp only
  split
  · rename_i hw
    rw [if_pos hw] at h
    rcases h with h | h
    · exact .inl (Oper.wp_seg cont h)
    · exact (Seg.letsOut h.2).elim
  · rename_i hw
    rw [if_neg hw] at h
    exact cont _ _ h
theorem flat_nil {t : PT} (h : t.flat.isEmpty = true) : t = .nil := by cases t <;> simp [PT.flat] at h ⊢
theorem mainT {need : Needs} {low : List (Nat × Value)} {Q : Exit → Act → World → Prop} (hs : Region.noSelect ops = true) (hlow : ∀ x ∈ low, Stab P I (opAt ops x.1) x.2) : ∀ t : PT,
    (∀ (listed : Array Bool) (a : Act) (w : World), detT P ops need (low.map (·.1)) c true listed t = true → I w →
      wpList P ops (Seg (planT P ops (finI ops need low Q) I c t).2) (planT P ops (finI ops need low Q) I c t).1 a w →
      wpAnyC P .any ops (Seg (finI ops need low Q)) I c t.flat.length listed a w) ∧
    (∀ (listed : Array Bool) (a : Act) (w : World) (m : Nat), t.flat.length = m + 1 → detT P ops need (low.map (·.1)) c false listed t = true → I w →
      wpList P ops (Seg (planT P ops (finI ops need low Q) I c t).2) (planT P ops (finI ops need low Q) I c t).1 a w →
      ∀ j ∈ t.heads, j ∈ Region.ready .any ops listed → wpOp P ops (Seg (finI ops need low Q)) j (fun a' w' => (j ≠ c → I w') ∧ wpAnyC P .any ops (Seg (finI ops need low Q)) I c m (listed.setIfInBounds j true) a' w') a w) := by
  intro t
  induction t with
  | nil =>
    refine ⟨fun listed a w hd _ h => ?_, fun _ _ _ _ _ _ _ _ j hj => by simp [PT.heads] at hj⟩
    have : Region.ready .any ops listed = [] := by simpa [detT] using hd
    exact ⟨this, h⟩
  | rd i r ih =>
    refine ⟨fun listed a w hd hIw h => ?_, fun _ _ _ _ _ _ _ _ j hj => by simp [PT.heads] at hj⟩
    simp only [detT, Bool.true_and, Bool.and_eq_true] at hd
    obtain ⟨⟨⟨hr, hf⟩, hk⟩, hwt, hrest⟩ := hd
    have hwait := waitsC_spec hwt
    have hr' : i ∈ Region.ready .any ops listed := by simpa using hr
    obtain ⟨_, oi, hoi, _⟩ := mem_ready.1 hr'
    have hat : opAt ops i = oi := by simp [opAt, hoi]
    have hends := endsT (.rd i r) a w h
    have h' : wpList P ops (Seg (planT P ops (finI ops need low Q) I c r).2) (oi :: (planT P ops (finI ops need low Q) I c r).1) a w := by
      rw [← hat]; exact h
    have hQ : ∀ v c a w, Seg (finI ops need low Q) (.panic c) (a.put oi.dst v) w → Seg (finI ops need low Q) (.panic c) a w := fun _ _ _ _ h => h.elim
    have hsel := fun j o cs b ho => Region.noSelect_spec hs j o cs b ho
    have key : ∀ (s : Sem Value), execOp a.eval oi = (do Pure.pure (Next.value (← s))) → (∀ v w1, s.run P w = .ok v w1 → w1 = w ∧ ∀ w', I w' → s.run P w' = .ok v w') →
        wpAnyC P .any ops (Seg (finI ops need low Q)) I c (r.flat.length + 1) listed a w := fun s hex hl => by
      cases hw : Region.wanted oi (yielded ops a.tmps) with
      | true =>
        unfold wpList at h'
        rw [if_pos hw] at h'
        rcases h' with h' | h'
        · unfold Oper.wp at h'
          rw [hex, Sem.run_bind] at h'
          cases hrun : s.run P w with
          | ok v w1 =>
            obtain ⟨rfl, hall⟩ := hl _ _ hrun
            rw [hrun] at h'
            have hy : YieldsIf P ops I oi v a := .inl ⟨hw, fun w' hw' => by rw [hex, Sem.run_bind, hall w' hw']; rfl⟩
            exact C_first hoi hsel (hQ v) hwait r.flat.length listed a w1 (Region.free_spec hoi hf) hr' hy hIw (ih.1 _ _ w1 hrest hIw h')
          | halt x w1 =>
            rw [hrun] at h'
            cases x <;> exact h'.elim
        · exact (Seg.letsOut h'.2).elim
      | false =>
        unfold wpList at h'
        rw [if_neg (by rw [hw]; decide)] at h'
        exact C_first hoi hsel (hQ undef) hwait r.flat.length listed a w (Region.free_spec hoi hf) hr' (.inr ⟨hw, rfl⟩) hIw (ih.1 _ _ w hrest hIw h')
    obtain ⟨af, wf, ⟨hneed, hlowf, _⟩, hsame⟩ := hends
    rcases (Bool.or_eq_true _ _).mp hk with hp | hp
    · obtain ⟨hst, hp⟩ := (Bool.and_eq_true _ _).mp hp
      have hne : needOk (needOf need (opAt ops i)) a = true := by
        unfold needOk at hneed ⊢
        rw [List.all_eq_true] at hneed ⊢
        intro p hpm
        have hp0 := hpm
        simp only [needOf, List.mem_filter] at hpm
        have h3 := hneed p hpm.1
        rw [hsame p.1 (fun x hx hd => by
          have h5 := List.all_eq_true.1 hst x hx
          simp only [hd] at h5
          have h6 := List.all_eq_true.1 h5 p hp0
          simp at h6)] at h3
        exact h3
      rw [hat] at hp hne
      obtain ⟨s, hex, hloc⟩ := pureOp_local hp hne
      exact key s hex fun v w1 hrun => ⟨(hloc _ _ _ hrun).1, fun w' _ => (hloc _ _ _ hrun).2 w'⟩
    · obtain ⟨hix, hst⟩ := (Bool.and_eq_true _ _).mp hp
      simp only [List.contains_iff_mem, List.mem_map] at hix
      obtain ⟨⟨i', p⟩, hxm, hxi⟩ := hix
      have hxi' : i' = i := hxi
      subst hxi'
      have hev : a.eval (lowOpnd oi) = p := by
        have e := hlowf _ hxm
        simp only [hat] at e
        rw [← e]
        refine (eval_same fun t ht => ?_).symm
        refine hsame t fun x hx hd => ?_
        have h5 := List.all_eq_true.1 hst x hx
        simp only [hd, hat] at h5
        have h6 := lowOpnd_in oi ht
        simp [h6] at h5
      have hstab := hlow _ hxm
      simp only [hat] at hstab
      unfold Stab at hstab
      cases hop : oi.op <;> simp only [hop] at hstab
      case load t x =>
        have hev' : a.eval x = p := by simpa only [lowOpnd, hop] using hev
        obtain ⟨v, hv⟩ := hstab
        refine key (Instr.loadAt t p) (by simp only [execOp, hop, hev']) fun u w1 hrun => ?_
        rw [hv w hIw] at hrun
        cases hrun
        exact ⟨rfl, hv⟩
      case convert src d x =>
        have hev' : a.eval x = p := by simpa only [lowOpnd, hop] using hev
        obtain ⟨v, hv⟩ := hstab
        refine key (Go.convert src d p) (by simp only [execOp, hop, hev']) fun u w1 hrun => ?_
        rw [hv w hIw] at hrun
        cases hrun
        exact ⟨rfl, hv⟩
  | wr i r ih =>
    have B : ∀ (listed : Array Bool) (a : Act) (w : World), ((i != c || r.flat.isEmpty) && detT P ops need (low.map (·.1)) c true (listed.setIfInBounds i true) r) = true →
        wpList P ops (Seg (planT P ops (finI ops need low Q) I c (.wr i r)).2) (planT P ops (finI ops need low Q) I c (.wr i r)).1 a w → i ∈ Region.ready .any ops listed →
        wpOp P ops (Seg (finI ops need low Q)) i (fun a' w' => (i ≠ c → I w') ∧ wpAnyC P .any ops (Seg (finI ops need low Q)) I c r.flat.length (listed.setIfInBounds i true) a' w') a w := fun listed a w hd h hr => by
      simp only [Bool.and_eq_true] at hd
      refine writeT hr h fun a' w' ⟨h2, h3⟩ => ⟨h2, ?_⟩
      by_cases e : i = c
      · have hre := hd.1
        simp only [e, bne_self_eq_false, Bool.false_or] at hre
        have hn := flat_nil hre
        subst hn
        have : Region.ready .any ops (listed.setIfInBounds i true) = [] := by simpa [detT] using hd.2
        exact ⟨this, h3⟩
      · exact ih.1 _ a' w' hd.2 (h2 e) h3
    refine ⟨fun listed a w hd hIw h => ?_, fun listed a w m hm hd hIw h j hj hr => ?_⟩
    · unfold detT at hd
      rw [Bool.not_true, Bool.false_or, Bool.and_eq_true] at hd
      have hr : Region.ready .any ops listed = [i] := by simpa using hd.1
      refine ⟨fun h0 => (by rw [hr] at h0; cases h0), fun j hj => ?_⟩
      have hj' := hj
      rw [hr] at hj'
      obtain rfl : j = i := by simpa using hj'
      exact B listed a w hd.2 h hj
    · unfold detT at hd
      rw [Bool.not_false, Bool.true_or, Bool.true_and] at hd
      obtain rfl : j = i := by simpa [PT.heads] using hj
      obtain rfl : m = r.flat.length := by simp [PT.flat] at hm; omega
      exact B listed a w hd h hr
  | alt i r s ihr ihs =>
    have B : ∀ (listed : Array Bool) (a : Act) (w : World), (((i != c || r.flat.isEmpty) && detT P ops need (low.map (·.1)) c true (listed.setIfInBounds i true) r) && ((r.flat.length + 1 == s.flat.length) && detT P ops need (low.map (·.1)) c false listed s)) = true → I w →
        wpList P ops (Seg (planT P ops (finI ops need low Q) I c (.alt i r s)).2) (planT P ops (finI ops need low Q) I c (.alt i r s)).1 a w → ∀ j ∈ i :: s.heads, j ∈ Region.ready .any ops listed →
        wpOp P ops (Seg (finI ops need low Q)) j (fun a' w' => (j ≠ c → I w') ∧ wpAnyC P .any ops (Seg (finI ops need low Q)) I c r.flat.length (listed.setIfInBounds j true) a' w') a w := fun listed a w hd hIw h j hj hr => by
      rw [Bool.and_eq_true, Bool.and_eq_true, Bool.and_eq_true] at hd
      obtain ⟨⟨hd1, hd2⟩, hd3, hd4⟩ := hd
      rcases List.mem_cons.1 hj with rfl | hj
      · refine writeT hr h.1 fun a' w' ⟨h2, h3⟩ => ⟨h2, ?_⟩
        by_cases e : j = c
        · simp only [e, bne_self_eq_false, Bool.false_or] at hd1
          have hn := flat_nil hd1
          subst hn
          have : Region.ready .any ops (listed.setIfInBounds j true) = [] := by simpa [detT] using hd2
          exact ⟨this, h3⟩
        · exact ihr.1 _ a' w' hd2 (h2 e) h3
      · exact ihs.2 listed a w r.flat.length (by have := beq_iff_eq.1 hd3; omega) hd4 hIw h.2 j hj hr
    refine ⟨fun listed a w hd hIw h => ?_, fun listed a w m hm hd hIw h j hj hr => ?_⟩
    · unfold detT at hd
      rw [Bool.not_true, Bool.false_or, Bool.and_eq_true] at hd
      have hr : Region.ready .any ops listed = i :: s.heads := by simpa using hd.1
      refine ⟨fun h0 => (by rw [hr] at h0; cases h0), fun j hj => ?_⟩
      have hj' := hj
      rw [hr] at hj'
      exact B listed a w hd.2 hIw h j hj' hj
    · unfold detT at hd
      rw [Bool.not_false, Bool.true_or, Bool.true_and] at hd
      obtain rfl : m = r.flat.length := by simp [PT.flat] at hm; omega
      exact B listed a w hd hIw h j hj hr
theorem region_fork {Q : Exit → Act → World → Prop} {id : Nat} {l : List Oper} {a : Act} {w : World} (t : PT) (need : Needs) (low : List (Nat × Value)) (I : World → Prop) (c : Nat) (hm : P.follows .mixedOrders = true)
    (hs : Region.noSelect l.toArray = true) (hn : t.flat.length = l.length) (hd : detT P l.toArray need (low.map (·.1)) c true (Array.replicate l.length false) t = true)
    (hlow : ∀ x ∈ low, Stab P I (opAt l.toArray x.1) x.2) (hI : I w.drew)
    (h : wpList P l.toArray (Seg (planT P l.toArray (finI l.toArray need low Q) I c t).2) (planT P l.toArray (finI l.toArray need low Q) I c t).1 a w.drew) : (Code.region id l.toArray true).wp P Q a w := by
  refine Code.wp_mono (Q := Seg (finI l.toArray need low Q)) (fun e a w h => ?_) ?_
  · cases e <;> first | exact h.2.2 | exact h.elim
  · refine wp_region_any hm (wpAny_of_C (I := I) (c := c) _ _ _ _ (?_ : wpAnyC P .any l.toArray (Seg (finI l.toArray need low Q)) I c l.toArray.size (Array.replicate l.toArray.size false) a w.drew))
    have := (mainT (Q := Q) (c := c) hs hlow t).1 (Array.replicate l.length false) a w.drew hd hI h
    rw [hn] at this
    exact this
end
end TL
end Go

/- Layer 12's law BatchKnown: its first table, and how it is laid in whatever order. No conditions. -/
namespace Go
namespace TL
open Go.RowKit
def webA : List UInt8 := [119, 101, 98, 47, 97]
def opsA : List UInt8 := [111, 112, 115, 47, 97]
def appS : List UInt8 := [97, 112, 112]
def longV : List UInt8 := List.replicate 33 118
def oA (x : Opr) : Value := .agg #[.int .u8 (I8 x.1), .string (mkS x.2.1), .string (mkS x.2.2)]
def sA (g n : Nat) : Value := .slice (some ⟨g, 0, none⟩) n n
def eA (v : Value) (e : Nat) : Value := .agg #[v, .int .i64 (e : Nat)]
def kL (i : Nat) : List Opr := match i with
  | 1 => [(1, appA, [49])]
  | 5 => [(1, webA, [])]
  | 8 => [(2, appA, [49])]
  | 11 => [(3, appA, [])]
  | 14 => [(1, appS, [])]
  | 20 => [(1, appA, [49]), (1, appA, [49]), (1, appA, [49]), (1, appA, [49])]
  | 27 => [(1, appA, [49]), (1, appA, [49]), (1, appA, [49]), (1, appA, [49]), (1, appA, [49])]
  | 31 => [(1, opsA, longV)]
  | 36 => [(1, opsA, (longV.take 32))]
  | 39 => [(2, opsA, [])]
  | _ => []
def kLits : List Nat := [1, 5, 8, 11, 14, 20, 27, 31, 36, 39]
def kT : Tab where
  T i := 12 + i
  lit i := [0, 1, 1, 3, 4, 5, 5, 7, 8, 8, 10, 11, 11, 13, 14, 14, 16, 17, 18, 19, 20, 20, 22, 23, 24, 25, 26, 27, 27, 29, 30, 31, 31, 33, 34, 35, 36, 36, 38, 39, 39].getD i 0
  lits := kLits
  cells i := (kL i).flatMap opV
  val i g := [oA (1, appA, [49]), sA g 1, eA (sA g 1) 0, eA (.slice none 0 0) 1, oA (1, webA, []), sA g 1, eA (sA g 1) 21, oA (2, appA, [49]), sA g 1, eA (sA g 1) 1, oA (3, appA, []), sA g 1, eA (sA g 1) 10, oA (1, appS, []), sA g 1, eA (sA g 1) 20, oA (1, appA, [49]), oA (1, appA, [49]), oA (1, appA, [49]), oA (1, appA, [49]), sA g 4, eA (sA g 4) 0, oA (1, appA, [49]), oA (1, appA, [49]), oA (1, appA, [49]), oA (1, appA, [49]), oA (1, appA, [49]), sA g 5, eA (sA g 5) 3, .string (mkS longV), oA (1, opsA, longV), sA g 1, eA (sA g 1) 3, .string (mkS longV), .string (mkS (longV.take 32)), oA (1, opsA, (longV.take 32)), sA g 1, eA (sA g 1) 0, oA (2, opsA, []), sA g 1, eA (sA g 1) 0].getD i undef
def mayT : List (List Opr × Nat) := [(kL 1, 0), ([], 1), (kL 5, 21), (kL 8, 1), (kL 11, 10), (kL 14, 20), (kL 20, 0), (kL 27, 3), (kL 31, 3), (kL 36, 0), (kL 39, 0)]
def tabK (g : Nat → Nat) : List (Value × Nat) := [(sA (g 1) 1, 0), (.slice none 0 0, 1), (sA (g 5) 1, 21), (sA (g 8) 1, 1), (sA (g 11) 1, 10), (sA (g 14) 1, 20), (sA (g 20) 4, 0), (sA (g 27) 5, 3), (sA (g 31) 1, 3), (sA (g 36) 1, 0), (sA (g 39) 1, 0)]
theorem tabK_len (g : Nat → Nat) : (tabK g).length = 11 := rfl
def mayV (x : Value × Nat) : List Value := [x.1, .int .i64 (x.2 : Nat)]
@[go_sem] theorem mayV_eq (v : Value) (e : Nat) : mayV (v, e) = [v, .int .i64 (e : Nat)] := rfl
theorem mayV_len (x : Value × Nat) : (mayV x).length = 2 := rfl
def rdV (x : List UInt8 × Nat) : List Value := [.string (mkS x.1), .int .i64 (x.2 : Nat)]
@[go_sem] theorem rdV_eq (s : List UInt8) (e : Nat) : rdV (s, e) = [.string (mkS s), .int .i64 (e : Nat)] := rfl
theorem rdV_len (x : List UInt8 × Nat) : (rdV x).length = 2 := rfl
def opsB : List UInt8 := [111, 112, 115, 47, 98]
def putO : List Opr := [(1, appA, [49])]
def twoO : List Opr := [(1, appA, [49]), (2, opsB, [])]
theorem filt_two : filtB wakeM twoO = putO := by decide +kernel
def batV (v : Value) : List Value := [.int .i64 3, .int .i64 1, v]
@[go_sem] theorem batV_eq (v : Value) : batV v = [.int .i64 3, .int .i64 1, v] := rfl
theorem batV_len (v : Value) : (batV v).length = 3 := rfl
theorem same_no : sameB 1 2 3 1 wakeO putO = false := by decide +kernel
theorem kright_1 : rightB 1 1 [] = 0 := by decide +kernel
theorem kright_2 : rightB 0 1 [] = 1 := by decide +kernel
theorem kright_3 : rightB 4611686018427387904 9223372036854775807 [] = 0 := by decide +kernel
theorem kright_4 : rightB 4611686018427387905 1 [] = 1 := by decide +kernel
def R16 (w0 : World) (a : Act) (a' : Act) (w' : World) : Prop := ∃ (gm gl gv : Nat) (q : Option Addr) (c : Nat), a' = (((((((a.put (some 106) (sA gm 2)).put (some 107) (oA (1, appA, [49]))).put (some 108) (oA (2, opsB, []))).put (some 109) (sA gl 2)).put (some 110) (.agg #[.int .i64 3, .int .i64 1, sA gl 2])).put (some 111) (.agg #[.int .i64 3, .int .i64 1, .slice q 1 c])).put (some 9) (.pointer (some ⟨gv, 0, none⟩))) ∧ Below w0.heap.size w0 w' ∧ SeesL w' 3 opV (.slice q 1 c) putO ∧ SeesL w' 3 batV (.slice (some ⟨gv, 0, none⟩) 1 1) [.slice q 1 c]
theorem cut_at {P : Program} {c : Code} {Q : Exit → Act → World → Prop} {a : Act} {w : World} (R : Act → Act → World → Prop) (h1 : c.wp P (Seg (R a)) a w) (h2 : ∀ a' w', R a a' w' → Q .normal a' w') : c.wp P Q a w :=
  Code.wp_mono (Q := Seg (R a)) (fun e a w h => by cases e <;> first | exact h2 _ _ h | exact h.elim) h1
theorem mayT_ok : ∀ x ∈ mayT, mayO wakeM x.1 = x.2 := by decide +kernel
theorem mayT_small : ∀ x ∈ mayT, x.1.length ≤ 5 ∧ ∀ y ∈ x.1, y.2.1.length ≤ 100 ∧ y.2.2.length ≤ 100 := by decide +kernel
def readT : List (List UInt8 × Nat) := [([1, 2, 1, 1, 5, 97, 112, 112, 47, 97, 1, 49], 0), ([1, 2, 1, 1, 5, 97, 112, 112, 47, 97, 1, 49, 120], 8), ([], 7), ([0, 2, 0], 1), ([1, 2, 5], 8), ([1, 2, 1, 3], 10), ([1, 2, 1, 2, 3, 97, 112, 112], 20), ([1, 2, 0], 0), ([1, 2, 1, 2, 34], 8), ([129, 0, 2, 0], 8)]
theorem readT_len : readT.length = 10 := rfl
theorem readT_ok : ∀ x ∈ readT, (readB x.1).2 = x.2 := by decide +kernel
theorem readT_small : ∀ x ∈ readT, x.1.length ≤ 20 := by decide +kernel
end TL
end Go

/- The walks of batch.Filter and of the reference's Filter. Conditions: lengths. -/
namespace Go
namespace TL
open Go.RowKit
theorem filt_take (l : List Mt) (ops : List Opr) (k : Nat) (x : Opr) (h : ops[k]? = some x) : filtB l (ops.take (k + 1)) = if shipL l x.2.1 = true then filtB l (ops.take k) ++ [x] else filtB l (ops.take k) := by
  obtain ⟨hk, rfl⟩ := List.getElem?_eq_some_iff.1 h
  rw [List.take_succ_eq_append_getElem hk]
  unfold filtB
  rw [List.filter_append, List.filter_cons, List.filter_nil]
  split <;> simp
theorem filt_len (l : List Mt) (ops : List Opr) : (filtB l ops).length ≤ ops.length := List.length_filter_le _ _
end TL
end Go
namespace Go.Proofs.Ytepjillcmpmlkaa
open Go.RowKit Go.TL
set_option maxRecDepth 100000 in
set_option maxHeartbeats 8000000 in
theorem bFilter_c (l : List Mt) (i e : Int) (ops : List Opr) (u v : Value) (w : World) (U : SeesL w 2 mtV u l) (S : SeesL w 3 opV v ops) (hml : l.length ≤ 1000000) (hl : ops.length ≤ 1000000) (hm : ∀ x ∈ ops, x.2.1.length ≤ 100000000) :
    Calls Try.prog 23 #[u, .agg #[.int .i64 i, .int .i64 e, v]] w (Gives 3 opV (filtB l ops) (fun z => .agg #[.int .i64 i, .int .i64 e, z]) w) := by
  obtain ⟨p, cap, rfl, hc⟩ := S.form
  have M := (Mem.start [] w).nil 3
  go_enter Try.func23, Try.ntmps23
  go_wp2_with ((first | ((with_reducible refine tBox (some 3) ?_); refine w_box M _ _ rfl rfl _ rfl ([.int .i64 i, .int .i64 e, .slice p ops.length cap]) rfl ?_; clear M; intro gb w1 M) | ((with_reducible refine tAlloc (some 4) 31 ?_); refine w_alloc M _ rfl rfl (.agg #[.int .i64 0, .int .i64 0, .slice none 0 0]) ([.int .i64 0, .int .i64 0, .slice none 0 0]) (by kernel_rfl) rfl ?_; clear M; intro gr w1 M) | ((with_reducible refine tAlloc (some 5) 31 ?_); refine w_alloc M _ rfl rfl (.agg #[.int .i64 0, .int .i64 0, .slice none 0 0]) ([.int .i64 0, .int .i64 0, .slice none 0 0]) (by kernel_rfl) rfl ?_; clear M; intro go w1 M) | ((with_reducible refine tM rfl ?_); refine mS ?_; try (clear M; (first | intro g w1 M | intro w1 M); try simp only [setC] at M))) <;> (try conv => arg 5; simp only [apS, setC]))
  go_loopw [16] (fun iv wr => ∃ (k : Nat) (q : Option Addr) (c : Nat), k ≤ ops.length ∧ iv = .int .i64 k ∧ Mem [] w wr [.row go [.int .i64 i, .int .i64 e, .slice q (filtB l (ops.take k)).length c], .row gr [.int .i64 0, .int .i64 0, .slice none 0 0], .row gb [.int .i64 i, .int .i64 e, .slice p ops.length cap], .sl 3 (.slice q (filtB l (ops.take k)).length c) (filtB l (ops.take k)).length ((filtB l (ops.take k)).flatMap opV)]) (fun iv _ => ops.length - (intOf iv).toNat)
  case atStart => exact ⟨0, none, 0, by omega, rfl, M⟩
  case round =>
    clear M
    obtain ⟨k, q, c, hk, rfl, M⟩ := hrel
    by_cases hlt : k < ops.length
    · obtain ⟨g, so, rfl⟩ := S.addr (by omega)
      obtain ⟨⟨ki, a, b⟩, hx⟩ : ∃ x, ops[k]? = some x := ⟨_, List.getElem?_eq_getElem hlt⟩
      have ha := hm (ki, a, b) (List.mem_of_getElem? hx)
      simp only at ha
      have ht := filt_take l ops k (ki, a, b) hx
      have hpl := filt_len l (ops.take k)
      have hpl2 : (ops.take k).length ≤ k := List.length_take_le _ _
      obtain ⟨d, ed⟩ : ∃ d, d = filtB l (ops.take k) := ⟨_, rfl⟩
      rw [← ed] at M ht hpl
      
      have HX := Lib.hid hx
      have HT := Lib.hid ht
      clear hx ht ed
      have O := fun w S => Ships_c l a u w S hml (by omega)
      obtain ⟨n, en⟩ : ∃ n, n = shipL l a := ⟨_, rfl⟩
      simp only at HT
      rw [← en] at O HT
      replace O := Lib.hid O
      clear en
      cases n with
      | true =>
        go_wp2_with ((first | ((with_reducible refine tLoad ?_); refine w_at _ _ rfl (by exact ev_tmp rfl) ?_; intro hx; first | (refine w_seeA M S HX.out _ _ rfl hx rfl (by decide +kernel) (by first | (with_reducible rfl) | omega) (by kernel_rfl) ?_; clear hx; (try conv => arg 5; simp only [Act.put, List.setIfInBounds_toArray, setC, opV_eq])) | (refine w_see M S HX.out _ _ rfl hx rfl (by decide +kernel) 0 (by first | (with_reducible rfl) | omega) rfl ?_; clear hx) | (refine w_see M S HX.out _ _ rfl hx rfl (by decide +kernel) 1 (by first | (with_reducible rfl) | omega) rfl ?_; clear hx) | (refine w_see M S HX.out _ _ rfl hx rfl (by decide +kernel) 2 (by first | (with_reducible rfl) | omega) rfl ?_; clear hx)) | ((with_reducible refine tAlloc (some 7) 44 ?_); refine w_alloc M _ rfl rfl (.agg #[.int .u8 0, .string (mkS []), .string (mkS [])]) (opV (0, [], [])) (by kernel_rfl) rfl ?_; clear M; intro gx w1 M) | (go_at_call 25; go_must (refine (O.out _ (U.now M)).mono ?_; rintro e w1 ⟨rfl, hb⟩; replace M := M.call hb; clear hb)) | ((with_reducible show wpList _ _ _ (Oper.mk _ (Op.buildSlice _ 1 _) _ _ _ _ :: _) _ _); go_must (refine w_buildSlice1 M opT (by decide) _ rfl rfl (by first | exact ev_tmp rfl | exact ev_const) _ rfl rfl ?_; clear M; intro g w1 M)) | ((with_reducible refine tApp ?_); go_must (refine w_append_new M 4 opT _ _ rfl rfl rfl rfl rfl rfl (by first | decide | (intro q hq; simp at hq; subst hq; rfl) | (intro q hq; simp at hq; rcases hq with rfl | rfl; rfl; rfl) | (intro q hq; simp at hq; rcases hq with rfl | rfl | rfl <;> rfl)) (by decide) (by first | (simp only [maxLen]; omega) | (simp [maxLen]; omega)) (by first | omega | (simp; omega)) ?_; clear M; intro q cap w1 M; (try simp only [setC] at M))) | ((with_reducible refine tM rfl ?_); refine mS ?_; try (clear M; (first | intro g w1 M | intro w1 M); try simp only [setC] at M))) <;> (try conv => arg 5; simp only [apS, setC]))
        have e := HT.out
        simp only [if_true] at e
        go_roundw
        case rel => exact ⟨k + 1, q, _, by omega, by go_num, by
          rw [e]
          simpa [opV] using M.tail⟩
        case measure => simp [intOf]; omega
      | false =>
        go_wp2_with ((first | ((with_reducible refine tLoad ?_); refine w_at _ _ rfl (by exact ev_tmp rfl) ?_; intro hx; first | (refine w_seeA M S HX.out _ _ rfl hx rfl (by decide +kernel) (by first | (with_reducible rfl) | omega) (by kernel_rfl) ?_; clear hx; (try conv => arg 5; simp only [Act.put, List.setIfInBounds_toArray, setC, opV_eq])) | (refine w_see M S HX.out _ _ rfl hx rfl (by decide +kernel) 0 (by first | (with_reducible rfl) | omega) rfl ?_; clear hx) | (refine w_see M S HX.out _ _ rfl hx rfl (by decide +kernel) 1 (by first | (with_reducible rfl) | omega) rfl ?_; clear hx) | (refine w_see M S HX.out _ _ rfl hx rfl (by decide +kernel) 2 (by first | (with_reducible rfl) | omega) rfl ?_; clear hx)) | ((with_reducible refine tAlloc (some 7) 44 ?_); refine w_alloc M _ rfl rfl (.agg #[.int .u8 0, .string (mkS []), .string (mkS [])]) (opV (0, [], [])) (by kernel_rfl) rfl ?_; clear M; intro gx w1 M) | (go_at_call 25; go_must (refine (O.out _ (U.now M)).mono ?_; rintro e w1 ⟨rfl, hb⟩; replace M := M.call hb; clear hb)) | ((with_reducible refine tM rfl ?_); refine mS ?_; try (clear M; (first | intro g w1 M | intro w1 M); try simp only [setC] at M))) <;> (try conv => arg 5; simp only [apS, setC]))
        have e := HT.out
        simp only [Bool.false_eq_true, if_false] at e
        go_roundw
        case rel => exact ⟨k + 1, q, _, by omega, by go_num, by rw [e]; exact M.tail⟩
        case measure => simp [intOf]; omega
    · obtain rfl : k = ops.length := by omega
      rw [List.take_length] at M
      go_wp2_with ((first | ((with_reducible refine tM rfl ?_); refine mS ?_; try (clear M; (first | intro g w1 M | intro w1 M); try simp only [setC] at M))) <;> (try conv => arg 5; simp only [apS, setC]))
      refine bodyPost_ret (results_row rfl _ _ gr 0 [.int .i64 i, .int .i64 e, .slice q (filtB l ops).length c] _ rfl (M.ok 1 _ rfl).2.1 Try.underlying31 rfl (by kernel_rfl)) rfl (Gives.at (r := fun z => .agg #[.int .i64 i, .int .i64 e, z]) M 3 rfl)
end Go.Proofs.Ytepjillcmpmlkaa
