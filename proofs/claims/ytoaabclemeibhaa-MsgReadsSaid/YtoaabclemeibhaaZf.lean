/- Texts of this seat, put together: MsgG1, Frame, FrameS, FrameB, FrameM. Each begins with a remark that says what is proved in it, and under which conditions. -/
import Derived.ProofKit
import Derived.OpenShut
import Derived.ShutString
import Derived.ChangeOld
import Derived.Below
import Derived.Deep.Slices
import Derived.ChangeArms
import Derived.Test.YtoaabclemeibhaaZa
import Derived.Test.YtoaabclemeibhaaZb
import Derived.Test.YtoaabclemeibhaaZe
/- Plain: a message that is not great is within its bounds. No program in this text. -/
namespace Go
namespace TL
theorem sumP_mem : ∀ {l : List (List UInt8 × List UInt8)}, sumP l ≤ 30000 → ∀ x ∈ l, x.1.length ≤ 30000 ∧ x.2.length ≤ 30000
  | [], _, x, h => by cases h
  | y :: l, h, x, hx => by
    rw [sumP] at h
    rcases List.mem_cons.1 hx with rfl | hx
    · omega
    · exact sumP_mem (by omega) x hx
theorem sumO_mem : ∀ {l : List Opr}, sumO l ≤ 30000 → ∀ x ∈ l, x.2.1.length ≤ 30000 ∧ x.2.2.length ≤ 30000
  | [], _, x, h => by cases h
  | y :: l, h, x, hx => by
    rw [sumO] at h
    rcases List.mem_cons.1 hx with rfl | hx
    · omega
    · exact sumO_mem (by omega) x hx
theorem prsB_sum : ∀ {l : List (List UInt8 × List UInt8)}, sumP l ≤ 30000 → (l.flatMap prB).length ≤ l.length * 20 + sumP l
  | [], _ => by simp
  | x :: l, h => by
    rw [sumP] at h
    have h1 := prsB_sum (l := l) (by omega)
    have h2 := numL_length_le x.1.length (by omega)
    have h3 := numL_length_le x.2.length (by omega)
    simp only [List.flatMap_cons, List.length_append, List.length_cons, prB, textL, sumP]; omega
theorem great_rng {L : Lm} (hn : ∀ q : Mf, -9223372036854775808 ≤ q.gl L ∧ q.gl L ≤ 9223372036854775807) (hb : L.be ≤ 9223372036854775807) (h : greatL L = false) : L.rng := by
  unfold greatL at h
  simp only [Bool.or_eq_false_iff, decide_eq_false_iff_not] at h
  obtain ⟨h1, h2, h3⟩ := h
  rw [List.take_of_length_le (by omega), List.take_of_length_le (by omega)] at h3
  have hp : sumP L.prs ≤ 30000 := by omega
  have ho : sumO L.ops ≤ 30000 := by omega
  have := prsB_sum hp
  exact ⟨hn, hb, by omega, fun x hx => by have := sumO_mem ho x hx; omega, by omega, fun x hx => by have := sumP_mem hp x hx; omega, by omega⟩
theorem bytesL_len {L : Lm} (hr : L.rng) (hL : L.fit) : (bytesL L).length ≤ 700000 := by
  have h1 := puts_len hr hL (fdsL L.k)
  have h2 := fds_len L.k
  unfold bytesL
  rw [List.length_cons]
  have h3 : (fdsL L.k).length * 100100 ≤ 600600 := by omega
  omega
theorem bytesM_cases {L : Lm} (hL : L.fit) (hr : L.rng) : (∃ e, e ≠ 0 ∧ bytesM L = ([], e)) ∨ (isK L.k = true ∧ okL L = true ∧ onlyL L = L ∧ bytesM L = (bytesL L, 0)) := by
  rw [bytesM_eq hL hr]
  by_cases hk : isK L.k = true
  · rw [if_pos hk]
    by_cases ho : okL L = true ∧ onlyL L = L
    · rw [if_pos ho]; exact .inr ⟨hk, ho.1, ho.2, rfl⟩
    · rw [if_neg ho]; exact .inl ⟨1, by decide, rfl⟩
  · rw [if_neg hk]; exact .inl ⟨10, by decide, rfl⟩
end TL
end Go

/- What the statements' frames lean on: an array of bytes that came in; a byte that came in. No conditions but those each lemma names. -/
namespace Go
namespace TL
open Go.RowKit
theorem wf_u8 {a : Int} (h : (Lit.int .u8 a).wf = true) : ∃ x : UInt8, a = I8 x := by
  have hb : IntKind.u8.min ≤ a ∧ a ≤ IntKind.u8.max := by simpa [Lit.wf] using h
  have h0 : IntKind.u8.min = 0 := by decide
  have h1 : IntKind.u8.max = 255 := by decide
  rw [h0, h1] at hb
  refine ⟨UInt8.ofNat a.toNat, ?_⟩
  rw [I8_eq, UInt8.toNat_ofNat']
  omega
theorem eq_of_cells {n : Nat} (cs : List Value) (h : ∀ i, i < n → ∃ x : UInt8, (cs.drop i).take 1 = [vb x]) (hl : cs.length = n) : ∃ l : List UInt8, l.length = n ∧ cs = l.map vb := by
  induction n generalizing cs with
  | zero => exact ⟨[], rfl, by simpa using hl⟩
  | succ n ih =>
    cases cs with
    | nil => simp at hl
    | cons c cs =>
      obtain ⟨x, hx⟩ := h 0 (by omega)
      simp only [List.drop_zero, List.take_succ_cons, List.take_zero, List.cons.injEq, and_true] at hx
      obtain ⟨l, h1, h2⟩ := ih cs (fun i hi => by simpa using h (i + 1) (by omega)) (by simpa using hl)
      exact ⟨x :: l, by simp [h1], by rw [hx, h2]; rfl⟩
theorem open_arr {P : Program} {w : World} {H : Type} {enc : TypeId × Value → H} {base : Nat} {spare : Bool} {held : _} {r : Reach} {b0 : Nat} {t e : TypeId} {n : Nat} {v : Value} {d : DataW H} {p : List MemPlace} (hu : P.underlying t = some (.array n e)) (he : P.underlying e = some (.int .u8)) (hc : P.cellsOf e = 1) (hct : P.cellsOf t = n)
    (hv : Value.okWide P w r b0 t v) (h : DataW.Trod enc P w base held spare t v d p) : ∃ l : List UInt8, l.length = n ∧ v = .agg (l.map vb).toArray := by
  simp only [Value.okWide, hu] at hv
  obtain ⟨cs, rfl, hsz, _⟩ := hv
  obtain ⟨fuel, hf⟩ := h
  obtain ⟨xs, m, _, _, _, hxl, hi⟩ := DataW.trod_array hu hf
  obtain ⟨l, h1, h2⟩ := eq_of_cells (n := n) cs.toList (fun i hin => by
    have h3 := hi i hin
    rw [hc, Nat.mul_one, List.getElem?_eq_getElem (by omega)] at h3
    obtain ⟨k, h4, _, h5⟩ := DataW.trod_int he h3
    obtain ⟨x, rfl⟩ := wf_u8 h5
    exact ⟨x, h4⟩) (by rw [Array.length_toList, hsz, hct])
  exact ⟨l, h1, by rw [← h2]⟩
end TL
end Go

/- What the statements' frames lean on where a slice of structs comes in: it is seen, element by element. No conditions but those each lemma names. -/
namespace Go
namespace TL
open Go.RowKit Go.ChangeShapes Go.WideShapes Go.Deep
theorem listOf {α : Type} {p : Nat → α → Prop} : ∀ n : Nat, (∀ i, i < n → ∃ x, p i x) → ∃ l : List α, l.length = n ∧ ∀ (i : Nat) (x : α), l[i]? = some x → p i x
  | 0, _ => ⟨[], rfl, fun i x h => by simp at h⟩
  | n + 1, h => by
    obtain ⟨l, h1, h2⟩ := listOf n fun i hi => h i (by omega)
    obtain ⟨x, hx⟩ := h n (by omega)
    refine ⟨l ++ [x], by simp [h1], fun i y hy => ?_⟩
    by_cases hi : i < n
    · rw [List.getElem?_append_left (by omega)] at hy; exact h2 i y hy
    · have hi' : i = n := by
        have := (List.getElem?_eq_some_iff.1 hy).1
        simp at this; omega
      subst hi'
      rw [List.getElem?_append_right (by omega), h1] at hy
      simp at hy; subst hy; exact hx
theorem lt_of_shape {w : World} {g : Nat} {x : TypeId × Nat} (h : w.shape? g = some x) : g < w.heap.size := by
  unfold World.shape? at h
  cases e : w.heap[g]? with
  | none => rw [e] at h; simp at h
  | some o => exact (Array.getElem?_eq_some_iff.1 e).1
section
variable {H : Type} {enc : TypeId × Value → H} {P : Program} {w : World} {base : Nat} {spare : Nat → Bool} {held : Bool}
theorem slice_shape {r : Reach} {b0 : Nat} {t e : TypeId} {v : Value} (ht : P.underlying t = some (.slice e)) (hv : Value.okWide P w r b0 t v) : v = .slice none 0 0 ∨ ∃ a len cap, v = .slice (some a) len cap ∧ a.spot = none ∧ a.block < w.heap.size := by
  unfold Value.okWide at hv
  rw [ht] at hv
  have hv : Cell.ok P w r b0 t v := by
    unfold Cell.okWide at hv
    rw [ht] at hv
    exact hv
  unfold Cell.ok at hv
  rw [ht] at hv
  split at hv <;> simp_all
  obtain ⟨_, _, h⟩ := hv
  unfold World.has at h
  obtain ⟨_, hs, row, cells, hsh, _⟩ := h
  exact ⟨hs, lt_of_shape hsh⟩
theorem open_sl {α : Type} {f : α → List Value} {size : Nat} {good : α → Prop} {r : Reach} {b0 : Nat} {t e : TypeId} {v : Value} {d : DataW H} {p : List MemPlace} (ht : P.underlying t = some (.slice e)) (hc : P.cellsOf e = size) (hpos : 0 < size) (hf : ∀ x, (f x).length = size)
    (hdec : ∀ n cs y, cs.length = size → DataW.trod enc P w base spare held n e cs = some y → ∃ x, cs = f x ∧ good x) (hv : Value.okWide P w r b0 t v) (h : DataW.Trod enc P w base spare held t v d p) : ∃ l : List α, SeesL w size f v l ∧ ∀ x ∈ l, good x := by
  obtain ⟨fuel, hh⟩ := h
  rcases slice_shape ht hv with rfl | ⟨⟨g, o, s⟩, len, cap, rfl, hs, hlt⟩
  · exact ⟨[], seesL_nil size f hf w, by simp⟩
  · simp only at hs hlt; subst hs
    rcases open_slice ht hh with ⟨h0, _⟩ | ⟨a, len', cap', m, n, D, Pl, hcs, hb, hl, hm, hmm, hx, hi⟩
    · simp [Value.cells] at h0
    · simp only [Value.cells, List.cons.injEq, and_true, Value.slice.injEq, Option.some.injEq] at hcs
      obtain ⟨rfl, rfl, rfl⟩ := hcs
      have hlm : len ≤ m := by rw [hmm]; split <;> omega
      obtain ⟨l, h1, h2⟩ := listOf (p := fun i x => good x ∧ ∀ j, j < size → w.cell? ⟨g, o + (i * size + j), none⟩ = (f x)[j]?) len fun i hil => by
        obtain ⟨cs, hcells, htrod⟩ := hi i (by omega)
        rw [hc] at hcells
        obtain ⟨_, hlen, hat⟩ := World.cells?_some hcells
        obtain ⟨x, rfl, hg⟩ := hdec n cs _ hlen htrod
        refine ⟨x, hg, fun j hj => ?_⟩
        rw [← hat j hj]
        congr 1
        unfold Addr.add
        by_cases hi0 : i * size = 0 <;> by_cases hj0 : j = 0 <;> simp [hi0, hj0]
        omega
      refine ⟨l, ⟨⟨by rw [flat_len hf], .inr ⟨g, o, cap, by rw [h1], hlt, by omega, hm, ?_⟩⟩, hf⟩, fun x hx => ?_⟩
      · intro j v hv
        have hjl : j < l.length * size := by have := (List.getElem?_eq_some_iff.1 hv).1; rwa [flat_len hf] at this
        have hk : j / size < l.length := Nat.div_lt_of_lt_mul (by rw [Nat.mul_comm]; exact hjl)
        obtain ⟨x, hx⟩ : ∃ x, l[j / size]? = some x := ⟨_, List.getElem?_eq_getElem hk⟩
        have hmod : j % size < size := Nat.mod_lt _ hpos
        have e : j / size * size + j % size = j := by rw [Nat.mul_comm]; exact Nat.div_add_mod j size
        have := (h2 _ x hx).2 (j % size) hmod
        rw [e] at this
        rw [this, ← flat_get hf l (j / size) x hx (j % size) hmod, e]
        exact hv
      · obtain ⟨k, hk⟩ := List.getElem?_of_mem hx
        exact (h2 k x hk).1
theorem dec_pr {e : TypeId} {f0 f1 : Field} (he : P.underlying e = some (.struct #[f0, f1])) (h0 : P.underlying f0.type = some .string) (h1 : P.underlying f1.type = some .string) (o0 : f0.offset = 0) (o1 : f1.offset = 1) (c0 : P.cellsOf f0.type = 1) (c1 : P.cellsOf f1.type = 1) :
    ∀ n cs y, cs.length = 2 → DataW.trod enc P w base spare held n e cs = some y → ∃ x : List UInt8 × List UInt8, cs = prV x ∧ (x.1.length ≤ maxLen ∧ x.2.length ≤ maxLen) := by
  intro n cs y hl h
  obtain ⟨xs, m, _, _, _, hxl, hg⟩ := DataW.trod_struct he h
  match cs, hl with
  | [a, b], _ =>
    match xs, hxl with
    | [x0, x1], _ =>
      have g0 := hg 0 f0 rfl
      have g1 := hg 1 f1 rfl
      rw [o0, c0] at g0
      rw [o1, c1] at g1
      obtain ⟨s, hs, _, hsl⟩ := DataW.trod_string h0 g0
      obtain ⟨u, hu, _, hul⟩ := DataW.trod_string h1 g1
      simp at hs hu
      obtain ⟨ls, rfl⟩ := mkS_of s
      obtain ⟨lu, rfl⟩ := mkS_of u
      rw [mkS_size] at hsl hul
      exact ⟨(ls, lu), by rw [hs, hu]; rfl, hsl, hul⟩
end
end TL
end Go

/- What the frames of layer 12's statements lean on: slices of mounts and of operations. No conditions but those each lemma names. -/
namespace Go
namespace TL
open Go.RowKit Go.ChangeShapes Go.WideShapes Go.Deep
section
variable {H : Type} {enc : TypeId × Value → H} {P : Program} {w : World} {base : Nat} {spare : Nat → Bool} {held : Bool}
theorem dec_mt {e : TypeId} {f0 f1 : Field} (he : P.underlying e = some (.struct #[f0, f1])) (h0 : P.underlying f0.type = some .string) (h1 : P.underlying f1.type = some .bool) (o0 : f0.offset = 0) (o1 : f1.offset = 1) (c0 : P.cellsOf f0.type = 1) (c1 : P.cellsOf f1.type = 1) :
    ∀ n cs y, cs.length = 2 → DataW.trod enc P w base spare held n e cs = some y → ∃ x : Mt, cs = mtV x ∧ x.1.length ≤ maxLen := by
  intro n cs y hl h
  obtain ⟨xs, m, _, _, _, hxl, hg⟩ := DataW.trod_struct he h
  match cs, hl with
  | [a, b], _ =>
    match xs, hxl with
    | [x0, x1], _ =>
      have g0 := hg 0 f0 rfl
      have g1 := hg 1 f1 rfl
      rw [o0, c0] at g0
      rw [o1, c1] at g1
      obtain ⟨s, hs, _, hsl⟩ := DataW.trod_string h0 g0
      obtain ⟨u, hu, _⟩ := DataW.trod_bool h1 g1
      simp at hs hu
      obtain ⟨ls, rfl⟩ := mkS_of s
      rw [mkS_size] at hsl
      exact ⟨(ls, u), by rw [hs, hu]; rfl, hsl⟩
theorem dec_op {e : TypeId} {f0 f1 f2 : Field} (he : P.underlying e = some (.struct #[f0, f1, f2])) (h0 : P.underlying f0.type = some (.int .u8)) (h1 : P.underlying f1.type = some .string) (h2 : P.underlying f2.type = some .string) (o0 : f0.offset = 0) (o1 : f1.offset = 1) (o2 : f2.offset = 2) (c0 : P.cellsOf f0.type = 1) (c1 : P.cellsOf f1.type = 1) (c2 : P.cellsOf f2.type = 1) :
    ∀ n cs y, cs.length = 3 → DataW.trod enc P w base spare held n e cs = some y → ∃ x : Opr, cs = opV x ∧ (x.2.1.length ≤ maxLen ∧ x.2.2.length ≤ maxLen) := by
  intro n cs y hl h
  obtain ⟨xs, m, _, _, _, hxl, hg⟩ := DataW.trod_struct he h
  match cs, hl with
  | [a, b, c], _ =>
    match xs, hxl with
    | [x0, x1, x2], _ =>
      have g0 := hg 0 f0 rfl
      have g1 := hg 1 f1 rfl
      have g2 := hg 2 f2 rfl
      rw [o0, c0] at g0
      rw [o1, c1] at g1
      rw [o2, c2] at g2
      obtain ⟨k, hk, _, hw⟩ := DataW.trod_int h0 g0
      obtain ⟨s, hs, _, hsl⟩ := DataW.trod_string h1 g1
      obtain ⟨u, hu, _, hul⟩ := DataW.trod_string h2 g2
      simp at hk hs hu
      obtain ⟨q, rfl⟩ := wf_u8 hw
      obtain ⟨ls, rfl⟩ := mkS_of s
      obtain ⟨lu, rfl⟩ := mkS_of u
      rw [mkS_size] at hsl hul
      exact ⟨(q, ls, lu), by rw [hk, hs, hu]; rfl, hsl, hul⟩
theorem wf_i64 {a : Int} (h : (Lit.int .i64 a).wf = true) : -9223372036854775808 ≤ a ∧ a ≤ 9223372036854775807 := by
  have hb : IntKind.i64.min ≤ a ∧ a ≤ IntKind.i64.max := by simpa [Lit.wf] using h
  have h0 : IntKind.i64.min = -9223372036854775808 := by decide
  have h1 : IntKind.i64.max = 9223372036854775807 := by decide
  rw [h0, h1] at hb
  exact hb
theorem open_bt {r : Reach} {b0 : Nat} {t e : TypeId} {v : Value} {d : DataW H} {p : List MemPlace} {f0 f1 f2 : Field} (ht : P.underlying t = some (.struct #[f0, f1, f2])) (h0 : P.underlying f0.type = some (.int .i64)) (h1 : P.underlying f1.type = some (.int .i64)) (h2 : P.underlying f2.type = some (.slice e))
    (o0 : f0.offset = 0) (o1 : f1.offset = 1) (o2 : f2.offset = 2) (c0 : P.cellsOf f0.type = 1) (c1 : P.cellsOf f1.type = 1) (c2 : P.cellsOf f2.type = 1) (hct : P.cellsOf t = 3) (hts : P.cellTypes P.depth t = some [f0.type, f1.type, f2.type]) (hce : P.cellsOf e = 3)
    (hdec : ∀ n cs y, cs.length = 3 → DataW.trod enc P w base spare held n e cs = some y → ∃ x : Opr, cs = opV x ∧ (x.2.1.length ≤ maxLen ∧ x.2.2.length ≤ maxLen))
    (hv : Value.okWide P w r b0 t v) (h : DataW.Trod enc P w base spare held t v d p) :
    ∃ (i j : Int) (l : List Opr) (z : Value), v = .agg #[.int .i64 i, .int .i64 j, z] ∧ (-9223372036854775808 ≤ i ∧ i ≤ 9223372036854775807) ∧ (-9223372036854775808 ≤ j ∧ j ≤ 9223372036854775807) ∧ SeesL w 3 opV z l ∧ ∀ x ∈ l, x.2.1.length ≤ maxLen ∧ x.2.2.length ≤ maxLen := by
  simp only [Value.okWide, ht] at hv
  obtain ⟨cs, rfl, hsz, ts, hts', _, hc⟩ := hv
  rw [hts] at hts'
  cases hts'
  obtain ⟨fuel, hf⟩ := h
  obtain ⟨xs, m, _, _, _, hxl, hg⟩ := DataW.trod_struct ht hf
  rw [hct] at hsz
  obtain ⟨cl⟩ := cs
  match cl, hsz with
  | [a, b, c], _ =>
    match xs, hxl with
    | [x0, x1, x2], _ =>
      have g0 := hg 0 f0 rfl
      have g1 := hg 1 f1 rfl
      have g2 := hg 2 f2 rfl
      rw [o0, c0] at g0
      rw [o1, c1] at g1
      rw [o2, c2] at g2
      obtain ⟨i, hi, _, wi⟩ := DataW.trod_int h0 g0
      obtain ⟨j, hj, _, wj⟩ := DataW.trod_int h1 g1
      have g2 : DataW.trod enc P w base spare held m f2.type [c] = some x2 := g2
      have ha : a = .int .i64 i := by simpa [Value.cells] using hi
      have hb : b = .int .i64 j := by simpa [Value.cells] using hj
      subst ha; subst hb
      obtain ⟨u, hu, hcell⟩ := hc 2 c rfl
      have hu' : f2.type = u := by simpa using hu
      subst hu'
      have hval : Value.okWide P w r b0 f2.type c := by unfold Value.okWide; rw [h2]; exact hcell
      have htr : DataW.Trod enc P w base spare held f2.type c x2.1 x2.2 := by
        rcases slice_shape h2 hval with rfl | ⟨_, _, _, rfl, _⟩ <;> exact ⟨m, g2⟩
      obtain ⟨l, S, hl⟩ := open_sl (f := opV) h2 hce (by decide) opV_len hdec hval htr
      exact ⟨i, j, l, c, rfl, wf_i64 wi, wf_i64 wj, S, hl⟩
end
end TL
end Go

/- Frames of statements about messages. No conditions but those each lemma names. -/
namespace Go
namespace TL
theorem part_at {cl : List Value} {j : Nat} {c : Value} (h : cl[j]? = some c) : (cl.drop j).take 1 = [c] := by
  obtain ⟨hj, rfl⟩ := List.getElem?_eq_some_iff.1 h
  rw [List.drop_eq_getElem_cons hj]; rfl
theorem part_split (cl : List Value) (a n b : Nat) (h : a + n = b) : cl.drop a = (cl.drop a).take n ++ cl.drop b := by
  rw [← h, ← List.drop_drop, List.take_append_drop]
end TL
end Go
namespace Go.Proofs.Ytoaabclemeibhaa
open Go.RowKit Go.TL Go.ChangeShapes Go.WideShapes Go.Deep
section
variable {H : Type} {enc : TypeId × Value → H} {w : World} {base : Nat} {spare : Nat → Bool} {held : Bool}
theorem open_hash {m : Nat} {cs : List Value} {x : DataW H × List MemPlace} (h : DataW.trod enc Try.prog w base spare held m 27 cs = some x) (hl : cs.length = 32) : ∃ l : List UInt8, l.length = 32 ∧ cs = bs l := by
  obtain ⟨ys, m', _, _, _, hyl, hy⟩ := DataW.trod_array Try.underlying27 h
  refine eq_of_cells (n := 32) cs (fun i hin => ?_) hl
  have ce : Try.prog.cellsOf 5 = 1 := by kernel_rfl
  have h5 := hy i hin
  rw [ce, Nat.mul_one, List.getElem?_eq_getElem (by omega)] at h5
  obtain ⟨k, h6, _, h7⟩ := DataW.trod_int Try.underlying5 h5
  obtain ⟨x, rfl⟩ := wf_u8 h7
  exact ⟨x, h6⟩
set_option maxRecDepth 100000 in
set_option maxHeartbeats 2000000 in
theorem open_ms {r : Reach} {b0 : Nat} {v : Value} {d : DataW H} {p : List MemPlace} (hv : Value.okWide Try.prog w r b0 30 v) (h : DataW.Trod enc Try.prog w base spare held 30 v d p) :
    ∃ (L : Lm) (ov pv : Value), v = .agg (msgC (L.ms ov pv)).toArray ∧ L.fit ∧ (∀ q : Mf, -9223372036854775808 ≤ q.gl L ∧ q.gl L ≤ 9223372036854775807) ∧ L.be ≤ 9223372036854775807 ∧ SeesL w 3 opV ov L.ops ∧ SeesL w 2 prV pv L.prs ∧ (∀ x ∈ L.ops, x.2.1.length ≤ maxLen ∧ x.2.2.length ≤ maxLen) ∧ (∀ x ∈ L.prs, x.1.length ≤ maxLen ∧ x.2.length ≤ maxLen) := by
  have t6 : (Try.prog.cellTypes Try.prog.depth 30).bind (·[6]?) = some 23 := by kernel_rfl
  have t106 : (Try.prog.cellTypes Try.prog.depth 30).bind (·[106]?) = some 28 := by kernel_rfl
  have tL : (Try.prog.cellTypes Try.prog.depth 30).map (·.length) = some 107 := by kernel_rfl
  have hct : Try.prog.cellsOf 30 = 107 := by kernel_rfl
  simp only [Value.okWide, Try.underlying30] at hv
  obtain ⟨cs, rfl, hsz, ts, hts', _, hc⟩ := hv
  rw [hts'] at t6 t106 tL
  simp only [Option.bind_some, Option.map_some, Option.some.injEq] at t6 t106 tL
  obtain ⟨fuel, hf⟩ := h
  obtain ⟨xs, m, _, _, _, hxl, hg⟩ := DataW.trod_struct Try.underlying30 hf
  rw [hct] at hsz
  obtain ⟨cl⟩ := cs
  have hlen : cl.length = 107 := by simpa using hsz
  have hxl' : xs.length = 12 := hxl
  obtain ⟨x0, x1, x2, x3, x4, x5, x6, x7, x8, x9, x10, x11, rfl⟩ : ∃ a b c d e f g h i j k l, xs = [a, b, c, d, e, f, g, h, i, j, k, l] := by
    match xs, hxl' with
    | [a, b, c, d, e, f, g, h, i, j, k, l], _ => exact ⟨a, b, c, d, e, f, g, h, i, j, k, l, rfl⟩
  have c1 : Try.prog.cellsOf 5 = 1 := by kernel_rfl
  have c3 : Try.prog.cellsOf 3 = 1 := by kernel_rfl
  have cH : Try.prog.cellsOf 27 = 32 := by kernel_rfl
  have cB : Try.prog.cellsOf 25 = 3 := by kernel_rfl
  have cO : Try.prog.cellsOf 23 = 1 := by kernel_rfl
  have cP : Try.prog.cellsOf 28 = 1 := by kernel_rfl
  have g0 : DataW.trod enc Try.prog w base spare held m 5 ((cl.drop 0).take (Try.prog.cellsOf 5)) = some x0 := hg 0 _ rfl
  have g1 : DataW.trod enc Try.prog w base spare held m 3 ((cl.drop 1).take (Try.prog.cellsOf 3)) = some x1 := hg 1 _ rfl
  have g2 : DataW.trod enc Try.prog w base spare held m 3 ((cl.drop 2).take (Try.prog.cellsOf 3)) = some x2 := hg 2 _ rfl
  have g3 : DataW.trod enc Try.prog w base spare held m 3 ((cl.drop 3).take (Try.prog.cellsOf 3)) = some x3 := hg 3 _ rfl
  have g4 : DataW.trod enc Try.prog w base spare held m 25 ((cl.drop 4).take (Try.prog.cellsOf 25)) = some x4 := hg 4 _ rfl
  have g5 : DataW.trod enc Try.prog w base spare held m 3 ((cl.drop 7).take (Try.prog.cellsOf 3)) = some x5 := hg 5 _ rfl
  have g6 : DataW.trod enc Try.prog w base spare held m 27 ((cl.drop 8).take (Try.prog.cellsOf 27)) = some x6 := hg 6 _ rfl
  have g7 : DataW.trod enc Try.prog w base spare held m 3 ((cl.drop 40).take (Try.prog.cellsOf 3)) = some x7 := hg 7 _ rfl
  have g8 : DataW.trod enc Try.prog w base spare held m 3 ((cl.drop 41).take (Try.prog.cellsOf 3)) = some x8 := hg 8 _ rfl
  have g9 : DataW.trod enc Try.prog w base spare held m 27 ((cl.drop 42).take (Try.prog.cellsOf 27)) = some x9 := hg 9 _ rfl
  have g10 : DataW.trod enc Try.prog w base spare held m 27 ((cl.drop 74).take (Try.prog.cellsOf 27)) = some x10 := hg 10 _ rfl
  have g11 : DataW.trod enc Try.prog w base spare held m 28 ((cl.drop 106).take (Try.prog.cellsOf 28)) = some x11 := hg 11 _ rfl
  rw [c1] at g0
  rw [c3] at g1 g2 g3 g5 g7 g8
  rw [cH] at g6 g9 g10
  rw [cB] at g4
  rw [cP] at g11
  obtain ⟨k, hk, _, wk⟩ := DataW.trod_int Try.underlying5 g0
  obtain ⟨e, he, _, we⟩ := DataW.trod_int Try.underlying3 g1
  obtain ⟨a, ha, _, wa⟩ := DataW.trod_int Try.underlying3 g2
  obtain ⟨o, ho, _, wo⟩ := DataW.trod_int Try.underlying3 g3
  obtain ⟨pr, hpr, _, wp⟩ := DataW.trod_int Try.underlying3 g5
  obtain ⟨vv, hvv, _, wv⟩ := DataW.trod_int Try.underlying3 g7
  obtain ⟨i, hi, _, wi⟩ := DataW.trod_int Try.underlying3 g8
  obtain ⟨kb, rfl⟩ := wf_u8 wk
  obtain ⟨rt0, hr0, er0⟩ := open_hash g6 (by simp only [List.length_take, List.length_drop]; omega)
  obtain ⟨lf, hlf, elf⟩ := open_hash g9 (by simp only [List.length_take, List.length_drop]; omega)
  obtain ⟨rt, hrt, ert⟩ := open_hash g10 (by simp only [List.length_take, List.length_drop]; omega)
  obtain ⟨ys, mb, _, _, _, hyl, hy⟩ := DataW.trod_struct Try.underlying25 g4
  have hyl' : ys.length = 3 := hyl
  obtain ⟨y0, y1, y2, rfl⟩ : ∃ a b c, ys = [a, b, c] := by
    match ys, hyl' with
    | [a, b, c], _ => exact ⟨a, b, c, rfl⟩
  have b0' : DataW.trod enc Try.prog w base spare held mb 3 ((((cl.drop 4).take 3).drop 0).take (Try.prog.cellsOf 3)) = some y0 := hy 0 _ rfl
  have b1' : DataW.trod enc Try.prog w base spare held mb 3 ((((cl.drop 4).take 3).drop 1).take (Try.prog.cellsOf 3)) = some y1 := hy 1 _ rfl
  have b2' : DataW.trod enc Try.prog w base spare held mb 23 ((((cl.drop 4).take 3).drop 2).take (Try.prog.cellsOf 23)) = some y2 := hy 2 _ rfl
  rw [c3] at b0' b1'
  rw [cO] at b2'
  have q0 : (((cl.drop 4).take 3).drop 0).take 1 = (cl.drop 4).take 1 := by rw [List.drop_zero, List.take_take]; rfl
  have q1 : (((cl.drop 4).take 3).drop 1).take 1 = (cl.drop 5).take 1 := by rw [List.drop_take, List.drop_drop, List.take_take]; rfl
  have q2 : (((cl.drop 4).take 3).drop 2).take 1 = (cl.drop 6).take 1 := by rw [List.drop_take, List.drop_drop, List.take_take]; rfl
  rw [q0] at b0'
  rw [q1] at b1'
  rw [q2] at b2'
  obtain ⟨bi, hbi, _, wbi⟩ := DataW.trod_int Try.underlying3 b0'
  obtain ⟨be, hbe, _, wbe⟩ := DataW.trod_int Try.underlying3 b1'
  obtain ⟨ov, hov⟩ : ∃ c, cl[6]? = some c := ⟨_, List.getElem?_eq_getElem (by omega)⟩
  obtain ⟨pv, hpv⟩ : ∃ c, cl[106]? = some c := ⟨_, List.getElem?_eq_getElem (by omega)⟩
  rw [part_at hov] at b2'
  rw [part_at hpv] at g11
  have oO : Value.okWide Try.prog w r b0 23 ov := by
    obtain ⟨u, hu, hcell⟩ := hc 6 ov (by simpa using hov)
    rw [tL, show 6 % 107 = 6 from rfl, t6] at hu; cases hu
    unfold Value.okWide; rw [Try.underlying23]; exact hcell
  have oP : Value.okWide Try.prog w r b0 28 pv := by
    obtain ⟨u, hu, hcell⟩ := hc 106 pv (by simpa using hpv)
    rw [tL, show 106 % 107 = 106 from rfl, t106] at hu; cases hu
    unfold Value.okWide; rw [Try.underlying28]; exact hcell
  have tO : DataW.Trod enc Try.prog w base spare held 23 ov y2.1 y2.2 := by
    rcases slice_shape Try.underlying23 oO with rfl | ⟨_, _, _, rfl, _⟩ <;> exact ⟨mb, b2'⟩
  have tP : DataW.Trod enc Try.prog w base spare held 28 pv x11.1 x11.2 := by
    rcases slice_shape Try.underlying28 oP with rfl | ⟨_, _, _, rfl, _⟩ <;> exact ⟨m, g11⟩
  obtain ⟨ops, SO, lO⟩ := open_sl (f := opV) Try.underlying23 (by kernel_rfl) (by decide) opV_len (dec_op Try.underlying75 Try.underlying5 Try.underlying9 Try.underlying9 rfl rfl rfl (by kernel_rfl) (by kernel_rfl) (by kernel_rfl)) oO tO
  obtain ⟨prs, SP, lP⟩ := open_sl (f := prV) Try.underlying28 (by kernel_rfl) (by decide) prV_len (dec_pr Try.underlying72 Try.underlying9 Try.underlying9 rfl rfl (by kernel_rfl) (by kernel_rfl)) oP tP
  have hcl : cl = msgC (Lm.ms ⟨kb, e, a, o, bi, be, ops, pr, rt0, vv, i, lf, rt, prs⟩ ov pv) := by
    have s0 := part_split cl 0 1 1 rfl
    have s1 := part_split cl 1 1 2 rfl
    have s2 := part_split cl 2 1 3 rfl
    have s3 := part_split cl 3 1 4 rfl
    have s4 := part_split cl 4 1 5 rfl
    have s5 := part_split cl 5 1 6 rfl
    have s6 := part_split cl 6 1 7 rfl
    have s7 := part_split cl 7 1 8 rfl
    have s8 := part_split cl 8 32 40 rfl
    have s40 := part_split cl 40 1 41 rfl
    have s41 := part_split cl 41 1 42 rfl
    have s42 := part_split cl 42 32 74 rfl
    have s74 := part_split cl 74 32 106 rfl
    have s106 := part_split cl 106 1 107 rfl
    rw [List.drop_of_length_le (by omega : cl.length ≤ 107), List.append_nil, part_at hpv] at s106
    rw [ert, s106] at s74
    rw [elf, s74] at s42
    rw [hi, s42] at s41
    rw [hvv, s41] at s40
    rw [er0, s40] at s8
    rw [hpr, s8] at s7
    rw [part_at hov, s7] at s6
    rw [hbe, s6] at s5
    rw [hbi, s5] at s4
    rw [ho, s4] at s3
    rw [ha, s3] at s2
    rw [he, s2] at s1
    rw [hk, s1] at s0
    rw [List.drop_zero] at s0
    rw [s0]; rfl
  refine ⟨⟨kb, e, a, o, bi, be, ops, pr, rt0, vv, i, lf, rt, prs⟩, ov, pv, by rw [hcl], ⟨hr0, hlf, hrt⟩, fun q => ?_, (wf_i64 wbe).2, SO, SP, lO, lP⟩
  cases q
  · exact wf_i64 we
  · exact wf_i64 wa
  · exact wf_i64 wo
  · exact wf_i64 wp
  · exact wf_i64 wv
  · exact wf_i64 wi
end
end Go.Proofs.Ytoaabclemeibhaa
