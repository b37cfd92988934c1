/- Plain: an envelope's reading as layer 5's reference does it. No program in this text. No conditions but those each lemma names. -/
import Derived.Test.YtidadhbaomieiaaGreatZd
import Derived.Test.YtidadhbaomieiaaGreatVRef01L
namespace Go
namespace TL
theorem tagS_drop (rest : List UInt8) (k : Nat) : ∀ n, n ≤ rest.length → (tagS ⟨rest, k, 0⟩ n).1 = ⟨rest.drop n, k + n, 0⟩
  | 0, _ => rfl
  | n + 1, h => by
    have hd : rest.drop n = rest[n] :: rest.drop (n + 1) := List.drop_eq_getElem_cons (by omega)
    rw [tagS_succ, tagS_drop rest k n (by omega), hd, byte_cons]; rfl
theorem tagS_stay (x : InS) (n : Nat) (h : (tagS x n).1.err ≠ 0) : ∀ j, (tagS x (n + j)).1 = (tagS x n).1
  | 0 => rfl
  | j + 1 => by
    have ih := tagS_stay x n h j
    rw [show n + (j + 1) = (n + j) + 1 by omega, tagS_succ, ih, byte_bad h]
theorem tagS_fin_short (rest : List UInt8) (k : Nat) (h : rest.length < 32) : (tagS ⟨rest, k, 0⟩ 32).1.fin = 7 := by
  have e := tagS_drop rest k rest.length (Nat.le_refl _)
  rw [List.drop_eq_nil_of_le (Nat.le_refl _)] at e
  have e1 : (tagS ⟨rest, k, 0⟩ (rest.length + 1)).1 = ⟨[], k + rest.length, 7⟩ := by rw [tagS_succ, e, byte_nil]
  have e2 := tagS_stay ⟨rest, k, 0⟩ (rest.length + 1) (by rw [e1]; show (7 : Nat) ≠ 0; decide) (32 - (rest.length + 1))
  rw [show rest.length + 1 + (32 - (rest.length + 1)) = 32 by omega, e1] at e2
  rw [e2]; rfl
theorem tagS_fin_long (rest : List UInt8) (k : Nat) (h : 32 < rest.length) : (tagS ⟨rest, k, 0⟩ 32).1.fin = 8 := by
  rw [tagS_drop rest k 32 (by omega)]
  unfold InS.fin
  rw [if_pos rfl, if_neg (by rw [List.length_drop]; omega)]
theorem tagS_fin_ok (rest : List UInt8) (k : Nat) (h : rest.length = 32) : (tagS ⟨rest, k, 0⟩ 32).1.fin = 0 ∧ (tagS ⟨rest, k, 0⟩ 32).2 = rest := by
  have e := tagS_back rest [] k h 32 (Nat.le_refl _)
  rw [List.append_nil] at e
  have hl := tagS_len ⟨rest, k, 0⟩ 32
  rw [List.take_of_length_le (by omega), List.take_of_length_le (by omega)] at e
  refine ⟨?_, e.2⟩
  rw [e.1, List.drop_eq_nil_of_le (by omega)]; rfl
/-- A tag is laid, byte by byte. -/
def layT (t : List UInt8) : Nat → List UInt8
  | 0 => List.replicate 32 0
  | j + 1 => (layT t j).set j (t.getD j 0)
theorem layT_succ (t : List UInt8) (j : Nat) : layT t (j + 1) = (layT t j).set j (t.getD j 0) := rfl
theorem layT_len (t : List UInt8) : ∀ j, (layT t j).length = 32
  | 0 => List.length_replicate
  | j + 1 => by rw [layT_succ, List.length_set]; exact layT_len t j
theorem layT_take (t : List UInt8) (ht : t.length = 32) : ∀ j, j ≤ 32 → (layT t j).take j = t.take j
  | 0, _ => rfl
  | j + 1, h => by
    have hl := layT_len t j
    rw [layT_succ, set_take_succ _ _ _ (by omega), layT_take t ht j (by omega), List.take_succ_eq_append_getElem (by omega), List.getD_eq_getElem?_getD, List.getElem?_eq_getElem (by omega)]; rfl
theorem take_both {l t : List UInt8} {n : Nat} (h : l.take n = t.take n) (hl : l.length ≤ n) (ht : t.length ≤ n) : l = t := by
  rwa [List.take_of_length_le hl, List.take_of_length_le ht] at h
theorem layT_all (t : List UInt8) (ht : t.length = 32) : layT t 32 = t := take_both (layT_take t ht 32 (Nat.le_refl _)) (Nat.le_of_eq (layT_len t 32)) (Nat.le_of_eq ht)
/-- The reading, case by case. -/
theorem readS_bad {s : List UInt8} {N : Nums} (h : numsS s = N) (he : N.x.err ≠ 0) : readS s = (zeroE, N.x.err) := by
  unfold readS
  simp only [h]
  rw [tagS_bad he, fin_err he, if_neg he]
theorem readS_short {s : List UInt8} {N : Nums} (h : numsS s = N) (he : N.x.err = 0) (hl : N.x.rest.length < 32) : readS s = (zeroE, 7) := by
  unfold readS
  simp only [h]
  obtain ⟨a, b, c, d, ⟨rest, k, er⟩⟩ := N
  simp only at he hl
  subst he
  rw [tagS_fin_short rest k hl, if_neg (by decide)]
theorem readS_long {s : List UInt8} {N : Nums} (h : numsS s = N) (he : N.x.err = 0) (hl : 32 < N.x.rest.length) : readS s = (zeroE, 8) := by
  unfold readS
  simp only [h]
  obtain ⟨a, b, c, d, ⟨rest, k, er⟩⟩ := N
  simp only at he hl
  subst he
  rw [tagS_fin_long rest k hl, if_neg (by decide)]
theorem readS_good {s : List UInt8} {N : Nums} (h : numsS s = N) (he : N.x.err = 0) (hl : N.x.rest.length = 32) : readS s = (⟨N.k, UInt32.ofNat N.b, UInt64.ofNat N.n, N.d, N.x.rest⟩, 0) := by
  unfold readS
  simp only [h]
  obtain ⟨a, b, c, d, ⟨rest, k, er⟩⟩ := N
  simp only at he hl
  subst he
  obtain ⟨e1, e2⟩ := tagS_fin_ok rest k hl
  rw [e1, if_pos rfl, e2]
end TL
end Go
