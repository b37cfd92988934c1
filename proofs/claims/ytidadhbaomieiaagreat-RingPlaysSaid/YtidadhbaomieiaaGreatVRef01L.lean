/- Plain laws of layer 1's reference: its reader stands as pack's does. No program in this text. No conditions but those each lemma names. -/
import Derived.Test.YtidadhbaomieiaaGreatZd
namespace Go
namespace TL
/-- What layer 1's reference reads for a number, by looking for one. -/
theorem readN_value (s : List UInt8) (h : lead s ≤ 9) (h1 : lead s < s.length) :
    readN s maxU = if numL (numV (s.take (lead s + 1)) % 18446744073709551616) = s.take (lead s + 1) then (numV (s.take (lead s + 1)) % 18446744073709551616, lead s + 1, 0) else (0, 0, 8) := by
  obtain ⟨v, ev⟩ : ∃ v, v = numV (s.take (lead s + 1)) := ⟨_, rfl⟩
  have hv : v % 18446744073709551616 < 18446744073709551616 := Nat.mod_lt _ (by omega)
  rw [← ev]
  by_cases e : numL (v % 18446744073709551616) = s.take (lead s + 1)
  · rw [if_pos e]
    have hs : s = numL (v % 18446744073709551616) ++ s.drop (lead s + 1) := by rw [e, List.take_append_drop]
    have hl : (numL (v % 18446744073709551616)).length = lead s + 1 := by rw [e, List.length_take]; omega
    have hr := read_num (v % 18446744073709551616) maxU (s.drop (lead s + 1)) hv
    rw [← hs, if_neg (by rw [maxU_eq]; omega), hl] at hr
    exact hr
  · rw [if_neg e]
    rcases read_err s maxU with h0 | h7 | h8
    · exfalso
      obtain ⟨⟨n, k, er⟩, eR⟩ : ∃ R, R = readN s maxU := ⟨_, rfl⟩
      rw [← eR] at h0
      simp only at h0
      subst h0
      obtain ⟨r1, r2, _, r4⟩ := read_ok eR.symm
      have hl := lead_numL n (s.drop k)
      rw [← r1] at hl
      have ht : s.take (lead s + 1) = numL n := by
        rw [hl]
        have := List.take_left' (l₁ := numL n) (l₂ := s.drop k) (i := (numL n).length) rfl
        rwa [← r1] at this
      have hvn : v = n := by rw [ev, ht, numV_numL]
      apply e
      rw [ht, hvn, Nat.mod_eq_of_lt r4]
    · exfalso
      by_cases c : lead s = 9 ∧ 1 < (s.getD 9 0).toNat
      · rw [readN_ten s c.1 h1 c.2] at h7; cases h7
      · have hz := readN_size s h h1 (fun e9 => by
          have : ¬ 1 < (s.getD 9 0).toNat := fun hh => c ⟨e9, hh⟩
          omega)
        rw [h7] at hz
        have hz' := congrArg (fun x => x.2.2) hz
        split at hz' <;> simp at hz'
    · exact h8
/-- The reference's reader: the whole text, how many bytes are read, the first fault. -/
def OnS (s : List UInt8) (x : InS) : Prop := x.rest = s.drop x.read ∧ x.read ≤ s.length
theorem OnS.start (s : List UInt8) : OnS s ⟨s, 0, 0⟩ := ⟨rfl, Nat.zero_le _⟩
theorem OnS.len {s : List UInt8} {x : InS} (h : OnS s x) : x.rest.length = s.length - x.read := by rw [h.1, List.length_drop]
theorem OnS.take {s : List UInt8} {x : InS} (h : OnS s x) {k e : Nat} (hk : k ≤ x.rest.length) : OnS s (x.take k e) := by
  have hl := h.len
  unfold InS.take
  split
  · exact ⟨by simp only; rw [h.1, List.drop_drop], by simp only; have := h.2; omega⟩
  · exact h
theorem OnS.most {s : List UInt8} {x : InS} (h : OnS s x) (m : Nat) : OnS s (x.most m).2 := by
  unfold InS.most
  split
  · exact h.take (readN_le x.rest m).1
  · exact h
theorem OnS.text {s : List UInt8} {x : InS} (h : OnS s x) (m : Nat) : OnS s (x.text m).2 := by
  unfold InS.text
  split
  · split
    · split
      · have := (readN_le x.rest m).1
        exact h.take (by omega)
      · exact h.take (Nat.zero_le _)
    · exact h.take (Nat.zero_le _)
  · exact h
theorem OnS.byte {s : List UInt8} {x : InS} (h : OnS s x) : OnS s x.byte.2 := by
  unfold InS.byte
  split
  · split
    · exact h.take (Nat.zero_le _)
    · rename_i b l e
      exact h.take (by rw [e]; simp)
  · exact h
theorem OnS.fit {s : List UInt8} {x : InS} (h : OnS s x) (hs : s.length ≤ 1000000000) : x.fit := by
  have := h.len
  have := h.2
  unfold InS.fit; omega
theorem most_max (x : InS) : x.err = 0 → x.most maxU = ((readN x.rest maxU).1, x.take (readN x.rest maxU).2.1 (readN x.rest maxU).2.2) := fun h => by unfold InS.most; rw [if_pos h]
/-- A bounded number is an unbounded one that is held against the bound. -/
theorem most_of (x : InS) (m : Nat) (h : x.err = 0) : x.most m = if (x.most maxU).2.err = 0 then (if m < (x.most maxU).1 then (0, ⟨x.rest, x.read, 8⟩) else x.most maxU) else (0, (x.most maxU).2) := by
  obtain ⟨rest, read, err⟩ := x
  simp only at h
  subst h
  have hm := readN_max rest m
  have he := read_err rest maxU
  unfold InS.most InS.take
  simp only [if_true]
  rw [hm]
  obtain ⟨⟨n, k, er⟩, eR⟩ : ∃ R, R = readN rest maxU := ⟨_, rfl⟩
  rw [← eR] at he ⊢
  simp only at he ⊢
  by_cases e0 : er = 0
  · subst e0
    simp only [if_true, true_and]
    by_cases hlt : m < n
    · rw [if_pos hlt, if_pos hlt]; rfl
    · rw [if_neg hlt, if_neg hlt]; simp
  · simp only [if_neg e0, if_neg (fun hh : er = 0 ∧ m < n => e0 hh.1)]
    rcases he with h0 | h7 | h8
    · exact absurd h0 e0
    · cases h7; simp
    · cases h8; simp
/-- A text: its length, a bounded number; and the bytes behind it. -/
theorem text_of (x : InS) (m : Nat) (h : x.err = 0) : x.text m = if (x.most m).2.err = 0 then (if (x.most m).1 ≤ (x.most m).2.rest.length then ((x.most m).2.rest.take (x.most m).1, ⟨(x.most m).2.rest.drop (x.most m).1, (x.most m).2.read + (x.most m).1, 0⟩) else ([], ⟨x.rest, x.read, 7⟩)) else ([], (x.most m).2) := by
  obtain ⟨rest, read, err⟩ := x
  simp only at h
  subst h
  unfold InS.text InS.most InS.take
  simp only [if_true]
  obtain ⟨⟨n, k, er⟩, eR⟩ : ∃ R, R = readN rest m := ⟨_, rfl⟩
  rw [← eR]
  simp only
  by_cases e0 : er = 0
  · subst e0
    simp only [if_true, List.length_drop, List.drop_drop]
    by_cases hlt : n ≤ rest.length - k
    · rw [if_pos hlt, if_pos hlt, Nat.add_assoc]
    · rw [if_neg hlt, if_neg hlt]; simp
  · simp only [if_neg e0]
end TL
end Go
