/- Plain: a padded key's bytes. No conditions but those the lemma names. -/
import Derived.Test.YtidadhbaomieiaaGreatZb
namespace Go
namespace TL
theorem macPad_getD (k' : List UInt8) (x : UInt8) (hk : k'.length ≤ 64) (k : Nat) (h : k < 64) : (macPad k' x).getD k 0 = (if k < k'.length then k'.getD k 0 else 0) ^^^ x := by
  have e : keyL k' = k' := by unfold keyL; rw [if_neg (by omega)]
  have hl : k < (macPad k' x).length := by rw [macPad_length]; exact h
  rw [List.getD_eq_getElem?_getD, List.getElem?_eq_getElem hl, Option.getD_some]
  simp only [macPad, keyB, e, List.getElem_map, List.getElem_append]
  split
  · rename_i h2; rw [List.getD_eq_getElem?_getD, List.getElem?_eq_getElem h2]; rfl
  · simp
end TL
end Go
