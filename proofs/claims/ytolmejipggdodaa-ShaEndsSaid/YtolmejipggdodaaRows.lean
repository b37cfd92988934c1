/-
  No cell of these rows narrows 'for every input' (looked for: loops, veiled, ifaces, maps, wideKeys, modest, calm, conditions, laid).
  DERIVED. THE GIVEN ROWS OF THIS SEAT. 10 by the template 'for every input the law returns true; each argument reads behind the call as it read before'; 0 by the template 'total and deterministic' (their statements: YtolmejipggdodaaTotals.lean).
  GIVEN WITH THE SEED: the statements are not yours to turn. If you find one false, say at which input.
  Laid BY PROGRAM, IN A SANDBOX (cutbox-rows.mjs): the forced cells as the released guide's own fill.sh prints them over the translation b59e38e054df38e1… (all of the seat's roots in one cut). By AI agents, Wed Nov 11 2026. No macro, syntax, notation, axiom, sorry.
-/
import Derived.Test.YtolmejipggdodaaChecked
import GoSem.Claim
import GoSem.ClaimJoined
import GoSem.ClaimMapViews
import Derived.JoinedTies
import Derived.KernelRfl
namespace Go.Proofs.Ytolmejipggdodaa
/- THE CELL 'sum', in the pinned program and in every row, IS THE sha256 OF THE DUMP (.gsa) THAT YtolmejipggdodaaProg.lean LOADS. Nothing in Lean hashes anything: it is a label: what it is worth is what the hold of that sum in a sandbox is worth. -/
noncomputable def Try.pinned : Pinned := { name := "ytolmejipggdodaa", sum := "b59e38e054df38e1183e61d155aa9f965ae878141d245d6a74a1855d6c331080", checked := Try.checked }
namespace Rows
def none {H : Type} : Left H := { results := [], args := [] }

/-- 'twinlocklaw02.ShaDigits': WHATEVER THE INPUT: true; the input reads as it did. -/
def shaDigitsSpec : ChangeSpec := { name := "shaDigits", fn := fun _ => fun
  | [d1, d2] => { results := [.lit (.bool true)], args := [d1, d2] }
  | _ => none }
def shaDigitsRow : OpenClaim := { program := "ytolmejipggdodaa", sum := "b59e38e054df38e1183e61d155aa9f965ae878141d245d6a74a1855d6c331080", func := "twinlock/twinlocklaw02.ShaDigits", spec := "shaDigits", recurses := true, apart := false }
def ShaDigitsSaid : Prop := shaDigitsRow.holds Try.pinned (OpenSpec.ofChange shaDigitsSpec)

/-- ITS FALSE NEIGHBOUR: 'it returns false'. Refute it at one input. -/
def shaDigitsWrong : ChangeSpec := { name := "shaDigits", fn := fun _ => fun
  | [d1, d2] => { results := [.lit (.bool false)], args := [d1, d2] }
  | _ => none }
def ShaDigitsWrongFalsely : Prop := shaDigitsRow.holds Try.pinned (OpenSpec.ofChange shaDigitsWrong)

/-- 'twinlocklaw02.ShaSums': WHATEVER THE INPUT: true; the input reads as it did. -/
def shaSumsSpec : ChangeSpec := { name := "shaSums", fn := fun _ => fun
  | [d] => { results := [.lit (.bool true)], args := [d] }
  | _ => none }
def shaSumsRow : OpenClaim := { program := "ytolmejipggdodaa", sum := "b59e38e054df38e1183e61d155aa9f965ae878141d245d6a74a1855d6c331080", func := "twinlock/twinlocklaw02.ShaSums", spec := "shaSums", recurses := true, apart := false }
def ShaSumsSaid : Prop := shaSumsRow.holds Try.pinned (OpenSpec.ofChange shaSumsSpec)

/-- ITS FALSE NEIGHBOUR: 'it returns false'. Refute it at one input. -/
def shaSumsWrong : ChangeSpec := { name := "shaSums", fn := fun _ => fun
  | [d] => { results := [.lit (.bool false)], args := [d] }
  | _ => none }
def ShaSumsWrongFalsely : Prop := shaSumsRow.holds Try.pinned (OpenSpec.ofChange shaSumsWrong)

/-- 'twinlocklaw03.MacNested': WHATEVER THE INPUT: true; the input reads as it did. -/
def macNestedSpec : ChangeSpec := { name := "macNested", fn := fun _ => fun
  | [d1, d2] => { results := [.lit (.bool true)], args := [d1, d2] }
  | _ => none }
def macNestedRow : OpenClaim := { program := "ytolmejipggdodaa", sum := "b59e38e054df38e1183e61d155aa9f965ae878141d245d6a74a1855d6c331080", func := "twinlock/twinlocklaw03.MacNested", spec := "macNested", recurses := true, apart := false }
def MacNestedSaid : Prop := macNestedRow.holds Try.pinned (OpenSpec.ofChange macNestedSpec)

/-- ITS FALSE NEIGHBOUR: 'it returns false'. Refute it at one input. -/
def macNestedWrong : ChangeSpec := { name := "macNested", fn := fun _ => fun
  | [d1, d2] => { results := [.lit (.bool false)], args := [d1, d2] }
  | _ => none }
def MacNestedWrongFalsely : Prop := macNestedRow.holds Try.pinned (OpenSpec.ofChange macNestedWrong)

/-- 'twinlocklaw03.MacEqual': WHATEVER THE INPUT: true; the input reads as it did. -/
def macEqualSpec : ChangeSpec := { name := "macEqual", fn := fun _ => fun
  | [d1, d2, d3] => { results := [.lit (.bool true)], args := [d1, d2, d3] }
  | _ => none }
def macEqualRow : OpenClaim := { program := "ytolmejipggdodaa", sum := "b59e38e054df38e1183e61d155aa9f965ae878141d245d6a74a1855d6c331080", func := "twinlock/twinlocklaw03.MacEqual", spec := "macEqual", recurses := true, apart := false }
def MacEqualSaid : Prop := macEqualRow.holds Try.pinned (OpenSpec.ofChange macEqualSpec)

/-- ITS FALSE NEIGHBOUR: 'it returns false'. Refute it at one input. -/
def macEqualWrong : ChangeSpec := { name := "macEqual", fn := fun _ => fun
  | [d1, d2, d3] => { results := [.lit (.bool false)], args := [d1, d2, d3] }
  | _ => none }
def MacEqualWrongFalsely : Prop := macEqualRow.holds Try.pinned (OpenSpec.ofChange macEqualWrong)

/-- 'twinlocklaw03.MacTags': WHATEVER THE INPUT: true; the input reads as it did. -/
def macTagsSpec : ChangeSpec := { name := "macTags", fn := fun _ => fun
  | [d1, d2] => { results := [.lit (.bool true)], args := [d1, d2] }
  | _ => none }
def macTagsRow : OpenClaim := { program := "ytolmejipggdodaa", sum := "b59e38e054df38e1183e61d155aa9f965ae878141d245d6a74a1855d6c331080", func := "twinlock/twinlocklaw03.MacTags", spec := "macTags", recurses := true, apart := false }
def MacTagsSaid : Prop := macTagsRow.holds Try.pinned (OpenSpec.ofChange macTagsSpec)

/-- ITS FALSE NEIGHBOUR: 'it returns false'. Refute it at one input. -/
def macTagsWrong : ChangeSpec := { name := "macTags", fn := fun _ => fun
  | [d1, d2] => { results := [.lit (.bool false)], args := [d1, d2] }
  | _ => none }
def MacTagsWrongFalsely : Prop := macTagsRow.holds Try.pinned (OpenSpec.ofChange macTagsWrong)

/-- 'twinlocklaw03.MacKeys': WHATEVER THE INPUT: true; the input reads as it did. -/
def macKeysSpec : ChangeSpec := { name := "macKeys", fn := fun _ => fun
  | [d1, d2] => { results := [.lit (.bool true)], args := [d1, d2] }
  | _ => none }
def macKeysRow : OpenClaim := { program := "ytolmejipggdodaa", sum := "b59e38e054df38e1183e61d155aa9f965ae878141d245d6a74a1855d6c331080", func := "twinlock/twinlocklaw03.MacKeys", spec := "macKeys", recurses := true, apart := false }
def MacKeysSaid : Prop := macKeysRow.holds Try.pinned (OpenSpec.ofChange macKeysSpec)

/-- ITS FALSE NEIGHBOUR: 'it returns false'. Refute it at one input. -/
def macKeysWrong : ChangeSpec := { name := "macKeys", fn := fun _ => fun
  | [d1, d2] => { results := [.lit (.bool false)], args := [d1, d2] }
  | _ => none }
def MacKeysWrongFalsely : Prop := macKeysRow.holds Try.pinned (OpenSpec.ofChange macKeysWrong)

/-- 'twinlocklaw02.ShaEnds': WHATEVER THE INPUT: true; the input reads as it did. -/
def shaEndsSpec : ChangeSpec := { name := "shaEnds", fn := fun _ => fun
  | [d1, d2] => { results := [.lit (.bool true)], args := [d1, d2] }
  | _ => none }
def shaEndsRow : OpenClaim := { program := "ytolmejipggdodaa", sum := "b59e38e054df38e1183e61d155aa9f965ae878141d245d6a74a1855d6c331080", func := "twinlock/twinlocklaw02.ShaEnds", spec := "shaEnds", inPlace := ["internal/abi.NoEscape", "internal/bytealg.MakeNoZero"], recurses := true, apart := false }
def ShaEndsSaid : Prop := shaEndsRow.holds Try.pinned (OpenSpec.ofChange shaEndsSpec)

/-- ITS FALSE NEIGHBOUR: 'it returns false'. Refute it at one input. -/
def shaEndsWrong : ChangeSpec := { name := "shaEnds", fn := fun _ => fun
  | [d1, d2] => { results := [.lit (.bool false)], args := [d1, d2] }
  | _ => none }
def ShaEndsWrongFalsely : Prop := shaEndsRow.holds Try.pinned (OpenSpec.ofChange shaEndsWrong)

/-- 'twinlocklaw03.MacKnown': WHATEVER THE INPUT: true; the input reads as it did. -/
def macKnownSpec : ChangeSpec := { name := "macKnown", fn := fun _ => fun
  | [] => { results := [.lit (.bool true)], args := [] }
  | _ => none }
def macKnownRow : OpenClaim := { program := "ytolmejipggdodaa", sum := "b59e38e054df38e1183e61d155aa9f965ae878141d245d6a74a1855d6c331080", func := "twinlock/twinlocklaw03.MacKnown", spec := "macKnown", inPlace := ["internal/abi.NoEscape", "internal/bytealg.MakeNoZero"], recurses := true, apart := false }
def MacKnownSaid : Prop := macKnownRow.holds Try.pinned (OpenSpec.ofChange macKnownSpec)

/-- ITS FALSE NEIGHBOUR: 'it returns false'. Refute it at one input. -/
def macKnownWrong : ChangeSpec := { name := "macKnown", fn := fun _ => fun
  | [] => { results := [.lit (.bool false)], args := [] }
  | _ => none }
def MacKnownWrongFalsely : Prop := macKnownRow.holds Try.pinned (OpenSpec.ofChange macKnownWrong)

/-- 'twinlocklaw03.MacEnds': WHATEVER THE INPUT: true; the input reads as it did. -/
def macEndsSpec : ChangeSpec := { name := "macEnds", fn := fun _ => fun
  | [d1, d2] => { results := [.lit (.bool true)], args := [d1, d2] }
  | _ => none }
def macEndsRow : OpenClaim := { program := "ytolmejipggdodaa", sum := "b59e38e054df38e1183e61d155aa9f965ae878141d245d6a74a1855d6c331080", func := "twinlock/twinlocklaw03.MacEnds", spec := "macEnds", inPlace := ["internal/abi.NoEscape", "internal/bytealg.MakeNoZero"], recurses := true, apart := false }
def MacEndsSaid : Prop := macEndsRow.holds Try.pinned (OpenSpec.ofChange macEndsSpec)

/-- ITS FALSE NEIGHBOUR: 'it returns false'. Refute it at one input. -/
def macEndsWrong : ChangeSpec := { name := "macEnds", fn := fun _ => fun
  | [d1, d2] => { results := [.lit (.bool false)], args := [d1, d2] }
  | _ => none }
def MacEndsWrongFalsely : Prop := macEndsRow.holds Try.pinned (OpenSpec.ofChange macEndsWrong)

/-- 'twinlocklaw03.MacNoughts': WHATEVER THE INPUT: true; the input reads as it did. -/
def macNoughtsSpec : ChangeSpec := { name := "macNoughts", fn := fun _ => fun
  | [d1, d2, d3] => { results := [.lit (.bool true)], args := [d1, d2, d3] }
  | _ => none }
def macNoughtsRow : OpenClaim := { program := "ytolmejipggdodaa", sum := "b59e38e054df38e1183e61d155aa9f965ae878141d245d6a74a1855d6c331080", func := "twinlock/twinlocklaw03.MacNoughts", spec := "macNoughts", inPlace := ["internal/abi.NoEscape", "internal/bytealg.MakeNoZero"], recurses := true, apart := false }
def MacNoughtsSaid : Prop := macNoughtsRow.holds Try.pinned (OpenSpec.ofChange macNoughtsSpec)

/-- ITS FALSE NEIGHBOUR: 'it returns false'. Refute it at one input. -/
def macNoughtsWrong : ChangeSpec := { name := "macNoughts", fn := fun _ => fun
  | [d1, d2, d3] => { results := [.lit (.bool false)], args := [d1, d2, d3] }
  | _ => none }
def MacNoughtsWrongFalsely : Prop := macNoughtsRow.holds Try.pinned (OpenSpec.ofChange macNoughtsWrong)

/- THE SECOND FORM. 'bulk': how many values and letters a reading holds, each counted each time it is reached (what is shared counts as often as it is met; a slice's spare places count too). A statement '..UptoSaid' is the law's where the arguments, and the package variables that the reading takes, are together of bulk at most 1048576: NARROWER than '..Said'. Prove '..Said' where nothing that the law and all that it calls make is longer than what came in: it says more and counts as full. Else prove '..UptoSaid'. A law counts once. -/
mutual
def uptoBulk {H : Type} : DataW H → Nat
  | .lit (.string bytes) => bytes.length + 1
  | .lit _ => 1
  | .nil => 1
  | .ptr d => uptoBulk d + 1
  | .slice elems spare => uptoBulkAll elems + uptoBulkAll spare + 1
  | .agg parts => uptoBulkAll parts + 1
  | .iface _ d => uptoBulk d + 1
  | .map entries => uptoBulkEntries entries + 1
  | .held _ => 1
def uptoBulkAll {H : Type} : List (DataW H) → Nat
  | [] => 0
  | d :: r => uptoBulk d + uptoBulkAll r
def uptoBulkEntries {H : Type} : List (Lit × DataW H) → Nat
  | [] => 0
  | x :: r => uptoBulkEntry x + uptoBulkEntries r
def uptoBulkEntry {H : Type} : Lit × DataW H → Nat
  | (.string bytes, d) => bytes.length + uptoBulk d + 1
  | (_, d) => uptoBulk d + 1
 end
def uptoSmall : (H : Type) → List (DataW H) → Bool := fun _ ds => decide (uptoBulkAll ds ≤ 1048576)
def OpenSpec.upto (s : _root_.Go.ChangeSpec) : _root_.Go.OpenSpec := { _root_.Go.OpenSpec.ofChange s with cond := some uptoSmall }

/-- 'twinlocklaw02.ShaDigits', WHERE WHAT IT READS IS OF BULK AT MOST 1048576: true; the input reads as it did. -/
def shaDigitsUptoRow : OpenClaim := { program := "ytolmejipggdodaa", sum := "b59e38e054df38e1183e61d155aa9f965ae878141d245d6a74a1855d6c331080", func := "twinlock/twinlocklaw02.ShaDigits", spec := "shaDigits", recurses := true, apart := false, narrowed := true }
def ShaDigitsUptoSaid : Prop := shaDigitsUptoRow.holds Try.pinned (OpenSpec.upto shaDigitsSpec)

/-- 'twinlocklaw02.ShaSums', WHERE WHAT IT READS IS OF BULK AT MOST 1048576: true; the input reads as it did. -/
def shaSumsUptoRow : OpenClaim := { program := "ytolmejipggdodaa", sum := "b59e38e054df38e1183e61d155aa9f965ae878141d245d6a74a1855d6c331080", func := "twinlock/twinlocklaw02.ShaSums", spec := "shaSums", recurses := true, apart := false, narrowed := true }
def ShaSumsUptoSaid : Prop := shaSumsUptoRow.holds Try.pinned (OpenSpec.upto shaSumsSpec)

/-- 'twinlocklaw03.MacNested', WHERE WHAT IT READS IS OF BULK AT MOST 1048576: true; the input reads as it did. -/
def macNestedUptoRow : OpenClaim := { program := "ytolmejipggdodaa", sum := "b59e38e054df38e1183e61d155aa9f965ae878141d245d6a74a1855d6c331080", func := "twinlock/twinlocklaw03.MacNested", spec := "macNested", recurses := true, apart := false, narrowed := true }
def MacNestedUptoSaid : Prop := macNestedUptoRow.holds Try.pinned (OpenSpec.upto macNestedSpec)

/-- 'twinlocklaw03.MacEqual', WHERE WHAT IT READS IS OF BULK AT MOST 1048576: true; the input reads as it did. -/
def macEqualUptoRow : OpenClaim := { program := "ytolmejipggdodaa", sum := "b59e38e054df38e1183e61d155aa9f965ae878141d245d6a74a1855d6c331080", func := "twinlock/twinlocklaw03.MacEqual", spec := "macEqual", recurses := true, apart := false, narrowed := true }
def MacEqualUptoSaid : Prop := macEqualUptoRow.holds Try.pinned (OpenSpec.upto macEqualSpec)

/-- 'twinlocklaw03.MacTags', WHERE WHAT IT READS IS OF BULK AT MOST 1048576: true; the input reads as it did. -/
def macTagsUptoRow : OpenClaim := { program := "ytolmejipggdodaa", sum := "b59e38e054df38e1183e61d155aa9f965ae878141d245d6a74a1855d6c331080", func := "twinlock/twinlocklaw03.MacTags", spec := "macTags", recurses := true, apart := false, narrowed := true }
def MacTagsUptoSaid : Prop := macTagsUptoRow.holds Try.pinned (OpenSpec.upto macTagsSpec)

/-- 'twinlocklaw03.MacKeys', WHERE WHAT IT READS IS OF BULK AT MOST 1048576: true; the input reads as it did. -/
def macKeysUptoRow : OpenClaim := { program := "ytolmejipggdodaa", sum := "b59e38e054df38e1183e61d155aa9f965ae878141d245d6a74a1855d6c331080", func := "twinlock/twinlocklaw03.MacKeys", spec := "macKeys", recurses := true, apart := false, narrowed := true }
def MacKeysUptoSaid : Prop := macKeysUptoRow.holds Try.pinned (OpenSpec.upto macKeysSpec)

/-- 'twinlocklaw02.ShaEnds', WHERE WHAT IT READS IS OF BULK AT MOST 1048576: true; the input reads as it did. -/
def shaEndsUptoRow : OpenClaim := { program := "ytolmejipggdodaa", sum := "b59e38e054df38e1183e61d155aa9f965ae878141d245d6a74a1855d6c331080", func := "twinlock/twinlocklaw02.ShaEnds", spec := "shaEnds", inPlace := ["internal/abi.NoEscape", "internal/bytealg.MakeNoZero"], recurses := true, apart := false, narrowed := true }
def ShaEndsUptoSaid : Prop := shaEndsUptoRow.holds Try.pinned (OpenSpec.upto shaEndsSpec)

/-- 'twinlocklaw03.MacKnown', WHERE WHAT IT READS IS OF BULK AT MOST 1048576: true; the input reads as it did. -/
def macKnownUptoRow : OpenClaim := { program := "ytolmejipggdodaa", sum := "b59e38e054df38e1183e61d155aa9f965ae878141d245d6a74a1855d6c331080", func := "twinlock/twinlocklaw03.MacKnown", spec := "macKnown", inPlace := ["internal/abi.NoEscape", "internal/bytealg.MakeNoZero"], recurses := true, apart := false, narrowed := true }
def MacKnownUptoSaid : Prop := macKnownUptoRow.holds Try.pinned (OpenSpec.upto macKnownSpec)

/-- 'twinlocklaw03.MacEnds', WHERE WHAT IT READS IS OF BULK AT MOST 1048576: true; the input reads as it did. -/
def macEndsUptoRow : OpenClaim := { program := "ytolmejipggdodaa", sum := "b59e38e054df38e1183e61d155aa9f965ae878141d245d6a74a1855d6c331080", func := "twinlock/twinlocklaw03.MacEnds", spec := "macEnds", inPlace := ["internal/abi.NoEscape", "internal/bytealg.MakeNoZero"], recurses := true, apart := false, narrowed := true }
def MacEndsUptoSaid : Prop := macEndsUptoRow.holds Try.pinned (OpenSpec.upto macEndsSpec)

/-- 'twinlocklaw03.MacNoughts', WHERE WHAT IT READS IS OF BULK AT MOST 1048576: true; the input reads as it did. -/
def macNoughtsUptoRow : OpenClaim := { program := "ytolmejipggdodaa", sum := "b59e38e054df38e1183e61d155aa9f965ae878141d245d6a74a1855d6c331080", func := "twinlock/twinlocklaw03.MacNoughts", spec := "macNoughts", inPlace := ["internal/abi.NoEscape", "internal/bytealg.MakeNoZero"], recurses := true, apart := false, narrowed := true }
def MacNoughtsUptoSaid : Prop := macNoughtsUptoRow.holds Try.pinned (OpenSpec.upto macNoughtsSpec)

end Rows
end Go.Proofs.Ytolmejipggdodaa
