/-
  No cell of these rows narrows 'for every input' (looked for: loops, veiled, ifaces, maps, wideKeys, modest, calm, conditions, laid).
  DERIVED. THE GIVEN ROWS OF THIS SEAT. 11 by the template 'for every input the law returns true; each argument reads behind the call as it read before'; 0 by the template 'total and deterministic' (their statements: YtjlkiopncclomaaTotals.lean).
  GIVEN WITH THE SEED: the statements are not yours to turn. If you find one false, say at which input.
  Laid BY PROGRAM, IN A SANDBOX (cutbox-rows.mjs): the forced cells as the released guide's own fill.sh prints them over the translation ecf51264136731d9… (all of the seat's roots in one cut). By AI agents, Wed Nov 11 2026. No macro, syntax, notation, axiom, sorry.
-/
import Derived.Test.YtjlkiopncclomaaChecked
import GoSem.Claim
import GoSem.ClaimJoined
import GoSem.ClaimMapViews
import Derived.JoinedTies
import Derived.KernelRfl
namespace Go.Proofs.Ytjlkiopncclomaa
/- THE CELL 'sum', in the pinned program and in every row, IS THE sha256 OF THE DUMP (.gsa) THAT YtjlkiopncclomaaProg.lean LOADS. Nothing in Lean hashes anything: it is a label: what it is worth is what the hold of that sum in a sandbox is worth. -/
noncomputable def Try.pinned : Pinned := { name := "ytjlkiopncclomaa", sum := "ecf51264136731d9832645fdc86f6a5efc400bee11b201b3e89bef7876bb3086", checked := Try.checked }
namespace Rows
def none {H : Type} : Left H := { results := [], args := [] }

/-- 'twinlocklaw05.SealParts': WHATEVER THE INPUT: true; the input reads as it did. -/
def sealPartsSpec : ChangeSpec := { name := "sealParts", fn := fun _ => fun
  | [d1, d2, d3, d4, d5, d6] => { results := [.lit (.bool true)], args := [d1, d2, d3, d4, d5, d6] }
  | _ => none }
def sealPartsRow : OpenClaim := { program := "ytjlkiopncclomaa", sum := "ecf51264136731d9832645fdc86f6a5efc400bee11b201b3e89bef7876bb3086", func := "twinlock/twinlocklaw05.SealParts", spec := "sealParts", unfollowed := true, recurses := true, apart := false }
def SealPartsSaid : Prop := sealPartsRow.holds Try.pinned (OpenSpec.ofChange sealPartsSpec)

/-- ITS FALSE NEIGHBOUR: 'it returns false'. Refute it at one input. -/
def sealPartsWrong : ChangeSpec := { name := "sealParts", fn := fun _ => fun
  | [d1, d2, d3, d4, d5, d6] => { results := [.lit (.bool false)], args := [d1, d2, d3, d4, d5, d6] }
  | _ => none }
def SealPartsWrongFalsely : Prop := sealPartsRow.holds Try.pinned (OpenSpec.ofChange sealPartsWrong)

/-- 'twinlocklaw05.SealCloses': WHATEVER THE INPUT: true; the input reads as it did. -/
def sealClosesSpec : ChangeSpec := { name := "sealCloses", fn := fun _ => fun
  | [d1, d2, d3, d4, d5, d6] => { results := [.lit (.bool true)], args := [d1, d2, d3, d4, d5, d6] }
  | _ => none }
def sealClosesRow : OpenClaim := { program := "ytjlkiopncclomaa", sum := "ecf51264136731d9832645fdc86f6a5efc400bee11b201b3e89bef7876bb3086", func := "twinlock/twinlocklaw05.SealCloses", spec := "sealCloses", unfollowed := true, recurses := true, apart := false }
def SealClosesSaid : Prop := sealClosesRow.holds Try.pinned (OpenSpec.ofChange sealClosesSpec)

/-- ITS FALSE NEIGHBOUR: 'it returns false'. Refute it at one input. -/
def sealClosesWrong : ChangeSpec := { name := "sealCloses", fn := fun _ => fun
  | [d1, d2, d3, d4, d5, d6] => { results := [.lit (.bool false)], args := [d1, d2, d3, d4, d5, d6] }
  | _ => none }
def SealClosesWrongFalsely : Prop := sealClosesRow.holds Try.pinned (OpenSpec.ofChange sealClosesWrong)

/-- 'twinlocklaw05.SealOpens': WHATEVER THE INPUT: true; the input reads as it did. -/
def sealOpensSpec : ChangeSpec := { name := "sealOpens", fn := fun _ => fun
  | [d1, d2, d3] => { results := [.lit (.bool true)], args := [d1, d2, d3] }
  | _ => none }
def sealOpensRow : OpenClaim := { program := "ytjlkiopncclomaa", sum := "ecf51264136731d9832645fdc86f6a5efc400bee11b201b3e89bef7876bb3086", func := "twinlock/twinlocklaw05.SealOpens", spec := "sealOpens", unfollowed := true, recurses := true, apart := false }
def SealOpensSaid : Prop := sealOpensRow.holds Try.pinned (OpenSpec.ofChange sealOpensSpec)

/-- ITS FALSE NEIGHBOUR: 'it returns false'. Refute it at one input. -/
def sealOpensWrong : ChangeSpec := { name := "sealOpens", fn := fun _ => fun
  | [d1, d2, d3] => { results := [.lit (.bool false)], args := [d1, d2, d3] }
  | _ => none }
def SealOpensWrongFalsely : Prop := sealOpensRow.holds Try.pinned (OpenSpec.ofChange sealOpensWrong)

/-- 'twinlocklaw05.SealKnown': WHATEVER THE INPUT: true; the input reads as it did. -/
def sealKnownSpec : ChangeSpec := { name := "sealKnown", fn := fun _ => fun
  | [] => { results := [.lit (.bool true)], args := [] }
  | _ => none }
def sealKnownRow : OpenClaim := { program := "ytjlkiopncclomaa", sum := "ecf51264136731d9832645fdc86f6a5efc400bee11b201b3e89bef7876bb3086", func := "twinlock/twinlocklaw05.SealKnown", spec := "sealKnown", unfollowed := true, recurses := true, apart := false }
def SealKnownSaid : Prop := sealKnownRow.holds Try.pinned (OpenSpec.ofChange sealKnownSpec)

/-- ITS FALSE NEIGHBOUR: 'it returns false'. Refute it at one input. -/
def sealKnownWrong : ChangeSpec := { name := "sealKnown", fn := fun _ => fun
  | [] => { results := [.lit (.bool false)], args := [] }
  | _ => none }
def SealKnownWrongFalsely : Prop := sealKnownRow.holds Try.pinned (OpenSpec.ofChange sealKnownWrong)

/-- 'twinlocklaw05.SealReads': WHATEVER THE INPUT: true; the input reads as it did. -/
def sealReadsSpec : ChangeSpec := { name := "sealReads", fn := fun _ => fun
  | [d1, d2] => { results := [.lit (.bool true)], args := [d1, d2] }
  | _ => none }
def sealReadsRow : OpenClaim := { program := "ytjlkiopncclomaa", sum := "ecf51264136731d9832645fdc86f6a5efc400bee11b201b3e89bef7876bb3086", func := "twinlock/twinlocklaw05.SealReads", spec := "sealReads", unfollowed := true, recurses := true, apart := false }
def SealReadsSaid : Prop := sealReadsRow.holds Try.pinned (OpenSpec.ofChange sealReadsSpec)

/-- ITS FALSE NEIGHBOUR: 'it returns false'. Refute it at one input. -/
def sealReadsWrong : ChangeSpec := { name := "sealReads", fn := fun _ => fun
  | [d1, d2] => { results := [.lit (.bool false)], args := [d1, d2] }
  | _ => none }
def SealReadsWrongFalsely : Prop := sealReadsRow.holds Try.pinned (OpenSpec.ofChange sealReadsWrong)

/-- 'twinlocklaw05.SealBack': WHATEVER THE INPUT: true; the input reads as it did. -/
def sealBackSpec : ChangeSpec := { name := "sealBack", fn := fun _ => fun
  | [d1, d2, d3, d4, d5, d6] => { results := [.lit (.bool true)], args := [d1, d2, d3, d4, d5, d6] }
  | _ => none }
def sealBackRow : OpenClaim := { program := "ytjlkiopncclomaa", sum := "ecf51264136731d9832645fdc86f6a5efc400bee11b201b3e89bef7876bb3086", func := "twinlock/twinlocklaw05.SealBack", spec := "sealBack", unfollowed := true, recurses := true, apart := false }
def SealBackSaid : Prop := sealBackRow.holds Try.pinned (OpenSpec.ofChange sealBackSpec)

/-- ITS FALSE NEIGHBOUR: 'it returns false'. Refute it at one input. -/
def sealBackWrong : ChangeSpec := { name := "sealBack", fn := fun _ => fun
  | [d1, d2, d3, d4, d5, d6] => { results := [.lit (.bool false)], args := [d1, d2, d3, d4, d5, d6] }
  | _ => none }
def SealBackWrongFalsely : Prop := sealBackRow.holds Try.pinned (OpenSpec.ofChange sealBackWrong)

/-- 'twinlocklaw05.SealOnly': WHATEVER THE INPUT: true; the input reads as it did. -/
def sealOnlySpec : ChangeSpec := { name := "sealOnly", fn := fun _ => fun
  | [d1, d2] => { results := [.lit (.bool true)], args := [d1, d2] }
  | _ => none }
def sealOnlyRow : OpenClaim := { program := "ytjlkiopncclomaa", sum := "ecf51264136731d9832645fdc86f6a5efc400bee11b201b3e89bef7876bb3086", func := "twinlock/twinlocklaw05.SealOnly", spec := "sealOnly", unfollowed := true, recurses := true, apart := false }
def SealOnlySaid : Prop := sealOnlyRow.holds Try.pinned (OpenSpec.ofChange sealOnlySpec)

/-- ITS FALSE NEIGHBOUR: 'it returns false'. Refute it at one input. -/
def sealOnlyWrong : ChangeSpec := { name := "sealOnly", fn := fun _ => fun
  | [d1, d2] => { results := [.lit (.bool false)], args := [d1, d2] }
  | _ => none }
def SealOnlyWrongFalsely : Prop := sealOnlyRow.holds Try.pinned (OpenSpec.ofChange sealOnlyWrong)

/-- 'twinlocklaw24.TokenWraps': WHATEVER THE INPUT: true; the input reads as it did. -/
def tokenWrapsSpec : ChangeSpec := { name := "tokenWraps", fn := fun _ => fun
  | [d1, d2, d3, d4] => { results := [.lit (.bool true)], args := [d1, d2, d3, d4] }
  | _ => none }
def tokenWrapsRow : OpenClaim := { program := "ytjlkiopncclomaa", sum := "ecf51264136731d9832645fdc86f6a5efc400bee11b201b3e89bef7876bb3086", func := "twinlock/twinlocklaw24.TokenWraps", spec := "tokenWraps", unfollowed := true, recurses := true, apart := false }
def TokenWrapsSaid : Prop := tokenWrapsRow.holds Try.pinned (OpenSpec.ofChange tokenWrapsSpec)

/-- ITS FALSE NEIGHBOUR: 'it returns false'. Refute it at one input. -/
def tokenWrapsWrong : ChangeSpec := { name := "tokenWraps", fn := fun _ => fun
  | [d1, d2, d3, d4] => { results := [.lit (.bool false)], args := [d1, d2, d3, d4] }
  | _ => none }
def TokenWrapsWrongFalsely : Prop := tokenWrapsRow.holds Try.pinned (OpenSpec.ofChange tokenWrapsWrong)

/-- 'twinlocklaw24.TokenSame': WHATEVER THE INPUT: true; the input reads as it did. -/
def tokenSameSpec : ChangeSpec := { name := "tokenSame", fn := fun _ => fun
  | [d1, d2] => { results := [.lit (.bool true)], args := [d1, d2] }
  | _ => none }
def tokenSameRow : OpenClaim := { program := "ytjlkiopncclomaa", sum := "ecf51264136731d9832645fdc86f6a5efc400bee11b201b3e89bef7876bb3086", func := "twinlock/twinlocklaw24.TokenSame", spec := "tokenSame", unfollowed := true, recurses := true, apart := false }
def TokenSameSaid : Prop := tokenSameRow.holds Try.pinned (OpenSpec.ofChange tokenSameSpec)

/-- ITS FALSE NEIGHBOUR: 'it returns false'. Refute it at one input. -/
def tokenSameWrong : ChangeSpec := { name := "tokenSame", fn := fun _ => fun
  | [d1, d2] => { results := [.lit (.bool false)], args := [d1, d2] }
  | _ => none }
def TokenSameWrongFalsely : Prop := tokenSameRow.holds Try.pinned (OpenSpec.ofChange tokenSameWrong)

/-- 'twinlocklaw24.TokenBack': WHATEVER THE INPUT: true; the input reads as it did. -/
def tokenBackSpec : ChangeSpec := { name := "tokenBack", fn := fun _ => fun
  | [d1, d2, d3, d4] => { results := [.lit (.bool true)], args := [d1, d2, d3, d4] }
  | _ => none }
def tokenBackRow : OpenClaim := { program := "ytjlkiopncclomaa", sum := "ecf51264136731d9832645fdc86f6a5efc400bee11b201b3e89bef7876bb3086", func := "twinlock/twinlocklaw24.TokenBack", spec := "tokenBack", unfollowed := true, recurses := true, apart := false }
def TokenBackSaid : Prop := tokenBackRow.holds Try.pinned (OpenSpec.ofChange tokenBackSpec)

/-- ITS FALSE NEIGHBOUR: 'it returns false'. Refute it at one input. -/
def tokenBackWrong : ChangeSpec := { name := "tokenBack", fn := fun _ => fun
  | [d1, d2, d3, d4] => { results := [.lit (.bool false)], args := [d1, d2, d3, d4] }
  | _ => none }
def TokenBackWrongFalsely : Prop := tokenBackRow.holds Try.pinned (OpenSpec.ofChange tokenBackWrong)

/-- 'twinlocklaw24.TokenKnown': WHATEVER THE INPUT: true; the input reads as it did. -/
def tokenKnownSpec : ChangeSpec := { name := "tokenKnown", fn := fun _ => fun
  | [] => { results := [.lit (.bool true)], args := [] }
  | _ => none }
def tokenKnownRow : OpenClaim := { program := "ytjlkiopncclomaa", sum := "ecf51264136731d9832645fdc86f6a5efc400bee11b201b3e89bef7876bb3086", func := "twinlock/twinlocklaw24.TokenKnown", spec := "tokenKnown", inPlace := ["internal/abi.NoEscape", "internal/bytealg.MakeNoZero"], unfollowed := true, recurses := true, apart := false }
def TokenKnownSaid : Prop := tokenKnownRow.holds Try.pinned (OpenSpec.ofChange tokenKnownSpec)

/-- ITS FALSE NEIGHBOUR: 'it returns false'. Refute it at one input. -/
def tokenKnownWrong : ChangeSpec := { name := "tokenKnown", fn := fun _ => fun
  | [] => { results := [.lit (.bool false)], args := [] }
  | _ => none }
def TokenKnownWrongFalsely : Prop := tokenKnownRow.holds Try.pinned (OpenSpec.ofChange tokenKnownWrong)

/- THE SECOND FORM. 'bulk': how many values and letters a reading holds, each counted each time it is reached (what is shared counts as often as it is met; a slice's spare places count too). A statement '..UptoSaid' is the law's where the arguments, and the package variables that the reading takes, are together of bulk at most 1048576: NARROWER than '..Said'. Prove '..Said' where nothing that the law and all that it calls make is longer than what came in: it says more and counts as full. Else prove '..UptoSaid'. A law counts once. -/
mutual
def uptoBulk {H : Type} : DataW H → Nat
  | .lit (.string bytes) => bytes.length + 1
  | .lit _ => 1
  | .nil => 1
  | .ptr d => uptoBulk d + 1
  | .slice elems spare => uptoBulkAll elems + uptoBulkAll spare + 1
  | .agg parts => uptoBulkAll parts + 1
  | .iface _ d => uptoBulk d + 1
  | .map entries => uptoBulkEntries entries + 1
  | .held _ => 1
def uptoBulkAll {H : Type} : List (DataW H) → Nat
  | [] => 0
  | d :: r => uptoBulk d + uptoBulkAll r
def uptoBulkEntries {H : Type} : List (Lit × DataW H) → Nat
  | [] => 0
  | x :: r => uptoBulkEntry x + uptoBulkEntries r
def uptoBulkEntry {H : Type} : Lit × DataW H → Nat
  | (.string bytes, d) => bytes.length + uptoBulk d + 1
  | (_, d) => uptoBulk d + 1
 end
def uptoSmall : (H : Type) → List (DataW H) → Bool := fun _ ds => decide (uptoBulkAll ds ≤ 1048576)
def OpenSpec.upto (s : _root_.Go.ChangeSpec) : _root_.Go.OpenSpec := { _root_.Go.OpenSpec.ofChange s with cond := some uptoSmall }

/-- 'twinlocklaw05.SealParts', WHERE WHAT IT READS IS OF BULK AT MOST 1048576: true; the input reads as it did. -/
def sealPartsUptoRow : OpenClaim := { program := "ytjlkiopncclomaa", sum := "ecf51264136731d9832645fdc86f6a5efc400bee11b201b3e89bef7876bb3086", func := "twinlock/twinlocklaw05.SealParts", spec := "sealParts", unfollowed := true, recurses := true, apart := false, narrowed := true }
def SealPartsUptoSaid : Prop := sealPartsUptoRow.holds Try.pinned (OpenSpec.upto sealPartsSpec)

/-- 'twinlocklaw05.SealCloses', WHERE WHAT IT READS IS OF BULK AT MOST 1048576: true; the input reads as it did. -/
def sealClosesUptoRow : OpenClaim := { program := "ytjlkiopncclomaa", sum := "ecf51264136731d9832645fdc86f6a5efc400bee11b201b3e89bef7876bb3086", func := "twinlock/twinlocklaw05.SealCloses", spec := "sealCloses", unfollowed := true, recurses := true, apart := false, narrowed := true }
def SealClosesUptoSaid : Prop := sealClosesUptoRow.holds Try.pinned (OpenSpec.upto sealClosesSpec)

/-- 'twinlocklaw05.SealOpens', WHERE WHAT IT READS IS OF BULK AT MOST 1048576: true; the input reads as it did. -/
def sealOpensUptoRow : OpenClaim := { program := "ytjlkiopncclomaa", sum := "ecf51264136731d9832645fdc86f6a5efc400bee11b201b3e89bef7876bb3086", func := "twinlock/twinlocklaw05.SealOpens", spec := "sealOpens", unfollowed := true, recurses := true, apart := false, narrowed := true }
def SealOpensUptoSaid : Prop := sealOpensUptoRow.holds Try.pinned (OpenSpec.upto sealOpensSpec)

/-- 'twinlocklaw05.SealKnown', WHERE WHAT IT READS IS OF BULK AT MOST 1048576: true; the input reads as it did. -/
def sealKnownUptoRow : OpenClaim := { program := "ytjlkiopncclomaa", sum := "ecf51264136731d9832645fdc86f6a5efc400bee11b201b3e89bef7876bb3086", func := "twinlock/twinlocklaw05.SealKnown", spec := "sealKnown", unfollowed := true, recurses := true, apart := false, narrowed := true }
def SealKnownUptoSaid : Prop := sealKnownUptoRow.holds Try.pinned (OpenSpec.upto sealKnownSpec)

/-- 'twinlocklaw05.SealReads', WHERE WHAT IT READS IS OF BULK AT MOST 1048576: true; the input reads as it did. -/
def sealReadsUptoRow : OpenClaim := { program := "ytjlkiopncclomaa", sum := "ecf51264136731d9832645fdc86f6a5efc400bee11b201b3e89bef7876bb3086", func := "twinlock/twinlocklaw05.SealReads", spec := "sealReads", unfollowed := true, recurses := true, apart := false, narrowed := true }
def SealReadsUptoSaid : Prop := sealReadsUptoRow.holds Try.pinned (OpenSpec.upto sealReadsSpec)

/-- 'twinlocklaw05.SealBack', WHERE WHAT IT READS IS OF BULK AT MOST 1048576: true; the input reads as it did. -/
def sealBackUptoRow : OpenClaim := { program := "ytjlkiopncclomaa", sum := "ecf51264136731d9832645fdc86f6a5efc400bee11b201b3e89bef7876bb3086", func := "twinlock/twinlocklaw05.SealBack", spec := "sealBack", unfollowed := true, recurses := true, apart := false, narrowed := true }
def SealBackUptoSaid : Prop := sealBackUptoRow.holds Try.pinned (OpenSpec.upto sealBackSpec)

/-- 'twinlocklaw05.SealOnly', WHERE WHAT IT READS IS OF BULK AT MOST 1048576: true; the input reads as it did. -/
def sealOnlyUptoRow : OpenClaim := { program := "ytjlkiopncclomaa", sum := "ecf51264136731d9832645fdc86f6a5efc400bee11b201b3e89bef7876bb3086", func := "twinlock/twinlocklaw05.SealOnly", spec := "sealOnly", unfollowed := true, recurses := true, apart := false, narrowed := true }
def SealOnlyUptoSaid : Prop := sealOnlyUptoRow.holds Try.pinned (OpenSpec.upto sealOnlySpec)

/-- 'twinlocklaw24.TokenWraps', WHERE WHAT IT READS IS OF BULK AT MOST 1048576: true; the input reads as it did. -/
def tokenWrapsUptoRow : OpenClaim := { program := "ytjlkiopncclomaa", sum := "ecf51264136731d9832645fdc86f6a5efc400bee11b201b3e89bef7876bb3086", func := "twinlock/twinlocklaw24.TokenWraps", spec := "tokenWraps", unfollowed := true, recurses := true, apart := false, narrowed := true }
def TokenWrapsUptoSaid : Prop := tokenWrapsUptoRow.holds Try.pinned (OpenSpec.upto tokenWrapsSpec)

/-- 'twinlocklaw24.TokenSame', WHERE WHAT IT READS IS OF BULK AT MOST 1048576: true; the input reads as it did. -/
def tokenSameUptoRow : OpenClaim := { program := "ytjlkiopncclomaa", sum := "ecf51264136731d9832645fdc86f6a5efc400bee11b201b3e89bef7876bb3086", func := "twinlock/twinlocklaw24.TokenSame", spec := "tokenSame", unfollowed := true, recurses := true, apart := false, narrowed := true }
def TokenSameUptoSaid : Prop := tokenSameUptoRow.holds Try.pinned (OpenSpec.upto tokenSameSpec)

/-- 'twinlocklaw24.TokenBack', WHERE WHAT IT READS IS OF BULK AT MOST 1048576: true; the input reads as it did. -/
def tokenBackUptoRow : OpenClaim := { program := "ytjlkiopncclomaa", sum := "ecf51264136731d9832645fdc86f6a5efc400bee11b201b3e89bef7876bb3086", func := "twinlock/twinlocklaw24.TokenBack", spec := "tokenBack", unfollowed := true, recurses := true, apart := false, narrowed := true }
def TokenBackUptoSaid : Prop := tokenBackUptoRow.holds Try.pinned (OpenSpec.upto tokenBackSpec)

/-- 'twinlocklaw24.TokenKnown', WHERE WHAT IT READS IS OF BULK AT MOST 1048576: true; the input reads as it did. -/
def tokenKnownUptoRow : OpenClaim := { program := "ytjlkiopncclomaa", sum := "ecf51264136731d9832645fdc86f6a5efc400bee11b201b3e89bef7876bb3086", func := "twinlock/twinlocklaw24.TokenKnown", spec := "tokenKnown", inPlace := ["internal/abi.NoEscape", "internal/bytealg.MakeNoZero"], unfollowed := true, recurses := true, apart := false, narrowed := true }
def TokenKnownUptoSaid : Prop := tokenKnownUptoRow.holds Try.pinned (OpenSpec.upto tokenKnownSpec)

end Rows
end Go.Proofs.Ytjlkiopncclomaa
