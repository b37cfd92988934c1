/-
  No cell of these rows narrows 'for every input' (looked for: loops, veiled, ifaces, maps, wideKeys, modest, calm, conditions, laid).
  DERIVED. THE GIVEN ROWS OF THIS SEAT. 8 by the template 'for every input the law returns true; each argument reads behind the call as it read before'; 0 by the template 'total and deterministic' (their statements: YtjmhjkgcdglpaaaTotals.lean).
  GIVEN WITH THE SEED: the statements are not yours to turn. If you find one false, say at which input.
  Laid BY PROGRAM, IN A SANDBOX (cutbox-rows.mjs): the forced cells as the released guide's own fill.sh prints them over the translation 95f92348d222f586… (all of the seat's roots in one cut). By AI agents, Wed Nov 11 2026. No macro, syntax, notation, axiom, sorry.
-/
import Derived.Test.YtjmhjkgcdglpaaaChecked
import GoSem.Claim
import GoSem.ClaimJoined
import GoSem.ClaimMapViews
import Derived.JoinedTies
import Derived.KernelRfl
namespace Go.Proofs.Ytjmhjkgcdglpaaa
/- THE CELL 'sum', in the pinned program and in every row, IS THE sha256 OF THE DUMP (.gsa) THAT YtjmhjkgcdglpaaaProg.lean LOADS. Nothing in Lean hashes anything: it is a label: what it is worth is what the hold of that sum in a sandbox is worth. -/
noncomputable def Try.pinned : Pinned := { name := "ytjmhjkgcdglpaaa", sum := "95f92348d222f5865dc173d1fa2e6ff6f74626445f44f587261f865fd1af142e", checked := Try.checked }
namespace Rows
def none {H : Type} : Left H := { results := [], args := [] }

/-- 'twinlocklaw14.BucketWhole': WHATEVER THE INPUT: true; the input reads as it did. -/
def bucketWholeSpec : ChangeSpec := { name := "bucketWhole", fn := fun _ => fun
  | [d] => { results := [.lit (.bool true)], args := [d] }
  | _ => none }
def bucketWholeRow : OpenClaim := { program := "ytjmhjkgcdglpaaa", sum := "95f92348d222f5865dc173d1fa2e6ff6f74626445f44f587261f865fd1af142e", func := "twinlock/twinlocklaw14.BucketWhole", spec := "bucketWhole", inPlace := ["internal/bytealg.IndexByteString", "internal/bytealg.IndexString"], recurses := true, named := ["internal/bytealg.MaxLen"], apart := false }
def BucketWholeSaid : Prop := bucketWholeRow.holds Try.pinned (OpenSpec.ofChange bucketWholeSpec)

/-- ITS FALSE NEIGHBOUR: 'it returns false'. Refute it at one input. -/
def bucketWholeWrong : ChangeSpec := { name := "bucketWhole", fn := fun _ => fun
  | [d] => { results := [.lit (.bool false)], args := [d] }
  | _ => none }
def BucketWholeWrongFalsely : Prop := bucketWholeRow.holds Try.pinned (OpenSpec.ofChange bucketWholeWrong)

/-- 'twinlocklaw14.BucketOnly': WHATEVER THE INPUT: true; the input reads as it did. -/
def bucketOnlySpec : ChangeSpec := { name := "bucketOnly", fn := fun _ => fun
  | [d1, d2] => { results := [.lit (.bool true)], args := [d1, d2] }
  | _ => none }
def bucketOnlyRow : OpenClaim := { program := "ytjmhjkgcdglpaaa", sum := "95f92348d222f5865dc173d1fa2e6ff6f74626445f44f587261f865fd1af142e", func := "twinlock/twinlocklaw14.BucketOnly", spec := "bucketOnly", inPlace := ["internal/bytealg.IndexByteString", "internal/bytealg.IndexString"], recurses := true, named := ["internal/bytealg.MaxLen"], apart := false }
def BucketOnlySaid : Prop := bucketOnlyRow.holds Try.pinned (OpenSpec.ofChange bucketOnlySpec)

/-- ITS FALSE NEIGHBOUR: 'it returns false'. Refute it at one input. -/
def bucketOnlyWrong : ChangeSpec := { name := "bucketOnly", fn := fun _ => fun
  | [d1, d2] => { results := [.lit (.bool false)], args := [d1, d2] }
  | _ => none }
def BucketOnlyWrongFalsely : Prop := bucketOnlyRow.holds Try.pinned (OpenSpec.ofChange bucketOnlyWrong)

/-- 'twinlocklaw14.BucketHash': WHATEVER THE INPUT: true; the input reads as it did. -/
def bucketHashSpec : ChangeSpec := { name := "bucketHash", fn := fun _ => fun
  | [d] => { results := [.lit (.bool true)], args := [d] }
  | _ => none }
def bucketHashRow : OpenClaim := { program := "ytjmhjkgcdglpaaa", sum := "95f92348d222f5865dc173d1fa2e6ff6f74626445f44f587261f865fd1af142e", func := "twinlock/twinlocklaw14.BucketHash", spec := "bucketHash", inPlace := ["internal/bytealg.IndexByteString", "internal/bytealg.IndexString"], recurses := true, named := ["internal/bytealg.MaxLen"], apart := false }
def BucketHashSaid : Prop := bucketHashRow.holds Try.pinned (OpenSpec.ofChange bucketHashSpec)

/-- ITS FALSE NEIGHBOUR: 'it returns false'. Refute it at one input. -/
def bucketHashWrong : ChangeSpec := { name := "bucketHash", fn := fun _ => fun
  | [d] => { results := [.lit (.bool false)], args := [d] }
  | _ => none }
def BucketHashWrongFalsely : Prop := bucketHashRow.holds Try.pinned (OpenSpec.ofChange bucketHashWrong)

/-- 'twinlocklaw14.BucketCut': WHATEVER THE INPUT: true; the input reads as it did. -/
def bucketCutSpec : ChangeSpec := { name := "bucketCut", fn := fun _ => fun
  | [d1, d2, d3, d4] => { results := [.lit (.bool true)], args := [d1, d2, d3, d4] }
  | _ => none }
def bucketCutRow : OpenClaim := { program := "ytjmhjkgcdglpaaa", sum := "95f92348d222f5865dc173d1fa2e6ff6f74626445f44f587261f865fd1af142e", func := "twinlock/twinlocklaw14.BucketCut", spec := "bucketCut", inPlace := ["internal/bytealg.IndexByteString", "internal/bytealg.IndexString"], recurses := true, named := ["internal/bytealg.MaxLen"], apart := false }
def BucketCutSaid : Prop := bucketCutRow.holds Try.pinned (OpenSpec.ofChange bucketCutSpec)

/-- ITS FALSE NEIGHBOUR: 'it returns false'. Refute it at one input. -/
def bucketCutWrong : ChangeSpec := { name := "bucketCut", fn := fun _ => fun
  | [d1, d2, d3, d4] => { results := [.lit (.bool false)], args := [d1, d2, d3, d4] }
  | _ => none }
def BucketCutWrongFalsely : Prop := bucketCutRow.holds Try.pinned (OpenSpec.ofChange bucketCutWrong)

/-- 'twinlocklaw14.BucketKnown': WHATEVER THE INPUT: true; the input reads as it did. -/
def bucketKnownSpec : ChangeSpec := { name := "bucketKnown", fn := fun _ => fun
  | [] => { results := [.lit (.bool true)], args := [] }
  | _ => none }
def bucketKnownRow : OpenClaim := { program := "ytjmhjkgcdglpaaa", sum := "95f92348d222f5865dc173d1fa2e6ff6f74626445f44f587261f865fd1af142e", func := "twinlock/twinlocklaw14.BucketKnown", spec := "bucketKnown", inPlace := ["internal/bytealg.IndexByteString", "internal/bytealg.IndexString"], recurses := true, named := ["internal/bytealg.MaxLen"], apart := false }
def BucketKnownSaid : Prop := bucketKnownRow.holds Try.pinned (OpenSpec.ofChange bucketKnownSpec)

/-- ITS FALSE NEIGHBOUR: 'it returns false'. Refute it at one input. -/
def bucketKnownWrong : ChangeSpec := { name := "bucketKnown", fn := fun _ => fun
  | [] => { results := [.lit (.bool false)], args := [] }
  | _ => none }
def BucketKnownWrongFalsely : Prop := bucketKnownRow.holds Try.pinned (OpenSpec.ofChange bucketKnownWrong)

/-- 'twinlocklaw14.BucketParts': WHATEVER THE INPUT: true; the input reads as it did. -/
def bucketPartsSpec : ChangeSpec := { name := "bucketParts", fn := fun _ => fun
  | [d1, d2, d3] => { results := [.lit (.bool true)], args := [d1, d2, d3] }
  | _ => none }
def bucketPartsRow : OpenClaim := { program := "ytjmhjkgcdglpaaa", sum := "95f92348d222f5865dc173d1fa2e6ff6f74626445f44f587261f865fd1af142e", func := "twinlock/twinlocklaw14.BucketParts", spec := "bucketParts", inPlace := ["internal/bytealg.IndexByteString", "internal/bytealg.IndexString"], recurses := true, named := ["internal/bytealg.MaxLen"], apart := false }
def BucketPartsSaid : Prop := bucketPartsRow.holds Try.pinned (OpenSpec.ofChange bucketPartsSpec)

/-- ITS FALSE NEIGHBOUR: 'it returns false'. Refute it at one input. -/
def bucketPartsWrong : ChangeSpec := { name := "bucketParts", fn := fun _ => fun
  | [d1, d2, d3] => { results := [.lit (.bool false)], args := [d1, d2, d3] }
  | _ => none }
def BucketPartsWrongFalsely : Prop := bucketPartsRow.holds Try.pinned (OpenSpec.ofChange bucketPartsWrong)

/-- 'twinlocklaw14.BucketPages': WHATEVER THE INPUT: true; the input reads as it did. -/
def bucketPagesSpec : ChangeSpec := { name := "bucketPages", fn := fun _ => fun
  | [d1, d2] => { results := [.lit (.bool true)], args := [d1, d2] }
  | _ => none }
def bucketPagesRow : OpenClaim := { program := "ytjmhjkgcdglpaaa", sum := "95f92348d222f5865dc173d1fa2e6ff6f74626445f44f587261f865fd1af142e", func := "twinlock/twinlocklaw14.BucketPages", spec := "bucketPages", inPlace := ["internal/bytealg.IndexByteString", "internal/bytealg.IndexString"], recurses := true, named := ["internal/bytealg.MaxLen"], apart := false }
def BucketPagesSaid : Prop := bucketPagesRow.holds Try.pinned (OpenSpec.ofChange bucketPagesSpec)

/-- ITS FALSE NEIGHBOUR: 'it returns false'. Refute it at one input. -/
def bucketPagesWrong : ChangeSpec := { name := "bucketPages", fn := fun _ => fun
  | [d1, d2] => { results := [.lit (.bool false)], args := [d1, d2] }
  | _ => none }
def BucketPagesWrongFalsely : Prop := bucketPagesRow.holds Try.pinned (OpenSpec.ofChange bucketPagesWrong)

/-- 'twinlocklaw14.BucketReads': WHATEVER THE INPUT: true; the input reads as it did. -/
def bucketReadsSpec : ChangeSpec := { name := "bucketReads", fn := fun _ => fun
  | [d1, d2] => { results := [.lit (.bool true)], args := [d1, d2] }
  | _ => none }
def bucketReadsRow : OpenClaim := { program := "ytjmhjkgcdglpaaa", sum := "95f92348d222f5865dc173d1fa2e6ff6f74626445f44f587261f865fd1af142e", func := "twinlock/twinlocklaw14.BucketReads", spec := "bucketReads", inPlace := ["internal/bytealg.IndexByteString", "internal/bytealg.IndexString"], recurses := true, named := ["internal/bytealg.MaxLen"], apart := false }
def BucketReadsSaid : Prop := bucketReadsRow.holds Try.pinned (OpenSpec.ofChange bucketReadsSpec)

/-- ITS FALSE NEIGHBOUR: 'it returns false'. Refute it at one input. -/
def bucketReadsWrong : ChangeSpec := { name := "bucketReads", fn := fun _ => fun
  | [d1, d2] => { results := [.lit (.bool false)], args := [d1, d2] }
  | _ => none }
def BucketReadsWrongFalsely : Prop := bucketReadsRow.holds Try.pinned (OpenSpec.ofChange bucketReadsWrong)

/- THE SECOND FORM. 'bulk': how many values and letters a reading holds, each counted each time it is reached (what is shared counts as often as it is met; a slice's spare places count too). A statement '..UptoSaid' is the law's where the arguments, and the package variables that the reading takes, are together of bulk at most 1048576: NARROWER than '..Said'. Prove '..Said' where nothing that the law and all that it calls make is longer than what came in: it says more and counts as full. Else prove '..UptoSaid'. A law counts once. -/
mutual
def uptoBulk {H : Type} : DataW H → Nat
  | .lit (.string bytes) => bytes.length + 1
  | .lit _ => 1
  | .nil => 1
  | .ptr d => uptoBulk d + 1
  | .slice elems spare => uptoBulkAll elems + uptoBulkAll spare + 1
  | .agg parts => uptoBulkAll parts + 1
  | .iface _ d => uptoBulk d + 1
  | .map entries => uptoBulkEntries entries + 1
  | .held _ => 1
def uptoBulkAll {H : Type} : List (DataW H) → Nat
  | [] => 0
  | d :: r => uptoBulk d + uptoBulkAll r
def uptoBulkEntries {H : Type} : List (Lit × DataW H) → Nat
  | [] => 0
  | x :: r => uptoBulkEntry x + uptoBulkEntries r
def uptoBulkEntry {H : Type} : Lit × DataW H → Nat
  | (.string bytes, d) => bytes.length + uptoBulk d + 1
  | (_, d) => uptoBulk d + 1
 end
def uptoSmall : (H : Type) → List (DataW H) → Bool := fun _ ds => decide (uptoBulkAll ds ≤ 1048576)
def OpenSpec.upto (s : _root_.Go.ChangeSpec) : _root_.Go.OpenSpec := { _root_.Go.OpenSpec.ofChange s with cond := some uptoSmall }

/-- 'twinlocklaw14.BucketWhole', WHERE WHAT IT READS IS OF BULK AT MOST 1048576: true; the input reads as it did. -/
def bucketWholeUptoRow : OpenClaim := { program := "ytjmhjkgcdglpaaa", sum := "95f92348d222f5865dc173d1fa2e6ff6f74626445f44f587261f865fd1af142e", func := "twinlock/twinlocklaw14.BucketWhole", spec := "bucketWhole", inPlace := ["internal/bytealg.IndexByteString", "internal/bytealg.IndexString"], recurses := true, named := ["internal/bytealg.MaxLen"], apart := false, narrowed := true }
def BucketWholeUptoSaid : Prop := bucketWholeUptoRow.holds Try.pinned (OpenSpec.upto bucketWholeSpec)

/-- 'twinlocklaw14.BucketOnly', WHERE WHAT IT READS IS OF BULK AT MOST 1048576: true; the input reads as it did. -/
def bucketOnlyUptoRow : OpenClaim := { program := "ytjmhjkgcdglpaaa", sum := "95f92348d222f5865dc173d1fa2e6ff6f74626445f44f587261f865fd1af142e", func := "twinlock/twinlocklaw14.BucketOnly", spec := "bucketOnly", inPlace := ["internal/bytealg.IndexByteString", "internal/bytealg.IndexString"], recurses := true, named := ["internal/bytealg.MaxLen"], apart := false, narrowed := true }
def BucketOnlyUptoSaid : Prop := bucketOnlyUptoRow.holds Try.pinned (OpenSpec.upto bucketOnlySpec)

/-- 'twinlocklaw14.BucketHash', WHERE WHAT IT READS IS OF BULK AT MOST 1048576: true; the input reads as it did. -/
def bucketHashUptoRow : OpenClaim := { program := "ytjmhjkgcdglpaaa", sum := "95f92348d222f5865dc173d1fa2e6ff6f74626445f44f587261f865fd1af142e", func := "twinlock/twinlocklaw14.BucketHash", spec := "bucketHash", inPlace := ["internal/bytealg.IndexByteString", "internal/bytealg.IndexString"], recurses := true, named := ["internal/bytealg.MaxLen"], apart := false, narrowed := true }
def BucketHashUptoSaid : Prop := bucketHashUptoRow.holds Try.pinned (OpenSpec.upto bucketHashSpec)

/-- 'twinlocklaw14.BucketCut', WHERE WHAT IT READS IS OF BULK AT MOST 1048576: true; the input reads as it did. -/
def bucketCutUptoRow : OpenClaim := { program := "ytjmhjkgcdglpaaa", sum := "95f92348d222f5865dc173d1fa2e6ff6f74626445f44f587261f865fd1af142e", func := "twinlock/twinlocklaw14.BucketCut", spec := "bucketCut", inPlace := ["internal/bytealg.IndexByteString", "internal/bytealg.IndexString"], recurses := true, named := ["internal/bytealg.MaxLen"], apart := false, narrowed := true }
def BucketCutUptoSaid : Prop := bucketCutUptoRow.holds Try.pinned (OpenSpec.upto bucketCutSpec)

/-- 'twinlocklaw14.BucketKnown', WHERE WHAT IT READS IS OF BULK AT MOST 1048576: true; the input reads as it did. -/
def bucketKnownUptoRow : OpenClaim := { program := "ytjmhjkgcdglpaaa", sum := "95f92348d222f5865dc173d1fa2e6ff6f74626445f44f587261f865fd1af142e", func := "twinlock/twinlocklaw14.BucketKnown", spec := "bucketKnown", inPlace := ["internal/bytealg.IndexByteString", "internal/bytealg.IndexString"], recurses := true, named := ["internal/bytealg.MaxLen"], apart := false, narrowed := true }
def BucketKnownUptoSaid : Prop := bucketKnownUptoRow.holds Try.pinned (OpenSpec.upto bucketKnownSpec)

/-- 'twinlocklaw14.BucketParts', WHERE WHAT IT READS IS OF BULK AT MOST 1048576: true; the input reads as it did. -/
def bucketPartsUptoRow : OpenClaim := { program := "ytjmhjkgcdglpaaa", sum := "95f92348d222f5865dc173d1fa2e6ff6f74626445f44f587261f865fd1af142e", func := "twinlock/twinlocklaw14.BucketParts", spec := "bucketParts", inPlace := ["internal/bytealg.IndexByteString", "internal/bytealg.IndexString"], recurses := true, named := ["internal/bytealg.MaxLen"], apart := false, narrowed := true }
def BucketPartsUptoSaid : Prop := bucketPartsUptoRow.holds Try.pinned (OpenSpec.upto bucketPartsSpec)

/-- 'twinlocklaw14.BucketPages', WHERE WHAT IT READS IS OF BULK AT MOST 1048576: true; the input reads as it did. -/
def bucketPagesUptoRow : OpenClaim := { program := "ytjmhjkgcdglpaaa", sum := "95f92348d222f5865dc173d1fa2e6ff6f74626445f44f587261f865fd1af142e", func := "twinlock/twinlocklaw14.BucketPages", spec := "bucketPages", inPlace := ["internal/bytealg.IndexByteString", "internal/bytealg.IndexString"], recurses := true, named := ["internal/bytealg.MaxLen"], apart := false, narrowed := true }
def BucketPagesUptoSaid : Prop := bucketPagesUptoRow.holds Try.pinned (OpenSpec.upto bucketPagesSpec)

/-- 'twinlocklaw14.BucketReads', WHERE WHAT IT READS IS OF BULK AT MOST 1048576: true; the input reads as it did. -/
def bucketReadsUptoRow : OpenClaim := { program := "ytjmhjkgcdglpaaa", sum := "95f92348d222f5865dc173d1fa2e6ff6f74626445f44f587261f865fd1af142e", func := "twinlock/twinlocklaw14.BucketReads", spec := "bucketReads", inPlace := ["internal/bytealg.IndexByteString", "internal/bytealg.IndexString"], recurses := true, named := ["internal/bytealg.MaxLen"], apart := false, narrowed := true }
def BucketReadsUptoSaid : Prop := bucketReadsUptoRow.holds Try.pinned (OpenSpec.upto bucketReadsSpec)

end Rows
end Go.Proofs.Ytjmhjkgcdglpaaa
