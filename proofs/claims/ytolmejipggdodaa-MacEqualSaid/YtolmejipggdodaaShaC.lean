/- The contracts of packages sha and mac, in closed words (bs, mkS). Conditions: lengths. -/
import Derived.Test.YtolmejipggdodaaTag
import Derived.Test.YtolmejipggdodaaEqual
import Derived.Test.YtolmejipggdodaaLaw02
import Derived.Test.YtolmejipggdodaaHeap
namespace Go.Proofs.Ytolmejipggdodaa
open Go.RowKit Go.TL
theorem shaSum_c (l : List UInt8) (w : World) (h : l.length ≤ 100000000000) :
    Calls Try.prog 16 #[.string (mkS l)] w fun e w' => e = .returned (.agg (bs (shaL l)).toArray) ∧ Below w.heap.size w w' :=
  shaSum_any (mkS l) w (by rw [mkS_size]; omega)
theorem Digits_c (l : List UInt8) (h : l.length = 32) (w : World) :
    Calls Try.prog 14 #[.agg (bs l).toArray] w fun e w' => e = .returned (.string (mkS (hexB l))) ∧ Below w.heap.size w w' := Digits_any l h w
theorem Tag_c (key text : List UInt8) (w : World) (hk : key.length ≤ 100000000000) (ht : text.length ≤ 100000000000) :
    Calls Try.prog 19 #[.string (mkS key), .string (mkS text)] w fun e w' => e = .returned (.agg (bs (macL key text)).toArray) ∧ Below w.heap.size w w' :=
  Tag_any (mkS key) (mkS text) w (by rw [mkS_size]; exact hk) (by rw [mkS_size]; exact ht)
theorem Equal_c (a b : List UInt8) (ha : a.length = 32) (hb : b.length = 32) (w : World) :
    Calls Try.prog 20 #[.agg (bs a).toArray, .agg (bs b).toArray] w fun e w' => e = .returned (.bool (a == b)) ∧ Below w.heap.size w w' := Equal_any a b ha hb w
end Go.Proofs.Ytolmejipggdodaa
