/- The contracts of packages sha and mac, in closed words (bs, mkS). Conditions: lengths. -/
import Derived.Test.YtolmejipggdodaaTag
import Derived.Test.YtolmejipggdodaaEqual
import Derived.Test.YtolmejipggdodaaLaw02
import Derived.Test.YtolmejipggdodaaStr
namespace Go.Proofs.Ytolmejipggdodaa
open Go.RowKit Go.TL
theorem keyT : ∀ l m : List UInt8, l.length = 32 → m.length = 32 → EqRow Try.prog 36 l m := fun l m hl hm =>
  eqRow Try.underlying36 Try.underlying5 (by kernel_rfl) (by kernel_rfl) l m hl hm
theorem shaSum_c (l : List UInt8) (w : World) (h : l.length ≤ 100000000000) :
    Calls Try.prog 16 #[.string (mkS l)] w fun e w' => e = .returned (.agg (bs (shaL l)).toArray) ∧ Below w.heap.size w w' :=
  shaSum_any (mkS l) w (by rw [mkS_size]; omega)
theorem Digits_c (l : List UInt8) (h : l.length = 32) (w : World) :
    Calls Try.prog 14 #[.agg (bs l).toArray] w fun e w' => e = .returned (.string (mkS (hexB l))) ∧ Below w.heap.size w w' := Digits_any l h w
theorem Tag_c (key text : List UInt8) (w : World) (hk : key.length ≤ 100000000000) (ht : text.length ≤ 100000000000) :
    Calls Try.prog 19 #[.string (mkS key), .string (mkS text)] w fun e w' => e = .returned (.agg (bs (macL key text)).toArray) ∧ Below w.heap.size w w' :=
  Tag_any (mkS key) (mkS text) w (by rw [mkS_size]; exact hk) (by rw [mkS_size]; exact ht)
theorem Equal_c (a b : List UInt8) (ha : a.length = 32) (hb : b.length = 32) (w : World) :
    Calls Try.prog 20 #[.agg (bs a).toArray, .agg (bs b).toArray] w fun e w' => e = .returned (.bool (a == b)) ∧ Below w.heap.size w w' := Equal_any a b ha hb w
@[go_sem] theorem shaL_len (l : List UInt8) : (shaL l).length = 32 := by have := shaL_length l; omega
@[go_sem] theorem macL_len (k l : List UInt8) : (macL k l).length = 32 := by have := macL_length k l; omega
attribute [go_sem] macPad_length hexB_length
section
variable (l m : List UInt8) (hl : l.length = 32) (hm : m.length = 32) (w : World)
include hl hm
@[go_sem ↓] theorem hash_in : (Op.equalIn 10000 23 (.agg (bs l).toArray) (.agg (bs m).toArray)).run Try.prog w = .ok (l == m) w := eqInRow Try.underlying23 Try.underlying5 (by kernel_rfl) l m hl hm w
@[go_sem ↓] theorem key_in : (Op.equalIn 10000 36 (.agg (bs l).toArray) (.agg (bs m).toArray)).run Try.prog w = .ok (l == m) w := eqInRow Try.underlying36 Try.underlying5 (by kernel_rfl) l m hl hm w
@[go_sem ↓] theorem hash_eql : (binOp .eql 23 (.agg (bs l).toArray) (.agg (bs m).toArray)).run Try.prog w = .ok (.bool (l == m)) w := (hashT l m hl hm).eql w
@[go_sem ↓] theorem hash_neq : (binOp .neq 23 (.agg (bs l).toArray) (.agg (bs m).toArray)).run Try.prog w = .ok (.bool (!(l == m))) w := (hashT l m hl hm).neq w
@[go_sem ↓] theorem hash_guardE (x y : Operand) : (eqGuard .eql 23 x y (.agg (bs l).toArray) (.agg (bs m).toArray)).run Try.prog w = .ok () w := (hashT l m hl hm).guardE x y w
@[go_sem ↓] theorem hash_guardN (x y : Operand) : (eqGuard .neq 23 x y (.agg (bs l).toArray) (.agg (bs m).toArray)).run Try.prog w = .ok () w := (hashT l m hl hm).guardN x y w
@[go_sem ↓] theorem key_eql : (binOp .eql 36 (.agg (bs l).toArray) (.agg (bs m).toArray)).run Try.prog w = .ok (.bool (l == m)) w := (keyT l m hl hm).eql w
@[go_sem ↓] theorem key_neq : (binOp .neq 36 (.agg (bs l).toArray) (.agg (bs m).toArray)).run Try.prog w = .ok (.bool (!(l == m))) w := (keyT l m hl hm).neq w
@[go_sem ↓] theorem key_guardE (x y : Operand) : (eqGuard .eql 36 x y (.agg (bs l).toArray) (.agg (bs m).toArray)).run Try.prog w = .ok () w := (keyT l m hl hm).guardE x y w
@[go_sem ↓] theorem key_guardN (x y : Operand) : (eqGuard .neq 36 x y (.agg (bs l).toArray) (.agg (bs m).toArray)).run Try.prog w = .ok () w := (keyT l m hl hm).guardN x y w
end
end Go.Proofs.Ytolmejipggdodaa
