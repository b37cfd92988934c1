/- Texts of this seat, put together: Words, Mem, Base, Det, Law2, Heap, Low. Each begins with a remark that says what is proved in it, and under which conditions. -/
import Derived.WalkKit
import Derived.WalkSpells
import Derived.WalkLawsBesides
import Derived.Deep.MidRow
import Derived.Lib.Hide
import Derived.Test.YtoaabclemeibhaaRows
import Derived.KernelRfl
import Derived.OrdersHeld
import Derived.ChangeKeysEq
import Derived.Deep.DeepMust
import Derived.Deep.QuietTactic
import Derived.BigQuiet
import Derived.Lib.Strings
import Derived.Great.BuildSlice
/- Words of 8, 32 and 64 bits as the walk's integers: the rules by which the walk's arithmetic on unsigned kinds stays a word's own arithmetic. Conditions: none but the ones each rule names. -/
namespace Go
namespace TL
/-- A word's number, closed to the walk's simp. -/
def I8 (x : UInt8) : Int := (x.toNat : Int)
def I32 (x : UInt32) : Int := (x.toNat : Int)
def I64 (x : UInt64) : Int := (x.toNat : Int)
theorem I8_eq (x : UInt8) : I8 x = (x.toNat : Int) := rfl
theorem I32_eq (x : UInt32) : I32 x = (x.toNat : Int) := rfl
theorem I64_eq (x : UInt64) : I64 x = (x.toNat : Int) := rfl
theorem I8_bd (x : UInt8) : 0 ≤ I8 x ∧ I8 x < 256 := by unfold I8; have := x.toNat_lt; omega
theorem I32_bd (x : UInt32) : 0 ≤ I32 x ∧ I32 x < 4294967296 := by unfold I32; have := x.toNat_lt; omega
theorem I64_bd (x : UInt64) : 0 ≤ I64 x ∧ I64 x < 18446744073709551616 := by unfold I64; have := x.toNat_lt; omega
theorem I8_inj {x y : UInt8} : I8 x = I8 y ↔ x = y := by unfold I8; rw [Int.ofNat_inj, UInt8.toNat_inj]
theorem I32_inj {x y : UInt32} : I32 x = I32 y ↔ x = y := by unfold I32; rw [Int.ofNat_inj, UInt32.toNat_inj]
theorem I64_inj {x y : UInt64} : I64 x = I64 y ↔ x = y := by unfold I64; rw [Int.ofNat_inj, UInt64.toNat_inj]
/-- The word that an integer is, wrapped. -/
def w8 (n : Int) : UInt8 := ⟨BitVec.ofInt 8 n⟩
def w32 (n : Int) : UInt32 := ⟨BitVec.ofInt 32 n⟩
def w64 (n : Int) : UInt64 := ⟨BitVec.ofInt 64 n⟩
@[simp] theorem w8_I8 (x : UInt8) : w8 (I8 x) = x := by
  unfold w8 I8; apply UInt8.eq_of_toBitVec_eq; simp [BitVec.ofInt_natCast]
@[simp] theorem w32_I32 (x : UInt32) : w32 (I32 x) = x := by
  unfold w32 I32; apply UInt32.eq_of_toBitVec_eq; simp [BitVec.ofInt_natCast]
@[simp] theorem w64_I64 (x : UInt64) : w64 (I64 x) = x := by
  unfold w64 I64; apply UInt64.eq_of_toBitVec_eq; simp [BitVec.ofInt_natCast]
theorem toNat_w8 (n : Int) : (w8 n).toNat = (n % 256).toNat := by simp [w8, UInt8.toNat, BitVec.toNat_ofInt]
theorem toNat_w32 (n : Int) : (w32 n).toNat = (n % 4294967296).toNat := by simp [w32, UInt32.toNat, BitVec.toNat_ofInt]
theorem toNat_w64 (n : Int) : (w64 n).toNat = (n % 18446744073709551616).toNat := by simp [w64, UInt64.toNat, BitVec.toNat_ofInt]
theorem I8_w8 (n : Int) : I8 (w8 n) = IntKind.u8.wrap n := by
  unfold I8; rw [toNat_w8]; simp [IntKind.wrap, IntKind.bits, IntKind.signed]; omega
theorem I32_w32 (n : Int) : I32 (w32 n) = IntKind.u32.wrap n := by
  unfold I32; rw [toNat_w32]; simp [IntKind.wrap, IntKind.bits, IntKind.signed]; omega
theorem I64_w64 (n : Int) : I64 (w64 n) = IntKind.u64.wrap n := by
  unfold I64; rw [toNat_w64]; simp [IntKind.wrap, IntKind.bits, IntKind.signed]; omega
theorem w8_add (x y : Int) : w8 (x + y) = w8 x + w8 y := by unfold w8; apply UInt8.eq_of_toBitVec_eq; simp [BitVec.ofInt_add]
@[go_sem ↓] theorem arith_add_8 (x y : Int) : Op.intArith .add .u8 x y = pure (.int .u8 (I8 (w8 x + w8 y))) := by rw [← w8_add, I8_w8]; rfl
theorem w8_sub (x y : Int) : w8 (x - y) = w8 x - w8 y := by unfold w8; apply UInt8.eq_of_toBitVec_eq; simp [Int.sub_eq_add_neg, BitVec.ofInt_add, BitVec.ofInt_neg, BitVec.sub_eq_add_neg]
@[go_sem ↓] theorem arith_sub_8 (x y : Int) : Op.intArith .sub .u8 x y = pure (.int .u8 (I8 (w8 x - w8 y))) := by rw [← w8_sub, I8_w8]; rfl
theorem w8_mul (x y : Int) : w8 (x * y) = w8 x * w8 y := by unfold w8; apply UInt8.eq_of_toBitVec_eq; simp [BitVec.ofInt_mul]
@[go_sem ↓] theorem arith_mul_8 (x y : Int) : Op.intArith .mul .u8 x y = pure (.int .u8 (I8 (w8 x * w8 y))) := by rw [← w8_mul, I8_w8]; rfl
theorem bits_and_8' (x y : Int) : bits .and .u8 x y = I8 (w8 x &&& w8 y) :=
  IntWalk.u8_in _ (by have := (BitVec.ofInt 8 x &&& BitVec.ofInt 8 y).isLt; constructor; exact Int.natCast_nonneg _; simp only [IntKind.bits]; omega)
@[go_sem ↓] theorem bits_and_8 (x y : Int) : Op.intBits .and .u8 x y = pure (.int .u8 (I8 (w8 x &&& w8 y))) := by rw [intBits_and, bits_and_8']
theorem bits_or_8' (x y : Int) : bits .or .u8 x y = I8 (w8 x ||| w8 y) :=
  IntWalk.u8_in _ (by have := (BitVec.ofInt 8 x ||| BitVec.ofInt 8 y).isLt; constructor; exact Int.natCast_nonneg _; simp only [IntKind.bits]; omega)
@[go_sem ↓] theorem bits_or_8 (x y : Int) : Op.intBits .or .u8 x y = pure (.int .u8 (I8 (w8 x ||| w8 y))) := by rw [intBits_or, bits_or_8']
theorem bits_xor_8' (x y : Int) : bits .xor .u8 x y = I8 (w8 x ^^^ w8 y) :=
  IntWalk.u8_in _ (by have := (BitVec.ofInt 8 x ^^^ BitVec.ofInt 8 y).isLt; constructor; exact Int.natCast_nonneg _; simp only [IntKind.bits]; omega)
@[go_sem ↓] theorem bits_xor_8 (x y : Int) : Op.intBits .xor .u8 x y = pure (.int .u8 (I8 (w8 x ^^^ w8 y))) := by rw [intBits_xor, bits_xor_8']
@[go_sem ↓] theorem unary_xor_8 (x : Int) : Op.unary .xor (.int .u8 x) = pure (.int .u8 (I8 (~~~ w8 x))) := by
  show Op.intBits .xor .u8 _ x = _
  rw [bits_xor_8]; congr 3
@[go_sem] theorem not_8 (x : UInt8) : w8 (IntKind.max .u8) ^^^ x = ~~~ x := by
  rw [show w8 (IntKind.max .u8) = -1 from rfl]; apply UInt8.eq_of_toBitVec_eq; simp
@[go_sem ↓] theorem conv_8 (x : Int) : Conv.intToInt .u8 x = pure (.int .u8 (I8 (w8 x))) := by rw [I8_w8]; rfl
theorem w8_shl (x : Int) (n : Nat) (h : n < 8) : w8 (x * 2 ^ n) = w8 x <<< UInt8.ofNat n := by
  apply UInt8.eq_of_toBitVec_eq
  simp only [w8, UInt8.toBitVec_shiftLeft]
  have e : ((UInt8.ofNat n).toBitVec % (8 : BitVec 8)) = BitVec.ofNat 8 n := by
    apply BitVec.eq_of_toNat_eq; simp; omega
  have e2 : BitVec.ofInt 8 (2 ^ n) = BitVec.twoPow 8 n := by
    apply BitVec.eq_of_toNat_eq; rw [BitVec.toNat_twoPow]; rw [show ((2 : Int) ^ n) = ((2 ^ n : Nat) : Int) from by simp, BitVec.ofInt_natCast, BitVec.toNat_ofNat]
  rw [BitVec.ofInt_mul, e, e2, BitVec.shiftLeft_eq', BitVec.mul_twoPow_eq_shiftLeft, BitVec.toNat_ofNat, Nat.mod_eq_of_lt (show n < 2 ^ 8 by omega)]
@[go_sem ↓] theorem shl_8 (x y : Int) (yk : IntKind) (h0 : 0 ≤ y) (h1 : y ≤ 7) : Op.shift .shl .u8 x yk y = pure (.int .u8 (I8 (w8 x <<< UInt8.ofNat y.toNat))) := by
  rw [shift_shl .u8 yk x y h0 (by simp [IntKind.bits]; omega), ← I8_w8, w8_shl _ _ (by omega)]
theorem I8_shr (x : UInt8) (n : Nat) (h : n < 8) : I8 x / 2 ^ n = I8 (x >>> UInt8.ofNat n) := by
  unfold I8; simp [Nat.shiftRight_eq_div_pow]; rw [Nat.mod_eq_of_lt h]
@[go_sem ↓] theorem shr_8 (x : UInt8) (y : Int) (yk : IntKind) (h0 : 0 ≤ y) (h1 : y ≤ 7) : Op.shift .shr .u8 (I8 x) yk y = pure (.int .u8 (I8 (x >>> UInt8.ofNat y.toNat))) := by
  rw [shift_shr .u8 yk _ y h0 (by simp [IntKind.bits]; omega), I8_shr _ _ (by omega)]
theorem I8_div (x y : UInt8) : I8 x / I8 y = I8 (x / y) := by unfold I8; simp
theorem I8_mod (x y : UInt8) : I8 x % I8 y = I8 (x % y) := by unfold I8; simp
theorem I8_lt (x y : UInt8) : I8 x < I8 y ↔ x < y := by unfold I8; rw [UInt8.lt_iff_toNat_lt]; omega
theorem I8_le (x y : UInt8) : I8 x ≤ I8 y ↔ x ≤ y := by unfold I8; rw [UInt8.le_iff_toNat_le]; omega
@[go_sem ↓] theorem wrap_8 (x : Int) : IntKind.wrap .u8 x = I8 (w8 x) := (I8_w8 x).symm
@[go_sem] theorem cast_8 (x : UInt8) : ((x.toNat : Nat) : Int) = I8 x := rfl
@[go_sem] theorem w8_lit (n : Nat) : w8 (no_index (@OfNat.ofNat Int n _)) = @OfNat.ofNat UInt8 n _ := by
  show w8 ((n : Nat) : Int) = _
  unfold w8; apply UInt8.eq_of_toBitVec_eq; rw [BitVec.ofInt_natCast]; rfl
theorem w8_nat (n : Nat) : w8 ((n : Nat) : Int) = UInt8.ofNat n := by
  unfold w8; apply UInt8.eq_of_toBitVec_eq; rw [BitVec.ofInt_natCast]; rfl
theorem w32_add (x y : Int) : w32 (x + y) = w32 x + w32 y := by unfold w32; apply UInt32.eq_of_toBitVec_eq; simp [BitVec.ofInt_add]
@[go_sem ↓] theorem arith_add_32 (x y : Int) : Op.intArith .add .u32 x y = pure (.int .u32 (I32 (w32 x + w32 y))) := by rw [← w32_add, I32_w32]; rfl
theorem w32_sub (x y : Int) : w32 (x - y) = w32 x - w32 y := by unfold w32; apply UInt32.eq_of_toBitVec_eq; simp [Int.sub_eq_add_neg, BitVec.ofInt_add, BitVec.ofInt_neg, BitVec.sub_eq_add_neg]
@[go_sem ↓] theorem arith_sub_32 (x y : Int) : Op.intArith .sub .u32 x y = pure (.int .u32 (I32 (w32 x - w32 y))) := by rw [← w32_sub, I32_w32]; rfl
theorem w32_mul (x y : Int) : w32 (x * y) = w32 x * w32 y := by unfold w32; apply UInt32.eq_of_toBitVec_eq; simp [BitVec.ofInt_mul]
@[go_sem ↓] theorem arith_mul_32 (x y : Int) : Op.intArith .mul .u32 x y = pure (.int .u32 (I32 (w32 x * w32 y))) := by rw [← w32_mul, I32_w32]; rfl
theorem bits_and_32' (x y : Int) : bits .and .u32 x y = I32 (w32 x &&& w32 y) :=
  IntWalk.u32_in _ (by have := (BitVec.ofInt 32 x &&& BitVec.ofInt 32 y).isLt; constructor; exact Int.natCast_nonneg _; simp only [IntKind.bits]; omega)
@[go_sem ↓] theorem bits_and_32 (x y : Int) : Op.intBits .and .u32 x y = pure (.int .u32 (I32 (w32 x &&& w32 y))) := by rw [intBits_and, bits_and_32']
theorem bits_or_32' (x y : Int) : bits .or .u32 x y = I32 (w32 x ||| w32 y) :=
  IntWalk.u32_in _ (by have := (BitVec.ofInt 32 x ||| BitVec.ofInt 32 y).isLt; constructor; exact Int.natCast_nonneg _; simp only [IntKind.bits]; omega)
@[go_sem ↓] theorem bits_or_32 (x y : Int) : Op.intBits .or .u32 x y = pure (.int .u32 (I32 (w32 x ||| w32 y))) := by rw [intBits_or, bits_or_32']
theorem bits_xor_32' (x y : Int) : bits .xor .u32 x y = I32 (w32 x ^^^ w32 y) :=
  IntWalk.u32_in _ (by have := (BitVec.ofInt 32 x ^^^ BitVec.ofInt 32 y).isLt; constructor; exact Int.natCast_nonneg _; simp only [IntKind.bits]; omega)
@[go_sem ↓] theorem bits_xor_32 (x y : Int) : Op.intBits .xor .u32 x y = pure (.int .u32 (I32 (w32 x ^^^ w32 y))) := by rw [intBits_xor, bits_xor_32']
@[go_sem ↓] theorem unary_xor_32 (x : Int) : Op.unary .xor (.int .u32 x) = pure (.int .u32 (I32 (~~~ w32 x))) := by
  show Op.intBits .xor .u32 _ x = _
  rw [bits_xor_32]; congr 3
@[go_sem] theorem not_32 (x : UInt32) : w32 (IntKind.max .u32) ^^^ x = ~~~ x := by
  rw [show w32 (IntKind.max .u32) = -1 from rfl]; apply UInt32.eq_of_toBitVec_eq; simp
@[go_sem ↓] theorem conv_32 (x : Int) : Conv.intToInt .u32 x = pure (.int .u32 (I32 (w32 x))) := by rw [I32_w32]; rfl
theorem w32_shl (x : Int) (n : Nat) (h : n < 32) : w32 (x * 2 ^ n) = w32 x <<< UInt32.ofNat n := by
  apply UInt32.eq_of_toBitVec_eq
  simp only [w32, UInt32.toBitVec_shiftLeft]
  have e : ((UInt32.ofNat n).toBitVec % (32 : BitVec 32)) = BitVec.ofNat 32 n := by
    apply BitVec.eq_of_toNat_eq; simp; omega
  have e2 : BitVec.ofInt 32 (2 ^ n) = BitVec.twoPow 32 n := by
    apply BitVec.eq_of_toNat_eq; rw [BitVec.toNat_twoPow]; rw [show ((2 : Int) ^ n) = ((2 ^ n : Nat) : Int) from by simp, BitVec.ofInt_natCast, BitVec.toNat_ofNat]
  rw [BitVec.ofInt_mul, e, e2, BitVec.shiftLeft_eq', BitVec.mul_twoPow_eq_shiftLeft, BitVec.toNat_ofNat, Nat.mod_eq_of_lt (show n < 2 ^ 32 by omega)]
@[go_sem ↓] theorem shl_32 (x y : Int) (yk : IntKind) (h0 : 0 ≤ y) (h1 : y ≤ 31) : Op.shift .shl .u32 x yk y = pure (.int .u32 (I32 (w32 x <<< UInt32.ofNat y.toNat))) := by
  rw [shift_shl .u32 yk x y h0 (by simp [IntKind.bits]; omega), ← I32_w32, w32_shl _ _ (by omega)]
theorem I32_shr (x : UInt32) (n : Nat) (h : n < 32) : I32 x / 2 ^ n = I32 (x >>> UInt32.ofNat n) := by
  unfold I32; simp [Nat.shiftRight_eq_div_pow]; rw [Nat.mod_eq_of_lt h]
@[go_sem ↓] theorem shr_32 (x : UInt32) (y : Int) (yk : IntKind) (h0 : 0 ≤ y) (h1 : y ≤ 31) : Op.shift .shr .u32 (I32 x) yk y = pure (.int .u32 (I32 (x >>> UInt32.ofNat y.toNat))) := by
  rw [shift_shr .u32 yk _ y h0 (by simp [IntKind.bits]; omega), I32_shr _ _ (by omega)]
theorem I32_div (x y : UInt32) : I32 x / I32 y = I32 (x / y) := by unfold I32; simp
theorem I32_mod (x y : UInt32) : I32 x % I32 y = I32 (x % y) := by unfold I32; simp
theorem I32_lt (x y : UInt32) : I32 x < I32 y ↔ x < y := by unfold I32; rw [UInt32.lt_iff_toNat_lt]; omega
theorem I32_le (x y : UInt32) : I32 x ≤ I32 y ↔ x ≤ y := by unfold I32; rw [UInt32.le_iff_toNat_le]; omega
@[go_sem ↓] theorem wrap_32 (x : Int) : IntKind.wrap .u32 x = I32 (w32 x) := (I32_w32 x).symm
@[go_sem] theorem cast_32 (x : UInt32) : ((x.toNat : Nat) : Int) = I32 x := rfl
@[go_sem] theorem w32_lit (n : Nat) : w32 (no_index (@OfNat.ofNat Int n _)) = @OfNat.ofNat UInt32 n _ := by
  show w32 ((n : Nat) : Int) = _
  unfold w32; apply UInt32.eq_of_toBitVec_eq; rw [BitVec.ofInt_natCast]; rfl
theorem w32_nat (n : Nat) : w32 ((n : Nat) : Int) = UInt32.ofNat n := by
  unfold w32; apply UInt32.eq_of_toBitVec_eq; rw [BitVec.ofInt_natCast]; rfl
theorem w64_add (x y : Int) : w64 (x + y) = w64 x + w64 y := by unfold w64; apply UInt64.eq_of_toBitVec_eq; simp [BitVec.ofInt_add]
@[go_sem ↓] theorem arith_add_64 (x y : Int) : Op.intArith .add .u64 x y = pure (.int .u64 (I64 (w64 x + w64 y))) := by rw [← w64_add, I64_w64]; rfl
theorem w64_sub (x y : Int) : w64 (x - y) = w64 x - w64 y := by unfold w64; apply UInt64.eq_of_toBitVec_eq; simp [Int.sub_eq_add_neg, BitVec.ofInt_add, BitVec.ofInt_neg, BitVec.sub_eq_add_neg]
@[go_sem ↓] theorem arith_sub_64 (x y : Int) : Op.intArith .sub .u64 x y = pure (.int .u64 (I64 (w64 x - w64 y))) := by rw [← w64_sub, I64_w64]; rfl
theorem w64_mul (x y : Int) : w64 (x * y) = w64 x * w64 y := by unfold w64; apply UInt64.eq_of_toBitVec_eq; simp [BitVec.ofInt_mul]
@[go_sem ↓] theorem arith_mul_64 (x y : Int) : Op.intArith .mul .u64 x y = pure (.int .u64 (I64 (w64 x * w64 y))) := by rw [← w64_mul, I64_w64]; rfl
theorem bits_and_64' (x y : Int) : bits .and .u64 x y = I64 (w64 x &&& w64 y) :=
  IntWalk.u64_in _ (by have := (BitVec.ofInt 64 x &&& BitVec.ofInt 64 y).isLt; constructor; exact Int.natCast_nonneg _; simp only [IntKind.bits]; omega)
@[go_sem ↓] theorem bits_and_64 (x y : Int) : Op.intBits .and .u64 x y = pure (.int .u64 (I64 (w64 x &&& w64 y))) := by rw [intBits_and, bits_and_64']
theorem bits_or_64' (x y : Int) : bits .or .u64 x y = I64 (w64 x ||| w64 y) :=
  IntWalk.u64_in _ (by have := (BitVec.ofInt 64 x ||| BitVec.ofInt 64 y).isLt; constructor; exact Int.natCast_nonneg _; simp only [IntKind.bits]; omega)
@[go_sem ↓] theorem bits_or_64 (x y : Int) : Op.intBits .or .u64 x y = pure (.int .u64 (I64 (w64 x ||| w64 y))) := by rw [intBits_or, bits_or_64']
theorem bits_xor_64' (x y : Int) : bits .xor .u64 x y = I64 (w64 x ^^^ w64 y) :=
  IntWalk.u64_in _ (by have := (BitVec.ofInt 64 x ^^^ BitVec.ofInt 64 y).isLt; constructor; exact Int.natCast_nonneg _; simp only [IntKind.bits]; omega)
@[go_sem ↓] theorem bits_xor_64 (x y : Int) : Op.intBits .xor .u64 x y = pure (.int .u64 (I64 (w64 x ^^^ w64 y))) := by rw [intBits_xor, bits_xor_64']
@[go_sem ↓] theorem unary_xor_64 (x : Int) : Op.unary .xor (.int .u64 x) = pure (.int .u64 (I64 (~~~ w64 x))) := by
  show Op.intBits .xor .u64 _ x = _
  rw [bits_xor_64]; congr 3
@[go_sem] theorem not_64 (x : UInt64) : w64 (IntKind.max .u64) ^^^ x = ~~~ x := by
  rw [show w64 (IntKind.max .u64) = -1 from rfl]; apply UInt64.eq_of_toBitVec_eq; simp
@[go_sem ↓] theorem conv_64 (x : Int) : Conv.intToInt .u64 x = pure (.int .u64 (I64 (w64 x))) := by rw [I64_w64]; rfl
theorem w64_shl (x : Int) (n : Nat) (h : n < 64) : w64 (x * 2 ^ n) = w64 x <<< UInt64.ofNat n := by
  apply UInt64.eq_of_toBitVec_eq
  simp only [w64, UInt64.toBitVec_shiftLeft]
  have e : ((UInt64.ofNat n).toBitVec % (64 : BitVec 64)) = BitVec.ofNat 64 n := by
    apply BitVec.eq_of_toNat_eq; simp; omega
  have e2 : BitVec.ofInt 64 (2 ^ n) = BitVec.twoPow 64 n := by
    apply BitVec.eq_of_toNat_eq; rw [BitVec.toNat_twoPow]; rw [show ((2 : Int) ^ n) = ((2 ^ n : Nat) : Int) from by simp, BitVec.ofInt_natCast, BitVec.toNat_ofNat]
  rw [BitVec.ofInt_mul, e, e2, BitVec.shiftLeft_eq', BitVec.mul_twoPow_eq_shiftLeft, BitVec.toNat_ofNat, Nat.mod_eq_of_lt (show n < 2 ^ 64 by omega)]
@[go_sem ↓] theorem shl_64 (x y : Int) (yk : IntKind) (h0 : 0 ≤ y) (h1 : y ≤ 63) : Op.shift .shl .u64 x yk y = pure (.int .u64 (I64 (w64 x <<< UInt64.ofNat y.toNat))) := by
  rw [shift_shl .u64 yk x y h0 (by simp [IntKind.bits]; omega), ← I64_w64, w64_shl _ _ (by omega)]
theorem I64_shr (x : UInt64) (n : Nat) (h : n < 64) : I64 x / 2 ^ n = I64 (x >>> UInt64.ofNat n) := by
  unfold I64; simp [Nat.shiftRight_eq_div_pow]; rw [Nat.mod_eq_of_lt h]
@[go_sem ↓] theorem shr_64 (x : UInt64) (y : Int) (yk : IntKind) (h0 : 0 ≤ y) (h1 : y ≤ 63) : Op.shift .shr .u64 (I64 x) yk y = pure (.int .u64 (I64 (x >>> UInt64.ofNat y.toNat))) := by
  rw [shift_shr .u64 yk _ y h0 (by simp [IntKind.bits]; omega), I64_shr _ _ (by omega)]
theorem I64_div (x y : UInt64) : I64 x / I64 y = I64 (x / y) := by unfold I64; simp
theorem I64_mod (x y : UInt64) : I64 x % I64 y = I64 (x % y) := by unfold I64; simp
theorem I64_lt (x y : UInt64) : I64 x < I64 y ↔ x < y := by unfold I64; rw [UInt64.lt_iff_toNat_lt]; omega
theorem I64_le (x y : UInt64) : I64 x ≤ I64 y ↔ x ≤ y := by unfold I64; rw [UInt64.le_iff_toNat_le]; omega
@[go_sem ↓] theorem wrap_64 (x : Int) : IntKind.wrap .u64 x = I64 (w64 x) := (I64_w64 x).symm
@[go_sem] theorem cast_64 (x : UInt64) : ((x.toNat : Nat) : Int) = I64 x := rfl
@[go_sem] theorem w64_lit (n : Nat) : w64 (no_index (@OfNat.ofNat Int n _)) = @OfNat.ofNat UInt64 n _ := by
  show w64 ((n : Nat) : Int) = _
  unfold w64; apply UInt64.eq_of_toBitVec_eq; rw [BitVec.ofInt_natCast]; rfl
theorem w64_nat (n : Nat) : w64 ((n : Nat) : Int) = UInt64.ofNat n := by
  unfold w64; apply UInt64.eq_of_toBitVec_eq; rw [BitVec.ofInt_natCast]; rfl
@[go_sem] theorem w32_I8 (x : UInt8) : w32 (I8 x) = x.toUInt32 := by unfold I8; rw [w32_nat]; simp
@[go_sem] theorem w64_I8 (x : UInt8) : w64 (I8 x) = x.toUInt64 := by unfold I8; rw [w64_nat]; simp
@[go_sem] theorem w8_I32 (x : UInt32) : w8 (I32 x) = x.toUInt8 := by unfold I32; rw [w8_nat]; simp
@[go_sem] theorem w64_I32 (x : UInt32) : w64 (I32 x) = x.toUInt64 := by unfold I32; rw [w64_nat]; simp
@[go_sem] theorem w8_I64 (x : UInt64) : w8 (I64 x) = x.toUInt8 := by unfold I64; rw [w8_nat]; simp
@[go_sem] theorem w32_I64 (x : UInt64) : w32 (I64 x) = x.toUInt32 := by unfold I64; rw [w32_nat]; simp
end TL
end Go

/- Rows of cells in memory: a slice that the call owns, a slice that it sees; what append, slicing, len, indexing, string conversion and copy do to them. Conditions: each law names its own. -/
namespace Go
namespace TL
open Go.RowKit
/-! ### setCells: the frame -/
theorem size_setCells (b : Nat) : ∀ (vs : List Value) (o : Nat) (w : World), (w.setCells b o vs).heap.size = w.heap.size
  | [], _, _ => rfl
  | v :: r, o, w => by rw [World.setCells, size_setCells b r]; simp
theorem below_setCells {B b : Nat} (hb : B ≤ b) {a : World} : ∀ (vs : List Value) (o : Nat) (w : World), Below B a w → Below B a (w.setCells b o vs)
  | [], _, _, h => h
  | v :: r, o, w, h => by rw [World.setCells]; exact below_setCells hb r (o + 1) _ (h.setCell hb v)
theorem block_setCells (b : Nat) : ∀ (vs : List Value) (o : Nat) (w : World) (k : Nat), k ≠ b → (w.setCells b o vs).heap[k]? = w.heap[k]?
  | [], _, _, _, _ => rfl
  | v :: r, o, w, k, h => by rw [World.setCells, block_setCells b r _ _ k h]; exact Below.heap_setCell _ _ _ _ h
theorem tape_setCells (b : Nat) : ∀ (vs : List Value) (o : Nat) (w : World), (w.setCells b o vs).tape = w.tape
  | [], _, _ => rfl
  | v :: r, o, w => by rw [World.setCells, tape_setCells b r]; simp
theorem os_setCells (b : Nat) : ∀ (vs : List Value) (o : Nat) (w : World), (w.setCells b o vs).os = w.os
  | [], _, _ => rfl
  | v :: r, o, w => by rw [World.setCells, os_setCells b r]; rfl
theorem output_setCells (b : Nat) : ∀ (vs : List Value) (o : Nat) (w : World), (w.setCells b o vs).output = w.output
  | [], _, _ => rfl
  | v :: r, o, w => by rw [World.setCells, output_setCells b r]; rfl
theorem grownBy_setCells (w : World) (b o : Nat) (vs : List Value) : w.grownBy (w.setCells b o vs) (some b) :=
  ⟨os_setCells b vs o w, tape_setCells b vs o w, output_setCells b vs o w, Nat.le_of_eq (size_setCells b vs o w).symm, fun k _ hne => block_setCells b vs o w k (fun e => hne (by rw [e]))⟩
theorem grownBy_refl (w : World) (row : Option Nat) : w.grownBy w row := ⟨rfl, rfl, rfl, Nat.le_refl _, fun _ _ _ => rfl⟩
theorem grownBy_drew (w : World) (row : Option Nat) : w.grownBy w.drew row := ⟨rfl, rfl, rfl, Nat.le_refl _, fun _ _ _ => rfl⟩
theorem grownBy_trans {a b c : World} {row : Option Nat} (h : a.grownBy b row) (k : b.grownBy c row) : a.grownBy c row :=
  ⟨k.os.trans h.os, k.tape.trans h.tape, k.output.trans h.output, Nat.le_trans h.size k.size, fun i hi hne => (k.block i (Nat.lt_of_lt_of_le hi h.size) hne).trans (h.block i hi hne)⟩
theorem grownBy_setCell (w : World) (a : Addr) (v : Value) : w.grownBy (w.setCell a v) (some a.block) :=
  ⟨rfl, rfl, rfl, by simp, fun k _ hne => Below.heap_setCell _ _ _ _ (fun e => hne (by rw [e]))⟩
theorem grownBy_of_below {w w' : World} (h : Below w.heap.size w w') (row : Option Nat) : w.grownBy w' row :=
  ⟨h.os, h.tape, h.output, h.size, fun k hk _ => h.block k hk⟩
theorem below_of_grownBy {B : Nat} {w w' : World} {row : Option Nat} (h : w.grownBy w' row) (hB : B ≤ w.heap.size) (hr : ∀ k, row = some k → B ≤ k) : Below B w w' :=
  (Below.refl B w).grown h hB hr
/-! ### ranges -/
theorem rangeAt_of_block {w w' : World} {g o : Nat} {xs : List Value} (h : w.rangeAt g o xs) (hb : w'.heap[g]? = w.heap[g]?) : w'.rangeAt g o xs := fun j v hv => by
  rw [World.cell?_of_block (w := w) (w' := w') (a := ⟨g, o + j, none⟩) hb]; exact h j v hv
theorem there_of_block {w w' : World} {g o n : Nat} (h : w.there g o n) (hb : w'.heap[g]? = w.heap[g]?) : w'.there g o n := fun j hj => by
  rw [World.cell?_of_block (w := w) (w' := w') (a := ⟨g, o + j, none⟩) hb, World.frozen?_of_block (w := w) (w' := w') (a := ⟨g, o + j, none⟩) hb]; exact h j hj
theorem rangeAt_take {w : World} {g o : Nat} {xs : List Value} (h : w.rangeAt g o xs) (k : Nat) : w.rangeAt g o (xs.take k) := fun j v hv => by
  rw [List.getElem?_take] at hv; split at hv
  · exact h j v hv
  · cases hv
theorem rangeAt_drop {w : World} {g o : Nat} {xs : List Value} (h : w.rangeAt g o xs) (k : Nat) : w.rangeAt g (o + k) (xs.drop k) := fun j v hv => by
  rw [List.getElem?_drop] at hv; rw [Nat.add_assoc]; exact h _ v hv
theorem there_mono {w : World} {g o n m : Nat} (h : w.there g o n) (hm : m ≤ n) : w.there g o m := fun j hj => h j (by omega)
theorem there_drop {w : World} {g o n : Nat} (h : w.there g o n) (k : Nat) : w.there g (o + k) (n - k) := fun j hj => by
  rw [Nat.add_assoc]; exact h (k + j) (by omega)
theorem rangeAt_nil (w : World) (g o : Nat) : w.rangeAt g o [] := fun j v hv => by simp at hv
theorem rangeAt_append {w : World} {g o : Nat} {xs ys : List Value} (h : w.rangeAt g o xs) (k : w.rangeAt g (o + xs.length) ys) : w.rangeAt g o (xs ++ ys) := fun j v hv => by
  rw [List.getElem?_append] at hv; split at hv
  · exact h j v hv
  · have := k (j - xs.length) v hv; rw [show o + xs.length + (j - xs.length) = o + j by omega] at this; exact this
theorem rangeAt_setCell_same {w : World} {g o : Nat} {xs : List Value} (h : w.rangeAt g o xs) (i : Nat) (hi : i < xs.length) (u : Value) : (w.setCell ⟨g, o + i, none⟩ u).rangeAt g o (xs.set i u) := fun j v hv => by
  by_cases e : i = j
  · subst e; rw [List.getElem?_set_self hi] at hv; cases hv
    exact World.cell?_setCell_same _ _ _ (h i _ (List.getElem?_eq_getElem hi))
  · rw [List.getElem?_set_ne e] at hv
    rw [World.cell?_setCell_other _ _ _ _ (by intro e2; injection e2; omega)]; exact h j v hv
theorem rangeAt_setCell_apart {w : World} {g o : Nat} {xs : List Value} (h : w.rangeAt g o xs) (a : Addr) (ha : a.block ≠ g ∨ a.off < o ∨ o + xs.length ≤ a.off) (u : Value) : (w.setCell a u).rangeAt g o xs := fun j v hv => by
  have hj : j < xs.length := (List.getElem?_eq_some_iff.1 hv).1
  rw [World.cell?_setCell_other _ _ _ _ (by intro e; subst e; simp at ha; omega)]; exact h j v hv
theorem there_setCell {w : World} {g o n : Nat} (h : w.there g o n) (a : Addr) (u : Value) : (w.setCell a u).there g o n := fun j hj => by
  obtain ⟨h1, h2⟩ := h j hj
  refine ⟨?_, by rw [World.frozen?_setCell]; exact h2⟩
  obtain ⟨x, hx⟩ := Option.isSome_iff_exists.1 h1
  by_cases e : a = ⟨g, o + j, none⟩
  · subst e; rw [World.cell?_setCell_same _ _ _ hx]; rfl
  · rw [World.cell?_setCell_other _ _ _ _ e, hx]; rfl
theorem rangeAt_new (w : World) (C : Array Value) (t : TypeId) (fr : Nat × Nat) : (w.alloc (.cells C t fr)).rangeAt w.heap.size 0 C.toList := fun j v hv => by
  rw [World.cell?_alloc_mark, Nat.zero_add]; simpa using hv
theorem there_new (w : World) (C : Array Value) (t : TypeId) (n : Nat) (hn : n ≤ C.size) : (w.alloc (.cells C t)).there w.heap.size 0 n := fun j hj => by
  refine ⟨?_, World.frozen?_alloc_new _ _ _ _⟩
  rw [World.cell?_alloc_new, Array.getElem?_eq_getElem (by omega)]; rfl
theorem rangeAt.lt {w : World} {g o : Nat} {xs : List Value} (h : w.rangeAt g o xs) (hx : xs ≠ []) : g < w.heap.size := by
  cases xs with
  | nil => exact absurd rfl hx
  | cons a r => exact World.block_lt_of_cell? _ _ (h 0 a rfl)
/-! ### a slice that is seen; a slice that is owned -/
/-- The slice value 'v' has 'n' elements of 'size' cells each, which read 'xs'. -/
def Sees (w : World) (size : Nat) (v : Value) (n : Nat) (xs : List Value) : Prop :=
  xs.length = n * size ∧ ((v = .slice none 0 0 ∧ n = 0) ∨ ∃ g o cap, v = .slice (some ⟨g, o, none⟩) n cap ∧ g < w.heap.size ∧ n ≤ cap ∧ cap ≤ maxLen ∧ w.rangeAt g o xs)
/-- The same, and it lies in a block from 'base' on, up to its capacity not frozen. -/
def Own (w : World) (base size : Nat) (v : Value) (n : Nat) (xs : List Value) : Prop :=
  xs.length = n * size ∧ ((v = .slice none 0 0 ∧ n = 0) ∨ ∃ g o cap, v = .slice (some ⟨g, o, none⟩) n cap ∧ base ≤ g ∧ g < w.heap.size ∧ n ≤ cap ∧ cap ≤ maxLen ∧ w.rangeAt g o xs ∧ w.there g o (cap * size))
theorem Own.sees {w : World} {base size : Nat} {v : Value} {n : Nat} {xs : List Value} (h : Own w base size v n xs) : Sees w size v n xs :=
  ⟨h.1, h.2.imp id fun ⟨g, o, cap, hv, _, hg, hn, hc, hr, _⟩ => ⟨g, o, cap, hv, hg, hn, hc, hr⟩⟩
theorem Own_nil (w : World) (base size : Nat) : Own w base size (.slice none 0 0) 0 [] := ⟨by simp, .inl ⟨rfl, rfl⟩⟩
theorem Sees_nil (w : World) (size : Nat) : Sees w size (.slice none 0 0) 0 [] := ⟨by simp, .inl ⟨rfl, rfl⟩⟩
section
variable {w w' : World} {base size : Nat} {v : Value} {n : Nat} {xs : List Value}
theorem Own.kept {row : Option Nat} (h : Own w base size v n xs) (hg : w.grownBy w' row) (hne : v.ownBlock = none ∨ v.ownBlock ≠ row) : Own w' base size v n xs := by
  refine ⟨h.1, h.2.imp id ?_⟩
  rintro ⟨g, o, cap, rfl, hb, hlt, hn, hc, hr, ht⟩
  have e : w'.heap[g]? = w.heap[g]? := hg.block g hlt (by simpa [Value.ownBlock] using hne)
  exact ⟨g, o, cap, rfl, hb, Nat.lt_of_lt_of_le hlt hg.size, hn, hc, rangeAt_of_block hr e, there_of_block ht e⟩
theorem Sees.kept {row : Option Nat} (h : Sees w size v n xs) (hg : w.grownBy w' row) (hne : v.ownBlock = none ∨ v.ownBlock ≠ row) : Sees w' size v n xs := by
  refine ⟨h.1, h.2.imp id ?_⟩
  rintro ⟨g, o, cap, rfl, hlt, hn, hc, hr⟩
  have e : w'.heap[g]? = w.heap[g]? := hg.block g hlt (by simpa [Value.ownBlock] using hne)
  exact ⟨g, o, cap, rfl, Nat.lt_of_lt_of_le hlt hg.size, hn, hc, rangeAt_of_block hr e⟩
theorem Own.below (h : Own w base size v n xs) (hb : Below w.heap.size w w') : Own w' base size v n xs :=
  h.kept (grownBy_of_below hb none) (by cases v.ownBlock <;> simp)
theorem Sees.below (h : Sees w size v n xs) (hb : Below w.heap.size w w') : Sees w' size v n xs :=
  h.kept (grownBy_of_below hb none) (by cases v.ownBlock <;> simp)
theorem Own.mono {b' : Nat} (h : Own w base size v n xs) (hb : b' ≤ base) : Own w b' size v n xs :=
  ⟨h.1, h.2.imp id fun ⟨g, o, cap, hv, h1, h2⟩ => ⟨g, o, cap, hv, by omega, h2⟩⟩
theorem Own.alloc (h : Own w base size v n xs) (o : Obj) : Own (w.alloc o) base size v n xs :=
  h.below ((Below.refl _ _).alloc (Nat.le_refl _) o)
theorem Sees.alloc (h : Sees w size v n xs) (o : Obj) : Sees (w.alloc o) size v n xs :=
  h.below ((Below.refl _ _).alloc (Nat.le_refl _) o)
theorem Own.drew (h : Own w base size v n xs) : Own w.drew base size v n xs := h
theorem Sees.drew (h : Sees w size v n xs) : Sees w.drew size v n xs := h
theorem Own.setCell (h : Own w base size v n xs) (a : Addr) (ha : v.ownBlock ≠ some a.block) (u : Value) : Own (w.setCell a u) base size v n xs :=
  h.kept (grownBy_setCell w a u) (.inr ha)
theorem Sees.setCell (h : Sees w size v n xs) (a : Addr) (ha : v.ownBlock ≠ some a.block) (u : Value) : Sees (w.setCell a u) size v n xs :=
  h.kept (grownBy_setCell w a u) (.inr ha)
theorem Own.base_le (h : Own w base size v n xs) {g : Nat} (hg : v.ownBlock = some g) : base ≤ g ∧ g < w.heap.size := by
  rcases h.2 with ⟨rfl, _⟩ | ⟨g', o, cap, rfl, hb, hlt, _⟩
  · simp [Value.ownBlock] at hg
  · simp [Value.ownBlock] at hg; subst hg; exact ⟨hb, hlt⟩
theorem Sees.len_le (h : Sees w size v n xs) : n ≤ maxLen := by
  rcases h.2 with ⟨_, rfl⟩ | ⟨_, _, _, _, _, h1, h2, _⟩
  · exact Nat.zero_le _
  · exact Nat.le_trans h1 h2
/-- The shape: a slice. -/
theorem Sees.form (h : Sees w size v n xs) : ∃ a cap, v = .slice a n cap ∧ n ≤ cap := by
  rcases h.2 with ⟨rfl, rfl⟩ | ⟨g, o, cap, rfl, _, h1, _⟩
  · exact ⟨none, 0, rfl, Nat.le_refl _⟩
  · exact ⟨_, cap, rfl, h1⟩
variable {P : Program}
/-- len(v). -/
theorem Sees.run_len (h : Sees w size v n xs) (t e ty : TypeId) (ht : P.underlying t = some (.slice e)) : ∀ w'' : World, (Builtin.len_ #[t] ty #[v]).run P w'' = .ok (.int .i64 (n : Int)) w'' := fun w'' => by
  obtain ⟨a, cap, rfl, _⟩ := h.form
  simp [Builtin.len_, run_underlying ht, goInt]
/-- The first cells: as append, copy read them. -/
theorem Sees.run_lenOf (h : Sees w size v n xs) : ∀ w'' : World, (Builtin.lenOf v).run P w'' = .ok n w'' := fun w'' => by
  obtain ⟨a, cap, rfl, _⟩ := h.form
  simp [Builtin.lenOf]
theorem run_loadCells_mid {g o : Nat} (h : w.rangeAt g o xs) : (loadCells ⟨g, o, none⟩ xs.length).run P w = .ok xs.toArray w :=
  run_loadCells_list (P := P) w ⟨g, o, none⟩ xs (fun j v hv => by rw [Addr.add_mid]; exact h j v hv)
theorem Sees.run_firstCells (h : Sees w size v n xs) (m : Nat) (hm : m ≤ n) : (Builtin.firstCells size m v).run P w = .ok (xs.take (m * size)).toArray w := by
  have hl : (xs.take (m * size)).length = m * size := by
    rw [List.length_take, h.1]; exact Nat.min_eq_left (Nat.mul_le_mul_right _ hm)
  rcases h.2 with ⟨rfl, rfl⟩ | ⟨g, o, cap, rfl, _, _, _, hr⟩
  · have : m = 0 := by omega
    subst this; simp [Builtin.firstCells]
  · simp only [Builtin.firstCells]
    have := run_loadCells_mid (P := P) (rangeAt_take hr (m * size))
    rwa [hl] at this
theorem run_storeCells_mid {g o : Nat} (vs : List Value) (ht : w.there g o vs.length) (h1 : ∀ u ∈ vs, u.oneCell' = true) : (storeCells ⟨g, o, none⟩ vs).run P w = .ok () (w.setCells g o vs) := by
  have := run_storeCells_cells (P := P) g o vs 0 w (fun j hj => by simpa using (ht j hj).1) (fun j hj => by simpa using (ht j hj).2) h1
  simpa using this
/-- A slice type: its element's type, cells and bytes. -/
structure SliceT (P : Program) (t e : TypeId) (size bytes : Nat) : Prop where
  ht : P.underlying t = some (.slice e)
  hi : ∃ i z, P.info? e = some i ∧ i.zero = some z ∧ i.size = size ∧ i.bytes = bytes ∧ z.cells.size = size
  hsz : 0 < size
/-- What append and copy read: 'm' elements, the cells 'news'. -/
def Src (P : Program) (w : World) (size : Nat) (x : Value) (m : Nat) (news : List Value) : Prop :=
  news.length = m * size ∧ (∀ q ∈ news, q.oneCell' = true) ∧ (∀ w'' : World, (Builtin.lenOf x).run P w'' = .ok m w'') ∧
    (∀ (w'' : World) (k : Nat), k ≤ m → w.grownBy w'' none → (Builtin.firstCells size k x).run P w'' = .ok (news.take (k * size)).toArray w'')
theorem Src_of_sees {x : Value} {m : Nat} {news : List Value} (h : Sees w size x m news) (h1 : ∀ q ∈ news, q.oneCell' = true) : Src P w size x m news :=
  ⟨h.1, h1, h.run_lenOf, fun w'' k hk hg => (h.kept hg (by cases x.ownBlock <;> simp)).run_firstCells k hk⟩
/-- append(v, x): the appended cells 'news' are read by whatever the second operand is. -/
theorem run_append_any (base : Nat) (t u ty e : TypeId) (size bytes : Nat) (T : SliceT P t e size bytes) (hu : P.underlying u = some .string ∨ ∃ e', P.underlying u = some (.slice e'))
    (v : Value) (n : Nat) (xs : List Value) (hown : Own w base size v n xs)
    (x : Value) (m : Nat) (news : List Value) (hsrc : Src P w size x m news)
    (h63 : n + m ≤ maxLen) (hbytes : (n + m) * bytes ≤ 140737488355328) (hbase : base ≤ w.heap.size) :
    ∃ v' w', (Builtin.append_ #[t, u] ty #[v, x]).run P w = .ok v' w' ∧ Own w' base size v' (n + m) (xs ++ news) ∧ w.grownBy w' v.ownBlock ∧
      (v'.ownBlock = v.ownBlock ∨ v'.ownBlock = some w.heap.size) ∧ (v = .slice none 0 0 → m = 0 → v' = .slice none 0 0 ∧ w' = w) := by
  obtain ⟨ht, ⟨i, z, hi, hz, hsize, hby, hzs⟩, hsz⟩ := T
  obtain ⟨hl, h1, hlen, hfirst'⟩ := hsrc
  have hfirst : ∀ w'' : World, w.grownBy w'' none → (Builtin.firstCells size m x).run P w'' = .ok news.toArray w'' := fun w'' hg => by
    have := hfirst' w'' m (Nat.le_refl _) hg
    rwa [← hl, List.take_length] at this
  clear hfirst'
  obtain ⟨du, hu, hui⟩ : ∃ du, P.underlying u = some du ∧ (du = .string ∨ ∃ e', du = .slice e') := by
    rcases hu with hu | ⟨e', hu⟩
    · exact ⟨_, hu, .inl rfl⟩
    · exact ⟨_, hu, .inr ⟨e', rfl⟩⟩
  subst hsize; subst hby
  have hlen2 : (xs ++ news).length = (n + m) * i.size := by rw [List.length_append, hown.1, hl, Nat.add_mul]
  have h0 := hfirst w (grownBy_refl w none)
  obtain ⟨a, sCap, hv, hnc⟩ := hown.sees.form
  by_cases hroom : n + m ≤ sCap
  · -- there is room
    rcases hown.2 with ⟨rfl, hn0⟩ | ⟨g, o, cap, rfl, hbg, hlt, hnc', hcm, hr, hth⟩
    · have hc0 : sCap = 0 := by injection hv with _ _ h3; exact h3.symm
      have hm0 : m = 0 := by omega
      subst hn0; subst hm0
      have hn : news = [] := List.eq_nil_of_length_eq_zero (by simpa using hl)
      have hx : xs = [] := List.eq_nil_of_length_eq_zero (by simpa using hown.1)
      subst hn; subst hx
      refine ⟨.slice none 0 0, w, ?_, Own_nil w base i.size, grownBy_refl _ _, .inl rfl, fun _ _ => ⟨rfl, rfl⟩⟩
      rcases hui with rfl | ⟨e', rfl⟩ <;> simp [Builtin.append_, run_underlying ht, run_underlying hu, sizeOf, typeInfo, hi, hlen, h0]
    · have hc : sCap = cap := by injection hv with _ _ h3; exact h3.symm
      subst hc
      have hthn : w.there g (o + n * i.size) news.length := by
        have := there_drop hth (n * i.size)
        refine there_mono this ?_
        rw [hl, ← Nat.sub_mul]; exact Nat.mul_le_mul_right _ (by omega)
      have hst := run_storeCells_mid (P := P) news hthn h1
      refine ⟨.slice (some ⟨g, o, none⟩) (n + m) sCap, w.setCells g (o + n * i.size) news, ?_, ⟨hlen2, .inr ⟨g, o, sCap, rfl, hbg, by rw [size_setCells]; exact hlt, hroom, hcm, ?_, ?_⟩⟩, grownBy_setCells _ _ _ _, .inl rfl, fun h => by cases h⟩
      · rcases hui with rfl | ⟨e', rfl⟩ <;> simp [Builtin.append_, run_underlying ht, run_underlying hu, sizeOf, typeInfo, hi, hlen, h0, hroom, Addr.add_mid, hst]
      · refine rangeAt_append (World.rangeAt_setCells_apart hr _ _ _ (.inr (.inl (by rw [hown.1]; omega)))) ?_
        rw [hown.1]; exact World.rangeAt_setCells_same _ _ _ _ hthn
      · exact World.there_setCells hth _ _ _
  · -- it grows
    have hgrow : sCap < n + m := by omega
    have h63' : ¬ (9223372036854775807 < ((n : Int) + (m : Int))) := by simp only [maxLen] at h63; omega
    have h48' : ¬ (281474976710656 < Builtin.nextslicecap (n + m) sCap * i.bytes) := by have := growslice_fits hgrow hbytes; omega
    have hold : (Builtin.firstCells i.size n v).run P w.drew = .ok xs.toArray w.drew := by
      have := Sees.run_firstCells (P := P) (hown.sees.drew) n (Nat.le_refl _)
      rwa [← hown.1, List.take_length] at this
    have hnew := hfirst w.drew (grownBy_drew w none)
    have hge := grownCap_ge w (n + m) sCap e
    have hcm : grownCap w (n + m) sCap e ≤ maxLen := grownCap_le_maxLen w (n + m) sCap e h63
    have hsizeC : (xs.toArray ++ news.toArray ++ Builtin.zeroCells z.cells (grownCap w (n + m) sCap e - (n + m))).size = grownCap w (n + m) sCap e * i.size := by
      simp only [Array.size_append, List.size_toArray, size_zeroCells, hzs, hown.1, hl, ← Nat.add_mul]
      congr 1; omega
    refine ⟨.slice (some ⟨w.heap.size, 0, none⟩) (n + m) (grownCap w (n + m) sCap e), w.drew.alloc (.cells (xs.toArray ++ news.toArray ++ Builtin.zeroCells z.cells (grownCap w (n + m) sCap e - (n + m))) e), ?_,
      ⟨hlen2, .inr ⟨w.heap.size, 0, _, rfl, hbase, by simp, hge, hcm, ?_, there_new w.drew _ _ _ (Nat.le_of_eq hsizeC.symm)⟩⟩, ⟨rfl, rfl, rfl, by simp, fun k hk _ => Below.heap_alloc w.drew _ k hk⟩, .inr rfl, fun hv0 hm0 => ?_⟩
    · subst hv
      have hnr : ¬ (n + m ≤ sCap) := by omega
      rcases hui with rfl | ⟨e', rfl⟩ <;> simp [Builtin.append_, run_underlying ht, run_underlying hu, sizeOf, typeInfo, zeroValue, hi, hz, hlen, hnr, h63', h48', Question.forced, hold, hnew, newRow, grownCap]
      all_goals (congr 2; apply Array.ext'; simp [List.append_assoc])
    · have := rangeAt_new w.drew (xs.toArray ++ news.toArray ++ Builtin.zeroCells z.cells (grownCap w (n + m) sCap e - (n + m))) e (0, 0)
      have h2 := rangeAt_take this ((n + m) * i.size)
      simp only [Array.toList_append] at h2
      rw [← hlen2, List.take_left' rfl] at h2
      exact h2
    · subst hv0; injection hv with _ h2 h3; omega
/-- At the operation; at a plain region's list; at a step of a region that draws. -/
theorem wp_append {o : Oper} {a : Act} {K : Act → World → Prop} {Q : Exit → Act → World → Prop} {t e : TypeId} {size bytes : Nat} (T : SliceT P t e size bytes) (s x : Operand) (u : TypeId)
    (ho : o.op = .call { callee := .builtin .append, args := #[s, x], argTypes := #[t, u] }) (hu : P.underlying u = some .string ∨ ∃ e', P.underlying u = some (.slice e'))
    (base : Nat) (v : Value) (n : Nat) (xs : List Value) (hs : a.eval s = v) (hown : Own w base size v n xs)
    (xv : Value) (m : Nat) (news : List Value) (hx : a.eval x = xv) (hsrc : Src P w size xv m news)
    (h63 : n + m ≤ maxLen) (hbytes : (n + m) * bytes ≤ 140737488355328) (hbase : base ≤ w.heap.size)
    (h : ∀ v' w', Own w' base size v' (n + m) (xs ++ news) → w.grownBy w' v.ownBlock → (v'.ownBlock = v.ownBlock ∨ v'.ownBlock = some w.heap.size) → (v = .slice none 0 0 → m = 0 → v' = .slice none 0 0 ∧ w' = w) → K (a.put o.dst v') w') : o.wp P a w K Q := by
  obtain ⟨v', w', hr, h2, h3, h4, h5⟩ := run_append_any (P := P) (w := w) base t u o.type e size bytes T hu v n xs hown xv m news hsrc h63 hbytes hbase
  unfold Oper.wp execOp
  simp only [ho, resolve, invoke, builtin, Sem.run_bind, Sem.run_pure, Result.andThen_ok, List.map_toArray, List.map_cons, List.map_nil, hs, hx, hr]
  exact h v' w' h2 h3 h4 h5
theorem wpList_append {ops : Array Oper} {rest : List Oper} {o : Oper} {a : Act} {Q : Exit → Act → World → Prop} {t e : TypeId} {size bytes : Nat} (T : SliceT P t e size bytes) (hgd : o.guard = none) (s x : Operand) (u : TypeId)
    (ho : o.op = .call { callee := .builtin .append, args := #[s, x], argTypes := #[t, u] }) (hu : P.underlying u = some .string ∨ ∃ e', P.underlying u = some (.slice e'))
    (base : Nat) (v : Value) (n : Nat) (xs : List Value) (hs : a.eval s = v) (hown : Own w base size v n xs)
    (xv : Value) (m : Nat) (news : List Value) (hx : a.eval x = xv) (hsrc : Src P w size xv m news)
    (h63 : n + m ≤ maxLen) (hbytes : (n + m) * bytes ≤ 140737488355328) (hbase : base ≤ w.heap.size)
    (h : ∀ v' w', Own w' base size v' (n + m) (xs ++ news) → w.grownBy w' v.ownBlock → (v'.ownBlock = v.ownBlock ∨ v'.ownBlock = some w.heap.size) → (v = .slice none 0 0 → m = 0 → v' = .slice none 0 0 ∧ w' = w) → wpList P ops Q rest (a.put o.dst v') w') : wpList P ops Q (o :: rest) a w :=
  wpList_plain hgd fun _ hK => wp_append T s x u ho hu base v n xs hs hown xv m news hx hsrc h63 hbytes hbase fun v' w' h2 h3 h4 h5 => hK _ _ (h v' w' h2 h3 h4 h5)
theorem step_append {ops : Array Oper} {o : Oper} {a : Act} {K : Act → World → Prop} {Q : Exit → Act → World → Prop} {E : Prop} {t e : TypeId} {size bytes : Nat} (T : SliceT P t e size bytes) (hgd : o.guard = none) (s x : Operand) (u : TypeId)
    (ho : o.op = .call { callee := .builtin .append, args := #[s, x], argTypes := #[t, u] }) (hu : P.underlying u = some .string ∨ ∃ e', P.underlying u = some (.slice e'))
    (base : Nat) (v : Value) (n : Nat) (xs : List Value) (hs : a.eval s = v) (hown : Own w base size v n xs)
    (xv : Value) (m : Nat) (news : List Value) (hx : a.eval x = xv) (hsrc : Src P w size xv m news)
    (h63 : n + m ≤ maxLen) (hbytes : (n + m) * bytes ≤ 140737488355328) (hbase : base ≤ w.heap.size)
    (h : ∀ v' w', Own w' base size v' (n + m) (xs ++ news) → w.grownBy w' v.ownBlock → (v'.ownBlock = v.ownBlock ∨ v'.ownBlock = some w.heap.size) → (v = .slice none 0 0 → m = 0 → v' = .slice none 0 0 ∧ w' = w) → K (a.put o.dst v') w') :
    if Region.wanted o (yielded ops a.tmps) = true then Oper.wp P o a w K Q else E := by
  have hw : Region.wanted o (yielded ops a.tmps) = true := by simp [Region.wanted, hgd]
  rw [if_pos hw]
  exact wp_append T s x u ho hu base v n xs hs hown xv m news hx hsrc h63 hbytes hbase h
/-! ### slicing -/
/-- v[l:h]. -/
def cutV (size : Nat) (v : Value) (l h : Nat) : Value :=
  match v with
  | .slice a _ cap => .slice (if cap = l then a else a.map (·.add (l * size))) (h - l) (cap - l)
  | v => v
theorem ownBlock_cutV (v : Value) (l h : Nat) : (cutV size v l h).ownBlock = v.ownBlock := by
  cases v <;> try rfl
  rename_i a n cap
  simp only [cutV]
  cases a with
  | none => simp [Value.ownBlock]
  | some a =>
    by_cases h : cap = l
    · simp [Value.ownBlock, h]
    · simp only [h, if_false, Option.map_some, Value.ownBlock, Addr.add]; split <;> rfl
theorem cut_parts {g o cap l : Nat} : ∃ o', (if cap = l then some (⟨g, o, none⟩ : Addr) else some ((⟨g, o, none⟩ : Addr).add (l * size))) = some ⟨g, o', none⟩ ∧ (cap = l ∨ o' = o + l * size) := by
  by_cases h : cap = l
  · exact ⟨o, by rw [if_pos h], .inl h⟩
  · exact ⟨o + l * size, by rw [if_neg h, Addr.add_mid], .inr rfl⟩
theorem Own.cut (h : Own w base size v n xs) (l k : Nat) (hl : l ≤ k) (hk : k ≤ n) : Own w base size (cutV size v l k) (k - l) ((xs.take (k * size)).drop (l * size)) := by
  refine ⟨?_, ?_⟩
  · rw [List.length_drop, List.length_take, h.1, Nat.min_eq_left (Nat.mul_le_mul_right _ hk), Nat.sub_mul]
  · rcases h.2 with ⟨rfl, rfl⟩ | ⟨g, o, cap, rfl, hb, hlt, hn, hc, hr, ht⟩
    · left; have : k = 0 := by omega
      have : l = 0 := by omega
      subst_vars; exact ⟨rfl, rfl⟩
    · right
      obtain ⟨o', ho', hor⟩ := cut_parts (size := size) (g := g) (o := o) (cap := cap) (l := l)
      refine ⟨g, o', cap - l, by simp only [cutV, Option.map_some]; rw [ho'], hb, hlt, by omega, by omega, ?_, ?_⟩
      · rcases hor with hor | rfl
        · have e1 : k = l := by omega
          subst e1
          have : (List.take (k * size) xs).drop (k * size) = [] := List.drop_eq_nil_of_le (List.length_take_le _ _)
          rw [this]; exact rangeAt_nil _ _ _
        · exact rangeAt_drop (rangeAt_take hr _) _
      · rcases hor with hor | rfl
        · have e1 : cap - l = 0 := by omega
          rw [e1, Nat.zero_mul]; intro j hj; omega
        · rw [Nat.sub_mul]; exact there_drop ht _
theorem Sees.cut (h : Sees w size v n xs) (l k : Nat) (hl : l ≤ k) (hk : k ≤ n) : Sees w size (cutV size v l k) (k - l) ((xs.take (k * size)).drop (l * size)) := by
  refine ⟨?_, ?_⟩
  · rw [List.length_drop, List.length_take, h.1, Nat.min_eq_left (Nat.mul_le_mul_right _ hk), Nat.sub_mul]
  · rcases h.2 with ⟨rfl, rfl⟩ | ⟨g, o, cap, rfl, hlt, hn, hc, hr⟩
    · left; have : k = 0 := by omega
      have : l = 0 := by omega
      subst_vars; exact ⟨rfl, rfl⟩
    · right
      obtain ⟨o', ho', hor⟩ := cut_parts (size := size) (g := g) (o := o) (cap := cap) (l := l)
      refine ⟨g, o', cap - l, by simp only [cutV, Option.map_some]; rw [ho'], hlt, by omega, by omega, ?_⟩
      rcases hor with hor | rfl
      · have e1 : k = l := by omega
        subst e1
        have : (List.take (k * size) xs).drop (k * size) = [] := List.drop_eq_nil_of_le (List.length_take_le _ _)
        rw [this]; exact rangeAt_nil _ _ _
      · exact rangeAt_drop (rangeAt_take hr _) _
/-- The runs: v[l:], v[:k], v[l:k]. -/
theorem Sees.run_cut_lo (h : Sees w size v n xs) {t e : TypeId} {bytes : Nat} (T : SliceT P t e size bytes) (l : Int) (h0 : 0 ≤ l) (h1 : l ≤ n) :
    ∀ w'' : World, (Instr.sliceAt t v (some (.int .i64 l)) none none).run P w'' = .ok (cutV size v l.toNat n) w'' := fun w'' => by
  obtain ⟨ht, ⟨i, z, hi, hz, hsize, hby, hzs⟩, hsz⟩ := T
  obtain ⟨a, cap, rfl, hnc⟩ := h.form
  obtain ⟨l, rfl⟩ := Int.eq_ofNat_of_zero_le h0
  have h1' : l ≤ n := by omega
  simp [Instr.sliceAt, Instr.slice, Instr.sliceBounds, Instr.sliceBound, run_underlying ht, asIntOf, sizeOf, typeInfo, hi, hsize, cutV, h1']
theorem Sees.run_cut_hi (h : Sees w size v n xs) {t e : TypeId} {bytes : Nat} (T : SliceT P t e size bytes) (k : Int) (h0 : 0 ≤ k) (h1 : k ≤ n) :
    ∀ w'' : World, (Instr.sliceAt t v none (some (.int .i64 k)) none).run P w'' = .ok (cutV size v 0 k.toNat) w'' := fun w'' => by
  obtain ⟨ht, ⟨i, z, hi, hz, hsize, hby, hzs⟩, hsz⟩ := T
  obtain ⟨a, cap, rfl, hnc⟩ := h.form
  obtain ⟨k, rfl⟩ := Int.eq_ofNat_of_zero_le h0
  have h1' : k ≤ cap := by omega
  simp [Instr.sliceAt, Instr.slice, Instr.sliceBounds, Instr.sliceBound, run_underlying ht, asIntOf, sizeOf, typeInfo, hi, cutV, h1']
theorem Sees.run_cut (h : Sees w size v n xs) {t e : TypeId} {bytes : Nat} (T : SliceT P t e size bytes) (l k : Int) (h0 : 0 ≤ l) (hlk : l ≤ k) (h1 : k ≤ n) :
    ∀ w'' : World, (Instr.sliceAt t v (some (.int .i64 l)) (some (.int .i64 k)) none).run P w'' = .ok (cutV size v l.toNat k.toNat) w'' := fun w'' => by
  obtain ⟨ht, ⟨i, z, hi, hz, hsize, hby, hzs⟩, hsz⟩ := T
  obtain ⟨a, cap, rfl, hnc⟩ := h.form
  obtain ⟨l, rfl⟩ := Int.eq_ofNat_of_zero_le h0
  obtain ⟨k, rfl⟩ := Int.eq_ofNat_of_zero_le (Int.le_trans h0 hlk)
  have h1' : k ≤ cap := by omega
  have h2' : l ≤ k := by omega
  simp [Instr.sliceAt, Instr.slice, Instr.sliceBounds, Instr.sliceBound, run_underlying ht, asIntOf, sizeOf, typeInfo, hi, hsize, cutV, h1', h2']
/-! ### bytes -/
/-- A byte's cell. -/
def vb (b : UInt8) : Value := .int .u8 (I8 b)
theorem vb_one (l : List UInt8) : ∀ q ∈ l.map vb, q.oneCell' = true := by
  intro q hq; obtain ⟨b, _, rfl⟩ := List.mem_map.1 hq; rfl
abbrev OwnB (w : World) (base : Nat) (v : Value) (l : List UInt8) : Prop := Own w base 1 v l.length (l.map vb)
abbrev SeesB (w : World) (v : Value) (l : List UInt8) : Prop := Sees w 1 v l.length (l.map vb)
theorem SeesB.src {l : List UInt8} (h : SeesB w v l) : Src P w 1 v l.length (l.map vb) := Src_of_sees h (vb_one l)
theorem Src_string (w : World) (s : ByteArray) : Src P w 1 (.string s) s.size (s.data.toList.map vb) := by
  refine ⟨by simp only [List.length_map, Array.length_toList, Nat.mul_one]; rfl, vb_one _, fun w'' => by simp [Builtin.lenOf], fun w'' k hk _ => ?_⟩
  simp only [Builtin.firstCells, Nat.mul_one]
  show Result.ok _ _ = _
  congr 1
  apply Array.ext'
  simp only [Array.toList_map, ByteArray.data_extract, Array.toList_extract, List.extract, List.drop_zero, Nat.sub_zero, List.map_take]
  rfl
theorem OwnB.cut {l : List UInt8} (h : OwnB w base v l) (i k : Nat) (hi : i ≤ k) (hk : k ≤ l.length) : OwnB w base (cutV 1 v i k) ((l.take k).drop i) := by
  have := Own.cut h i k hi hk
  simp only [Nat.mul_one, ← List.map_take, ← List.map_drop] at this
  show Own w base 1 _ ((l.take k).drop i).length _
  rw [show ((l.take k).drop i).length = k - i by simp; omega]; exact this
theorem SeesB.cut {l : List UInt8} (h : SeesB w v l) (i k : Nat) (hi : i ≤ k) (hk : k ≤ l.length) : SeesB w (cutV 1 v i k) ((l.take k).drop i) := by
  have := Sees.cut h i k hi hk
  simp only [Nat.mul_one, ← List.map_take, ← List.map_drop] at this
  show Sees w 1 _ ((l.take k).drop i).length _
  rw [show ((l.take k).drop i).length = k - i by simp; omega]; exact this
/-- string(v). -/
theorem SeesB.run_string {l : List UInt8} (h : SeesB w v l) (src dst e : TypeId) (hs : P.underlying src = some (.slice e)) (he : P.underlying e = some (.int .u8)) (hd : P.underlying dst = some .string) :
    ∀ w'' : World, w.grownBy w'' none → (convert src dst v).run P w'' = .ok (.string ⟨l.toArray⟩) w'' := fun w'' hg => by
  have h' := h.kept hg (by cases v.ownBlock <;> simp)
  rcases h'.2 with ⟨rfl, hn⟩ | ⟨g, o, cap, rfl, _, _, _, hr⟩
  · have : l = [] := List.eq_nil_of_length_eq_zero hn
    subst this
    rw [run_convert_bytes_string w'' src dst e none 0 0 hs he hd]
    rfl
  · exact run_convert_bytes_back w'' src dst e ⟨g, o, none⟩ cap l hs he hd (fun j hj => by
      rw [Addr.add_mid]; exact hr j _ (by simp [vb, I8, List.getElem?_eq_getElem hj]))
/-- A cell of it. -/
theorem Sees.cell (h : Sees w size v n xs) {g o cap : Nat} (hv : v = .slice (some ⟨g, o, none⟩) n cap) (j : Nat) (u : Value) (hu : xs[j]? = some u) : w.cell? ⟨g, o + j, none⟩ = some u := by
  rcases h.2 with ⟨rfl, _⟩ | ⟨g', o', cap', rfl, _, _, _, hr⟩
  · cases hv
  · injection hv with h1 h2 h3; injection h1 with h1; injection h1 with h4 h5 h6; subst h4; subst h5; exact hr j u hu
end
end TL
end Go

/- What all walks of this seat lean on: the slice types of the program as the memory laws want them; growth over several steps. No conditions but those each lemma names. -/
namespace Go
namespace TL
open Go.RowKit
/-- The value's block is as it was, or a new one. -/
def FreshOr (w : World) (v v' : Value) : Prop := v'.ownBlock = v.ownBlock ∨ ∃ g, v'.ownBlock = some g ∧ w.heap.size ≤ g
theorem FreshOr.refl (w : World) (v : Value) : FreshOr w v v := .inl rfl
theorem grow_step {w wr w2 : World} {v bv : Value} (h : w.grownBy wr v.ownBlock) (hf : FreshOr w v bv) (k : wr.grownBy w2 bv.ownBlock) : w.grownBy w2 v.ownBlock := by
  refine ⟨k.os.trans h.os, k.tape.trans h.tape, k.output.trans h.output, Nat.le_trans h.size k.size, fun i hi hne => ?_⟩
  refine (k.block i (Nat.lt_of_lt_of_le hi h.size) ?_).trans (h.block i hi hne)
  rcases hf with hf | ⟨g, hg, hge⟩
  · rw [hf]; exact hne
  · rw [hg]; intro e; injection e; omega
theorem fresh_step {w wr : World} {v bv bv' : Value} (hs : w.heap.size ≤ wr.heap.size) (hf : FreshOr w v bv) (k : bv'.ownBlock = bv.ownBlock ∨ bv'.ownBlock = some wr.heap.size) : FreshOr w v bv' := by
  rcases k with k | k
  · rcases hf with hf | ⟨g, hg, hge⟩
    · exact .inl (k.trans hf)
    · exact .inr ⟨g, k.trans hg, hge⟩
  · exact .inr ⟨_, k, hs⟩
theorem grow_alloc {w wr : World} {row : Option Nat} (h : w.grownBy wr row) (o : Obj) : w.grownBy (wr.alloc o) row :=
  grownBy_trans h (World.grownBy_alloc wr o row)
/-- A freshly laid row of bytes, as append reads it. -/
theorem Src_new {P : Program} (w : World) (t : TypeId) (l : List UInt8) (v : Value) (hv : v = .slice (some ⟨w.heap.size, 0, none⟩) l.length l.length) (hl : l.length ≤ maxLen) :
    Src P (w.alloc (.cells (l.map vb).toArray t)) 1 v l.length (l.map vb) := by
  refine Src_of_sees ⟨by simp, .inr ⟨w.heap.size, 0, l.length, hv, by simp, Nat.le_refl _, hl, ?_⟩⟩ (vb_one l)
  exact rangeAt_new w _ t (0, 0)
/-- append(v, b..) of bytes that were laid into a new row of their own just ahead. -/
theorem wp_append_new {P : Program} {o : Oper} {a : Act} {K : Act → World → Prop} {Q : Exit → Act → World → Prop} {t e : TypeId} (T : SliceT P t e 1 1) (s x : Operand)
    (ho : o.op = .call { callee := .builtin .append, args := #[s, x], argTypes := #[t, t] })
    (base : Nat) (W : World) (bs : List UInt8) (C : Array Value) (t' : TypeId) (hC : C = (bs.map vb).toArray) (v : Value) (l : List UInt8) (hs : a.eval s = v) (hown : OwnB W base v l)
    (hx : a.eval x = .slice (some ⟨W.heap.size, 0, none⟩) bs.length bs.length) (hlen : l.length + bs.length ≤ 100000000000000) (hbase : base ≤ W.heap.size)
    (h : ∀ v' w', OwnB w' base v' (l ++ bs) → W.grownBy w' v.ownBlock → FreshOr W v v' → K (a.put o.dst v') w') : o.wp P a (W.alloc (.cells C t')) K Q := by
  subst hC
  refine wp_append T s x t ho (.inr ⟨e, T.ht⟩) base v l.length (l.map vb) hs (hown.alloc _) _ bs.length (bs.map vb) hx (Src_new W t' bs _ rfl (by simp only [maxLen]; omega)) (by simp only [maxLen]; omega) (by omega) (by simp; omega) ?_
  intro v' w' h1 h2 h3 _
  refine h v' w' (by simpa [OwnB, List.map_append] using h1) (grownBy_trans (World.grownBy_alloc W _ _) h2) ?_
  rcases h3 with h3 | h3
  · exact .inl h3
  · exact .inr ⟨_, h3, by simp⟩
theorem wpList_append_new {P : Program} {ops : Array Oper} {rest : List Oper} {o : Oper} {a : Act} {Q : Exit → Act → World → Prop} {t e : TypeId} (T : SliceT P t e 1 1) (hgd : o.guard = none) (s x : Operand)
    (ho : o.op = .call { callee := .builtin .append, args := #[s, x], argTypes := #[t, t] })
    (base : Nat) (W : World) (bs : List UInt8) (C : Array Value) (t' : TypeId) (hC : C = (bs.map vb).toArray) (v : Value) (l : List UInt8) (hs : a.eval s = v) (hown : OwnB W base v l)
    (hx : a.eval x = .slice (some ⟨W.heap.size, 0, none⟩) bs.length bs.length) (hlen : l.length + bs.length ≤ 100000000000000) (hbase : base ≤ W.heap.size)
    (h : ∀ v' w', OwnB w' base v' (l ++ bs) → W.grownBy w' v.ownBlock → FreshOr W v v' → wpList P ops Q rest (a.put o.dst v') w') : wpList P ops Q (o :: rest) a (W.alloc (.cells C t')) :=
  wpList_plain hgd fun _ hK => wp_append_new T s x ho base W bs C t' hC v l hs hown hx hlen hbase fun v' w' h2 h3 h4 => hK _ _ (h v' w' h2 h3 h4)
theorem step_append_new {P : Program} {ops : Array Oper} {o : Oper} {a : Act} {K : Act → World → Prop} {Q : Exit → Act → World → Prop} {E : Prop} {t e : TypeId} (T : SliceT P t e 1 1) (hgd : o.guard = none) (s x : Operand)
    (ho : o.op = .call { callee := .builtin .append, args := #[s, x], argTypes := #[t, t] })
    (base : Nat) (W : World) (bs : List UInt8) (C : Array Value) (t' : TypeId) (hC : C = (bs.map vb).toArray) (v : Value) (l : List UInt8) (hs : a.eval s = v) (hown : OwnB W base v l)
    (hx : a.eval x = .slice (some ⟨W.heap.size, 0, none⟩) bs.length bs.length) (hlen : l.length + bs.length ≤ 100000000000000) (hbase : base ≤ W.heap.size)
    (h : ∀ v' w', OwnB w' base v' (l ++ bs) → W.grownBy w' v.ownBlock → FreshOr W v v' → K (a.put o.dst v') w') :
    if Region.wanted o (yielded ops a.tmps) = true then Oper.wp P o a (W.alloc (.cells C t')) K Q else E := by
  have hw : Region.wanted o (yielded ops a.tmps) = true := by simp [Region.wanted, hgd]
  rw [if_pos hw]
  exact wp_append_new T s x ho base W bs C t' hC v l hs hown hx hlen hbase h
theorem fresh_trans {w wr : World} {v bv bv' : Value} (hs : w.heap.size ≤ wr.heap.size) (hf : FreshOr w v bv) (k : FreshOr wr bv bv') : FreshOr w v bv' := by
  rcases k with k | ⟨g, hg, hge⟩
  · rcases hf with hf | ⟨g, hg, hge⟩
    · exact .inl (k.trans hf)
    · exact .inr ⟨g, k.trans hg, hge⟩
  · exact .inr ⟨g, hg, Nat.le_trans hs hge⟩
/-- A struct or an array is built: the value that it comes to is a closed fact. -/
theorem wpList_built {P : Program} {ops : Array Oper} {rest : List Oper} {o : Oper} {a : Act} {w : World} {Q : Exit → Act → World → Prop} (hgd : o.guard = none) (t : TypeId) (parts : Array (Nat × Operand)) (ho : o.op = .build t parts)
    (v : Value) (hrun : (Instr.build t (parts.map fun (i, x) => (i, a.eval x))).run P w = .ok v w)
    (h : wpList P ops Q rest (a.put o.dst v) w) : wpList P ops Q (o :: rest) a w :=
  wpList_plain hgd fun _ hK => by
    unfold Oper.wp execOp
    simp only [ho, Sem.run_bind, hrun, Result.andThen_ok]
    exact hK _ _ h
/-- A result that lies in a range of cells. -/
theorem results_row {P : Program} {fn : Func} {p : Tmp} {ty : TypeId} (h : fn.results = #[.cell p ty]) (tmps : Array Value) (w : World) (b o : Nat) (cs : List Value) (d : TypeDesc)
    (hp : tmps.getD p undef = .pointer (some ⟨b, o, none⟩)) (hc : w.rangeAt b o cs) (hu : P.underlying ty = some d) (hd : d.isRow = true) (hi : (P.info? ty).map (·.size) = some cs.length) :
    (results fn tmps).run P w = .ok (.agg cs.toArray) w := by
  have hp' : tmps[p]?.getD undef = .pointer (some ⟨b, o, none⟩) := by simpa using hp
  simp [results, h, hp', asAddr, run_loadVar_mid w b o ty cs d hc hu hd hi]
/-- A whole array is stored into a range of cells. -/
theorem wpList_putRow {P : Program} {ops : Array Oper} {rest : List Oper} {op : Oper} {a : Act} {w : World} {Q : Exit → Act → World → Prop} (hgd : op.guard = none) (ty : TypeId) (x y : Operand) (ho : op.op = .store ty x y)
    (b o : Nat) (cells : List Value) (hx : a.eval x = .pointer (some ⟨b, o, none⟩)) (hy : a.eval y = .agg cells.toArray)
    (ht : w.there b o cells.length) (hi : (P.info? ty).map (·.size) = some cells.length) (h1 : ∀ v ∈ cells, v.oneCell' = true)
    (h : wpList P ops Q rest (a.put op.dst undef) (w.setCells b o cells)) : wpList P ops Q (op :: rest) a w :=
  wpList_store_mid hgd ty x y ho b o cells.toArray hx hy (by simpa using ht) (by simpa using hi) (all_oneCell_toArray h1) (by simpa using h)
end TL
end Go
namespace Go.Proofs.Ytoaabclemeibhaa
open Go.RowKit Go.TL
set_option maxRecDepth 1000000 in
theorem bytesT : SliceT Try.prog 41 5 1 1 := ⟨Try.underlying41, ⟨_, _, rfl, rfl, rfl, rfl, rfl⟩, by omega⟩
theorem uB : Try.prog.underlying 41 = some .string ∨ ∃ e', Try.prog.underlying 41 = some (.slice e') := .inr ⟨_, Try.underlying41⟩
theorem uS : Try.prog.underlying 9 = some .string ∨ ∃ e', Try.prog.underlying 9 = some (.slice e') := .inl Try.underlying9
end Go.Proofs.Ytoaabclemeibhaa

/- A region that draws its order, walked in one order: where every operation that writes waits for all that reads ahead of it, and what may come on either side of it hangs on the frame alone, whatever order is drawn comes to the same. Conditions: the check 'detOk', by computation; no operation panics. -/
namespace Go
namespace TL
/-! ### What hangs on the frame alone -/
/-- Where it comes to a value, it leaves the world, and comes to that value in every world. -/
def LocalOk {α : Type} (P : Program) (s : Sem α) : Prop := ∀ w v w1, s.run P w = .ok v w1 → w1 = w ∧ ∀ w', s.run P w' = .ok v w'
theorem LocalOk.pure {α : Type} {P : Program} (v : α) : LocalOk P (pure v : Sem α) := by
  intro w u w1 h; cases h; exact ⟨rfl, fun _ => rfl⟩
theorem LocalOk.halt {α : Type} {P : Program} (h : Halt) : LocalOk P (.halt h : Sem α) := by
  intro w u w1 h; cases h
theorem LocalOk.program {P : Program} : LocalOk P program := by
  intro w u w1 h; cases h; exact ⟨rfl, fun _ => rfl⟩
theorem LocalOk.bind {α β : Type} {P : Program} {s : Sem α} {f : α → Sem β} (h : LocalOk P s) (k : ∀ v, LocalOk P (f v)) : LocalOk P (s >>= f) := by
  intro w u w1 hr
  rw [Sem.run_bind] at hr
  cases hs : s.run P w with
  | ok v w2 =>
    rw [hs] at hr
    obtain ⟨rfl, h2⟩ := h _ _ _ hs
    obtain ⟨rfl, h3⟩ := k v _ _ _ hr
    exact ⟨rfl, fun w' => by rw [Sem.run_bind, h2 w']; exact h3 w'⟩
  | halt x w2 => rw [hs] at hr; cases hr
theorem LocalOk.map {α β : Type} {P : Program} {s : Sem α} {f : α → β} (h : LocalOk P s) : LocalOk P (Functor.map f s) := by
  have : Functor.map f s = s >>= fun v => Pure.pure (f v) := rfl
  rw [this]; exact h.bind fun v => LocalOk.pure _
theorem LocalOk.stuck {α : Type} {P : Program} (s : String) : LocalOk P (stuck s : Sem α) := LocalOk.halt _
theorem LocalOk.unsupported {α : Type} {P : Program} (s : Unsupported) : LocalOk P (unsupported s : Sem α) := LocalOk.halt _
theorem LocalOk.goPanic {α : Type} {P : Program} (v : Value) : LocalOk P (goPanic v : Sem α) := LocalOk.halt _
/-- What never comes to a value. -/
def NeverOk {α : Type} (P : Program) (s : Sem α) : Prop := ∀ w v w1, s.run P w ≠ .ok v w1
theorem NeverOk.local {α : Type} {P : Program} {s : Sem α} (h : NeverOk P s) : LocalOk P s := fun w v w1 hr => absurd hr (h w v w1)
theorem NeverOk.bind {α β : Type} {P : Program} {s : Sem α} {f : α → Sem β} (k : ∀ v, NeverOk P (f v)) : NeverOk P (s >>= f) := by
  intro w u w1 hr
  rw [Sem.run_bind] at hr
  cases hs : s.run P w with
  | ok v w2 => rw [hs] at hr; exact k v _ _ _ hr
  | halt x w2 => rw [hs] at hr; cases hr
theorem NeverOk.goPanic {α : Type} {P : Program} (v : Value) : NeverOk P (goPanic v : Sem α) := by intro w u w1 h; cases h
theorem NeverOk.runtimePanic {α : Type} {P : Program} (e : RuntimeError) : NeverOk P (runtimePanic e : Sem α) := by
  unfold Go.runtimePanic
  refine NeverOk.bind fun p => ?_
  cases e <;> first | exact NeverOk.goPanic _ | (refine NeverOk.bind fun _ => ?_; first | exact NeverOk.goPanic _ | (refine NeverOk.bind fun _ => ?_; exact NeverOk.goPanic _))
theorem NeverOk.boundsPanic {α : Type} {P : Program} (k : IntKind) (x y : Int) (c : BoundsCode) : NeverOk P (boundsPanic k x y c : Sem α) := by
  unfold Go.boundsPanic
  dsimp only
  split <;> exact NeverOk.bind fun _ => NeverOk.runtimePanic _
theorem LocalOk.boundsPanic {α : Type} {P : Program} (k : IntKind) (x y : Int) (c : BoundsCode) : LocalOk P (boundsPanic k x y c : Sem α) := (NeverOk.boundsPanic k x y c).local
theorem LocalOk.runtimePanic {α : Type} {P : Program} (e : RuntimeError) : LocalOk P (runtimePanic e : Sem α) := (NeverOk.runtimePanic e).local
theorem LocalOk.typeInfo {P : Program} (t : TypeId) : LocalOk P (typeInfo t) := by
  unfold Go.typeInfo; refine LocalOk.program.bind fun p => ?_; split
  · exact LocalOk.pure _
  · exact LocalOk.stuck _
theorem LocalOk.underlying {P : Program} (t : TypeId) : LocalOk P (underlying t) := by
  unfold Go.underlying; refine LocalOk.program.bind fun p => ?_; split
  · exact LocalOk.pure _
  · exact LocalOk.stuck _
theorem LocalOk.sizeOf {P : Program} (t : TypeId) : LocalOk P (sizeOf t) := by
  unfold Go.sizeOf; exact (LocalOk.typeInfo t).bind fun _ => LocalOk.pure _
theorem LocalOk.isAgg {P : Program} (t : TypeId) : LocalOk P (isAgg t) := by
  unfold Go.isAgg; refine (LocalOk.underlying t).bind fun d => ?_; split <;> exact LocalOk.pure _
theorem LocalOk.part {P : Program} (t : TypeId) (cs : Array Value) (o : Nat) : LocalOk P (part t cs o) := by
  unfold Go.part; refine (LocalOk.isAgg t).bind fun b => ?_; split
  · exact (LocalOk.sizeOf t).bind fun _ => LocalOk.pure _
  · split
    · exact LocalOk.pure _
    · exact LocalOk.stuck _
theorem LocalOk.sureAddr {P : Program} (v : Value) : LocalOk P (Instr.sureAddr v) := by
  unfold Instr.sureAddr; split
  · exact LocalOk.pure _
  · exact LocalOk.stuck _
theorem LocalOk.asIntOf {P : Program} (v : Value) : LocalOk P (asIntOf v) := by
  unfold Go.asIntOf; split
  · exact LocalOk.pure _
  · exact LocalOk.unsupported _
  · exact LocalOk.stuck _
theorem LocalOk.asBool {P : Program} (v : Value) : LocalOk P (asBool v) := by
  unfold Go.asBool; split
  · exact LocalOk.pure _
  · exact LocalOk.stuck _
theorem LocalOk.asAgg {P : Program} (v : Value) : LocalOk P (asAgg v) := by
  unfold Go.asAgg; split
  · exact LocalOk.pure _
  · exact LocalOk.stuck _
theorem LocalOk.asAddr {P : Program} (v : Value) : LocalOk P (asAddr v) := by
  unfold Go.asAddr; split
  · exact LocalOk.pure _
  · exact LocalOk.runtimePanic _
  · exact LocalOk.stuck _
theorem LocalOk.indexAt {P : Program} (t : TypeId) (x i : Value) : LocalOk P (Instr.indexAt t x i) := by
  unfold Instr.indexAt
  dsimp only
  repeat' (first | exact LocalOk.pure _ | exact LocalOk.stuck _ | exact LocalOk.unsupported _ | exact LocalOk.boundsPanic _ _ _ _ | exact LocalOk.sureAddr _ | exact LocalOk.asIntOf _ | exact LocalOk.underlying _ | exact LocalOk.sizeOf _ | split | refine LocalOk.bind ?_ (fun _ => ?_))
theorem LocalOk.index {P : Program} (t : TypeId) (x i : Value) : LocalOk P (Instr.index t x i) := by
  unfold Instr.index
  refine (LocalOk.asIntOf _).bind fun ki => ?_
  refine (LocalOk.underlying _).bind fun d => ?_
  split
  · split
    · exact (LocalOk.sizeOf _).bind fun _ => LocalOk.part _ _ _
    · exact LocalOk.boundsPanic _ _ _ _
  · split
    · exact LocalOk.pure _
    · exact LocalOk.boundsPanic _ _ _ _
  · exact LocalOk.stuck _
theorem LocalOk.sliceBound {P : Program} (x : Value) (y : Nat) (c : BoundsCode) : LocalOk P (Instr.sliceBound x y c) := by
  unfold Instr.sliceBound
  dsimp only
  repeat' (first | exact LocalOk.pure _ | exact LocalOk.stuck _ | exact LocalOk.boundsPanic _ _ _ _ | exact LocalOk.asIntOf _ | split | refine LocalOk.bind ?_ (fun _ => ?_))
theorem LocalOk.sliceBounds {P : Program} (b : Bool) (n c : Nat) (lo hi mx : Option Value) : LocalOk P (Instr.sliceBounds b n c lo hi mx) := by
  unfold Instr.sliceBounds
  dsimp only
  repeat' (first | exact LocalOk.pure _ | exact LocalOk.stuck _ | exact LocalOk.sliceBound _ _ _ | split | refine LocalOk.bind ?_ (fun _ => ?_))
theorem LocalOk.slice {P : Program} (t : TypeId) (x : Value) (lo hi mx : Option Value) : LocalOk P (Instr.slice t x lo hi mx) := by
  unfold Instr.slice
  dsimp only
  repeat' (first | exact LocalOk.pure _ | exact LocalOk.stuck _ | exact LocalOk.sliceBounds _ _ _ _ _ _ | exact LocalOk.underlying _ | exact LocalOk.sizeOf _ | exact LocalOk.asAddr _ | split | refine LocalOk.bind ?_ (fun _ => ?_))
theorem LocalOk.sliceAt {P : Program} (t : TypeId) (x : Value) (lo hi mx : Option Value) : LocalOk P (Instr.sliceAt t x lo hi mx) := by
  unfold Instr.sliceAt
  dsimp only
  repeat' (first | exact LocalOk.pure _ | exact LocalOk.slice _ _ _ _ _ | exact LocalOk.sliceBounds _ _ _ _ _ _ | exact LocalOk.underlying _ | exact LocalOk.sizeOf _ | exact LocalOk.sureAddr _ | split | refine LocalOk.bind ?_ (fun _ => ?_))
theorem LocalOk.field {P : Program} (t : TypeId) (x : Value) (f : Nat) : LocalOk P (Instr.field t x f) := by
  unfold Instr.field
  repeat' (first | exact LocalOk.pure _ | exact LocalOk.stuck _ | exact LocalOk.underlying _ | exact LocalOk.asAgg _ | exact LocalOk.part _ _ _ | split | refine LocalOk.bind ?_ (fun _ => ?_))
theorem LocalOk.extract {P : Program} (x : Value) (f : Nat) : LocalOk P (Instr.extract x f) := by
  unfold Instr.extract
  repeat' (first | exact LocalOk.pure _ | exact LocalOk.stuck _ | split)
theorem LocalOk.makeInterface {P : Program} (t : TypeId) (x : Value) : LocalOk P (Instr.makeInterface t x) := by
  unfold Instr.makeInterface
  repeat' (first | exact LocalOk.pure _ | exact LocalOk.stuck _ | exact LocalOk.underlying _ | split | refine LocalOk.bind ?_ (fun _ => ?_))
theorem LocalOk.unary {P : Program} (op : UnOp) (x : Value) : LocalOk P (Op.unary op x) := by
  unfold Op.unary
  split <;> first | exact LocalOk.pure _ | exact LocalOk.unsupported _ | exact LocalOk.stuck _ | exact LocalOk.pure _
/-- A field's address, where the field has cells. -/
theorem LocalOk.fieldAt {P : Program} (s : TypeId) (x : Value) (f : Nat) (h : (match P.underlying s with | some (.struct fs) => (match fs[f]? with | some fd => ((P.info? fd.type).map (·.size)) != some 0 | none => false) | _ => false) = true) : LocalOk P (Instr.fieldAt s x f) := by
  unfold Instr.fieldAt
  intro w v w1 hr
  split at h
  · rename_i fs hu
    split at h
    · rename_i fd hf
      simp only [Sem.run_bind, run_underlying hu, Result.andThen_ok, hf] at hr ⊢
      have L : LocalOk P ((do let a ← Instr.sureAddr x; Pure.pure (Value.pointer (some (← fieldPlace a fd)))) : Sem Value) := by
        refine (LocalOk.sureAddr x).bind fun a => LocalOk.bind ?_ fun _ => LocalOk.pure _
        unfold fieldPlace
        intro w v w1 hr
        cases hi : P.info? fd.type with
        | none => simp [Go.sizeOf, Go.typeInfo, hi] at hr
        | some i =>
          simp [hi] at h
          simp [Go.sizeOf, Go.typeInfo, hi, h] at hr ⊢
          exact ⟨hr.2.symm, hr.1⟩
      have := L w v w1 (by simpa only [Sem.run_bind] using hr)
      simpa only [Sem.run_bind] using this
    · cases h
  · cases h
theorem LocalOk.shift {P : Program} (op : BinOp) (k : IntKind) (x : Int) (yk : IntKind) (y : Int) : LocalOk P (Op.shift op k x yk y) := by
  unfold Op.shift
  repeat' (first | exact LocalOk.pure _ | exact LocalOk.stuck _ | exact LocalOk.runtimePanic _ | split)
theorem LocalOk.intDiv {P : Program} (op : BinOp) (k : IntKind) (x y : Int) : LocalOk P (Op.intDiv op k x y) := by
  unfold Op.intDiv
  repeat' (first | exact LocalOk.pure _ | exact LocalOk.stuck _ | exact LocalOk.runtimePanic _ | split)
theorem LocalOk.intArith {P : Program} (op : BinOp) (k : IntKind) (x y : Int) : LocalOk P (Op.intArith op k x y) := by
  unfold Op.intArith
  repeat' (first | exact LocalOk.pure _ | exact LocalOk.stuck _ | split)
theorem LocalOk.intCmp {P : Program} (op : BinOp) (x y : Int) : LocalOk P (Op.intCmp op x y) := by
  unfold Op.intCmp
  repeat' (first | exact LocalOk.pure _ | exact LocalOk.stuck _ | split)
theorem LocalOk.intBits {P : Program} (op : BinOp) (k : IntKind) (x y : Int) : LocalOk P (Op.intBits op k x y) := by
  unfold Op.intBits
  dsimp only
  repeat' (first | exact LocalOk.pure _ | exact LocalOk.stuck _ | split)
theorem LocalOk.stringOp {P : Program} (op : BinOp) (x y : ByteArray) : LocalOk P (Op.stringOp op x y) := by
  unfold Op.stringOp
  dsimp only
  repeat' (first | exact LocalOk.pure _ | exact LocalOk.stuck _ | exact LocalOk.unsupported _ | split)
/-- Two numbers, or two strings. -/
def plainPair : Value → Value → Bool
  | .int _ _, .int _ _ => true
  | .string _, .string _ => true
  | _, _ => false
theorem LocalOk.binOp {P : Program} (op : BinOp) (t : TypeId) (x y : Value) (h : plainPair x y = true) : LocalOk P (binOp op t x y) := by
  cases x <;> cases y <;> simp [plainPair] at h
  · cases op <;> simp only [Go.binOp] <;>
      repeat' (first | exact LocalOk.shift _ _ _ _ _ | exact LocalOk.intArith _ _ _ _ | exact LocalOk.intDiv _ _ _ _ | exact LocalOk.intBits _ _ _ _ | exact LocalOk.intCmp _ _ _ | exact LocalOk.stuck _ | split)
  · cases op <;> simp only [Go.binOp] <;> exact LocalOk.stringOp _ _ _
theorem LocalOk.eqGuard {P : Program} (op : BinOp) (t : TypeId) (x y : Operand) (a b : Value) (h : plainPair a b = true) : LocalOk P (eqGuard op t x y a b) := by
  cases a <;> cases b <;> simp [plainPair] at h <;> (unfold Go.eqGuard; dsimp only; repeat' (first | exact LocalOk.pure _ | split | refine LocalOk.bind ?_ (fun _ => ?_)))
/-- A number turned to a number. -/
def isIntV : Value → Bool
  | .int _ _ => true
  | _ => false
theorem LocalOk.convert {P : Program} (src dst : TypeId) (x : Value) (h : isIntV x = true) (hd : (match P.underlying dst with | some (.int _) => true | _ => false) = true) : LocalOk P (convert src dst x) := by
  cases x <;> simp [isIntV] at h
  unfold Go.convert
  split at hd
  · rename_i k hk
    intro w v w1 hr
    cases hs : P.underlying src with
    | none => simp [Go.underlying, hs] at hr
    | some ds =>
      simp only [Sem.run_bind, run_underlying hs, run_underlying hk, Result.andThen_ok] at hr ⊢
      have : LocalOk P (Conv.intToInt k ‹Int›) := LocalOk.pure _
      cases ds <;> exact this _ _ _ hr
  · cases hd
/-- len of a string, a slice, an array. -/
def lenAble (P : Program) (ats : Array TypeId) : Bool :=
  match ats[0]? with
  | some t => (match P.underlying t with | some .string => true | some (.slice _) => true | some (.array _ _) => true | _ => false)
  | none => false
theorem LocalOk.len {P : Program} (ats : Array TypeId) (ty : TypeId) (args : Array Value) (h : lenAble P ats = true) : LocalOk P (Builtin.len_ ats ty args) := by
  intro w v w1 hr
  unfold lenAble at h
  cases ht : ats[0]? with
  | none => simp [ht] at h
  | some t =>
    cases hx : args[0]? with
    | none => simp only [Builtin.len_, ht, hx] at hr; cases hr
    | some x =>
      cases hs : P.underlying t with
      | none => simp [ht, hs] at h
      | some d =>
        simp only [Builtin.len_, ht, hx, Sem.run_bind, run_underlying hs, Result.andThen_ok] at hr ⊢
        cases d <;> simp [ht, hs] at h <;> cases x <;> first | (cases hr; done) | (cases hr; exact ⟨rfl, fun _ => rfl⟩)
/-! ### Arrays of numbers, compared -/
theorem LocalOk.of_same {α : Type} {P : Program} {s t : Sem α} (e : ∀ w, s.run P w = t.run P w) (h : LocalOk P t) : LocalOk P s := fun w v w1 hr => by
  rw [e] at hr
  obtain ⟨h1, h2⟩ := h w v w1 hr
  exact ⟨h1, fun w' => by rw [e]; exact h2 w'⟩
theorem LocalOk.bindOf {α β : Type} {P : Program} {s : Sem α} {f : α → Sem β} (R : α → Prop) (h : LocalOk P s) (hR : ∀ w v w1, s.run P w = .ok v w1 → R v) (k : ∀ v, R v → LocalOk P (f v)) : LocalOk P (s >>= f) := by
  intro w u w1 hr
  rw [Sem.run_bind] at hr
  cases hs : s.run P w with
  | ok v w2 =>
    rw [hs] at hr
    have hv := hR _ _ _ hs
    obtain ⟨rfl, h2⟩ := h _ _ _ hs
    obtain ⟨rfl, h3⟩ := k v hv _ _ _ hr
    exact ⟨rfl, fun w' => by rw [Sem.run_bind, h2 w']; exact h3 w'⟩
  | halt x w2 => rw [hs] at hr; cases hr
def numsV : Value → Bool
  | .agg cs => cs.all isIntV
  | _ => false
def boolV : Value → Bool
  | .bool _ => true
  | _ => false
/-- An array of whole numbers. -/
def intRow (P : Program) (t : TypeId) : Bool :=
  match P.underlying t with
  | some (.array _ e) => (match P.underlying e with | some (.int _) => true | _ => false) && !(P.eqGuardType P.depth t)
  | _ => false
theorem part_int {P : Program} {e : TypeId} {k : IntKind} (he : P.underlying e = some (.int k)) {cs : Array Value} (h : cs.all isIntV = true) (o : Nat) : ∀ w v w1, (part e cs o).run P w = .ok v w1 → isIntV v = true := by
  intro w v w1 hr
  simp only [part, isAgg, Sem.run_bind, run_underlying he, Result.andThen_ok, Sem.run_pure] at hr
  simp only [Bool.false_eq_true, if_false] at hr
  cases hc : cs[o]? with
  | none => simp [hc] at hr
  | some x =>
    simp only [hc, Sem.run_pure] at hr
    rw [Array.all_eq_true_iff_forall_mem] at h
    have hx := h x (Array.mem_of_getElem? hc)
    cases hr
    exact hx
theorem LocalOk.equalInt {P : Program} {e : TypeId} {k : IntKind} (he : P.underlying e = some (.int k)) (d : Nat) (x y : Value) (hx : isIntV x = true) (hy : isIntV y = true) : LocalOk P (Op.equalIn (d + 1) e x y) := by
  cases x <;> simp [isIntV] at hx
  cases y <;> simp [isIntV] at hy
  unfold Op.equalIn
  refine LocalOk.bindOf (fun d => d = .int k) (LocalOk.underlying e) (fun w v w1 hr => by rw [run_underlying he] at hr; cases hr; rfl) fun v hv => ?_
  subst hv
  dsimp only
  split <;> first | exact LocalOk.pure _ | exact LocalOk.stuck _
theorem LocalOk.eqItems {P : Program} {e : TypeId} {k : IntKind} (he : P.underlying e = some (.int k)) (d c : Nat) (xs ys : Array Value) (hx : xs.all isIntV = true) (hy : ys.all isIntV = true) : ∀ is : List Nat, LocalOk P (Op.eqItems (d + 1) e c xs ys is)
  | [] => LocalOk.pure _
  | i :: is => by
    unfold Op.eqItems
    refine LocalOk.bindOf _ (LocalOk.part _ _ _) (part_int he hx _) fun a ha => LocalOk.bindOf _ (LocalOk.part _ _ _) (part_int he hy _) fun b hb => (LocalOk.equalInt he d a b ha hb).bind fun r => ?_
    split
    · exact LocalOk.pure _
    · exact LocalOk.eqItems he d c xs ys hx hy is
theorem LocalOk.equalRow {P : Program} {t : TypeId} (h : intRow P t = true) (xs ys : Array Value) (hx : xs.all isIntV = true) (hy : ys.all isIntV = true) : LocalOk P (Op.equal t (.agg xs) (.agg ys)) := by
  unfold intRow at h
  split at h
  · rename_i n e hu
    simp only [Bool.and_eq_true] at h
    obtain ⟨h1, _⟩ := h
    split at h1
    · rename_i k he
      obtain ⟨i, hi⟩ := info_of_underlying he
      exact LocalOk.of_same (fun w => run_equalIn_array w 9999 xs ys hu hi) (LocalOk.eqItems he 9998 _ xs ys hx hy _)
    · cases h1
  · cases h
theorem LocalOk.binRow {P : Program} (op : BinOp) {t : TypeId} (h : intRow P t = true) (x y : Value) (hx : numsV x = true) (hy : numsV y = true) : LocalOk P (Go.binOp op t x y) := by
  cases x <;> simp only [numsV, Bool.false_eq_true] at hx
  cases y <;> simp only [numsV, Bool.false_eq_true] at hy
  cases op <;> simp only [Go.binOp] <;> first | exact LocalOk.stuck _ | exact (LocalOk.equalRow h _ _ hx hy).bind fun _ => LocalOk.pure _
theorem LocalOk.guardRow {P : Program} (op : BinOp) {t : TypeId} (h : intRow P t = true) (x y : Operand) (a b : Value) (ha : numsV a = true) (hb : numsV b = true) : LocalOk P (Go.eqGuard op t x y a b) := by
  have hg : P.eqGuardType P.depth t = false := by
    unfold intRow at h
    split at h
    · simp only [Bool.and_eq_true, Bool.not_eq_true'] at h; exact h.2
    · cases h
  cases a <;> simp only [numsV, Bool.false_eq_true] at ha
  cases b <;> simp only [numsV, Bool.false_eq_true] at hb
  unfold Go.eqGuard
  dsimp only
  split <;> simp only [Bool.not_true, Bool.not_false, Bool.false_eq_true, if_true, if_false]
  all_goals first
    | exact LocalOk.pure _
    | (refine LocalOk.bindOf (fun p => p = P) LocalOk.program (fun w v w1 hr => by cases hr; rfl) fun p hp => ?_
       subst hp
       refine LocalOk.bindOf (fun q => q = p) LocalOk.program (fun w v w1 hr => by cases hr; rfl) fun q hq => ?_
       subst hq
       rw [hg]
       exact LocalOk.pure _)
theorem LocalOk.binBool {P : Program} (op : BinOp) (t : TypeId) (x y : Value) (hx : boolV x = true) (hy : boolV y = true) : LocalOk P (Go.binOp op t x y) := by
  cases x <;> simp only [boolV, Bool.false_eq_true] at hx
  cases y <;> simp only [boolV, Bool.false_eq_true] at hy
  have key : ∀ a b, LocalOk P (Op.equal t (.bool a) (.bool b)) := fun a b => by
    unfold Op.equal Op.maxDepth Op.equalIn
    refine (LocalOk.underlying t).bind fun d => ?_
    dsimp only
    split <;> first | exact LocalOk.pure _ | exact LocalOk.stuck _ | simp_all
  cases op <;> simp only [Go.binOp] <;> first | exact LocalOk.stuck _ | exact (key _ _).bind fun _ => LocalOk.pure _
theorem LocalOk.guardBool {P : Program} (op : BinOp) (t : TypeId) (x y : Operand) (a b : Value) (ha : boolV a = true) : LocalOk P (Go.eqGuard op t x y a b) := by
  cases a <;> simp only [boolV, Bool.false_eq_true] at ha
  rw [eqGuard_at_bool]; exact LocalOk.pure _
/-! ### Structs and arrays of plain cells, compared -/
def plain1 : Value → Bool
  | .int _ _ | .string _ | .bool _ => true
  | _ => false
def plainV : Value → Bool
  | .agg cs => cs.all plain1
  | v => plain1 v
theorem part_plain {P : Program} {e : TypeId} {cs : Array Value} (h : cs.all plain1 = true) (o : Nat) : ∀ w v w1, (part e cs o).run P w = .ok v w1 → plainV v = true := by
  intro w v w1 hr
  rw [Array.all_eq_true_iff_forall_mem] at h
  have hag : ∀ u b w2, (isAgg e).run P w = .ok b w2 → (if b then (do let n ← sizeOf e; Pure.pure (.agg (cs.extract o (o + n))) : Sem Value) else match cs[o]? with | some v => Pure.pure v | none => Go.stuck u).run P w2 = .ok v w1 → plainV v = true := fun u b w2 _ hr => by
    cases b with
    | true =>
      simp only [if_true, Sem.run_bind] at hr
      cases hs : (sizeOf e).run P w2 with
      | ok n w3 =>
        rw [hs] at hr
        cases hr
        simp only [plainV, Array.all_eq_true_iff_forall_mem]
        intro x hx
        refine h x ?_
        rw [Array.mem_extract_iff_getElem] at hx
        obtain ⟨k, hk, rfl⟩ := hx
        exact Array.getElem_mem _
      | halt x w3 => rw [hs] at hr; cases hr
    | false =>
      simp only [Bool.false_eq_true, if_false] at hr
      cases hc : cs[o]? with
      | none => simp only [hc] at hr; cases hr
      | some x =>
        simp only [hc, Sem.run_pure] at hr
        have hx := h x (Array.mem_of_getElem? hc)
        cases hr
        cases v <;> simp_all [plain1, plainV]
  rw [part, Sem.run_bind] at hr
  cases hb : (isAgg e).run P w with
  | ok b w2 => rw [hb] at hr; exact hag _ b w2 hb hr
  | halt x w2 => rw [hb] at hr; cases hr
theorem LocalOk.eqFieldsP {P : Program} {d : Nat} (ih : ∀ t x y, plainV x = true → plainV y = true → LocalOk P (Op.equalIn d t x y)) (xs ys : Array Value) (hx : xs.all plain1 = true) (hy : ys.all plain1 = true) : ∀ fs : List Field, LocalOk P (Op.eqFields d xs ys fs)
  | [] => LocalOk.pure _
  | f :: fs => by
    unfold Op.eqFields
    split
    · refine LocalOk.bindOf _ (LocalOk.part _ _ _) (part_plain hx _) fun a ha => LocalOk.bindOf _ (LocalOk.part _ _ _) (part_plain hy _) fun b hb => (ih f.type a b ha hb).bind fun r => ?_
      split
      · exact LocalOk.pure _
      · exact LocalOk.eqFieldsP ih xs ys hx hy fs
    · exact LocalOk.eqFieldsP ih xs ys hx hy fs
theorem LocalOk.eqItemsP {P : Program} {d : Nat} (ih : ∀ t x y, plainV x = true → plainV y = true → LocalOk P (Op.equalIn d t x y)) (e : TypeId) (c : Nat) (xs ys : Array Value) (hx : xs.all plain1 = true) (hy : ys.all plain1 = true) : ∀ is : List Nat, LocalOk P (Op.eqItems d e c xs ys is)
  | [] => LocalOk.pure _
  | i :: is => by
    unfold Op.eqItems
    refine LocalOk.bindOf _ (LocalOk.part _ _ _) (part_plain hx _) fun a ha => LocalOk.bindOf _ (LocalOk.part _ _ _) (part_plain hy _) fun b hb => (ih e a b ha hb).bind fun r => ?_
    split
    · exact LocalOk.pure _
    · exact LocalOk.eqItemsP ih e c xs ys hx hy is
theorem LocalOk.equalP {P : Program} : ∀ (d : Nat) (t : TypeId) (x y : Value), plainV x = true → plainV y = true → LocalOk P (Op.equalIn d t x y)
  | 0, t, x, y, _, _ => LocalOk.unsupported _
  | d + 1, t, x, y, hx, hy => by
    have ih := LocalOk.equalP (P := P) d
    cases hu : P.underlying t with
    | none =>
      intro w v w1 hr
      unfold Op.equalIn at hr
      simp only [Sem.run_bind, Go.underlying] at hr
      simp [hu] at hr
    | some ds =>
      have base : (∀ xs ys, ¬ (x = .agg xs ∧ y = .agg ys)) → LocalOk P (Op.equalIn (d + 1) t x y) := fun hn => by
        unfold Op.equalIn
        refine (LocalOk.underlying t).bind fun d' => ?_
        cases x <;> simp only [plainV, plain1, Bool.false_eq_true] at hx <;> cases y <;> simp only [plainV, plain1, Bool.false_eq_true] at hy <;> first
          | exact absurd ⟨rfl, rfl⟩ (hn _ _)
          | (dsimp only; split <;> first | exact LocalOk.pure _ | exact LocalOk.stuck _ | (split <;> first | exact LocalOk.pure _ | exact LocalOk.stuck _) | simp_all)
      by_cases hag : ∃ xs ys, x = .agg xs ∧ y = .agg ys
      · obtain ⟨xs, ys, rfl, rfl⟩ := hag
        simp only [plainV] at hx hy
        by_cases hst : ∃ fs, ds = .struct fs
        · obtain ⟨fs, rfl⟩ := hst
          have hf : P.fieldsOf t = fs := by simp [Program.fieldsOf, hu]
          cases hh : P.stoodInHeld t with
          | true =>
            intro w v w1 hr
            unfold Op.equalIn at hr
            simp only [Sem.run_bind, run_underlying hu, Result.andThen_ok, run_program, hh, if_true] at hr
            cases hr
          | false => exact LocalOk.of_same (fun w => run_equalIn_struct w d t xs ys (by rw [hf]; exact hu) hh) (LocalOk.eqFieldsP ih xs ys hx hy _)
        · by_cases har : ∃ n e, ds = .array n e
          · obtain ⟨n, e, rfl⟩ := har
            cases hi : P.info? e with
            | none =>
              intro w v w1 hr
              unfold Op.equalIn at hr
              simp only [Sem.run_bind, run_underlying hu, Result.andThen_ok, Go.sizeOf, Go.typeInfo, run_program] at hr
              simp [hi] at hr
            | some i => exact LocalOk.of_same (fun w => run_equalIn_array w d xs ys hu hi) (LocalOk.eqItemsP ih e _ xs ys hx hy _)
          · intro w v w1 hr
            unfold Op.equalIn at hr
            simp only [Sem.run_bind, run_underlying hu, Result.andThen_ok] at hr
            cases ds <;> first | (cases hr; done) | exact absurd ⟨_, rfl⟩ hst | exact absurd ⟨_, _, rfl⟩ har
      · exact base fun xs ys h => hag ⟨xs, ys, h⟩
theorem LocalOk.binPlain {P : Program} (op : BinOp) (t : TypeId) (xs ys : Array Value) (hx : xs.all plain1 = true) (hy : ys.all plain1 = true) : LocalOk P (Go.binOp op t (.agg xs) (.agg ys)) := by
  cases op <;> simp only [Go.binOp] <;> first | exact LocalOk.stuck _ | exact (LocalOk.equalP _ t (.agg xs) (.agg ys) hx hy).bind fun _ => LocalOk.pure _
theorem LocalOk.guardPlain {P : Program} (op : BinOp) {t : TypeId} (hg : P.eqGuardType P.depth t = false) (x y : Operand) (xs ys : Array Value) : LocalOk P (Go.eqGuard op t x y (.agg xs) (.agg ys)) := by
  unfold Go.eqGuard
  dsimp only
  split <;> simp only [Bool.not_true, Bool.not_false, Bool.false_eq_true, if_true, if_false]
  all_goals first
    | exact LocalOk.pure _
    | (refine LocalOk.bindOf (fun p => p = P) LocalOk.program (fun w v w1 hr => by cases hr; rfl) fun p hp => ?_
       subst hp
       refine LocalOk.bindOf (fun q => q = p) LocalOk.program (fun w v w1 hr => by cases hr; rfl) fun q hq => ?_
       subst hq
       rw [hg]
       exact LocalOk.pure _)
def aggV : Value → Bool
  | .agg cs => cs.all plain1
  | _ => false
/-! ### The operations -/
/-- What the check must know of slots: each holds a number, a string, or an address. -/
inductive Shape where
  | int | str | ptr | bool | nums | cells
deriving DecidableEq
def Shape.strict : Shape → Value → Bool
  | .int, .int _ _ => true
  | .str, .string _ => true
  | .ptr, .pointer _ => true
  | .bool, v => boolV v
  | .nums, v => numsV v
  | .cells, v => aggV v
  | _, _ => false
def tupV : Value → Bool
  | .tuple _ => true
  | _ => false
/-- What the check must know of a slot; a slot that was not written (its guard was false) holds no value. -/
def Shape.ok (s : Shape) (v : Value) : Bool := s.strict v || tupV v
theorem Shape.ok_cases {s : Shape} {v : Value} (h : s.ok v = true) : s.strict v = true ∨ ∃ cs, v = .tuple cs := by
  unfold Shape.ok at h
  rcases (Bool.or_eq_true _ _).mp h with h | h
  · exact .inl h
  · cases v <;> simp [tupV] at h
    exact .inr ⟨_, rfl⟩
theorem Shape.ok_of {s : Shape} {v : Value} (h : s.strict v = true) : s.ok v = true := by unfold Shape.ok; rw [h]; rfl
theorem LocalOk.equalTup {P : Program} (t : TypeId) (x y : Value) (h : (∃ cs, x = .tuple cs) ∨ ∃ cs, y = .tuple cs) : LocalOk P (Op.equal t x y) := by
  unfold Op.equal Op.maxDepth Op.equalIn
  refine (LocalOk.underlying t).bind fun d => ?_
  rcases h with ⟨cs, rfl⟩ | ⟨cs, rfl⟩
  · dsimp only
    split <;> first | exact LocalOk.pure _ | exact LocalOk.stuck _ | exact LocalOk.unsupported _ | simp_all
  · dsimp only
    split <;> first | exact LocalOk.pure _ | exact LocalOk.stuck _ | exact LocalOk.unsupported _ | simp_all
theorem LocalOk.binTup {P : Program} (op : BinOp) (t : TypeId) (x y : Value) (h : (∃ cs, x = .tuple cs) ∨ ∃ cs, y = .tuple cs) : LocalOk P (Go.binOp op t x y) := by
  have e := LocalOk.equalTup (P := P) t x y h
  rcases h with ⟨cs, rfl⟩ | ⟨cs, rfl⟩
  · cases op <;> simp only [Go.binOp] <;> first | exact LocalOk.stuck _ | exact e.bind fun _ => LocalOk.pure _ | (split <;> first | exact LocalOk.stuck _ | exact LocalOk.unsupported _ | simp_all)
  · cases op <;> cases x <;> simp only [Go.binOp] <;> first | exact LocalOk.stuck _ | exact LocalOk.unsupported _ | exact e.bind fun _ => LocalOk.pure _ | (split <;> first | exact LocalOk.stuck _ | exact LocalOk.unsupported _ | simp_all)
theorem LocalOk.guardTup {P : Program} (op : BinOp) (t : TypeId) (x y : Operand) (a b : Value) (h : (∃ cs, a = .tuple cs) ∨ ∃ cs, b = .tuple cs) : LocalOk P (Go.eqGuard op t x y a b) := by
  rcases h with ⟨cs, rfl⟩ | ⟨cs, rfl⟩
  · unfold Go.eqGuard; dsimp only; repeat' (first | exact LocalOk.pure _ | split | refine LocalOk.bind ?_ (fun _ => ?_))
  · cases a <;> (unfold Go.eqGuard; dsimp only; repeat' (first | exact LocalOk.pure _ | split | refine LocalOk.bind ?_ (fun _ => ?_)))
theorem LocalOk.convertTup {P : Program} (src dst : TypeId) (cs : Array Value) (hd : (match P.underlying dst with | some (.int _) => true | _ => false) = true) : LocalOk P (Go.convert src dst (.tuple cs)) := by
  split at hd
  · rename_i k hk
    intro w v w1 hr
    exfalso
    unfold Go.convert at hr
    cases hs : P.underlying src with
    | none => simp [Go.underlying, hs] at hr
    | some ds =>
      simp only [Sem.run_bind, run_underlying hs, run_underlying hk, Result.andThen_ok] at hr
      cases ds <;> first
        | (cases hr; done)
        | (simp only [Conv.unsafePointer, Sem.run_bind, run_underlying hs, run_underlying hk, Result.andThen_ok] at hr; cases hr; done)
  · cases hd
/-- Needs: slots, and what each holds behind the region (a slot that no later operation writes). -/
abbrev Needs := List (Tmp × Shape)
def needOk (need : Needs) (a : Act) : Bool := need.all fun p => p.2.ok (a.tmps.getD p.1 undef)
def opndIs (need : Needs) (s : Shape) : Operand → Bool
  | .tmp t => need.contains (t, s)
  | .const v => s.ok v
  | _ => false
/-- An operation that hangs on the frame alone. -/
def pureOp (P : Program) (need : Needs) (o : Oper) : Bool :=
  match o.op with
  | .move _ | .assign _ | .pick .. | .indexAddr .. | .index .. | .slice .. | .field .. | .extract .. | .makeInterface .. | .unOp .. => true
  | .nilCheck x => opndIs need .ptr x
  | .binOp _ t x y _ => ((opndIs need .int x && opndIs need .int y) || (opndIs need .str x && opndIs need .str y)) || ((opndIs need .bool x && opndIs need .bool y) || ((opndIs need .nums x && opndIs need .nums y && intRow P t) || (opndIs need .cells x && opndIs need .cells y && !(P.eqGuardType P.depth t))))
  | .convert _ dst x => opndIs need .int x && (match P.underlying dst with | some (.int _) => true | _ => false)
  | .fieldAddr s _ f => match P.underlying s with | some (.struct fs) => (match fs[f]? with | some fd => ((P.info? fd.type).map (·.size)) != some 0 | none => false) | _ => false
  | .call c => (match c.callee with | .builtin .len => lenAble P c.argTypes | _ => false)
  | _ => false
theorem opndIs_ok {need : Needs} {s : Shape} {x : Operand} {a : Act} (h : opndIs need s x = true) (ha : needOk need a = true) : s.ok (a.eval x) = true := by
  cases x with
  | tmp t =>
    simp only [opndIs, List.contains_iff_mem] at h
    have := List.all_eq_true.1 ha _ h
    simpa [Act.eval] using this
  | const v => exact h
  | global g => cases h
  | func f => cases h
theorem Shape.ok_int {v : Value} (h : Shape.strict .int v = true) : isIntV v = true := by cases v <;> simp [Shape.strict] at h; rfl
theorem plainPair_int {x y : Value} (hx : Shape.strict .int x = true) (hy : Shape.strict .int y = true) : plainPair x y = true := by
  cases x <;> simp [Shape.strict] at hx
  cases y <;> simp [Shape.strict] at hy
  rfl
theorem plainPair_str {x y : Value} (hx : Shape.strict .str x = true) (hy : Shape.strict .str y = true) : plainPair x y = true := by
  cases x <;> simp [Shape.strict] at hx
  cases y <;> simp [Shape.strict] at hy
  rfl
/-- Both operands of the same shape: either not written, or both of it. -/
theorem both_cases {need : Needs} {s : Shape} {x y : Operand} {a : Act} (h : (opndIs need s x && opndIs need s y) = true) (ha : needOk need a = true) : ((∃ cs, a.eval x = .tuple cs) ∨ ∃ cs, a.eval y = .tuple cs) ∨ (s.strict (a.eval x) = true ∧ s.strict (a.eval y) = true) := by
  have := (Bool.and_eq_true _ _).mp h
  rcases Shape.ok_cases (opndIs_ok this.1 ha) with h1 | h1
  · rcases Shape.ok_cases (opndIs_ok this.2 ha) with h2 | h2
    · exact .inr ⟨h1, h2⟩
    · exact .inl (.inr h2)
  · exact .inl (.inl h1)
/-- Such an operation comes to a value, or to none, by the frame alone. -/
theorem pureOp_local {P : Program} {need : Needs} {o : Oper} {a : Act} (h : pureOp P need o = true) (ha : needOk need a = true) : ∃ s : Sem Value, execOp a.eval o = (do Pure.pure (Next.value (← s))) ∧ LocalOk P s := by
  obtain ⟨dst, op, type, pos, after, guard⟩ := o
  cases op <;> simp only [pureOp] at h <;> try (exact absurd h (by decide))
  case move x => exact ⟨Pure.pure (a.eval x), rfl, LocalOk.pure _⟩
  case assign x => exact ⟨Pure.pure (a.eval x), rfl, LocalOk.pure _⟩
  case nilCheck x =>
    have hx := opndIs_ok h ha
    refine ⟨(match a.eval x with | .pointer none | .nilIface | .nilFunc => Go.runtimePanic .nilDeref | x => Pure.pure x), ?_, ?_⟩
    · simp only [execOp]
      cases hv : a.eval x <;> rw [hv] at hx <;> first | (cases hx; done) | rfl | skip
      rename_i p
      cases p <;> rfl
    · split <;> first | exact LocalOk.runtimePanic _ | exact LocalOk.pure _
  case binOp op t x y yt =>
    refine ⟨_, rfl, ?_⟩
    have tup : ((∃ cs, a.eval x = .tuple cs) ∨ ∃ cs, a.eval y = .tuple cs) → LocalOk P (do Go.eqGuard op t x y (a.eval x) (a.eval y); Go.binOp op t (a.eval x) (a.eval y)) := fun ht =>
      (LocalOk.guardTup _ _ _ _ _ _ ht).bind fun _ => LocalOk.binTup _ _ _ _ ht
    rcases (Bool.or_eq_true _ _).mp h with h | h
    · have hp : ((∃ cs, a.eval x = .tuple cs) ∨ ∃ cs, a.eval y = .tuple cs) ∨ plainPair (a.eval x) (a.eval y) = true := by
        rcases (Bool.or_eq_true _ _).mp h with h | h
        · exact (both_cases h ha).imp id fun h => plainPair_int h.1 h.2
        · exact (both_cases h ha).imp id fun h => plainPair_str h.1 h.2
      rcases hp with ht | hp
      · exact tup ht
      · exact (LocalOk.eqGuard _ _ _ _ _ _ hp).bind fun _ => LocalOk.binOp _ _ _ _ hp
    · rcases (Bool.or_eq_true _ _).mp h with h | h
      · rcases both_cases h ha with ht | ⟨hx, hy⟩
        · exact tup ht
        · have hx : boolV (a.eval x) = true := hx
          have hy : boolV (a.eval y) = true := hy
          exact (LocalOk.guardBool _ _ _ _ _ _ hx).bind fun _ => LocalOk.binBool _ _ _ _ hx hy
      · rcases (Bool.or_eq_true _ _).mp h with h | h
        · have h0 := (Bool.and_eq_true _ _).mp h
          rcases both_cases h0.1 ha with ht | ⟨hx, hy⟩
          · exact tup ht
          · have hx : numsV (a.eval x) = true := hx
            have hy : numsV (a.eval y) = true := hy
            exact (LocalOk.guardRow _ h0.2 _ _ _ _ hx hy).bind fun _ => LocalOk.binRow _ h0.2 _ _ hx hy
        · have h0 := (Bool.and_eq_true _ _).mp h
          rcases both_cases h0.1 ha with ht | ⟨hx, hy⟩
          · exact tup ht
          · have hx : aggV (a.eval x) = true := hx
            have hy : aggV (a.eval y) = true := hy
            have hg : P.eqGuardType P.depth t = false := by simpa using h0.2
            clear tup
            generalize a.eval x = vx at hx ⊢
            generalize a.eval y = vy at hy ⊢
            cases vx <;> simp only [aggV, Bool.false_eq_true] at hx
            cases vy <;> simp only [aggV, Bool.false_eq_true] at hy
            exact (LocalOk.guardPlain _ hg _ _ _ _).bind fun _ => LocalOk.binPlain _ _ _ _ hx hy
  case unOp op t x => exact ⟨_, rfl, LocalOk.unary _ _⟩
  case convert src dst x =>
    have := (Bool.and_eq_true _ _).mp h
    refine ⟨_, rfl, ?_⟩
    rcases Shape.ok_cases (opndIs_ok this.1 ha) with h1 | ⟨cs, h1⟩
    · exact LocalOk.convert _ _ _ (Shape.ok_int h1) this.2
    · rw [h1]; exact LocalOk.convertTup _ _ _ this.2
  case makeInterface t x => exact ⟨_, rfl, LocalOk.makeInterface _ _⟩
  case slice t x lo hi mx => exact ⟨_, rfl, LocalOk.sliceAt _ _ _ _ _⟩
  case fieldAddr s x f => exact ⟨_, rfl, LocalOk.fieldAt _ _ _ h⟩
  case pick c x y =>
    refine ⟨(do let b ← asBool (a.eval c); Pure.pure (if b then a.eval x else a.eval y)), ?_, ?_⟩
    · simp only [execOp]; cases a.eval c <;> rfl
    · refine LocalOk.bind ?_ fun _ => LocalOk.pure _
      unfold asBool; split <;> first | exact LocalOk.pure _ | exact LocalOk.stuck _
  case field s x f => exact ⟨_, rfl, LocalOk.field _ _ _⟩
  case indexAddr t x i => exact ⟨_, rfl, LocalOk.indexAt _ _ _⟩
  case index t x i => exact ⟨_, rfl, LocalOk.index _ _ _⟩
  case extract x i => exact ⟨_, rfl, LocalOk.extract _ _⟩
  case call c =>
    obtain ⟨callee, args, ats⟩ := c
    cases callee <;> simp only at h <;> try (cases h; done)
    rename_i b
    cases b <;> simp only at h <;> try (cases h; done)
    exact ⟨_, rfl, LocalOk.len _ _ _ h⟩
/-! ### What only reads -/
/-- Where it comes to a value, it leaves the world. -/
def ReadOk {α : Type} (P : Program) (s : Sem α) : Prop := ∀ w v w1, s.run P w = .ok v w1 → w1 = w
theorem LocalOk.read {α : Type} {P : Program} {s : Sem α} (h : LocalOk P s) : ReadOk P s := fun w v w1 hr => (h w v w1 hr).1
theorem ReadOk.bind {α β : Type} {P : Program} {s : Sem α} {f : α → Sem β} (h : ReadOk P s) (k : ∀ v, ReadOk P (f v)) : ReadOk P (s >>= f) := by
  intro w u w1 hr
  rw [Sem.run_bind] at hr
  cases hs : s.run P w with
  | ok v w2 =>
    rw [hs] at hr
    obtain rfl := h _ _ _ hs
    exact k v _ _ _ hr
  | halt x w2 => rw [hs] at hr; cases hr
theorem ReadOk.load {P : Program} (a : Addr) : ReadOk P (load a) := by
  intro w v w1 hr
  unfold Go.load at hr
  simp only [Sem.run] at hr
  split at hr
  · cases hr; rfl
  · split at hr
    · cases hr; rfl
    · cases hr
theorem ReadOk.loadCellsFrom {P : Program} (a : Addr) : ∀ (n i : Nat) (acc : Array Value), ReadOk P (loadCellsFrom a i n acc)
  | 0, _, _ => (LocalOk.pure _).read
  | n + 1, i, acc => by
    unfold Go.loadCellsFrom
    exact (ReadOk.load _).bind fun v => ReadOk.loadCellsFrom a n (i + 1) _
theorem ReadOk.loadVar {P : Program} (t : TypeId) (a : Addr) : ReadOk P (loadVar t a) := by
  unfold Go.loadVar
  refine (LocalOk.isAgg t).read.bind fun b => ?_
  split
  · exact (LocalOk.sizeOf t).read.bind fun n => (ReadOk.loadCellsFrom a n 0 _).bind fun _ => (LocalOk.pure _).read
  · exact ReadOk.load a
theorem ReadOk.loadAt {P : Program} (t : TypeId) (v : Value) : ReadOk P (Instr.loadAt t v) := by
  unfold Instr.loadAt
  exact (LocalOk.sureAddr v).read.bind fun a => ReadOk.loadVar t a
theorem ReadOk.forIn_list {P : Program} {β : Type} (f : Value → β → Sem (ForInStep β)) (hf : ∀ v b, ReadOk P (f v b)) : ∀ (l : List Value) (b : β), ReadOk P (forIn l b f)
  | [], b => by simp only [List.forIn_nil]; exact (LocalOk.pure _).read
  | v :: l, b => by
    simp only [List.forIn_cons]
    refine (hf v b).bind fun s => ?_
    cases s with
    | done b => exact (LocalOk.pure _).read
    | yield b => exact ReadOk.forIn_list f hf l b
theorem ReadOk.bytesToString {P : Program} (x : Value) : ReadOk P (Conv.bytesToString x) := by
  unfold Conv.bytesToString
  split
  · exact (LocalOk.pure _).read
  · refine (ReadOk.loadCellsFrom _ _ 0 _).bind fun cs => ?_
    dsimp only
    rw [← Array.forIn_toList]
    refine ReadOk.bind (ReadOk.forIn_list _ (fun v b => ?_) _ _) fun _ => (LocalOk.pure _).read
    split <;> first | exact (LocalOk.stuck _).read | exact (LocalOk.pure _).read | exact ((LocalOk.pure _).read.bind fun _ => (LocalOk.pure _).read)
  · exact (LocalOk.stuck _).read
/-- A row of bytes turned to a string. -/
def bytesConv (P : Program) (src dst : TypeId) : Bool :=
  match P.underlying src, P.underlying dst with
  | some (.slice e), some .string => (match P.underlying e with | some (.int .u8) => true | _ => false)
  | _, _ => false
theorem ReadOk.convert {P : Program} (src dst : TypeId) (x : Value) (h : bytesConv P src dst = true) : ReadOk P (convert src dst x) := by
  unfold bytesConv at h
  split at h
  · rename_i e hs hd
    split at h
    · rename_i he
      intro w v w1 hr
      unfold Go.convert at hr
      simp only [Sem.run_bind, run_underlying hs, run_underlying hd, Result.andThen_ok] at hr
      cases x <;> first | (simp only [Sem.run_bind, run_underlying he, Result.andThen_ok] at hr; exact ReadOk.bytesToString _ _ _ _ hr) | (cases hr; rfl)
    · cases h
  · cases h
def readOp (P : Program) (need : Needs) (o : Oper) : Bool :=
  match o.op with
  | .load .. => true
  | .convert src dst _ => pureOp P need o || bytesConv P src dst
  | _ => pureOp P need o
theorem readOp_read {P : Program} {need : Needs} {o : Oper} {a : Act} (h : readOp P need o = true) (ha : needOk need a = true) : ∃ s : Sem Value, execOp a.eval o = (do Pure.pure (Next.value (← s))) ∧ ReadOk P s := by
  have go : pureOp P need o = true → ∃ s : Sem Value, execOp a.eval o = (do Pure.pure (Next.value (← s))) ∧ ReadOk P s := fun hp => by
    obtain ⟨s, h1, h2⟩ := pureOp_local hp ha; exact ⟨s, h1, h2.read⟩
  obtain ⟨dst, op, type, pos, after, guard⟩ := o
  cases op
  case load t x => exact ⟨_, rfl, ReadOk.loadAt _ _⟩
  case convert src d x =>
    rcases (Bool.or_eq_true _ _).mp h with h | h
    · exact go h
    · exact ⟨_, rfl, ReadOk.convert _ _ _ h⟩
  all_goals exact go h
/-! ### The region -/
/-- Only the region's regular end, and the needs met there. -/
def OnlyN (need : Needs) (Q : Exit → Act → World → Prop) : Exit → Act → World → Prop
  | .normal, a, w => needOk need a = true ∧ Q .normal a w
  | _, _, _ => False
theorem OnlyN.intro {need : Needs} {Q : Exit → Act → World → Prop} {a : Act} {w : World} (h : needOk need a = true) (hq : Q .normal a w) : OnlyN need Q .normal a w := ⟨h, hq⟩
theorem OnlyN.letsOut {need : Needs} {Q : Exit → Act → World → Prop} (h : LetsOut (OnlyN need Q)) : False := by
  obtain ⟨a, w, h⟩ := h; exact h
section
variable {P : Program} {ops : Array Oper} {Q : Exit → Act → World → Prop} {md : Region.Mode}
/-- Whatever comes up; as long as 'c' has not, the world is W. -/
def wpAnyW (P : Program) (md : Region.Mode) (ops : Array Oper) (Q : Exit → Act → World → Prop) (c : Nat) (W : World) : Nat → Array Bool → Act → World → Prop
  | 0, listed, a, w => Region.ready md ops listed = [] ∧ Q .normal a w
  | fuel + 1, listed, a, w =>
    (Region.ready md ops listed = [] → Q .normal a w) ∧
    ∀ j ∈ Region.ready md ops listed, wpOp P ops Q j (fun a' w' => (j ≠ c → w' = W ∧ wpAnyW P md ops Q c W fuel (listed.setIfInBounds j true) a' w') ∧ (j = c → wpAny P md ops Q fuel (listed.setIfInBounds j true) a' w')) a w
theorem wpAny_of_W {c : Nat} {W : World} : ∀ (fuel : Nat) (listed : Array Bool) (a : Act) (w : World), wpAnyW P md ops Q c W fuel listed a w → wpAny P md ops Q fuel listed a w
  | 0, _, _, _, h => h
  | fuel + 1, _, _, _, h => ⟨h.1, fun j hj => wpOp_mono (fun a' w' h' => by
      by_cases e : j = c
      · exact h'.2 e
      · exact wpAny_of_W fuel _ a' w' (h'.1 e).2) (h.2 j hj)⟩
theorem not_waits {i j : Nat} {listed : Array Bool} {oj : Oper} (hr : i ∈ Region.ready md ops listed) (_hoj : ops[j]? = some oj)
    (hall : ∀ e ∈ oj.after, Region.binds md e = true → listed.getD e.on false = true) : ∀ e ∈ oj.after, Region.binds md e = true → e.on ≠ i := fun e he hb heq => by
  have h1 := hall e he hb
  have h0 := (mem_ready.1 hr).1
  rw [heq] at h1
  rcases Nat.lt_or_ge i listed.size with h' | h'
  · simp [h'] at h0 h1; rw [h0] at h1; cases h1
  · simp [Array.getElem?_eq_none h'] at h1
/-- What hangs on the frame alone may be taken first. -/
theorem W_pure {c : Nat} {W : World} {i : Nat} {oi : Oper} {v : Value} (hi : ops[i]? = some oi) (hic : i ≠ c) (hsel : ∀ (j : Nat) (o : Oper) cs b, ops[j]? = some o → o.op ≠ .select cs b)
    (hQ : ∀ c a w, Q (.panic c) (a.put oi.dst v) w → Q (.panic c) a w) :
    ∀ (fuel : Nat) (listed : Array Bool) (a : Act),
      (∀ j oj, ops[j]? = some oj → j ≠ i → listed.getD j true = false → (∀ e ∈ oj.after, Region.binds md e = true → e.on ≠ i) → oi.apart ops oj = true) →
      i ∈ Region.ready md ops listed → Yields P ops oi v a →
      wpAnyW P md ops Q c W fuel (listed.setIfInBounds i true) (a.put oi.dst v) W → wpAnyW P md ops Q c W (fuel + 1) listed a W := by
  intro fuel
  induction fuel with
  | zero =>
    intro listed a _ hr hy H
    refine ⟨fun h => (by rw [h] at hr; cases hr), fun j hj => ?_⟩
    by_cases hji : j = i
    · subst hji; exact hy.wpOp hi ⟨fun _ => ⟨rfl, H⟩, fun e => absurd e hic⟩
    · have := ready_mono hj hji
      rw [H.1] at this
      cases this
  | succ fuel ih =>
    intro listed a hfree hr hy H
    refine ⟨fun h => (by rw [h] at hr; cases hr), fun j hj => ?_⟩
    by_cases hji : j = i
    · subst hji; exact hy.wpOp hi ⟨fun _ => ⟨rfl, H⟩, fun e => absurd e hic⟩
    · have h1 := H.2 j (ready_mono hj hji)
      obtain ⟨hjun, oj, hoj, hall⟩ := mem_ready.1 hj
      have hnot := not_waits hr hoj hall
      have h2 := wpOp_put hoj (hfree j oj hoj hji hjun hnot) (fun cs b => hsel i oi cs b hi) (fun cs b => hsel j oj cs b hoj) hQ hy h1
      have hfree' : ∀ k ok, ops[k]? = some ok → k ≠ i → (listed.setIfInBounds j true).getD k true = false →
          (∀ e ∈ ok.after, Region.binds md e = true → e.on ≠ i) → oi.apart ops ok = true := fun k ok hk hki hun hno => by
        refine hfree k ok hk hki ?_ hno
        by_cases hjk : j = k
        · subst hjk; exact hjun
        · rw [getD_set_ne true hjk] at hun; exact hun
      refine wpOp_mono (fun a' w' h3 => ⟨fun hjc => ?_, fun hjc => ?_⟩) h2
      · obtain ⟨rfl, h5⟩ := h3.2.1 hjc
        refine ⟨rfl, ih (listed.setIfInBounds j true) a' hfree' (ready_mono hr (Ne.symm hji)) h3.1 ?_⟩
        rw [Array.setIfInBounds_comm _ _ hji]; exact h5
      · have h5 := h3.2.2 hjc
        refine wpAny_first hi hsel hQ fuel (listed.setIfInBounds j true) a' w' hfree' (ready_mono hr (Ne.symm hji)) h3.1 ?_
        rw [Array.setIfInBounds_comm _ _ hji]; exact h5
/-- What reads may be taken first, if the next that writes waits for it. -/
theorem W_take {c : Nat} {W : World} {i : Nat} {oi : Oper} {v : Value} (b : Nat → Bool) (hi : ops[i]? = some oi) (hic : i ≠ c) (hsel : ∀ (j : Nat) (o : Oper) cs b, ops[j]? = some o → o.op ≠ .select cs b)
    (hQ : ∀ c a w, Q (.panic c) (a.put oi.dst v) w → Q (.panic c) a w)
    (hjust : ∀ j oj, ops[j]? = some oj → b j = true → ∃ e ∈ oj.after, Region.binds md e = true ∧ (e.on = i ∨ b e.on = true))
    (hbc : ops[c]? = none ∨ b c = true) :
    ∀ (fuel : Nat) (listed : Array Bool) (a : Act),
      (∀ j oj, ops[j]? = some oj → j ≠ i → listed.getD j true = false → (∀ e ∈ oj.after, Region.binds md e = true → e.on ≠ i) → oi.apart ops oj = true) →
      i ∈ Region.ready md ops listed → (∀ j, b j = true → listed.getD j false = false) → YieldsIf P ops (· = W) oi v a →
      wpAnyW P md ops Q c W fuel (listed.setIfInBounds i true) (a.put oi.dst v) W → wpAnyW P md ops Q c W (fuel + 1) listed a W := by
  intro fuel
  induction fuel with
  | zero =>
    intro listed a _ hr _ hy H
    refine ⟨fun h => (by rw [h] at hr; cases hr), fun j hj => ?_⟩
    by_cases hji : j = i
    · subst hji; exact hy.wpOp hi rfl ⟨fun _ => ⟨rfl, H⟩, fun e => absurd e hic⟩
    · have := ready_mono hj hji
      rw [H.1] at this
      cases this
  | succ fuel ih =>
    intro listed a hfree hr hbl hy H
    refine ⟨fun h => (by rw [h] at hr; cases hr), fun j hj => ?_⟩
    by_cases hji : j = i
    · subst hji; exact hy.wpOp hi rfl ⟨fun _ => ⟨rfl, H⟩, fun e => absurd e hic⟩
    · have h1 := H.2 j (ready_mono hj hji)
      obtain ⟨hjun, oj, hoj, hall⟩ := mem_ready.1 hj
      have hnot := not_waits hr hoj hall
      have hbj : b j = false := by
        cases hb : b j with
        | false => rfl
        | true =>
          obtain ⟨e, he, hbind, hor⟩ := hjust j oj hoj hb
          have h5 := hall e he hbind
          rcases hor with h6 | h6
          · exact absurd h6 (hnot e he hbind)
          · rw [hbl _ h6] at h5; cases h5
      have hjc : j ≠ c := by
        rintro rfl
        rcases hbc with h | h
        · rw [h] at hoj; cases hoj
        · rw [h] at hbj; cases hbj
      have h2 := wpOp_putIf hoj (hfree j oj hoj hji hjun hnot) (fun cs b => hsel i oi cs b hi) (fun cs b => hsel j oj cs b hoj) hQ hy h1
      have hfree' : ∀ k ok, ops[k]? = some ok → k ≠ i → (listed.setIfInBounds j true).getD k true = false →
          (∀ e ∈ ok.after, Region.binds md e = true → e.on ≠ i) → oi.apart ops ok = true := fun k ok hk hki hun hno => by
        refine hfree k ok hk hki ?_ hno
        by_cases hjk : j = k
        · subst hjk; exact hjun
        · rw [getD_set_ne true hjk] at hun; exact hun
      have hbl' : ∀ k, b k = true → (listed.setIfInBounds j true).getD k false = false := fun k hk => by
        have hne : j ≠ k := by rintro rfl; rw [hk] at hbj; cases hbj
        rw [getD_set_ne false hne]; exact hbl k hk
      refine wpOp_mono (fun a' w' h3 => ⟨fun _ => ?_, fun e => absurd e hjc⟩) h2
      obtain ⟨rfl, h5⟩ := h3.2.1 hjc
      refine ⟨rfl, ih (listed.setIfInBounds j true) a' hfree' (ready_mono hr (Ne.symm hji)) hbl' h3.1 ?_⟩
      rw [Array.setIfInBounds_comm _ _ hji]; exact h5
end
/-! ### The check, and the theorem -/
/-- In which order the operations are walked, and which of them write. -/
abbrev Plan := List (Nat × Bool)
def opAt (ops : Array Oper) (i : Nat) : Oper := (ops[i]?).getD default
def reord (ops : Array Oper) (p : Plan) : List Oper := p.map fun x => opAt ops x.1
def nextWr (n : Nat) : Plan → Nat
  | [] => n
  | (i, true) :: _ => i
  | (_, false) :: r => nextWr n r
def tmpsIn (o : Oper) : List Tmp := o.op.operands.toList.filterMap fun | .tmp t => some t | _ => none
def needOf (need : Needs) (o : Oper) : Needs := need.filter fun p => (tmpsIn o).contains p.1
/-- Who waits for number i, through others too. -/
def blkPass (ops : Array Oper) (i : Nat) (b : Array Bool) : Array Bool :=
  (List.range ops.size).foldl (fun b j => if (match ops[j]? with | some o => o.after.any (fun e => Region.binds .any e && (e.on == i || b.getD e.on false)) | none => false) then b.setIfInBounds j true else b) b
def blkOf (ops : Array Oper) (i : Nat) : Array Bool := blkPass ops i (Array.replicate ops.size false)
def blkOk (ops : Array Oper) (listed : Array Bool) (i : Nat) (b : Array Bool) : Bool :=
  (List.range b.size).all fun j => !b.getD j false || (!listed.getD j false && (match ops[j]? with | some o => o.after.any (fun e => Region.binds .any e && (e.on == i || b.getD e.on false)) | none => true))
def stays (ops : Array Oper) (need : Needs) (o : Oper) (r : Plan) : Bool := r.all fun x => match (opAt ops x.1).dst with | some d => (needOf need o).all fun p => p.1 != d | none => true
def detOk (P : Program) (ops : Array Oper) (need : Needs) : Array Bool → Plan → Bool
  | listed, [] => (Region.ready .any ops listed).isEmpty
  | listed, (i, false) :: r =>
    (Region.ready .any ops listed).contains i && Region.free .any ops listed i && stays ops need (opAt ops i) ((i, false) :: r) && i != nextWr ops.size r &&
      (pureOp P (needOf need (opAt ops i)) (opAt ops i) ||
        (readOp P (needOf need (opAt ops i)) (opAt ops i) && (let b := blkOf ops i; blkOk ops listed i b && (nextWr ops.size r == ops.size || b.getD (nextWr ops.size r) false)))) &&
      detOk P ops need (listed.setIfInBounds i true) r
  | listed, (i, true) :: r => Region.ready .any ops listed == [i] && detOk P ops need (listed.setIfInBounds i true) r
theorem put_ne {a : Act} {dst : Option Tmp} {v : Value} {t : Tmp} (h : dst ≠ some t) : (a.put dst v).tmps.getD t undef = a.tmps.getD t undef := by
  cases dst with
  | none => rfl
  | some d =>
    have : d ≠ t := fun e => h (by rw [e])
    simp [Act.put, Array.getElem?_setIfInBounds_ne this]
/-- A walk comes to its end: the slots that it does not write are there as they were. -/
theorem reaches {P : Program} {ops : Array Oper} {need : Needs} {Q : Exit → Act → World → Prop} : ∀ (l : List Oper) (a : Act) (w : World), wpList P ops (OnlyN need Q) l a w →
    ∃ af, needOk need af = true ∧ ∀ t, (∀ o ∈ l, o.dst ≠ some t) → af.tmps.getD t undef = a.tmps.getD t undef
  | [], a, _, h => ⟨a, h.1, fun _ _ => rfl⟩
  | o :: l, a, w, h => by
    have go : ∀ (a' : Act) (w' : World), wpList P ops (OnlyN need Q) l a' w' → (∀ t, o.dst ≠ some t → a'.tmps.getD t undef = a.tmps.getD t undef) →
        ∃ af, needOk need af = true ∧ ∀ t, (∀ x ∈ o :: l, x.dst ≠ some t) → af.tmps.getD t undef = a.tmps.getD t undef := fun a' w' h' ha => by
      obtain ⟨af, h1, h2⟩ := reaches l a' w' h'
      exact ⟨af, h1, fun t ht => (h2 t (fun x hx => ht x (List.mem_cons_of_mem _ hx))).trans (ha t (ht o List.mem_cons_self))⟩
    unfold wpList at h
    split at h
    · rcases h with h | h
      · unfold Oper.wp at h
        generalize (execOp a.eval o).run P w = r at h
        cases r with
        | ok n w1 =>
          cases n <;> simp only [Oper.upon] at h
          case value v => exact go _ _ h fun t ht => put_ne ht
          case skip => exact go _ _ h fun t ht => put_ne ht
          case defer d => exact go _ _ h fun t ht => put_ne (a := { a with defers := d :: a.defers }) ht
          case enter f args =>
            obtain ⟨e, w2, fr, hR, _⟩ := h []
            cases e with
            | returned v => exact go _ _ hR fun t ht => put_ne ht
            | panicked c => exact hR.elim
            | outgrown => exact (OnlyN.letsOut hR).elim
          case row row args =>
            obtain ⟨v, w2, hR, _⟩ := h default []
            exact go _ _ hR fun t ht => put_ne ht
        | halt x w1 => cases x <;> simp only [Oper.upon] at h <;> exact h.elim
      · exact (OnlyN.letsOut h.2).elim
    · exact go _ _ h fun t ht => put_ne ht
theorem needOf_ok {P : Program} {ops : Array Oper} {need : Needs} {Q : Exit → Act → World → Prop} {o : Oper} {l : List Oper} {a : Act} {w : World} (h : wpList P ops (OnlyN need Q) l a w)
    (hst : ∀ x ∈ l, ∀ d, x.dst = some d → ∀ p ∈ needOf need o, p.1 ≠ d) : needOk (needOf need o) a = true := by
  obtain ⟨af, h1, h2⟩ := reaches l a w h
  unfold needOk at h1 ⊢
  rw [List.all_eq_true] at h1 ⊢
  intro p hp
  have hp0 := hp
  simp only [needOf, List.mem_filter, List.contains_iff_mem] at hp
  have h3 := h1 p hp.1
  rw [h2 p.1 (fun x hx hd => hst x hx p.1 hd p hp0 rfl)] at h3
  exact h3
theorem det_main {P : Program} {ops : Array Oper} {need : Needs} {Q : Exit → Act → World → Prop} (hs : Region.noSelect ops = true) :
    ∀ (plan : Plan) (listed : Array Bool) (a : Act) (w : World), detOk P ops need listed plan = true → wpList P ops (OnlyN need Q) (reord ops plan) a w →
      wpAnyW P .any ops (OnlyN need Q) (nextWr ops.size plan) w plan.length listed a w
  | [], listed, a, w, hd, h => by
    have : Region.ready .any ops listed = [] := by simpa [detOk] using hd
    exact ⟨this, h⟩
  | (i, false) :: r, listed, a, w, hd, h => by
    simp only [detOk, Bool.and_eq_true] at hd
    obtain ⟨⟨⟨⟨⟨hr, hf⟩, hst⟩, hic⟩, hk⟩, hrest⟩ := hd
    have hr' : i ∈ Region.ready .any ops listed := by simpa using hr
    obtain ⟨_, oi, hoi, _⟩ := mem_ready.1 hr'
    have hat : opAt ops i = oi := by simp [opAt, hoi]
    have hne := needOf_ok (o := opAt ops i) h (fun x hx d hxd => by
      simp only [reord, List.mem_map] at hx
      obtain ⟨y, hy, rfl⟩ := hx
      have := List.all_eq_true.1 hst y hy
      simpa [hxd] using this)
    rw [hat] at hk hne
    have h' : wpList P ops (OnlyN need Q) (oi :: reord ops r) a w := by
      have e : reord ops ((i, false) :: r) = oi :: reord ops r := by simp [reord, hat]
      rwa [e] at h
    have hQ : ∀ v c a w, OnlyN need Q (.panic c) (a.put oi.dst v) w → OnlyN need Q (.panic c) a w := fun _ _ _ _ h => h.elim
    have hsel := fun j o cs b ho => Region.noSelect_spec hs j o cs b ho
    have hic' : i ≠ nextWr ops.size r := by simpa using hic
    -- the value, and the rest of the walk
    have key : ∀ (s : Sem Value), execOp a.eval oi = (do Pure.pure (Next.value (← s))) → ReadOk P s → Region.wanted oi (yielded ops a.tmps) = true →
        ∃ v, s.run P w = .ok v w ∧ wpList P ops (OnlyN need Q) (reord ops r) (a.put oi.dst v) w := fun s hex hread hw => by
      unfold wpList at h'
      rw [if_pos hw] at h'
      rcases h' with h' | h'
      · unfold Oper.wp at h'
        rw [hex, Sem.run_bind] at h'
        cases hrun : s.run P w with
        | ok v w1 =>
          obtain rfl := hread _ _ _ hrun
          rw [hrun] at h'
          exact ⟨v, rfl, h'⟩
        | halt x w1 =>
          rw [hrun] at h'
          cases x <;> exact h'.elim
      · exact (OnlyN.letsOut h'.2).elim
    have unw : Region.wanted oi (yielded ops a.tmps) = false → wpList P ops (OnlyN need Q) (reord ops r) (a.put oi.dst undef) w := fun hw => by
      unfold wpList at h'
      rw [if_neg (by rw [hw]; decide)] at h'
      exact h'
    rcases (Bool.or_eq_true _ _).mp hk with hp | hp
    · obtain ⟨s, hex, hloc⟩ := pureOp_local hp hne
      cases hw : Region.wanted oi (yielded ops a.tmps) with
      | true =>
        obtain ⟨v, hrun, hnext⟩ := key s hex hloc.read hw
        have hy : Yields P ops oi v a := .inl ⟨hw, fun w' => by
          rw [hex, Sem.run_bind, (hloc _ _ _ hrun).2 w']; rfl⟩
        exact W_pure hoi hic' hsel (hQ v) r.length listed a (Region.free_spec hoi hf) hr' hy (det_main hs r _ _ w hrest hnext)
      | false => exact W_pure hoi hic' hsel (hQ undef) r.length listed a (Region.free_spec hoi hf) hr' (.inr ⟨hw, rfl⟩) (det_main hs r _ _ w hrest (unw hw))
    · simp only [Bool.and_eq_true, Bool.or_eq_true] at hp
      obtain ⟨hp, hb, hbc⟩ := hp
      have hb' := List.all_eq_true.1 hb
      have hbl : ∀ j, (blkOf ops i).getD j false = true → listed.getD j false = false ∧ (∀ oj, ops[j]? = some oj → ∃ e ∈ oj.after, Region.binds .any e = true ∧ (e.on = i ∨ (blkOf ops i).getD e.on false = true)) := fun j hj => by
        have hlt : j < (blkOf ops i).size := by
          rcases Nat.lt_or_ge j (blkOf ops i).size with h | h
          · exact h
          · simp [Array.getElem?_eq_none h] at hj
        have := hb' j (List.mem_range.2 hlt)
        rw [hj] at this
        simp only [Bool.not_true, Bool.false_or, Bool.and_eq_true] at this
        refine ⟨by simpa using this.1, fun oj hoj => ?_⟩
        have h2 := this.2
        simp only [hoj] at h2
        rw [← Array.any_toList, List.any_eq_true] at h2
        obtain ⟨e, he, h3⟩ := h2
        simp only [Bool.and_eq_true, Bool.or_eq_true, beq_iff_eq] at h3
        exact ⟨e, by simpa using he, h3.1, h3.2⟩
      have hbc' : ops[nextWr ops.size r]? = none ∨ (blkOf ops i).getD (nextWr ops.size r) false = true := by
        rcases hbc with h | h
        · left; rw [beq_iff_eq] at h; rw [h]; simp
        · exact .inr h
      obtain ⟨s, hex, hread⟩ := readOp_read hp hne
      cases hw : Region.wanted oi (yielded ops a.tmps) with
      | true =>
        obtain ⟨v, hrun, hnext⟩ := key s hex hread hw
        have hy : YieldsIf P ops (· = w) oi v a := .inl ⟨hw, fun w' e => by
          subst e; rw [hex, Sem.run_bind, hrun]; rfl⟩
        exact W_take (fun j => (blkOf ops i).getD j false) hoi hic' hsel (hQ v) (fun j oj hoj hj => (hbl j hj).2 oj hoj) hbc' r.length listed a (Region.free_spec hoi hf) hr' (fun j hj => (hbl j hj).1) hy (det_main hs r _ _ w hrest hnext)
      | false => exact W_take (fun j => (blkOf ops i).getD j false) hoi hic' hsel (hQ undef) (fun j oj hoj hj => (hbl j hj).2 oj hoj) hbc' r.length listed a (Region.free_spec hoi hf) hr' (fun j hj => (hbl j hj).1) (.inr ⟨hw, rfl⟩) (det_main hs r _ _ w hrest (unw hw))
  | (i, true) :: r, listed, a, w, hd, h => by
    simp only [detOk, Bool.and_eq_true] at hd
    have hr : Region.ready .any ops listed = [i] := by simpa using hd.1
    have hr' : i ∈ Region.ready .any ops listed := by rw [hr]; simp
    obtain ⟨_, oi, hoi, _⟩ := mem_ready.1 hr'
    have hat : opAt ops i = oi := by simp [opAt, hoi]
    have h' : wpList P ops (OnlyN need Q) (oi :: reord ops r) a w := by
      have e : reord ops ((i, true) :: r) = oi :: reord ops r := by simp [reord, hat]
      rwa [e] at h
    refine ⟨fun h0 => (by rw [hr] at h0; cases h0), fun j hj => ?_⟩
    rw [hr] at hj
    obtain rfl : j = i := by simpa using hj
    have h1 : wpOp P ops (OnlyN need Q) j (wpList P ops (OnlyN need Q) (reord ops r)) a w := by
      unfold wpOp; rw [hoi]; unfold wpList at h'; exact h'
    exact wpOp_mono (fun a' w' h2 => ⟨fun e => absurd rfl e, fun _ => wpAny_of_W _ _ _ _ (det_main hs r _ a' w' hd.2 h2)⟩) h1
/-- A REGION THAT DRAWS ITS ORDER, WALKED IN THE PLAN's ORDER AS A PLAIN ONE. -/
theorem region_det {P : Program} {id : Nat} {l : List Oper} {Q : Exit → Act → World → Prop} {a : Act} {w : World} (plan : Plan) (need : Needs) (hm : P.follows .mixedOrders = true)
    (hs : Region.noSelect l.toArray = true) (hn : plan.length = l.length) (hd : detOk P l.toArray need (Array.replicate l.length false) plan = true)
    (h : wpList P l.toArray (OnlyN need Q) (reord l.toArray plan) a w.drew) : (Code.region id l.toArray true).wp P Q a w := by
  refine Code.wp_mono (Q := OnlyN need Q) (fun e a w h => ?_) ?_
  · cases e <;> first | exact h.2 | exact h.elim
  · refine wp_region_any hm (wpAny_of_W _ _ _ _ (?_ : wpAnyW P .any l.toArray (OnlyN need Q) (nextWr l.toArray.size plan) w.drew l.toArray.size (Array.replicate l.toArray.size false) a w.drew))
    have := det_main hs plan (Array.replicate l.length false) a w.drew hd h
    rw [hn] at this
    exact this
end TL
end Go

/- More laws on rows: copy; an empty slice; a loaded array's element; small words. Conditions: each names its own. -/
namespace Go
namespace TL
open Go.RowKit
section
variable {P : Program} {w : World}
theorem run_copy_any {t e : TypeId} {size bytes : Nat} (T : SliceT P t e size bytes) (u ty : TypeId) (b o dl dc : Nat) (xv : Value) (m : Nat) (news : List Value) (hsrc : Src P w size xv m news)
    (k : Nat) (hk : k = Nat.min m dl) (hth : w.there b o (k * size)) :
    (Builtin.copy_ #[t, u] ty #[.slice (some ⟨b, o, none⟩) dl dc, xv]).run P w = .ok (.int .i64 k) (w.setCells b o (news.take (k * size))) := by
  obtain ⟨ht, ⟨i, z, hi, hz, hsize, hby, hzs⟩, hsz⟩ := T
  obtain ⟨hl, h1, hlen, hfirst⟩ := hsrc
  have hkm : k ≤ m := by rw [hk]; exact Nat.min_le_left _ _
  have hf := hfirst w k hkm (grownBy_refl w none)
  have hlk : (news.take (k * size)).length = k * size := by
    rw [List.length_take, hl]; exact Nat.min_eq_left (Nat.mul_le_mul_right _ hkm)
  have hst := run_storeCells_mid (P := P) (news.take (k * size)) (by rw [hlk]; exact hth) (fun u hu => h1 u (List.mem_of_mem_take hu))
  simp [Builtin.copy_, run_underlying ht, hlen, sizeOf, typeInfo, hi, hsize, ← hk, hf, hst, goInt]
theorem wpList_copy {ops : Array Oper} {rest : List Oper} {op : Oper} {a : Act} {Q : Exit → Act → World → Prop} {t e : TypeId} {size bytes : Nat} (T : SliceT P t e size bytes) (hgd : op.guard = none) (d x : Operand) (u : TypeId)
    (ho : op.op = .call { callee := .builtin .copy, args := #[d, x], argTypes := #[t, u] })
    (b o dl dc : Nat) (hd : a.eval d = .slice (some ⟨b, o, none⟩) dl dc) (xv : Value) (m : Nat) (news : List Value) (hx : a.eval x = xv) (hsrc : Src P w size xv m news)
    (k : Nat) (hk : k = Nat.min m dl) (hth : w.there b o (k * size))
    (h : wpList P ops Q rest (a.put op.dst (.int .i64 k)) (w.setCells b o (news.take (k * size)))) : wpList P ops Q (op :: rest) a w :=
  wpList_plain hgd fun _ hK => by
    have hr := run_copy_any (P := P) (w := w) T u op.type b o dl dc xv m news hsrc k hk hth
    unfold Oper.wp execOp
    simp only [ho, resolve, invoke, builtin, Sem.run_bind, Sem.run_pure, Result.andThen_ok, List.map_toArray, List.map_cons, List.map_nil, hd, hx, hr]
    exact hK _ _ h
/-- A new array: the world behind it is a letter, of which what matters is known. -/
theorem wpList_newRow {ops : Array Oper} {rest : List Oper} {op : Oper} {a : Act} {Q : Exit → Act → World → Prop} (hgd : op.guard = none) (t : TypeId) (ho : op.op = .alloc t) (C : Array Value) (hz : (zeroValue t).run P w = .ok (.agg C) w)
    (h : ∀ w1, Below w.heap.size w w1 → w1.heap.size = w.heap.size + 1 → w1.rangeAt w.heap.size 0 C.toList → w1.there w.heap.size 0 C.size → wpList P ops Q rest (a.put op.dst (.pointer (some ⟨w.heap.size, 0, none⟩))) w1) : wpList P ops Q (op :: rest) a w :=
  wpList_plain hgd fun _ hK => by
    unfold Oper.wp execOp
    have hr : (Instr.alloc t true (.tuple #[])).run P w = .ok (.pointer (some ⟨w.heap.size, 0, none⟩)) (w.alloc (.cells C t)) := by
      simp only [Instr.alloc, Sem.run_bind, hz, Result.andThen_ok]; rfl
    simp only [ho, Sem.run_bind, hr, Result.andThen_ok]
    exact hK _ _ (h _ ((Below.refl _ _).alloc (Nat.le_refl _) _) (by simp) (rangeAt_new w C t (0, 0)) (there_new w C t C.size (Nat.le_refl _)))
theorem OwnB_empty (w : World) (base g : Nat) (hb : base ≤ g) (hg : g < w.heap.size) : OwnB w base (.slice (some ⟨g, 0, none⟩) 0 0) [] :=
  ⟨by simp, .inr ⟨g, 0, 0, rfl, hb, hg, Nat.le_refl _, Nat.zero_le _, rangeAt_nil _ _ _, fun j hj => by simp at hj⟩⟩
/-- The length of a slice value. -/
def lenV : Value → Nat | .slice _ n _ => n | _ => 0
theorem Sees.lenV {size : Nat} {v : Value} {n : Nat} {xs : List Value} (h : Sees w size v n xs) : lenV v = n := by
  obtain ⟨a, c, rfl, _⟩ := h.form; rfl
theorem Own_lt {base size : Nat} {v : Value} {n : Nat} {xs : List Value} (h : Own w base size v n xs) {g : Nat} (hg : g < base) : v.ownBlock ≠ some g := fun e => by
  have := (h.base_le e).1; omega
/-- An element of a loaded array, one cell each. -/
theorem run_index_agg {P : Program} (t e : TypeId) (n : Nat) (cs : Array Value) (h : P.underlying t = some (.array n e)) (d : TypeDesc) (hu : P.underlying e = some d) (hd : d.isRow = false) (hi : (P.info? e).map (·.size) = some 1)
    (i : Nat) (hn : i < n) (v : Value) (hv : cs[i]? = some v) (w : World) : (Instr.index t (.agg cs) (.int .i64 i)).run P w = .ok v w := by
  cases hq : P.info? e with
  | none => simp [hq] at hi
  | some inf =>
    have hsz : inf.size = 1 := by simpa [hq] using hi
    cases d <;> first | (simp [TypeDesc.isRow] at hd; done) | simp [Instr.index, run_underlying h, run_underlying hu, asIntOf, hn, sizeOf, typeInfo, hq, hsz, part, isAgg, hv]
/-- An array is sliced from l on. -/
theorem run_sliceAt_row {P : Program} (t e : TypeId) (n : Nat) (ht : P.underlying t = some (.array n e)) (hi : (P.info? e).map (·.size) = some 1) (b o l : Nat) (hl : l < n) (z : Int) (hz : z = l) (w : World) :
    (Instr.sliceAt t (.pointer (some ⟨b, o, none⟩)) (some (.int .i64 z)) none none).run P w = .ok (.slice (some ⟨b, o + l, none⟩) (n - l) (n - l)) w := by
  have hn : P.arrayLen t = n := by simp [Program.arrayLen, ht]
  have he : P.elem t = e := by simp [Program.elem, ht]
  subst hz
  rw [run_sliceAt_array_l w t _ (by rw [hn, he]; exact ht) .i64 l (by omega) (by rw [hn]; omega), hn, he]
  cases hq : P.info? e with
  | none => simp [hq] at hi
  | some inf =>
    have hsz : inf.size = 1 := by simpa [hq] using hi
    simp [sizeOf, typeInfo, hq, hsz, slicedAt, Addr.add, show n ≠ l by omega]
/-- A guarded operation that is wanted. -/
theorem wpList_want {P : Program} {ops : Array Oper} {rest : List Oper} {o : Oper} {a : Act} {w : World} {Q : Exit → Act → World → Prop} (hw : Region.wanted o (yielded ops a.tmps) = true)
    (h : o.wp P a w (fun a' w' => wpList P ops Q rest a' w') Q) : wpList P ops Q (o :: rest) a w := by
  unfold wpList
  rw [if_pos hw]
  exact .inl h
/-! ### Two arrays of bytes, compared -/
theorem run_partB {P : Program} {e : TypeId} (he : P.underlying e = some (.int .u8)) (l : List UInt8) (i : Nat) (h : i < l.length) (w : World) : (part e (l.map vb).toArray i).run P w = .ok (vb l[i]) w := by
  simp [part, isAgg, run_underlying he, h]
theorem run_eqItemsB {P : Program} {e : TypeId} (he : P.underlying e = some (.int .u8)) (d : Nat) (l m : List UInt8) (hlm : l.length = m.length) (w : World) : ∀ is : List Nat, (∀ i ∈ is, i < l.length) →
    (Op.eqItems (d + 1) e 1 (l.map vb).toArray (m.map vb).toArray is).run P w = .ok (is.all fun i => l[i]? == m[i]?) w
  | [], _ => rfl
  | i :: is, h => by
    have hi := h i List.mem_cons_self
    have hi2 : i < m.length := hlm ▸ hi
    unfold Op.eqItems
    simp only [Nat.mul_one, Sem.run_bind, run_partB he l i hi w, run_partB he m i hi2 w, Result.andThen_ok, vb, run_equalIn_int w d e .u8 .u8 _ _ he, List.all_cons, List.getElem?_eq_getElem hi, List.getElem?_eq_getElem hi2]
    have e1 : (I8 l[i] == I8 m[i]) = (l[i] == m[i]) := by
      rw [Bool.eq_iff_iff, beq_iff_eq, beq_iff_eq, I8_eq, I8_eq]
      exact ⟨fun h => UInt8.toNat_inj.1 (by omega), fun h => by rw [h]⟩
    rw [e1]
    cases hq : (l[i] == m[i]) with
    | false => simp [hq]
    | true => simp [hq, run_eqItemsB he d l m hlm w is fun j hj => h j (List.mem_cons_of_mem _ hj)]
theorem all_range_eq (l m : List UInt8) (h : l.length = m.length) : ((List.range l.length).all fun i => l[i]? == m[i]?) = (l == m) := by
  rw [Bool.eq_iff_iff, beq_iff_eq, List.all_eq_true]
  constructor
  · intro hall
    refine List.ext_getElem? fun i => ?_
    by_cases hi : i < l.length
    · simpa using hall i (List.mem_range.2 hi)
    · rw [List.getElem?_eq_none (by omega), List.getElem?_eq_none (by omega)]
  · rintro rfl i _; simp
/-- What == says of two arrays of bytes. -/
structure EqRow (P : Program) (t : TypeId) (l m : List UInt8) : Prop where
  eql : ∀ w : World, (binOp .eql t (.agg (l.map vb).toArray) (.agg (m.map vb).toArray)).run P w = .ok (.bool (l == m)) w
  neq : ∀ w : World, (binOp .neq t (.agg (l.map vb).toArray) (.agg (m.map vb).toArray)).run P w = .ok (.bool (!(l == m))) w
  guardE : ∀ (x y : Operand) (w : World), (eqGuard .eql t x y (.agg (l.map vb).toArray) (.agg (m.map vb).toArray)).run P w = .ok () w
  guardN : ∀ (x y : Operand) (w : World), (eqGuard .neq t x y (.agg (l.map vb).toArray) (.agg (m.map vb).toArray)).run P w = .ok () w
theorem eqRow {P : Program} {t e : TypeId} {n : Nat} (hu : P.underlying t = some (.array n e)) (he : P.underlying e = some (.int .u8)) (hc : P.cellsOf e = 1) (hg : P.eqGuardType P.depth t = false) (l m : List UInt8) (hl : l.length = n) (hm : m.length = n) : EqRow P t l m := by
  have key : ∀ w : World, (Op.equal t (.agg (l.map vb).toArray) (.agg (m.map vb).toArray)).run P w = .ok (l == m) w := fun w => by
    obtain ⟨i, hi⟩ := info_of_underlying he
    have := run_equalIn_array w 9999 (l.map vb).toArray (m.map vb).toArray hu hi
    rw [hc, run_eqItemsB he 9998 l m (by omega) w (List.range n) (fun i hi => by rw [hl]; exact List.mem_range.1 hi)] at this
    rw [← hl, all_range_eq l m (by omega)] at this
    exact this
  refine ⟨fun w => ?_, fun w => ?_, fun x y w => ?_, fun x y w => ?_⟩
  · simp only [binOp, Sem.run_bind, key w, Result.andThen_ok, Sem.run_pure]
  · simp only [binOp, Sem.run_bind, key w, Result.andThen_ok, Sem.run_pure]
  · have : (eqGuard .eql t x y (.agg (l.map vb).toArray) (.agg (m.map vb).toArray)).run P w = (Pure.pure () : Sem Unit).run P w := by
      have hp : ∀ w : World, (program).run P w = .ok P w := fun _ => rfl
      simp only [eqGuard]; simp [hp, hg]
    rw [this]; rfl
  · have : (eqGuard .neq t x y (.agg (l.map vb).toArray) (.agg (m.map vb).toArray)).run P w = (Pure.pure () : Sem Unit).run P w := by
      have hp : ∀ w : World, (program).run P w = .ok P w := fun _ => rfl
      simp only [eqGuard]; simp [hp, hg]
    rw [this]; rfl
theorem nums_vb (l : List UInt8) : Shape.ok .nums (.agg (l.map vb).toArray) = true := by
  refine Shape.ok_of ?_
  simp [Shape.strict, numsV, vb, isIntV]
end
end TL
end Go

/- The walk's memory: what is known of it, piece by piece, and what each operation does to it. No conditions but those each law names. -/
namespace Go
namespace TL
open Go.RowKit
/-- A row's place is set: one law, for simp. -/
theorem setC {α : Type _} (a : α) (l : List α) (b : α) : (a :: l).set 0 b = b :: l ∧ ∀ n, (a :: l).set (n + 1) b = a :: l.set n b := ⟨rfl, fun _ => rfl⟩
/-- A row's places. -/
theorem at0 {α : Type _} {c : α} {L : List α} : (c :: L)[0]? = some c := rfl
theorem at1 {α : Type _} {a0 c : α} {L : List α} : (a0 :: c :: L)[1]? = some c := rfl
theorem at2 {α : Type _} {a0 a1 c : α} {L : List α} : (a0 :: a1 :: c :: L)[2]? = some c := rfl
theorem at3 {α : Type _} {a0 a1 a2 c : α} {L : List α} : (a0 :: a1 :: a2 :: c :: L)[3]? = some c := rfl
theorem at4 {α : Type _} {a0 a1 a2 a3 c : α} {L : List α} : (a0 :: a1 :: a2 :: a3 :: c :: L)[4]? = some c := rfl
theorem at5 {α : Type _} {a0 a1 a2 a3 a4 c : α} {L : List α} : (a0 :: a1 :: a2 :: a3 :: a4 :: c :: L)[5]? = some c := rfl
theorem at6 {α : Type _} {a0 a1 a2 a3 a4 a5 c : α} {L : List α} : (a0 :: a1 :: a2 :: a3 :: a4 :: a5 :: c :: L)[6]? = some c := rfl
theorem at7 {α : Type _} {a0 a1 a2 a3 a4 a5 a6 c : α} {L : List α} : (a0 :: a1 :: a2 :: a3 :: a4 :: a5 :: a6 :: c :: L)[7]? = some c := rfl
theorem at8 {α : Type _} {a0 a1 a2 a3 a4 a5 a6 a7 c : α} {L : List α} : (a0 :: a1 :: a2 :: a3 :: a4 :: a5 :: a6 :: a7 :: c :: L)[8]? = some c := rfl
/-- A row of bytes, closed to the walk's simp; a text, likewise. -/
def bs (l : List UInt8) : List Value := l.map vb
def mkS (l : List UInt8) : ByteArray := ⟨l.toArray⟩
/-- A list's length, where an instance tells it (a class of the core is borrowed, for its answer that is found). -/
theorem lenI {α : Type} {l : List α} {n : Nat} [h : HXor (PLift (l = l)) Unit (PLift (l.length = n))] : l.length = n := (h.hXor ⟨rfl⟩ ()).down
theorem lenS {α : Type} {l : List α} {n i : Nat} {x : α} (h : l.length = n) : (l.set i x).length = n := by rw [List.length_set, h]
instance lenReplicate {α : Type} {x : α} {n : Nat} : HXor (PLift (List.replicate n x = List.replicate n x)) Unit (PLift ((List.replicate n x).length = n)) := ⟨fun _ _ => ⟨List.length_replicate⟩⟩
instance lenSet {α : Type} {l : List α} {x : α} {n i : Nat} [h : HXor (PLift (l = l)) Unit (PLift (l.length = n))] : HXor (PLift (l.set i x = l.set i x)) Unit (PLift ((l.set i x).length = n)) := ⟨fun _ _ => ⟨lenS (h.hXor ⟨rfl⟩ ()).down⟩⟩
theorem bs_length (l : List UInt8) : (bs l).length = l.length := by simp [bs]
theorem bs_one (l : List UInt8) : ∀ q ∈ bs l, q.oneCell' = true := vb_one l
theorem bs_set (l : List UInt8) (i : Nat) (b : UInt8) : bs (l.set i b) = (bs l).set i (vb b) := by simp [bs, List.map_set]
theorem bs_append (l m : List UInt8) : bs (l ++ m) = bs l ++ bs m := by simp [bs]
theorem mkS_size (l : List UInt8) : (mkS l).size = l.length := by simp [mkS, ByteArray.size]
theorem mkS_data (l : List UInt8) : (mkS l).data.toList = l := by simp [mkS]
theorem mkS_toList (l : List UInt8) : (mkS l).toList = l := by simp [mkS, Lib.toList_data]
theorem mkS_append (l m : List UInt8) : mkS l ++ mkS m = mkS (l ++ m) := by
  apply ByteArray.ext; apply Array.ext'; simp [mkS]
theorem mkS_of (s : ByteArray) : ∃ l, s = mkS l := ⟨s.data.toList, by simp [mkS]⟩
theorem mkS_inj {l m : List UInt8} : mkS l = mkS m ↔ l = m := ⟨fun h => by rw [← mkS_toList l, h, mkS_toList], fun h => by rw [h]⟩
/-- Of what was there, only the blocks F have turned. -/
structure Kept (F : List Nat) (w0 w : World) : Prop where
  os : w.os = w0.os
  tape : w.tape = w0.tape
  output : w.output = w0.output
  size : w0.heap.size ≤ w.heap.size
  block : ∀ k, k < w0.heap.size → k ∉ F → w.heap[k]? = w0.heap[k]?
theorem Kept.refl (F : List Nat) (w : World) : Kept F w w := ⟨rfl, rfl, rfl, Nat.le_refl _, fun _ _ _ => rfl⟩
theorem Kept.below {w0 w : World} (h : Kept [] w0 w) : Below w0.heap.size w0 w := ⟨h.os, h.tape, h.output, h.size, fun k hk => h.block k hk (by simp)⟩
theorem Kept.of_below {w0 w : World} (h : Below w0.heap.size w0 w) (F : List Nat) : Kept F w0 w := ⟨h.os, h.tape, h.output, h.size, fun k hk _ => h.block k hk⟩
theorem Kept.trans {F G : List Nat} {a b c : World} (h : Kept F a b) (k : Kept G b c) (hG : ∀ x ∈ G, x ∈ F ∨ a.heap.size ≤ x) : Kept F a c :=
  ⟨k.os.trans h.os, k.tape.trans h.tape, k.output.trans h.output, Nat.le_trans h.size k.size, fun i hi hF => (k.block i (Nat.lt_of_lt_of_le hi h.size) fun hx => by
    rcases hG i hx with h1 | h1
    · exact hF h1
    · omega).trans (h.block i hi hF)⟩
theorem Kept.mono {F G : List Nat} {a b : World} (h : Kept F a b) (hG : ∀ x ∈ F, x ∈ G) : Kept G a b := ⟨h.os, h.tape, h.output, h.size, fun k hk hn => h.block k hk fun hx => hn (hG k hx)⟩
theorem Kept.grown {w w' : World} {row : Option Nat} (h : w.grownBy w' row) : Kept row.toList w w' :=
  ⟨h.os, h.tape, h.output, h.size, fun k hk hn => h.block k hk fun e => hn (by rw [← e]; simp)⟩
theorem Kept.drew {F : List Nat} {a w : World} (h : Kept F a w) : Kept F a w.drew := ⟨h.os, h.tape, h.output, h.size, h.block⟩
theorem Kept.alloc (w : World) (o : Obj) : Kept [] w (w.alloc o) := Kept.of_below ((Below.refl _ _).alloc (Nat.le_refl _) o) _
/-- A piece of memory: a block's cells; a slice that is owned; a whole object; whatever lies in some blocks. -/
inductive Chunk where
  | row (g : Nat) (cs : List Value)
  | sl (size : Nat) (v : Value) (n : Nat) (xs : List Value)
  | blk (g : Nat) (o : Obj)
  | obj (fp : List Nat) (p : World → Prop)
def Chunk.fp : Chunk → List Nat
  | .row g _ => [g]
  | .sl _ v _ _ => v.ownBlock.toList
  | .blk g _ => [g]
  | .obj f _ => f
def Chunk.ok (w : World) : Chunk → Prop
  | .row g cs => g < w.heap.size ∧ w.rangeAt g 0 cs ∧ w.there g 0 cs.length
  | .sl size v n xs => Own w 0 size v n xs
  | .blk g o => w.heap[g]? = some o
  | .obj f p => (∀ k ∈ f, k < w.heap.size) ∧ p w ∧ ∀ w' : World, w.heap.size ≤ w'.heap.size → (∀ k ∈ f, w'.heap[k]? = w.heap[k]?) → p w'
theorem Chunk.ok.lt {w : World} {c : Chunk} (h : c.ok w) : ∀ k ∈ c.fp, k < w.heap.size := by
  intro k hk
  cases c with
  | row g cs => simp [Chunk.fp] at hk; subst hk; exact h.1
  | sl size v n xs =>
    simp only [Chunk.fp, Option.mem_toList] at hk
    exact (Own.base_le h hk).2
  | blk g o => simp [Chunk.fp] at hk; subst hk; exact (Array.getElem?_eq_some_iff.1 h).1
  | obj f p => exact h.1 k hk
theorem Chunk.ok.stay {w w' : World} {c : Chunk} (h : c.ok w) (hs : w.heap.size ≤ w'.heap.size) (hb : ∀ k ∈ c.fp, w'.heap[k]? = w.heap[k]?) : c.ok w' := by
  cases c with
  | row g cs =>
    have e := hb g (by simp [Chunk.fp])
    exact ⟨Nat.lt_of_lt_of_le h.1 hs, rangeAt_of_block h.2.1 e, there_of_block h.2.2 e⟩
  | sl size v n xs =>
    refine ⟨h.1, h.2.imp id ?_⟩
    rintro ⟨g, o, cap, rfl, hb', hlt, hn, hc, hr, ht⟩
    have e := hb g (by simp [Chunk.fp, Value.ownBlock])
    exact ⟨g, o, cap, rfl, hb', Nat.lt_of_lt_of_le hlt hs, hn, hc, rangeAt_of_block hr e, there_of_block ht e⟩
  | blk g o => exact (hb g (by simp [Chunk.fp])).trans h
  | obj f p =>
    refine ⟨fun k hk => Nat.lt_of_lt_of_le (h.1 k hk) hs, h.2.2 w' hs hb, fun w'' hs' hb' => h.2.2 w'' (Nat.le_trans hs hs') fun k hk => (hb' k hk).trans (hb k hk)⟩
/-- What one piece's owner may do: the piece turns to another one, in the same blocks or new ones. -/
structure Upd (w : World) (c : Chunk) (w' : World) (c' : Chunk) : Prop where
  kept : Kept c.fp w w'
  ok : c'.ok w'
  fp : ∀ k ∈ c'.fp, k ∈ c.fp ∨ w.heap.size ≤ k
/-- THE MEMORY: of what was there at w0 only F has turned; these pieces are known, apart from each other, and may be written. -/
structure Mem (F : List Nat) (w0 w : World) (L : List Chunk) : Prop where
  kept : Kept F w0 w
  ok : ∀ (i : Nat) (c : Chunk), L[i]? = some c → c.ok w
  own : ∀ (i : Nat) (c : Chunk), L[i]? = some c → ∀ k ∈ c.fp, k ∈ F ∨ w0.heap.size ≤ k
  nd : ∀ (i j : Nat) (c d : Chunk), i ≠ j → L[i]? = some c → L[j]? = some d → ∀ k ∈ c.fp, k ∉ d.fp
theorem Mem.start (F : List Nat) (w : World) : Mem F w w [] := ⟨Kept.refl _ _, by simp, by simp, by simp⟩
/-- With a piece that came in, and may be turned. -/
theorem Mem.start1 {w : World} {c : Chunk} (h : c.ok w) : Mem c.fp w w [c] := by
  refine ⟨Kept.refl _ _, ?_, ?_, ?_⟩
  · intro i d hd; cases i <;> simp at hd; subst hd; exact h
  · intro i d hd; cases i <;> simp at hd; subst hd; exact fun k hk => .inl hk
  · intro i j c d hij hi hj; cases i <;> cases j <;> simp at hi hj hij
theorem Mem.upd {F : List Nat} {w0 w w' : World} {L : List Chunk} (M : Mem F w0 w L) (i : Nat) {c c' : Chunk} (hi : L[i]? = some c) (U : Upd w c w' c') : Mem F w0 w' (L.set i c') := by
  have hil : i < L.length := (List.getElem?_eq_some_iff.1 hi).1
  have key : ∀ (j : Nat) (d : Chunk), j ≠ i → L[j]? = some d → d.ok w' := fun j d hj hd => by
    refine (M.ok j d hd).stay U.kept.size fun k hk => U.kept.block k ((M.ok j d hd).lt k hk) fun hx => M.nd j i d c hj hd hi k hk hx
  refine ⟨M.kept.trans U.kept fun x hx => M.own i c hi x hx, ?_, ?_, ?_⟩
  · intro j d hd
    by_cases e : j = i
    · subst e; rw [List.getElem?_set_self hil] at hd; cases hd; exact U.ok
    · rw [List.getElem?_set_ne (Ne.symm e)] at hd; exact key j d e hd
  · intro j d hd k hk
    by_cases e : j = i
    · subst e; rw [List.getElem?_set_self hil] at hd; cases hd
      rcases U.fp k hk with h | h
      · exact M.own j c hi k h
      · exact .inr (Nat.le_trans M.kept.size h)
    · rw [List.getElem?_set_ne (Ne.symm e)] at hd; exact M.own j d hd k hk
  · intro a b x y hab ha hb k hk hk2
    by_cases e : a = i
    · subst e; rw [List.getElem?_set_self hil] at ha; cases ha
      rw [List.getElem?_set_ne hab] at hb
      rcases U.fp k hk with h | h
      · exact M.nd a b c y hab hi hb k h hk2
      · have := (M.ok b y hb).lt k hk2; omega
    · rw [List.getElem?_set_ne (Ne.symm e)] at ha
      by_cases e2 : b = i
      · subst e2; rw [List.getElem?_set_self hil] at hb; cases hb
        rcases U.fp k hk2 with h | h
        · exact M.nd a b x c hab ha hi k hk h
        · have := (M.ok a x ha).lt k hk; omega
      · rw [List.getElem?_set_ne (Ne.symm e2)] at hb
        exact M.nd a b x y hab ha hb k hk hk2
theorem Mem.add {F : List Nat} {w0 w w' : World} {L : List Chunk} (M : Mem F w0 w L) (c : Chunk) (hk : Kept [] w w') (hok : c.ok w') (hfp : ∀ k ∈ c.fp, w.heap.size ≤ k) : Mem F w0 w' (c :: L) := by
  have key : ∀ (j : Nat) (d : Chunk), L[j]? = some d → d.ok w' := fun j d hd => (M.ok j d hd).stay hk.size fun k hk' => hk.block k ((M.ok j d hd).lt k hk') (by simp)
  refine ⟨M.kept.trans hk (by simp), ?_, ?_, ?_⟩
  · intro j d hd
    cases j with
    | zero => simp at hd; subst hd; exact hok
    | succ j => simp at hd; exact key j d hd
  · intro j d hd k hk'
    cases j with
    | zero => simp at hd; subst hd; exact .inr (Nat.le_trans M.kept.size (hfp k hk'))
    | succ j => simp at hd; exact M.own j d hd k hk'
  · intro a b x y hab ha hb k hk1 hk2
    cases a with
    | zero =>
      simp at ha; subst ha
      cases b with
      | zero => exact hab rfl
      | succ b => simp at hb; have := (M.ok b y hb).lt k hk2; have := hfp k hk1; omega
    | succ a =>
      simp at ha
      cases b with
      | zero => simp at hb; subst hb; have := (M.ok a x ha).lt k hk1; have := hfp k hk2; omega
      | succ b => simp at hb; exact M.nd a b x y (by omega) ha hb k hk1 hk2
/-- A call that leaves alone what was there. -/
theorem Mem.call {F : List Nat} {w0 w w' : World} {L : List Chunk} (M : Mem F w0 w L) (h : Below w.heap.size w w') : Mem F w0 w' L := by
  have hk := Kept.of_below h []
  exact ⟨M.kept.trans hk (by simp), fun j d hd => (M.ok j d hd).stay hk.size fun k hk' => hk.block k ((M.ok j d hd).lt k hk') (by simp), M.own, M.nd⟩
theorem Mem.drew {F : List Nat} {w0 w : World} {L : List Chunk} (M : Mem F w0 w L) : Mem F w0 w.drew L := ⟨M.kept.drew, fun i c h => (M.ok i c h).stay (Nat.le_refl _) (fun _ _ => rfl), M.own, M.nd⟩
/-- A piece is let go; pieces are laid in another row. -/
theorem Mem.pick {F : List Nat} {w0 w : World} {L : List Chunk} (M : Mem F w0 w L) (L' : List Chunk) (f : Nat → Nat) (hf : ∀ i j, i < L'.length → j < L'.length → f i = f j → i = j) (h : ∀ (i : Nat) (c : Chunk), L'[i]? = some c → L[f i]? = some c) : Mem F w0 w L' :=
  ⟨M.kept, fun i c hc => M.ok (f i) c (h i c hc), fun i c hc => M.own (f i) c (h i c hc), fun i j c d hij hi hj => M.nd (f i) (f j) c d (fun e => hij (hf i j (List.getElem?_eq_some_iff.1 hi).1 (List.getElem?_eq_some_iff.1 hj).1 e)) (h i c hi) (h j d hj)⟩
theorem Mem.tail {F : List Nat} {w0 w : World} {c : Chunk} {L : List Chunk} (M : Mem F w0 w (c :: L)) : Mem F w0 w L := M.pick L (· + 1) (fun _ _ _ _ h => by simpa using h) (fun i c h => by simpa using h)
theorem Mem.below {w0 w : World} {L : List Chunk} (M : Mem [] w0 w L) : Below w0.heap.size w0 w := M.kept.below
/-- A nil slice is owned by whoever wants it. -/
theorem Mem.nil {F : List Nat} {w0 w : World} {L : List Chunk} (M : Mem F w0 w L) (size : Nat) : Mem F w0 w (.sl size (.slice none 0 0) 0 [] :: L) :=
  M.add _ (Kept.refl _ _) (Own_nil _ _ _) (by simp [Chunk.fp, Value.ownBlock])
/-- What is seen outside of the blocks that may turn is seen on. -/
theorem Mem.sees {F : List Nat} {w0 w : World} {L : List Chunk} (M : Mem F w0 w L) {size : Nat} {v : Value} {n : Nat} {xs : List Value} (S : Sees w0 size v n xs) (hF : ∀ k, v.ownBlock = some k → k ∉ F) : Sees w size v n xs := by
  refine ⟨S.1, S.2.imp id ?_⟩
  rintro ⟨g, o, cap, rfl, hlt, hn, hc, hr⟩
  have e := M.kept.block g hlt (hF g rfl)
  exact ⟨g, o, cap, rfl, Nat.lt_of_lt_of_le hlt M.kept.size, hn, hc, rangeAt_of_block hr e⟩
/-- The only piece, at the end. -/
theorem Mem.upd1 {w0 w : World} {c c' : Chunk} {L : List Chunk} (M : Mem c.fp w0 w L) (i : Nat) (hi : L[i]? = some c') : Upd w0 c w c' :=
  ⟨M.kept, M.ok i c' hi, M.own i c' hi⟩
/-! ### The operations -/
def scalarT (P : Program) (t : TypeId) : Bool := match P.underlying t with | some d => !d.isRow | none => false
def rowT (P : Program) (t : TypeId) : Bool := match P.underlying t with | some d => d.isRow | none => false
theorem run_loadVar_scalar {P : Program} {t : TypeId} (h : scalarT P t = true) (w : World) (b o : Nat) (v : Value) (hv : w.cell? ⟨b, o, none⟩ = some v) : (loadVar t ⟨b, o, none⟩).run P w = .ok v w := by
  unfold scalarT at h
  cases hu : P.underlying t with
  | none => simp [hu] at h
  | some d =>
    have hagg : (isAgg t).run P w = .ok false w := by
      unfold isAgg
      rw [Sem.run_bind, run_underlying hu w]
      cases d <;> simp_all [TypeDesc.isRow]
    simp [loadVar, Sem.run_bind, hagg, Go.load, Sem.run, hv]
theorem wpW {P : Program} {ops : Array Oper} {rest : List Oper} {o : Oper} {a : Act} {w : World} {Q : Exit → Act → World → Prop} (hw : Region.wanted o (yielded ops a.tmps) = true)
    (h : ∀ K : Act → World → Prop, (∀ a w, wpList P ops Q rest a w → K a w) → o.wp P a w K Q) : wpList P ops Q (o :: rest) a w :=
  wpList_want hw (h _ fun _ _ h => h)
section
variable {P : Program} {ops : Array Oper} {rest : List Oper} {o : Oper} {a : Act} {w w0 : World} {Q : Exit → Act → World → Prop} {F : List Nat} {L : List Chunk}
theorem Mem.cellAt (M : Mem F w0 w L) (i : Nat) {g : Nat} {cs : List Value} (hi : L[i]? = some (.row g cs)) {off : Nat} {v : Value} (hv : cs[off]? = some v) : w.cell? ⟨g, off, none⟩ = some v := by
  have := (M.ok i _ hi).2.1 off v hv
  rwa [Nat.zero_add] at this
/-- A load of one cell. -/
theorem w_load (M : Mem F w0 w L) (i : Nat) (t : TypeId) (x : Operand) (ho : o.op = .load t x) {g off : Nat} {cs : List Value} (hi : L[i]? = some (.row g cs)) (hx : a.eval x = .pointer (some ⟨g, off, none⟩)) (hw : Region.wanted o (yielded ops a.tmps) = true)
    (ht : scalarT P t = true) {v : Value} (hv : cs[off]? = some v) (h : wpList P ops Q rest (a.put o.dst v) w) : wpList P ops Q (o :: rest) a w :=
  wpW hw fun _ hK => by
    unfold Oper.wp execOp
    simp only [ho, hx, Instr.loadAt, Instr.sureAddr, Sem.run_bind, Sem.run_pure, Result.andThen_ok, run_loadVar_scalar ht w g off v (M.cellAt i hi hv)]
    exact hK _ _ h
/-- A load of a struct or an array that lies in the midst of a row. -/
theorem w_loadA (M : Mem F w0 w L) (i : Nat) (t : TypeId) (x : Operand) (ho : o.op = .load t x) {g off : Nat} {cs : List Value} (hi : L[i]? = some (.row g cs)) (hx : a.eval x = .pointer (some ⟨g, off, none⟩)) (hw : Region.wanted o (yielded ops a.tmps) = true)
    (ht : rowT P t = true) (pre mid post : List Value) (hcs : cs = pre ++ (mid ++ post)) (hpre : pre.length = off) (hn : (P.info? t).map (·.size) = some mid.length) (h : wpList P ops Q rest (a.put o.dst (.agg mid.toArray)) w) : wpList P ops Q (o :: rest) a w :=
  wpW hw fun _ hK => by
    unfold rowT at ht
    cases hu : P.underlying t with
    | none => simp [hu] at ht
    | some d =>
      simp only [hu] at ht
      refine wp_load_mid t x ho g off hx mid d ?_ hu ht hn (hK _ _ h)
      intro j v hv
      refine M.cellAt i hi ?_
      have hj : j < mid.length := (List.getElem?_eq_some_iff.1 hv).1
      rw [hcs, ← hpre, List.getElem?_append_right (by omega), Nat.add_sub_cancel_left, List.getElem?_append_left hj]; exact hv
/-- The whole of a row. -/
theorem w_loadR (M : Mem F w0 w L) (i : Nat) (t : TypeId) (x : Operand) (ho : o.op = .load t x) {g : Nat} {cs : List Value} (hi : L[i]? = some (.row g cs)) (hx : a.eval x = .pointer (some ⟨g, 0, none⟩)) (hw : Region.wanted o (yielded ops a.tmps) = true)
    (ht : rowT P t = true) (hn : (P.info? t).map (·.size) = some cs.length) (h : wpList P ops Q rest (a.put o.dst (.agg cs.toArray)) w) : wpList P ops Q (o :: rest) a w :=
  w_loadA M i t x ho hi hx hw ht [] cs [] (by simp) rfl hn h
/-- Cells are written. -/
theorem upd_setCells {g : Nat} {cs : List Value} (h : (Chunk.row g cs).ok w) (pre mid post new : List Value) (hcs : cs = pre ++ (mid ++ post)) (hnew : new.length = mid.length) :
    Upd w (.row g cs) (w.setCells g pre.length new) (.row g (pre ++ (new ++ post))) := by
  refine ⟨Kept.grown (grownBy_setCells w g pre.length new), ⟨by rw [size_setCells]; exact h.1, ?_, ?_⟩, fun k hk => .inl hk⟩
  · have hth := h.2.2
    rw [hcs] at hth
    have hr := h.2.1
    rw [hcs] at hr
    refine rangeAt_append ?_ (rangeAt_append ?_ ?_)
    · refine World.rangeAt_setCells_apart ?_ _ _ _ (.inr (.inl (by omega)))
      have := rangeAt_take hr pre.length
      rwa [List.take_left'  rfl] at this
    · rw [Nat.zero_add]
      refine World.rangeAt_setCells_same _ _ _ _ ?_
      have := there_drop hth pre.length
      rw [Nat.zero_add] at this
      exact there_mono this (by simp; omega)
    · refine World.rangeAt_setCells_apart ?_ _ _ _ (.inr (.inr (by omega)))
      have := rangeAt_drop hr (pre.length + mid.length)
      rw [← List.append_assoc, List.drop_left' (by simp)] at this
      rw [hnew, Nat.add_assoc]; exact this
  · have := h.2.2
    rw [hcs] at this
    refine World.there_setCells (there_mono this ?_) _ _ _
    simp; omega
theorem setCells_one (w : World) (g o : Nat) (v : Value) : w.setCells g o [v] = w.setCell ⟨g, o, none⟩ v := by simp [World.setCells]
theorem upd_setCell {g off : Nat} {cs : List Value} (h : (Chunk.row g cs).ok w) (hlt : off < cs.length) (v : Value) : Upd w (.row g cs) (w.setCell ⟨g, off, none⟩ v) (.row g (cs.set off v)) := by
  have := upd_setCells h (cs.take off) [cs[off]] (cs.drop (off + 1)) [v] (by simp) rfl
  rw [List.length_take, Nat.min_eq_left (by omega), setCells_one] at this
  rwa [List.set_eq_take_append_cons_drop, if_pos hlt]
/-- A store of one cell. -/
theorem w_store (M : Mem F w0 w L) (i : Nat) (t : TypeId) (x y : Operand) (ho : o.op = .store t x y) {g off : Nat} {cs : List Value} (hi : L[i]? = some (.row g cs)) (hx : a.eval x = .pointer (some ⟨g, off, none⟩)) (hw : Region.wanted o (yielded ops a.tmps) = true)
    {v : Value} (hy : a.eval y = v) (h1 : v.oneCell' = true) (hc : v.cells = #[v]) (hn : (P.info? t).map (·.size) = some 1) (hlt : off < cs.length)
    (h : ∀ w' : World, Mem F w0 w' (L.set i (.row g (cs.set off v))) → wpList P ops Q rest (a.put o.dst undef) w') : wpList P ops Q (o :: rest) a w :=
  wpW hw fun _ hK => by
    have hok := M.ok i _ hi
    have hst := run_storeCells_mid (P := P) (w := w) (g := g) (o := off) [v] (by have := there_drop hok.2.2 off; rw [Nat.zero_add] at this; exact there_mono this (by simp; omega)) (by simpa using h1)
    cases hq : P.info? t with
    | none => simp [hq] at hn
    | some inf =>
      have hs : inf.size = 1 := by simpa [hq] using hn
      unfold Oper.wp execOp
      simp only [ho, hx, hy, Instr.storeAt, Instr.sureAddr, storeVar, Sem.run_bind, Sem.run_pure, Result.andThen_ok, sizeOf, typeInfo, run_program, hq, hs, hc]
      simp only [List.size_toArray, List.length_cons, List.length_nil, Nat.zero_add, ne_eq, not_true_eq_false, if_false, hst, Result.andThen_ok]
      rw [setCells_one]
      exact hK _ _ (h _ (M.upd i hi (upd_setCell hok hlt v)))
/-- A store of a struct or an array. -/
theorem w_storeA (M : Mem F w0 w L) (i : Nat) (t : TypeId) (x y : Operand) (ho : o.op = .store t x y) {g off : Nat} {cs : List Value} (hi : L[i]? = some (.row g cs)) (hx : a.eval x = .pointer (some ⟨g, off, none⟩)) (hw : Region.wanted o (yielded ops a.tmps) = true)
    {C : Array Value} (new : List Value) (hy : a.eval y = .agg C) (hC : C = new.toArray) (hn : (P.info? t).map (·.size) = some new.length) (h1 : ∀ v ∈ new, v.oneCell' = true) (pre mid post : List Value) (hcs : cs = pre ++ (mid ++ post)) (hpre : pre.length = off) (hmid : new.length = mid.length)
    (h : ∀ w' : World, Mem F w0 w' (L.set i (.row g (pre ++ (new ++ post)))) → wpList P ops Q rest (a.put o.dst undef) w') : wpList P ops Q (o :: rest) a w :=
  wpW hw fun _ hK => by
    subst hC
    have hok := M.ok i _ hi
    have hth := hok.2.2
    rw [hcs] at hth
    refine wp_store_mid t x y ho g off new.toArray hx hy ?_ (by simpa using hn) (all_oneCell_toArray h1) (hK _ _ (h _ ?_))
    · have := there_drop hth off
      rw [Nat.zero_add] at this
      exact there_mono this (by simp; omega)
    · have := M.upd i hi (upd_setCells hok pre mid post new hcs hmid)
      rw [hpre] at this
      simpa using this
/-- The whole of a row is stored. -/
theorem w_storeR (M : Mem F w0 w L) (i : Nat) (t : TypeId) (x y : Operand) (ho : o.op = .store t x y) {g : Nat} {cs : List Value} (hi : L[i]? = some (.row g cs)) (hx : a.eval x = .pointer (some ⟨g, 0, none⟩)) (hw : Region.wanted o (yielded ops a.tmps) = true)
    {C : Array Value} (new : List Value) (hy : a.eval y = .agg C) (hC : C = new.toArray) (hn : (P.info? t).map (·.size) = some new.length) (h1 : ∀ v ∈ new, v.oneCell' = true) (hl : new.length = cs.length)
    (h : ∀ w' : World, Mem F w0 w' (L.set i (.row g new)) → wpList P ops Q rest (a.put o.dst undef) w') : wpList P ops Q (o :: rest) a w :=
  w_storeA M i t x y ho hi hx hw new hy hC hn h1 [] cs [] (by simp) rfl hl (fun w' M' => h w' (by simpa using M'))
theorem new_row (w : World) (C : Array Value) (t : TypeId) : (Chunk.row w.heap.size C.toList).ok (w.alloc (.cells C t)) :=
  ⟨by simp, rangeAt_new w C t (0, 0), there_new w C t _ (by simp)⟩
theorem Mem.alloc (M : Mem F w0 w L) (C : Array Value) (t : TypeId) : Mem F w0 (w.alloc (.cells C t)) (.row w.heap.size C.toList :: L) :=
  M.add _ (Kept.alloc _ _) (new_row w C t) (by simp [Chunk.fp])
/-- A new variable. -/
theorem w_alloc (M : Mem F w0 w L) (t : TypeId) (ho : o.op = .alloc t) (hw : Region.wanted o (yielded ops a.tmps) = true) (z : Value) (cs : List Value) (hz : (P.info? t).bind (·.zero) = some z) (hc : z.cells = cs.toArray)
    (h : ∀ (g : Nat) (w' : World), Mem F w0 w' (.row g cs :: L) → wpList P ops Q rest (a.put o.dst (.pointer (some ⟨g, 0, none⟩))) w') : wpList P ops Q (o :: rest) a w :=
  wpW hw fun _ hK => by
    cases hq : P.info? t with
    | none => simp [hq] at hz
    | some inf =>
      have hzz : inf.zero = some z := by simpa [hq] using hz
      have hr : (Instr.alloc t true (.tuple #[])).run P w = .ok (.pointer (some ⟨w.heap.size, 0, none⟩)) (w.alloc (.cells z.cells t)) := by
        simp only [Instr.alloc, zeroValue, typeInfo, Sem.run_bind, run_program, hq, Sem.run_pure, Result.andThen_ok, hzz]; rfl
      unfold Oper.wp execOp
      simp only [ho, Sem.run_bind, hr, Result.andThen_ok]
      exact hK _ _ (h _ _ (by have := M.alloc z.cells t; rw [hc] at this ⊢; exact this))
/-- A value is boxed. -/
theorem w_box (M : Mem F w0 w L) (t : TypeId) (x : Operand) (ho : o.op = .box t x) (hw : Region.wanted o (yielded ops a.tmps) = true) (v : Value) (hx : a.eval x = v) (cs : List Value) (hc : v.cells = cs.toArray)
    (h : ∀ (g : Nat) (w' : World), Mem F w0 w' (.row g cs :: L) → wpList P ops Q rest (a.put o.dst (.pointer (some ⟨g, 0, none⟩))) w') : wpList P ops Q (o :: rest) a w :=
  wpW hw fun _ hK => by
    have hr : (Instr.box t v).run P w = .ok (.pointer (some ⟨w.heap.size, 0, none⟩)) (w.alloc (.cells v.cells t)) := rfl
    unfold Oper.wp execOp
    simp only [ho, hx, Sem.run_bind, hr, Result.andThen_ok]
    exact hK _ _ (h _ _ (by have := M.alloc v.cells t; rw [hc] at this ⊢; exact this))
/-- A slice literal. -/
theorem w_buildSlice (M : Mem F w0 w L) {t e : TypeId} {size bytes : Nat} (T : SliceT P t e size bytes) (len : Nat) (parts : Array (Nat × Operand)) (ho : o.op = .buildSlice t len parts) (hw : Region.wanted o (yielded ops a.tmps) = true) (hlen : 0 < len ∧ len * size ≤ 16777216) (z : Value) (hz : (P.info? e).bind (·.zero) = some z) (cs : List Value)
    (hf : Instr.fill (fun i => some (i * size, size)) ((Array.range (len * size)).map (z.cells[· % z.cells.size]!)) (parts.map fun (i, x) => (i, a.eval x)).toList = some cs.toArray)
    (h : ∀ (g : Nat) (w' : World), Mem F w0 w' (.row g cs :: L) → wpList P ops Q rest (a.put o.dst (.slice (some ⟨g, 0, none⟩) len len)) w') : wpList P ops Q (o :: rest) a w :=
  wpW hw fun _ hK => by
    obtain ⟨ht, ⟨i, z', hi, hz', hsize, hby, hzs⟩, hsz⟩ := T
    have ez : z' = z := by simpa [hi, hz'] using hz
    subst ez hsize
    have hr := run_buildSlice (P := P) w t e len _ cs.toArray i z' ht hi hz' (by omega) (by have := Nat.mul_pos hlen.1 hsz; omega) hf
    unfold Oper.wp execOp
    simp only [ho, Sem.run_bind, hr, Result.andThen_ok]
    exact hK _ _ (h _ _ (M.alloc cs.toArray e))
theorem foldl_set (l : List Value) : ∀ (k : Nat) (C : Array Value), k + l.length ≤ C.size → ((l.zipIdx k).foldl (fun cs x => cs.setIfInBounds x.2 x.1) C).toList = C.toList.take k ++ l ++ C.toList.drop (k + l.length) := by
  induction l with
  | nil => intro k C h; simp
  | cons v r ih =>
    intro k C h
    simp only [List.length_cons] at h
    rw [List.zipIdx_cons, List.foldl_cons, ih (k + 1) _ (by simp; omega)]
    have hk : k < C.toList.length := by simpa using (by omega : k < C.size)
    rw [Array.toList_setIfInBounds, List.take_set, List.take_succ_eq_append_getElem hk, List.drop_set_of_lt (by omega), List.set_append_right _ _ (by simp; omega)]
    simp only [List.length_take, Nat.min_eq_left (Nat.le_of_lt hk), Nat.sub_self, List.set_cons_zero, List.length_cons]
    rw [show k + 1 + r.length = k + (r.length + 1) by omega]
    simp
theorem fill_one (size : Nat) (C : Array Value) (hC : C.size = size) (v : Value) (hv : v.cells.size = size) : Instr.fill (fun i => some (i * size, size)) C [(0, v)] = some v.cells := by
  have e := foldl_set v.cells.toList 0 C (by simp [hC, hv])
  have e2 : (v.cells.zipIdx.foldl (fun cs x => cs.setIfInBounds (0 * size + x.2) x.1) C) = v.cells := by
    apply Array.ext'
    rw [← Array.foldl_toList]
    simp only [Nat.zero_mul, Nat.zero_add, Array.toList_zipIdx]
    rw [e]
    simp [hv, hC]
  simp only [Instr.fill, Nat.zero_mul, Nat.zero_add, hv, hC]
  simp only [Nat.zero_mul, Nat.zero_add] at e2
  have hz : v.cells.size = v.cells.zipIdx.size := by simp
  simp
  rw [hz]
  exact e2
/-- A slice literal of one element. -/
theorem w_buildSlice1 (M : Mem F w0 w L) {t e : TypeId} {size bytes : Nat} (T : SliceT P t e size bytes) (hsm : size ≤ 1000) (x : Operand) (ho : o.op = .buildSlice t 1 #[(0, x)]) (hw : Region.wanted o (yielded ops a.tmps) = true) {v : Value} (hx : a.eval x = v) (cs : List Value) (hc : v.cells = cs.toArray) (hcs : cs.length = size)
    (h : ∀ (g : Nat) (w' : World), Mem F w0 w' (.row g cs :: L) → wpList P ops Q rest (a.put o.dst (.slice (some ⟨g, 0, none⟩) 1 1)) w') : wpList P ops Q (o :: rest) a w := by
  have T' := T
  obtain ⟨ht, ⟨i, z', hi, hz', hsize, hby, hzs⟩, hsz⟩ := T'
  refine w_buildSlice M T 1 _ ho hw ⟨by omega, by omega⟩ z' (by simp [hi, hz']) cs ?_ h
  have := fill_one size ((Array.range (1 * size)).map (z'.cells[· % z'.cells.size]!)) (by simp) v (by rw [hc]; simpa using hcs)
  rw [hc] at this
  subst hx
  simpa using this
theorem Own.form0 {base size : Nat} {v : Value} {n : Nat} {xs : List Value} (h : Own w base size v n xs) : ∃ a cap, v = .slice a n cap := by
  obtain ⟨a, c, e, _⟩ := h.sees.form; exact ⟨a, c, e⟩
/-- append of what is read at another place. -/
theorem w_append (M : Mem F w0 w L) (i : Nat) {t e : TypeId} {size bytes : Nat} (T : SliceT P t e size bytes) (s x : Operand) (u : TypeId) (ho : o.op = .call { callee := .builtin .append, args := #[s, x], argTypes := #[t, u] }) (hu : P.underlying u = some .string ∨ ∃ e', P.underlying u = some (.slice e'))
    (hw : Region.wanted o (yielded ops a.tmps) = true) {v : Value} {n : Nat} {xs : List Value} (hi : L[i]? = some (.sl size v n xs)) (hs : a.eval s = v) {xv : Value} (hx : a.eval x = xv) (m : Nat) (news : List Value) (hsrc : Src P w size xv m news)
    (h63 : n + m ≤ maxLen) (hbytes : (n + m) * bytes ≤ 140737488355328)
    (h : ∀ (p : Option Addr) (cap : Nat) (w' : World), Mem F w0 w' (L.set i (.sl size (.slice p (n + m) cap) (n + m) (xs ++ news))) → wpList P ops Q rest (a.put o.dst (.slice p (n + m) cap)) w') : wpList P ops Q (o :: rest) a w :=
  wpW hw fun _ hK => by
    refine wp_append T s x u ho hu 0 v n xs hs (M.ok i _ hi) xv m news hx hsrc h63 hbytes (Nat.zero_le _) ?_
    intro v' w' hown hg hb _
    obtain ⟨p, cap, rfl⟩ := hown.form0
    refine hK _ _ (h p cap w' (M.upd i hi ⟨Kept.grown hg, hown, fun k hk => ?_⟩))
    simp only [Chunk.fp, Option.mem_toList] at hk ⊢
    rcases hb with hb | hb
    · exact .inl (hb ▸ hk)
    · rw [hb] at hk; cases hk; exact .inr (Nat.le_refl _)
/-- append of elements that were laid into a row of their own just ahead. -/
theorem w_append_new {g : Nat} {news : List Value} (M : Mem F w0 w (.row g news :: L)) (i : Nat) {t e : TypeId} {size bytes : Nat} (T : SliceT P t e size bytes) (s x : Operand) (ho : o.op = .call { callee := .builtin .append, args := #[s, x], argTypes := #[t, t] })
    (hw : Region.wanted o (yielded ops a.tmps) = true) {v : Value} {n : Nat} {xs : List Value} (hi : L[i]? = some (.sl size v n xs)) (hs : a.eval s = v) {m : Nat} (hx : a.eval x = .slice (some ⟨g, 0, none⟩) m m) (hm : news.length = m * size) (h1 : ∀ q ∈ news, q.oneCell' = true)
    (hmm : m ≤ 1000000) (h63 : n + m ≤ maxLen) (hbytes : (n + m) * bytes ≤ 140737488355328)
    (h : ∀ (p : Option Addr) (cap : Nat) (w' : World), Mem F w0 w' (L.set i (.sl size (.slice p (n + m) cap) (n + m) (xs ++ news))) → wpList P ops Q rest (a.put o.dst (.slice p (n + m) cap)) w') : wpList P ops Q (o :: rest) a w := by
  have hok := M.ok 0 _ rfl
  refine w_append M.tail i T s x t ho (.inr ⟨e, T.ht⟩) hw hi hs hx m news (Src_of_sees ⟨hm, .inr ⟨g, 0, m, rfl, hok.1, Nat.le_refl _, by simp only [maxLen]; omega, hok.2.1⟩⟩ h1) h63 hbytes h
/-- string(b), b owned. -/
theorem w_string (M : Mem F w0 w L) (i : Nat) (src dst e : TypeId) (x : Operand) (ho : o.op = .convert src dst x) (hw : Region.wanted o (yielded ops a.tmps) = true) {v : Value} {l : List UInt8} {n : Nat} (hi : L[i]? = some (.sl 1 v n (bs l))) (hn : n = l.length) (hx : a.eval x = v)
    (hs : P.underlying src = some (.slice e)) (he : P.underlying e = some (.int .u8)) (hd : P.underlying dst = some .string)
    (h : wpList P ops Q rest (a.put o.dst (.string (mkS l))) w) : wpList P ops Q (o :: rest) a w :=
  wpW hw fun _ hK => by
    subst hn
    have hr := SeesB.run_string (P := P) (l := l) (Own.sees (M.ok i _ hi)) src dst e hs he hd w (grownBy_refl _ _)
    unfold Oper.wp execOp
    simp only [ho, hx, Sem.run_bind, hr, Result.andThen_ok]
    exact hK _ _ h
theorem row_sees {g off n cap : Nat} {l : List UInt8} (h : (Chunk.row g (bs l)).ok w) (ho : off + n ≤ l.length) (hc : n ≤ cap) (hm : cap ≤ maxLen) : SeesB w (.slice (some ⟨g, off, none⟩) n cap) ((l.drop off).take n) := by
  have hl : ((l.drop off).take n).length = n := by simp; omega
  refine ⟨by simp, .inr ⟨g, off, cap, by rw [hl], h.1, by omega, hm, ?_⟩⟩
  have := rangeAt_take (rangeAt_drop h.2.1 off) n
  rw [Nat.zero_add] at this
  rwa [List.map_take, List.map_drop]
/-- string(a[i:k]), a an array. -/
theorem w_stringR (M : Mem F w0 w L) (i : Nat) (src dst e : TypeId) (x : Operand) (ho : o.op = .convert src dst x) (hw : Region.wanted o (yielded ops a.tmps) = true) {g : Nat} {l : List UInt8} (hi : L[i]? = some (.row g (bs l))) {off n cap : Nat} (hx : a.eval x = .slice (some ⟨g, off, none⟩) n cap)
    (hb : off + n ≤ l.length) (hc : n ≤ cap) (hm : cap ≤ maxLen) (hs : P.underlying src = some (.slice e)) (he : P.underlying e = some (.int .u8)) (hd : P.underlying dst = some .string)
    (h : wpList P ops Q rest (a.put o.dst (.string (mkS ((l.drop off).take n)))) w) : wpList P ops Q (o :: rest) a w :=
  wpW hw fun _ hK => by
    have hr := SeesB.run_string (P := P) (row_sees (M.ok i _ hi) hb hc hm) src dst e hs he hd w (grownBy_refl _ _)
    unfold Oper.wp execOp
    simp only [ho, hx, Sem.run_bind, hr, Result.andThen_ok]
    exact hK _ _ h
/-- string(a[:]), a an array. -/
theorem w_stringW (M : Mem F w0 w L) (i : Nat) (src dst e : TypeId) (x : Operand) (ho : o.op = .convert src dst x) (hw : Region.wanted o (yielded ops a.tmps) = true) {g : Nat} {l : List UInt8} (hi : L[i]? = some (.row g (bs l))) {n : Nat} (hx : a.eval x = .slice (some ⟨g, 0, none⟩) n n)
    (hb : l.length = n) (hm : n ≤ maxLen) (hs : P.underlying src = some (.slice e)) (he : P.underlying e = some (.int .u8)) (hd : P.underlying dst = some .string)
    (h : wpList P ops Q rest (a.put o.dst (.string (mkS l))) w) : wpList P ops Q (o :: rest) a w :=
  w_stringR M i src dst e x ho hw hi hx (by omega) (Nat.le_refl _) hm hs he hd (by rw [List.drop_zero, List.take_of_length_le (by omega)]; exact h)
/-- copy into an array's cells. -/
theorem w_copy (M : Mem F w0 w L) (i : Nat) {t e : TypeId} {size bytes : Nat} (T : SliceT P t e size bytes) (d x : Operand) (u : TypeId) (ho : o.op = .call { callee := .builtin .copy, args := #[d, x], argTypes := #[t, u] }) (hw : Region.wanted o (yielded ops a.tmps) = true)
    {g off dl dc : Nat} {cs : List Value} (hi : L[i]? = some (.row g cs)) (hd : a.eval d = .slice (some ⟨g, off, none⟩) dl dc) {xv : Value} (hx : a.eval x = xv) (m : Nat) (news : List Value) (hsrc : Src P w size xv m news)
    (k : Nat) (hk : k = Nat.min m dl) (hlen : off + k * size ≤ cs.length)
    (h : ∀ w' : World, Mem F w0 w' (L.set i (.row g (cs.take off ++ (news.take (k * size) ++ cs.drop (off + k * size))))) → wpList P ops Q rest (a.put o.dst (.int .i64 k)) w') : wpList P ops Q (o :: rest) a w :=
  wpW hw fun _ hK => by
    have hok := M.ok i _ hi
    have hth := there_drop hok.2.2 off
    rw [Nat.zero_add] at hth
    have hr := run_copy_any (P := P) (w := w) T u o.type g off dl dc xv m news hsrc k hk (there_mono hth (by omega))
    unfold Oper.wp execOp
    simp only [ho, resolve, invoke, builtin, Sem.run_bind, Sem.run_pure, Result.andThen_ok, List.map_toArray, List.map_cons, List.map_nil, hd, hx, hr]
    have hkm : k ≤ m := by rw [hk]; exact Nat.min_le_left _ _
    have hl : (news.take (k * size)).length = k * size := by
      rw [List.length_take, hsrc.1]; exact Nat.min_eq_left (Nat.mul_le_mul_right _ hkm)
    have U := upd_setCells hok (cs.take off) ((cs.drop off).take (k * size)) (cs.drop (off + k * size)) (news.take (k * size)) (by rw [← List.drop_drop, List.take_append_drop, List.take_append_drop]) (by rw [hl, List.length_take, List.length_drop, Nat.min_eq_left (by omega)])
    rw [List.length_take, Nat.min_eq_left (by omega)] at U
    exact hK _ _ (h _ (M.upd i hi U))
/-- A guard that is not decided yet. -/
theorem w_guard {dst : Option Tmp} {op : Op} {ty : TypeId} {pos : String} {after : Array Edge} {j : Nat} {want b : Bool} (hb : yielded ops a.tmps j = some b)
    (h1 : b = want → wpList P ops Q (Oper.mk dst op ty pos after none :: rest) a w) (h2 : b = (!want) → wpList P ops Q rest (a.put dst undef) w) : wpList P ops Q (Oper.mk dst op ty pos after (some (j, want)) :: rest) a w := by
  by_cases e : b = want
  · have h := h1 e
    unfold wpList at h ⊢
    rw [if_pos (by simp [Region.wanted])] at h
    rw [if_pos (by simp [Region.wanted, hb, e])]
    exact h
  · have h := h2 (by cases b <;> cases want <;> simp_all)
    unfold wpList
    rw [if_neg (by simp [Region.wanted, hb, e])]
    exact h
end
end TL
end Go
namespace Go
namespace TL
open Go.RowKit
section
variable {P : Program} {ops : Array Oper} {rest : List Oper} {o : Oper} {a : Act} {w w0 : World} {Q : Exit → Act → World → Prop} {F : List Nat} {L : List Chunk}
theorem getD_some {l : List UInt8} {i : Nat} (h : i < l.length) : (bs l)[i]? = some (.int .u8 (I8 (l.getD i 0))) := by
  rw [bs, List.getElem?_map, List.getD_eq_getElem?_getD, List.getElem?_eq_getElem h]; rfl
/-- A byte of an array. -/
theorem w_loadB (M : Mem F w0 w L) (i : Nat) (t : TypeId) (x : Operand) (ho : o.op = .load t x) {g off : Nat} {l : List UInt8} (hi : L[i]? = some (.row g (bs l))) (hx : a.eval x = .pointer (some ⟨g, off, none⟩)) (hw : Region.wanted o (yielded ops a.tmps) = true)
    (ht : scalarT P t = true) (hlt : off < l.length) (h : wpList P ops Q rest (a.put o.dst (.int .u8 (I8 (l.getD off 0)))) w) : wpList P ops Q (o :: rest) a w :=
  w_load M i t x ho hi hx hw ht (getD_some hlt) h
/-- A whole array of bytes. -/
theorem w_loadH (M : Mem F w0 w L) (i : Nat) (t : TypeId) (x : Operand) (ho : o.op = .load t x) {g : Nat} {l : List UInt8} (hi : L[i]? = some (.row g (bs l))) (hx : a.eval x = .pointer (some ⟨g, 0, none⟩)) (hw : Region.wanted o (yielded ops a.tmps) = true)
    (ht : rowT P t = true) {n : Nat} (hl : l.length = n) (hn : (P.info? t).map (·.size) = some n) (h : wpList P ops Q rest (a.put o.dst (.agg (bs l).toArray)) w) : wpList P ops Q (o :: rest) a w :=
  w_loadR M i t x ho hi hx hw ht (by rw [bs_length, hl]; exact hn) h
theorem w_storeB (M : Mem F w0 w L) (i : Nat) (t : TypeId) (x y : Operand) (ho : o.op = .store t x y) {g off : Nat} {l : List UInt8} (hi : L[i]? = some (.row g (bs l))) (hx : a.eval x = .pointer (some ⟨g, off, none⟩)) (hw : Region.wanted o (yielded ops a.tmps) = true)
    {b : UInt8} (hy : a.eval y = .int .u8 (I8 b)) (hn : (P.info? t).map (·.size) = some 1) (hlt : off < l.length)
    (h : ∀ w' : World, Mem F w0 w' (L.set i (.row g (bs (l.set off b)))) → wpList P ops Q rest (a.put o.dst undef) w') : wpList P ops Q (o :: rest) a w :=
  w_store M i t x y ho hi hx hw hy rfl rfl hn (by rw [bs_length]; exact hlt) (fun w' M' => h w' (by rw [bs_set]; exact M'))
theorem w_storeH (M : Mem F w0 w L) (i : Nat) (t : TypeId) (x y : Operand) (ho : o.op = .store t x y) {g : Nat} {l : List UInt8} (hi : L[i]? = some (.row g (bs l))) (hx : a.eval x = .pointer (some ⟨g, 0, none⟩)) (hw : Region.wanted o (yielded ops a.tmps) = true)
    {m : List UInt8} (hy : a.eval y = .agg (m.map vb).toArray) {n : Nat} (hm : m.length = n) (hn : (P.info? t).map (·.size) = some n) (hl : l.length = n)
    (h : ∀ w' : World, Mem F w0 w' (L.set i (.row g (bs m))) → wpList P ops Q rest (a.put o.dst undef) w') : wpList P ops Q (o :: rest) a w :=
  w_storeR M i t x y ho hi hx hw (bs m) hy rfl (by rw [bs_length, hm]; exact hn) (bs_one _) (by simp [bs_length, hm, hl]) h
theorem w_strip {dst : Option Tmp} {op : Op} {ty : TypeId} {pos : String} {after : Array Edge} {j : Nat} {want b : Bool} (hb : yielded ops a.tmps j = some b) (hl : b = want)
    (h : wpList P ops Q (Oper.mk dst op ty pos after none :: rest) a w) : wpList P ops Q (Oper.mk dst op ty pos after (some (j, want)) :: rest) a w := by
  subst hl
  unfold wpList at h ⊢
  rw [if_pos (by simp [Region.wanted])] at h
  rw [if_pos (by simp [Region.wanted, hb])]
  exact h
theorem w_lit {dst : Option Tmp} {op : Op} {ty : TypeId} {pos : String} {after : Array Edge} {j : Nat} {want b : Bool} (c : Bool) (_hb : yielded ops a.tmps j = some b) (_hl : b = c)
    (h : wpList P ops Q (Oper.mk dst op ty pos after (some (j, want)) :: rest) a w) : wpList P ops Q (Oper.mk dst op ty pos after (some (j, want)) :: rest) a w := h
theorem w_case {dst : Option Tmp} {op : Op} {ty : TypeId} {pos : String} {after : Array Edge} {j : Nat} {want b : Bool} (_hb : yielded ops a.tmps j = some b)
    (h1 : b = true → wpList P ops Q (Oper.mk dst op ty pos after (some (j, want)) :: rest) a w) (h0 : b = false → wpList P ops Q (Oper.mk dst op ty pos after (some (j, want)) :: rest) a w) : wpList P ops Q (Oper.mk dst op ty pos after (some (j, want)) :: rest) a w := by
  cases b
  · exact h0 rfl
  · exact h1 rfl
end
end TL
end Go
namespace Go
namespace TL
/-! ### The next operation's shape: a law that fits it alone -/
section
variable {P : Program} {ops : Array Oper} {rest : List Oper} {a : Act} {w : World} {Q : Exit → Act → World → Prop} {dst : Option Tmp} {ty : TypeId} {pos : String} {after : Array Edge} {g : Option (Nat × Bool)}
theorem tLoad {t : TypeId} {x : Operand} (h : wpList P ops Q (Oper.mk dst (.load t x) ty pos after g :: rest) a w) : wpList P ops Q (Oper.mk dst (.load t x) ty pos after g :: rest) a w := h
theorem tStore {t : TypeId} {x y : Operand} (h : wpList P ops Q (Oper.mk dst (.store t x y) ty pos after g :: rest) a w) : wpList P ops Q (Oper.mk dst (.store t x y) ty pos after g :: rest) a w := h
theorem tApp {x : Array Operand} {t : Array TypeId} (h : wpList P ops Q (Oper.mk dst (.call ⟨.builtin .append, x, t⟩) ty pos after g :: rest) a w) : wpList P ops Q (Oper.mk dst (.call ⟨.builtin .append, x, t⟩) ty pos after g :: rest) a w := h
theorem tBox (dst : Option Tmp) {t : TypeId} {x : Operand} (h : wpList P ops Q (Oper.mk dst (.box t x) ty pos after g :: rest) a w) : wpList P ops Q (Oper.mk dst (.box t x) ty pos after g :: rest) a w := h
theorem tAlloc (dst : Option Tmp) (t : TypeId) (h : wpList P ops Q (Oper.mk dst (.alloc t) ty pos after g :: rest) a w) : wpList P ops Q (Oper.mk dst (.alloc t) ty pos after g :: rest) a w := h
theorem tConv (dst : Option Tmp) (s t : TypeId) {x : Operand} (h : wpList P ops Q (Oper.mk dst (.convert s t x) ty pos after g :: rest) a w) : wpList P ops Q (Oper.mk dst (.convert s t x) ty pos after g :: rest) a w := h
theorem tGuard {op : Op} {q : Nat × Bool} (h : wpList P ops Q (Oper.mk dst op ty pos after (some q) :: rest) a w) : wpList P ops Q (Oper.mk dst op ty pos after (some q) :: rest) a w := h
theorem apS {l : List Value} {d : List Deferred} {k : Nat} {v : Value} : Act.put ⟨l.toArray, d⟩ (some k) v = ⟨(l.set k v).toArray, d⟩ ∧ ∀ a : Act, Act.put a none v = a := ⟨by simp [Act.put], fun _ => rfl⟩
end
theorem ev_tmp {l : List Value} {d : List Deferred} {n : Nat} {v : Value} (h : l[n]? = some v) : Act.eval ⟨l.toArray, d⟩ (.tmp n) = v := by
  simp [Act.eval, h]
theorem ev_const {a : Act} {v : Value} : a.eval (.const v) = v := rfl
theorem w_at {P : Program} {ops : Array Oper} {rest : List Oper} {o : Oper} {a : Act} {w : World} {Q : Exit → Act → World → Prop} (t : TypeId) (x : Operand) (_ho : o.op = .load t x) {v : Value} (hx : a.eval x = v)
    (h : a.eval x = v → wpList P ops Q (o :: rest) a w) : wpList P ops Q (o :: rest) a w := h hx
theorem w_at2 {P : Program} {ops : Array Oper} {rest : List Oper} {o : Oper} {a : Act} {w : World} {Q : Exit → Act → World → Prop} (t : TypeId) (x y : Operand) (_ho : o.op = .store t x y) {v u : Value} (hx : a.eval x = v) (hy : a.eval y = u)
    (h : a.eval x = v → a.eval y = u → wpList P ops Q (o :: rest) a w) : wpList P ops Q (o :: rest) a w := h hx hy
end TL
end Go

/- A region that draws its order and holds calls that leave alone what was there: what is loaded there is loaded at any time. Walked in one order. Conditions: the check 'detI', by computation; what is loaded is the same in every world that meets I; behind each operation that writes I holds. -/
namespace Go
namespace TL
/-- The regular end alone. -/
def Seg (F : Act → World → Prop) : Exit → Act → World → Prop
  | .normal, a, w => F a w
  | _, _, _ => False
theorem Seg.intro {F : Act → World → Prop} {a : Act} {w : World} (h : F a w) : Seg F .normal a w := h
theorem Seg.letsOut {F : Act → World → Prop} (h : LetsOut (Seg F)) : False := by
  obtain ⟨a, w, h⟩ := h; exact h
theorem Oper.wp_seg {P : Program} {o : Oper} {a : Act} {w : World} {K K' : Act → World → Prop} {F F' : Act → World → Prop} (h : ∀ a w, K a w → K' a w) (hh : o.wp P a w K (Seg F)) : o.wp P a w K' (Seg F') := by
  unfold Oper.wp at *
  generalize (execOp a.eval o).run P w = r at *
  cases r with
  | ok n w1 =>
    cases n <;> simp only [Oper.upon] at hh ⊢
    case value v => exact h _ _ hh
    case skip => exact h _ _ hh
    case defer d => exact h _ _ hh
    case enter f args =>
      refine Calls.mono hh fun e w2 h2 => ?_
      cases e with
      | returned v => exact h _ _ h2
      | panicked c => exact h2.elim
      | outgrown => exact (Seg.letsOut h2).elim
    case row row args => exact fun b k => let ⟨v, w2, h1, h2⟩ := hh b k; ⟨v, w2, h _ _ h1, h2⟩
  | halt x w1 => cases x <;> simp only [Oper.upon] at hh <;> exact hh.elim
section
variable {P : Program} {ops : Array Oper} {Q : Exit → Act → World → Prop} {md : Region.Mode} {I : World → Prop}
def wpAnyI (P : Program) (md : Region.Mode) (ops : Array Oper) (Q : Exit → Act → World → Prop) (I : World → Prop) : Nat → Array Bool → Act → World → Prop
  | 0, listed, a, w => Region.ready md ops listed = [] ∧ Q .normal a w
  | fuel + 1, listed, a, w =>
    (Region.ready md ops listed = [] → Q .normal a w) ∧
    ∀ j ∈ Region.ready md ops listed, wpOp P ops Q j (fun a' w' => I w' ∧ wpAnyI P md ops Q I fuel (listed.setIfInBounds j true) a' w') a w
theorem wpAny_of_I : ∀ (fuel : Nat) (listed : Array Bool) (a : Act) (w : World), wpAnyI P md ops Q I fuel listed a w → wpAny P md ops Q fuel listed a w
  | 0, _, _, _, h => h
  | fuel + 1, _, _, _, h => ⟨h.1, fun j hj => wpOp_mono (fun a' w' h' => wpAny_of_I fuel _ a' w' h'.2) (h.2 j hj)⟩
/-- What yields the same in every world that meets I may be taken first. -/
theorem I_first {i : Nat} {oi : Oper} {v : Value} (hi : ops[i]? = some oi) (hsel : ∀ (j : Nat) (o : Oper) cs b, ops[j]? = some o → o.op ≠ .select cs b)
    (hQ : ∀ c a w, Q (.panic c) (a.put oi.dst v) w → Q (.panic c) a w) :
    ∀ (fuel : Nat) (listed : Array Bool) (a : Act) (w : World),
      (∀ j oj, ops[j]? = some oj → j ≠ i → listed.getD j true = false → (∀ e ∈ oj.after, Region.binds md e = true → e.on ≠ i) → oi.apart ops oj = true) →
      i ∈ Region.ready md ops listed → YieldsIf P ops I oi v a → I w →
      wpAnyI P md ops Q I fuel (listed.setIfInBounds i true) (a.put oi.dst v) w → wpAnyI P md ops Q I (fuel + 1) listed a w := by
  intro fuel
  induction fuel with
  | zero =>
    intro listed a w _ hr hy hw H
    refine ⟨fun h => (by rw [h] at hr; cases hr), fun j hj => ?_⟩
    by_cases hji : j = i
    · subst hji; exact hy.wpOp hi hw ⟨hw, H⟩
    · have := ready_mono hj hji
      rw [H.1] at this
      cases this
  | succ fuel ih =>
    intro listed a w hfree hr hy hw H
    refine ⟨fun h => (by rw [h] at hr; cases hr), fun j hj => ?_⟩
    by_cases hji : j = i
    · subst hji; exact hy.wpOp hi hw ⟨hw, H⟩
    · have h1 := H.2 j (ready_mono hj hji)
      obtain ⟨hjun, oj, hoj, hall⟩ := mem_ready.1 hj
      have hnot := not_waits hr hoj hall
      have h2 := wpOp_putIf hoj (hfree j oj hoj hji hjun hnot) (fun cs b => hsel i oi cs b hi) (fun cs b => hsel j oj cs b hoj) hQ hy h1
      have hfree' : ∀ k ok, ops[k]? = some ok → k ≠ i → (listed.setIfInBounds j true).getD k true = false →
          (∀ e ∈ ok.after, Region.binds md e = true → e.on ≠ i) → oi.apart ops ok = true := fun k ok hk hki hun hno => by
        refine hfree k ok hk hki ?_ hno
        by_cases hjk : j = k
        · subst hjk; exact hjun
        · rw [getD_set_ne true hjk] at hun; exact hun
      refine wpOp_mono (fun a' w' h3 => ⟨h3.2.1, ih (listed.setIfInBounds j true) a' w' hfree' (ready_mono hr (Ne.symm hji)) h3.1 h3.2.1 ?_⟩) h2
      rw [Array.setIfInBounds_comm _ _ hji]; exact h3.2.2
end
/-! ### The walk -/
/-- The operations up to the first that writes, and what is to hold there. -/
def planW (P : Program) (ops : Array Oper) (fin : Act → World → Prop) (I : World → Prop) : Plan → List Oper × (Act → World → Prop)
  | [] => ([], fin)
  | (i, false) :: r => (opAt ops i :: (planW P ops fin I r).1, (planW P ops fin I r).2)
  | (i, true) :: r => ([opAt ops i], fun a w => I w ∧ wpList P ops (Seg (planW P ops fin I r).2) (planW P ops fin I r).1 a w)
def lowOpnd (o : Oper) : Operand := match o.op with | .load _ x => x | .convert _ _ x => x | _ => .const undef
/-- What is loaded at p is the same in every world that meets I. -/
def Stab (P : Program) (I : World → Prop) (o : Oper) (p : Value) : Prop :=
  match o.op with
  | .load t _ => ∃ v, ∀ w, I w → (Instr.loadAt t p).run P w = .ok v w
  | .convert src dst _ => ∃ v, ∀ w, I w → (convert src dst p).run P w = .ok v w
  | _ => False
def finI (ops : Array Oper) (need : Needs) (low : List (Nat × Value)) (Q : Exit → Act → World → Prop) : Act → World → Prop := fun a w =>
  needOk need a = true ∧ (∀ x ∈ low, a.eval (lowOpnd (opAt ops x.1)) = x.2) ∧ Q .normal a w
def staysLow (ops : Array Oper) (o : Oper) (r : Plan) : Bool := r.all fun x => match (opAt ops x.1).dst with | some d => !(tmpsIn o).contains d | none => true
def detI (P : Program) (ops : Array Oper) (need : Needs) (idx : List Nat) : Array Bool → Plan → Bool
  | listed, [] => (Region.ready .any ops listed).isEmpty
  | listed, (i, false) :: r =>
    (Region.ready .any ops listed).contains i && Region.free .any ops listed i &&
      ((stays ops need (opAt ops i) ((i, false) :: r) && pureOp P (needOf need (opAt ops i)) (opAt ops i)) || (idx.contains i && staysLow ops (opAt ops i) ((i, false) :: r))) &&
      detI P ops need idx (listed.setIfInBounds i true) r
  | listed, (i, true) :: r => Region.ready .any ops listed == [i] && detI P ops need idx (listed.setIfInBounds i true) r
section
variable {P : Program} {ops : Array Oper} {I : World → Prop} {fin : Act → World → Prop}
theorem stepS {F : Act → World → Prop} {o : Oper} {l : List Oper} {a : Act} {w : World} (h : wpList P ops (Seg F) (o :: l) a w) :
    ∃ a' w', wpList P ops (Seg F) l a' w' ∧ ∀ t, o.dst ≠ some t → a'.tmps.getD t undef = a.tmps.getD t undef := by
  unfold wpList at h
  split at h
  · rcases h with h | h
    · unfold Oper.wp at h
      generalize (execOp a.eval o).run P w = r at h
      cases r with
      | ok n w1 =>
        cases n <;> simp only [Oper.upon] at h
        case value v => exact ⟨_, _, h, fun t ht => put_ne ht⟩
        case skip => exact ⟨_, _, h, fun t ht => put_ne ht⟩
        case defer d => exact ⟨_, _, h, fun t ht => put_ne (a := { a with defers := d :: a.defers }) ht⟩
        case enter f args =>
          obtain ⟨e, w2, fr, hR, _⟩ := h []
          cases e with
          | returned v => exact ⟨_, _, hR, fun t ht => put_ne ht⟩
          | panicked c => exact hR.elim
          | outgrown => exact (Seg.letsOut hR).elim
        case row row args =>
          obtain ⟨v, w2, hR, _⟩ := h default []
          exact ⟨_, _, hR, fun t ht => put_ne ht⟩
      | halt x w1 => cases x <;> simp only [Oper.upon] at h <;> exact h.elim
    · exact (Seg.letsOut h.2).elim
  · exact ⟨_, _, h, fun t ht => put_ne ht⟩
theorem endsP : ∀ (plan : Plan) (a : Act) (w : World), wpList P ops (Seg (planW P ops fin I plan).2) (planW P ops fin I plan).1 a w →
    ∃ af wf, fin af wf ∧ ∀ t, (∀ x ∈ plan, (opAt ops x.1).dst ≠ some t) → af.tmps.getD t undef = a.tmps.getD t undef
  | [], a, w, h => ⟨a, w, h, fun _ _ => rfl⟩
  | (i, false) :: r, a, w, h => by
    obtain ⟨a', w', h1, h2⟩ := stepS h
    obtain ⟨af, wf, h3, h4⟩ := endsP r a' w' h1
    exact ⟨af, wf, h3, fun t ht => (h4 t fun x hx => ht x (List.mem_cons_of_mem _ hx)).trans (h2 t (ht (i, false) List.mem_cons_self))⟩
  | (i, true) :: r, a, w, h => by
    obtain ⟨a', w', h1, h2⟩ := stepS h
    obtain ⟨af, wf, h3, h4⟩ := endsP r a' w' h1.2
    exact ⟨af, wf, h3, fun t ht => (h4 t fun x hx => ht x (List.mem_cons_of_mem _ hx)).trans (h2 t (ht (i, true) List.mem_cons_self))⟩
theorem eval_same {a a' : Act} {x : Operand} (h : ∀ t, x = .tmp t → a'.tmps.getD t undef = a.tmps.getD t undef) : a'.eval x = a.eval x := by
  cases x <;> simp only [Act.eval]
  exact h _ rfl
theorem lowOpnd_in (o : Oper) {t : Tmp} (h : lowOpnd o = .tmp t) : t ∈ tmpsIn o := by
  obtain ⟨dst, op, type, pos, after, guard⟩ := o
  cases op <;> simp only [lowOpnd, reduceCtorEq] at h
  all_goals (subst h; simp [tmpsIn, Op.operands])
theorem mainI {need : Needs} {low : List (Nat × Value)} {Q : Exit → Act → World → Prop} (hs : Region.noSelect ops = true) (hlow : ∀ x ∈ low, Stab P I (opAt ops x.1) x.2) :
    ∀ (plan : Plan) (listed : Array Bool) (a : Act) (w : World), detI P ops need (low.map (·.1)) listed plan = true → I w →
      wpList P ops (Seg (planW P ops (finI ops need low Q) I plan).2) (planW P ops (finI ops need low Q) I plan).1 a w →
      wpAnyI P .any ops (Seg (finI ops need low Q)) I plan.length listed a w
  | [], listed, a, w, hd, _, h => by
    have : Region.ready .any ops listed = [] := by simpa [detI] using hd
    exact ⟨this, h⟩
  | (i, false) :: r, listed, a, w, hd, hIw, h => by
    simp only [detI, Bool.and_eq_true] at hd
    obtain ⟨⟨⟨hr, hf⟩, hk⟩, hrest⟩ := hd
    have hr' : i ∈ Region.ready .any ops listed := by simpa using hr
    obtain ⟨_, oi, hoi, _⟩ := mem_ready.1 hr'
    have hat : opAt ops i = oi := by simp [opAt, hoi]
    have hends := endsP ((i, false) :: r) a w h
    have h' : wpList P ops (Seg (planW P ops (finI ops need low Q) I r).2) (oi :: (planW P ops (finI ops need low Q) I r).1) a w := by
      rw [← hat]; exact h
    have hQ : ∀ v c a w, Seg (finI ops need low Q) (.panic c) (a.put oi.dst v) w → Seg (finI ops need low Q) (.panic c) a w := fun _ _ _ _ h => h.elim
    have hsel := fun j o cs b ho => Region.noSelect_spec hs j o cs b ho
    -- what it comes to, in every world that meets I
    have key : ∀ (s : Sem Value), execOp a.eval oi = (do Pure.pure (Next.value (← s))) → (∀ v w1, s.run P w = .ok v w1 → w1 = w ∧ ∀ w', I w' → s.run P w' = .ok v w') →
        wpAnyI P .any ops (Seg (finI ops need low Q)) I (r.length + 1) listed a w := fun s hex hl => by
      cases hw : Region.wanted oi (yielded ops a.tmps) with
      | true =>
        unfold wpList at h'
        rw [if_pos hw] at h'
        rcases h' with h' | h'
        · unfold Oper.wp at h'
          rw [hex, Sem.run_bind] at h'
          cases hrun : s.run P w with
          | ok v w1 =>
            obtain ⟨rfl, hall⟩ := hl _ _ hrun
            rw [hrun] at h'
            have hy : YieldsIf P ops I oi v a := .inl ⟨hw, fun w' hw' => by rw [hex, Sem.run_bind, hall w' hw']; rfl⟩
            exact I_first hoi hsel (hQ v) r.length listed a w1 (Region.free_spec hoi hf) hr' hy hIw (mainI hs hlow r _ _ w1 hrest hIw h')
          | halt x w1 =>
            rw [hrun] at h'
            cases x <;> exact h'.elim
        · exact (Seg.letsOut h'.2).elim
      | false =>
        unfold wpList at h'
        rw [if_neg (by rw [hw]; decide)] at h'
        exact I_first hoi hsel (hQ undef) r.length listed a w (Region.free_spec hoi hf) hr' (.inr ⟨hw, rfl⟩) hIw (mainI hs hlow r _ _ w hrest hIw h')
    obtain ⟨af, wf, ⟨hneed, hlowf, _⟩, hsame⟩ := hends
    rcases (Bool.or_eq_true _ _).mp hk with hp | hp
    · obtain ⟨hst, hp⟩ := (Bool.and_eq_true _ _).mp hp
      have hne : needOk (needOf need (opAt ops i)) a = true := by
        unfold needOk at hneed ⊢
        rw [List.all_eq_true] at hneed ⊢
        intro p hpm
        have hp0 := hpm
        simp only [needOf, List.mem_filter] at hpm
        have h3 := hneed p hpm.1
        rw [hsame p.1 (fun x hx hd => by
          have h5 := List.all_eq_true.1 hst x hx
          simp only [hd] at h5
          have h6 := List.all_eq_true.1 h5 p hp0
          simp at h6)] at h3
        exact h3
      rw [hat] at hp hne
      obtain ⟨s, hex, hloc⟩ := pureOp_local hp hne
      exact key s hex fun v w1 hrun => ⟨(hloc _ _ _ hrun).1, fun w' _ => (hloc _ _ _ hrun).2 w'⟩
    · obtain ⟨hix, hst⟩ := (Bool.and_eq_true _ _).mp hp
      simp only [List.contains_iff_mem, List.mem_map] at hix
      obtain ⟨⟨i', p⟩, hxm, hxi⟩ := hix
      have hxi' : i' = i := hxi
      subst hxi'
      have hev : a.eval (lowOpnd oi) = p := by
        have e := hlowf _ hxm
        simp only [hat] at e
        rw [← e]
        refine (eval_same fun t ht => ?_).symm
        refine hsame t fun x hx hd => ?_
        have h5 := List.all_eq_true.1 hst x hx
        simp only [hd, hat] at h5
        have h6 := lowOpnd_in oi ht
        simp [h6] at h5
      have hstab := hlow _ hxm
      simp only [hat] at hstab
      unfold Stab at hstab
      cases hop : oi.op <;> simp only [hop] at hstab
      case load t x =>
        have hev' : a.eval x = p := by simpa only [lowOpnd, hop] using hev
        obtain ⟨v, hv⟩ := hstab
        refine key (Instr.loadAt t p) (by simp only [execOp, hop, hev']) fun u w1 hrun => ?_
        rw [hv w hIw] at hrun
        cases hrun
        exact ⟨rfl, hv⟩
      case convert src d x =>
        have hev' : a.eval x = p := by simpa only [lowOpnd, hop] using hev
        obtain ⟨v, hv⟩ := hstab
        refine key (Go.convert src d p) (by simp only [execOp, hop, hev']) fun u w1 hrun => ?_
        rw [hv w hIw] at hrun
        cases hrun
        exact ⟨rfl, hv⟩
  | (i, true) :: r, listed, a, w, hd, hIw, h => by
    simp only [detI, Bool.and_eq_true] at hd
    have hr : Region.ready .any ops listed = [i] := by simpa using hd.1
    have hr' : i ∈ Region.ready .any ops listed := by rw [hr]; simp
    obtain ⟨_, oi, hoi, _⟩ := mem_ready.1 hr'
    have hat : opAt ops i = oi := by simp [opAt, hoi]
    refine ⟨fun h0 => (by rw [hr] at h0; cases h0), fun j hj => ?_⟩
    rw [hr] at hj
    obtain rfl : j = i := by simpa using hj
    have h1 : wpList P ops (Seg (planW P ops (finI ops need low Q) I ((j, true) :: r)).2) [oi] a w := by rw [← hat]; exact h
    have cont : ∀ a' w', I w' ∧ wpList P ops (Seg (planW P ops (finI ops need low Q) I r).2) (planW P ops (finI ops need low Q) I r).1 a' w' →
        I w' ∧ wpAnyI P .any ops (Seg (finI ops need low Q)) I r.length (listed.setIfInBounds j true) a' w' := fun a' w' ⟨h2, h3⟩ => ⟨h2, mainI hs hlow r _ a' w' hd.2 h2 h3⟩
    unfold wpOp
    rw [hoi]
    unfold wpList at h1
    dsimp only
    split
    · rename_i hw
      rw [if_pos hw] at h1
      rcases h1 with h1 | h1
      · exact .inl (Oper.wp_seg cont h1)
      · exact (Seg.letsOut h1.2).elim
    · rename_i hw
      rw [if_neg hw] at h1
      exact cont _ _ h1
/-- THE REGION. 'low': the loads (and readings of bytes) that may come at any time, each with the place that it reads. -/
theorem region_low {Q : Exit → Act → World → Prop} {id : Nat} {l : List Oper} {a : Act} {w : World} (plan : Plan) (need : Needs) (low : List (Nat × Value)) (I : World → Prop) (hm : P.follows .mixedOrders = true)
    (hs : Region.noSelect l.toArray = true) (hn : plan.length = l.length) (hd : detI P l.toArray need (low.map (·.1)) (Array.replicate l.length false) plan = true)
    (hlow : ∀ x ∈ low, Stab P I (opAt l.toArray x.1) x.2) (hI : I w.drew)
    (h : wpList P l.toArray (Seg (planW P l.toArray (finI l.toArray need low Q) I plan).2) (planW P l.toArray (finI l.toArray need low Q) I plan).1 a w.drew) : (Code.region id l.toArray true).wp P Q a w := by
  refine Code.wp_mono (Q := Seg (finI l.toArray need low Q)) (fun e a w h => ?_) ?_
  · cases e <;> first | exact h.2.2 | exact h.elim
  · refine wp_region_any hm (wpAny_of_I (I := I) _ _ _ _ (?_ : wpAnyI P .any l.toArray (Seg (finI l.toArray need low Q)) I l.toArray.size (Array.replicate l.toArray.size false) a w.drew))
    have := mainI (Q := Q) hs hlow plan (Array.replicate l.length false) a w.drew hd hI h
    rw [hn] at this
    exact this
end
/-! ### What is told to it -/
theorem stab_load {P : Program} {I : World → Prop} {o : Oper} {t : TypeId} {x : Operand} (ho : o.op = .load t x) (b off : Nat) (cs : List Value) (d : TypeDesc) (hI : ∀ w', I w' → w'.rangeAt b off cs)
    (hu : P.underlying t = some d) (hd : d.isRow = true) (hi : (P.info? t).map (·.size) = some cs.length) : Stab P I o (.pointer (some ⟨b, off, none⟩)) := by
  unfold Stab; rw [ho]
  exact ⟨_, fun w' hw => run_loadAt_mid w' b off t cs d (hI w' hw) hu hd hi⟩
theorem stab_conv {P : Program} {I : World → Prop} {o : Oper} {src dst e : TypeId} {x : Operand} (ho : o.op = .convert src dst x) (v : Value) (l : List UInt8) (hI : ∀ w', I w' → SeesB w' v l)
    (hs : P.underlying src = some (.slice e)) (he : P.underlying e = some (.int .u8)) (hd : P.underlying dst = some .string) : Stab P I o v := by
  unfold Stab; rw [ho]
  exact ⟨_, fun w' hw => SeesB.run_string (hI w' hw) src dst e hs he hd w' (grownBy_refl _ _)⟩
theorem lows_cons {P : Program} {I : World → Prop} {ops : Array Oper} {x : Nat × Value} {low : List (Nat × Value)} (h : Stab P I (opAt ops x.1) x.2) (r : ∀ x ∈ low, Stab P I (opAt ops x.1) x.2) : ∀ y ∈ x :: low, Stab P I (opAt ops y.1) y.2 :=
  List.forall_mem_cons.2 ⟨h, r⟩
theorem lows_nil {P : Program} {I : World → Prop} {ops : Array Oper} : ∀ y ∈ ([] : List (Nat × Value)), Stab P I (opAt ops y.1) y.2 := fun _ h => by cases h
theorem ats_cons {ops : Array Oper} {a : Act} {x : Nat × Value} {low : List (Nat × Value)} (h : a.eval (lowOpnd (opAt ops x.1)) = x.2) (r : ∀ x ∈ low, a.eval (lowOpnd (opAt ops x.1)) = x.2) : ∀ y ∈ x :: low, a.eval (lowOpnd (opAt ops y.1)) = y.2 :=
  List.forall_mem_cons.2 ⟨h, r⟩
theorem ats_nil {ops : Array Oper} {a : Act} : ∀ y ∈ ([] : List (Nat × Value)), a.eval (lowOpnd (opAt ops y.1)) = y.2 := fun _ h => by cases h
theorem needs_nil {a : Act} : needOk [] a = true := rfl
theorem needs_cons {a : Act} {x : Tmp × Shape} {r : Needs} (h : x.2.ok (a.tmps.getD x.1 undef) = true) (k : needOk r a = true) : needOk (x :: r) a = true := by
  unfold needOk at *; rw [List.all_cons, h, k]; rfl
end TL
end Go
