/- Texts of this seat, put together: Words, Mem, Base, Big, ShaP, Turn, New, Det, Write, Law2, Sum. Each begins with a remark that says what is proved in it, and under which conditions. -/
import Derived.WalkKit
import Derived.WalkSpells
import Derived.WalkLawsBesides
import Derived.Deep.MidRow
import Derived.Lib.Hide
import Derived.Test.YtidadhbaomieiaaGreatRows
import Derived.Deep.QuietTactic
import Derived.BigQuiet
import Derived.Deep.DeepMust
import Derived.KernelRfl
import Derived.OrdersHeld
import Derived.ChangeKeysEq
import Derived.Lib.Strings
/- Words of 8, 32 and 64 bits as the walk's integers: the rules by which the walk's arithmetic on unsigned kinds stays a word's own arithmetic. Conditions: none but the ones each rule names. -/
namespace Go
namespace TL
/-- A word's number, closed to the walk's simp. -/
def I8 (x : UInt8) : Int := (x.toNat : Int)
def I32 (x : UInt32) : Int := (x.toNat : Int)
def I64 (x : UInt64) : Int := (x.toNat : Int)
theorem I8_eq (x : UInt8) : I8 x = (x.toNat : Int) := rfl
theorem I32_eq (x : UInt32) : I32 x = (x.toNat : Int) := rfl
theorem I64_eq (x : UInt64) : I64 x = (x.toNat : Int) := rfl
theorem I8_bd (x : UInt8) : 0 ≤ I8 x ∧ I8 x < 256 := by unfold I8; have := x.toNat_lt; omega
theorem I32_bd (x : UInt32) : 0 ≤ I32 x ∧ I32 x < 4294967296 := by unfold I32; have := x.toNat_lt; omega
theorem I64_bd (x : UInt64) : 0 ≤ I64 x ∧ I64 x < 18446744073709551616 := by unfold I64; have := x.toNat_lt; omega
theorem I8_inj {x y : UInt8} : I8 x = I8 y ↔ x = y := by unfold I8; rw [Int.ofNat_inj, UInt8.toNat_inj]
theorem I32_inj {x y : UInt32} : I32 x = I32 y ↔ x = y := by unfold I32; rw [Int.ofNat_inj, UInt32.toNat_inj]
theorem I64_inj {x y : UInt64} : I64 x = I64 y ↔ x = y := by unfold I64; rw [Int.ofNat_inj, UInt64.toNat_inj]
/-- The word that an integer is, wrapped. -/
def w8 (n : Int) : UInt8 := ⟨BitVec.ofInt 8 n⟩
def w32 (n : Int) : UInt32 := ⟨BitVec.ofInt 32 n⟩
def w64 (n : Int) : UInt64 := ⟨BitVec.ofInt 64 n⟩
@[simp] theorem w8_I8 (x : UInt8) : w8 (I8 x) = x := by
  unfold w8 I8; apply UInt8.eq_of_toBitVec_eq; simp [BitVec.ofInt_natCast]
@[simp] theorem w32_I32 (x : UInt32) : w32 (I32 x) = x := by
  unfold w32 I32; apply UInt32.eq_of_toBitVec_eq; simp [BitVec.ofInt_natCast]
@[simp] theorem w64_I64 (x : UInt64) : w64 (I64 x) = x := by
  unfold w64 I64; apply UInt64.eq_of_toBitVec_eq; simp [BitVec.ofInt_natCast]
theorem toNat_w8 (n : Int) : (w8 n).toNat = (n % 256).toNat := by simp [w8, UInt8.toNat, BitVec.toNat_ofInt]
theorem toNat_w32 (n : Int) : (w32 n).toNat = (n % 4294967296).toNat := by simp [w32, UInt32.toNat, BitVec.toNat_ofInt]
theorem toNat_w64 (n : Int) : (w64 n).toNat = (n % 18446744073709551616).toNat := by simp [w64, UInt64.toNat, BitVec.toNat_ofInt]
theorem I8_w8 (n : Int) : I8 (w8 n) = IntKind.u8.wrap n := by
  unfold I8; rw [toNat_w8]; simp [IntKind.wrap, IntKind.bits, IntKind.signed]; omega
theorem I32_w32 (n : Int) : I32 (w32 n) = IntKind.u32.wrap n := by
  unfold I32; rw [toNat_w32]; simp [IntKind.wrap, IntKind.bits, IntKind.signed]; omega
theorem I64_w64 (n : Int) : I64 (w64 n) = IntKind.u64.wrap n := by
  unfold I64; rw [toNat_w64]; simp [IntKind.wrap, IntKind.bits, IntKind.signed]; omega
theorem w8_add (x y : Int) : w8 (x + y) = w8 x + w8 y := by unfold w8; apply UInt8.eq_of_toBitVec_eq; simp [BitVec.ofInt_add]
@[go_sem ↓] theorem arith_add_8 (x y : Int) : Op.intArith .add .u8 x y = pure (.int .u8 (I8 (w8 x + w8 y))) := by rw [← w8_add, I8_w8]; rfl
theorem w8_sub (x y : Int) : w8 (x - y) = w8 x - w8 y := by unfold w8; apply UInt8.eq_of_toBitVec_eq; simp [Int.sub_eq_add_neg, BitVec.ofInt_add, BitVec.ofInt_neg, BitVec.sub_eq_add_neg]
@[go_sem ↓] theorem arith_sub_8 (x y : Int) : Op.intArith .sub .u8 x y = pure (.int .u8 (I8 (w8 x - w8 y))) := by rw [← w8_sub, I8_w8]; rfl
theorem w8_mul (x y : Int) : w8 (x * y) = w8 x * w8 y := by unfold w8; apply UInt8.eq_of_toBitVec_eq; simp [BitVec.ofInt_mul]
@[go_sem ↓] theorem arith_mul_8 (x y : Int) : Op.intArith .mul .u8 x y = pure (.int .u8 (I8 (w8 x * w8 y))) := by rw [← w8_mul, I8_w8]; rfl
theorem bits_and_8' (x y : Int) : bits .and .u8 x y = I8 (w8 x &&& w8 y) :=
  IntWalk.u8_in _ (by have := (BitVec.ofInt 8 x &&& BitVec.ofInt 8 y).isLt; constructor; exact Int.natCast_nonneg _; simp only [IntKind.bits]; omega)
@[go_sem ↓] theorem bits_and_8 (x y : Int) : Op.intBits .and .u8 x y = pure (.int .u8 (I8 (w8 x &&& w8 y))) := by rw [intBits_and, bits_and_8']
theorem bits_or_8' (x y : Int) : bits .or .u8 x y = I8 (w8 x ||| w8 y) :=
  IntWalk.u8_in _ (by have := (BitVec.ofInt 8 x ||| BitVec.ofInt 8 y).isLt; constructor; exact Int.natCast_nonneg _; simp only [IntKind.bits]; omega)
@[go_sem ↓] theorem bits_or_8 (x y : Int) : Op.intBits .or .u8 x y = pure (.int .u8 (I8 (w8 x ||| w8 y))) := by rw [intBits_or, bits_or_8']
theorem bits_xor_8' (x y : Int) : bits .xor .u8 x y = I8 (w8 x ^^^ w8 y) :=
  IntWalk.u8_in _ (by have := (BitVec.ofInt 8 x ^^^ BitVec.ofInt 8 y).isLt; constructor; exact Int.natCast_nonneg _; simp only [IntKind.bits]; omega)
@[go_sem ↓] theorem bits_xor_8 (x y : Int) : Op.intBits .xor .u8 x y = pure (.int .u8 (I8 (w8 x ^^^ w8 y))) := by rw [intBits_xor, bits_xor_8']
@[go_sem ↓] theorem unary_xor_8 (x : Int) : Op.unary .xor (.int .u8 x) = pure (.int .u8 (I8 (~~~ w8 x))) := by
  show Op.intBits .xor .u8 _ x = _
  rw [bits_xor_8]; congr 3
@[go_sem] theorem not_8 (x : UInt8) : w8 (IntKind.max .u8) ^^^ x = ~~~ x := by
  rw [show w8 (IntKind.max .u8) = -1 from rfl]; apply UInt8.eq_of_toBitVec_eq; simp
@[go_sem ↓] theorem conv_8 (x : Int) : Conv.intToInt .u8 x = pure (.int .u8 (I8 (w8 x))) := by rw [I8_w8]; rfl
theorem w8_shl (x : Int) (n : Nat) (h : n < 8) : w8 (x * 2 ^ n) = w8 x <<< UInt8.ofNat n := by
  apply UInt8.eq_of_toBitVec_eq
  simp only [w8, UInt8.toBitVec_shiftLeft]
  have e : ((UInt8.ofNat n).toBitVec % (8 : BitVec 8)) = BitVec.ofNat 8 n := by
    apply BitVec.eq_of_toNat_eq; simp; omega
  have e2 : BitVec.ofInt 8 (2 ^ n) = BitVec.twoPow 8 n := by
    apply BitVec.eq_of_toNat_eq; rw [BitVec.toNat_twoPow]; rw [show ((2 : Int) ^ n) = ((2 ^ n : Nat) : Int) from by simp, BitVec.ofInt_natCast, BitVec.toNat_ofNat]
  rw [BitVec.ofInt_mul, e, e2, BitVec.shiftLeft_eq', BitVec.mul_twoPow_eq_shiftLeft, BitVec.toNat_ofNat, Nat.mod_eq_of_lt (show n < 2 ^ 8 by omega)]
@[go_sem ↓] theorem shl_8 (x y : Int) (yk : IntKind) (h0 : 0 ≤ y) (h1 : y ≤ 7) : Op.shift .shl .u8 x yk y = pure (.int .u8 (I8 (w8 x <<< UInt8.ofNat y.toNat))) := by
  rw [shift_shl .u8 yk x y h0 (by simp [IntKind.bits]; omega), ← I8_w8, w8_shl _ _ (by omega)]
theorem I8_shr (x : UInt8) (n : Nat) (h : n < 8) : I8 x / 2 ^ n = I8 (x >>> UInt8.ofNat n) := by
  unfold I8; simp [Nat.shiftRight_eq_div_pow]; rw [Nat.mod_eq_of_lt h]
@[go_sem ↓] theorem shr_8 (x : UInt8) (y : Int) (yk : IntKind) (h0 : 0 ≤ y) (h1 : y ≤ 7) : Op.shift .shr .u8 (I8 x) yk y = pure (.int .u8 (I8 (x >>> UInt8.ofNat y.toNat))) := by
  rw [shift_shr .u8 yk _ y h0 (by simp [IntKind.bits]; omega), I8_shr _ _ (by omega)]
theorem I8_div (x y : UInt8) : I8 x / I8 y = I8 (x / y) := by unfold I8; simp
theorem I8_mod (x y : UInt8) : I8 x % I8 y = I8 (x % y) := by unfold I8; simp
theorem I8_lt (x y : UInt8) : I8 x < I8 y ↔ x < y := by unfold I8; rw [UInt8.lt_iff_toNat_lt]; omega
theorem I8_le (x y : UInt8) : I8 x ≤ I8 y ↔ x ≤ y := by unfold I8; rw [UInt8.le_iff_toNat_le]; omega
@[go_sem ↓] theorem wrap_8 (x : Int) : IntKind.wrap .u8 x = I8 (w8 x) := (I8_w8 x).symm
@[go_sem] theorem cast_8 (x : UInt8) : ((x.toNat : Nat) : Int) = I8 x := rfl
@[go_sem] theorem w8_lit (n : Nat) : w8 (no_index (@OfNat.ofNat Int n _)) = @OfNat.ofNat UInt8 n _ := by
  show w8 ((n : Nat) : Int) = _
  unfold w8; apply UInt8.eq_of_toBitVec_eq; rw [BitVec.ofInt_natCast]; rfl
theorem w8_nat (n : Nat) : w8 ((n : Nat) : Int) = UInt8.ofNat n := by
  unfold w8; apply UInt8.eq_of_toBitVec_eq; rw [BitVec.ofInt_natCast]; rfl
theorem w32_add (x y : Int) : w32 (x + y) = w32 x + w32 y := by unfold w32; apply UInt32.eq_of_toBitVec_eq; simp [BitVec.ofInt_add]
@[go_sem ↓] theorem arith_add_32 (x y : Int) : Op.intArith .add .u32 x y = pure (.int .u32 (I32 (w32 x + w32 y))) := by rw [← w32_add, I32_w32]; rfl
theorem w32_sub (x y : Int) : w32 (x - y) = w32 x - w32 y := by unfold w32; apply UInt32.eq_of_toBitVec_eq; simp [Int.sub_eq_add_neg, BitVec.ofInt_add, BitVec.ofInt_neg, BitVec.sub_eq_add_neg]
@[go_sem ↓] theorem arith_sub_32 (x y : Int) : Op.intArith .sub .u32 x y = pure (.int .u32 (I32 (w32 x - w32 y))) := by rw [← w32_sub, I32_w32]; rfl
theorem w32_mul (x y : Int) : w32 (x * y) = w32 x * w32 y := by unfold w32; apply UInt32.eq_of_toBitVec_eq; simp [BitVec.ofInt_mul]
@[go_sem ↓] theorem arith_mul_32 (x y : Int) : Op.intArith .mul .u32 x y = pure (.int .u32 (I32 (w32 x * w32 y))) := by rw [← w32_mul, I32_w32]; rfl
theorem bits_and_32' (x y : Int) : bits .and .u32 x y = I32 (w32 x &&& w32 y) :=
  IntWalk.u32_in _ (by have := (BitVec.ofInt 32 x &&& BitVec.ofInt 32 y).isLt; constructor; exact Int.natCast_nonneg _; simp only [IntKind.bits]; omega)
@[go_sem ↓] theorem bits_and_32 (x y : Int) : Op.intBits .and .u32 x y = pure (.int .u32 (I32 (w32 x &&& w32 y))) := by rw [intBits_and, bits_and_32']
theorem bits_or_32' (x y : Int) : bits .or .u32 x y = I32 (w32 x ||| w32 y) :=
  IntWalk.u32_in _ (by have := (BitVec.ofInt 32 x ||| BitVec.ofInt 32 y).isLt; constructor; exact Int.natCast_nonneg _; simp only [IntKind.bits]; omega)
@[go_sem ↓] theorem bits_or_32 (x y : Int) : Op.intBits .or .u32 x y = pure (.int .u32 (I32 (w32 x ||| w32 y))) := by rw [intBits_or, bits_or_32']
theorem bits_xor_32' (x y : Int) : bits .xor .u32 x y = I32 (w32 x ^^^ w32 y) :=
  IntWalk.u32_in _ (by have := (BitVec.ofInt 32 x ^^^ BitVec.ofInt 32 y).isLt; constructor; exact Int.natCast_nonneg _; simp only [IntKind.bits]; omega)
@[go_sem ↓] theorem bits_xor_32 (x y : Int) : Op.intBits .xor .u32 x y = pure (.int .u32 (I32 (w32 x ^^^ w32 y))) := by rw [intBits_xor, bits_xor_32']
@[go_sem ↓] theorem unary_xor_32 (x : Int) : Op.unary .xor (.int .u32 x) = pure (.int .u32 (I32 (~~~ w32 x))) := by
  show Op.intBits .xor .u32 _ x = _
  rw [bits_xor_32]; congr 3
@[go_sem] theorem not_32 (x : UInt32) : w32 (IntKind.max .u32) ^^^ x = ~~~ x := by
  rw [show w32 (IntKind.max .u32) = -1 from rfl]; apply UInt32.eq_of_toBitVec_eq; simp
@[go_sem ↓] theorem conv_32 (x : Int) : Conv.intToInt .u32 x = pure (.int .u32 (I32 (w32 x))) := by rw [I32_w32]; rfl
theorem w32_shl (x : Int) (n : Nat) (h : n < 32) : w32 (x * 2 ^ n) = w32 x <<< UInt32.ofNat n := by
  apply UInt32.eq_of_toBitVec_eq
  simp only [w32, UInt32.toBitVec_shiftLeft]
  have e : ((UInt32.ofNat n).toBitVec % (32 : BitVec 32)) = BitVec.ofNat 32 n := by
    apply BitVec.eq_of_toNat_eq; simp; omega
  have e2 : BitVec.ofInt 32 (2 ^ n) = BitVec.twoPow 32 n := by
    apply BitVec.eq_of_toNat_eq; rw [BitVec.toNat_twoPow]; rw [show ((2 : Int) ^ n) = ((2 ^ n : Nat) : Int) from by simp, BitVec.ofInt_natCast, BitVec.toNat_ofNat]
  rw [BitVec.ofInt_mul, e, e2, BitVec.shiftLeft_eq', BitVec.mul_twoPow_eq_shiftLeft, BitVec.toNat_ofNat, Nat.mod_eq_of_lt (show n < 2 ^ 32 by omega)]
@[go_sem ↓] theorem shl_32 (x y : Int) (yk : IntKind) (h0 : 0 ≤ y) (h1 : y ≤ 31) : Op.shift .shl .u32 x yk y = pure (.int .u32 (I32 (w32 x <<< UInt32.ofNat y.toNat))) := by
  rw [shift_shl .u32 yk x y h0 (by simp [IntKind.bits]; omega), ← I32_w32, w32_shl _ _ (by omega)]
theorem I32_shr (x : UInt32) (n : Nat) (h : n < 32) : I32 x / 2 ^ n = I32 (x >>> UInt32.ofNat n) := by
  unfold I32; simp [Nat.shiftRight_eq_div_pow]; rw [Nat.mod_eq_of_lt h]
@[go_sem ↓] theorem shr_32 (x : UInt32) (y : Int) (yk : IntKind) (h0 : 0 ≤ y) (h1 : y ≤ 31) : Op.shift .shr .u32 (I32 x) yk y = pure (.int .u32 (I32 (x >>> UInt32.ofNat y.toNat))) := by
  rw [shift_shr .u32 yk _ y h0 (by simp [IntKind.bits]; omega), I32_shr _ _ (by omega)]
theorem I32_div (x y : UInt32) : I32 x / I32 y = I32 (x / y) := by unfold I32; simp
theorem I32_mod (x y : UInt32) : I32 x % I32 y = I32 (x % y) := by unfold I32; simp
theorem I32_lt (x y : UInt32) : I32 x < I32 y ↔ x < y := by unfold I32; rw [UInt32.lt_iff_toNat_lt]; omega
theorem I32_le (x y : UInt32) : I32 x ≤ I32 y ↔ x ≤ y := by unfold I32; rw [UInt32.le_iff_toNat_le]; omega
@[go_sem ↓] theorem wrap_32 (x : Int) : IntKind.wrap .u32 x = I32 (w32 x) := (I32_w32 x).symm
@[go_sem] theorem cast_32 (x : UInt32) : ((x.toNat : Nat) : Int) = I32 x := rfl
@[go_sem] theorem w32_lit (n : Nat) : w32 (no_index (@OfNat.ofNat Int n _)) = @OfNat.ofNat UInt32 n _ := by
  show w32 ((n : Nat) : Int) = _
  unfold w32; apply UInt32.eq_of_toBitVec_eq; rw [BitVec.ofInt_natCast]; rfl
theorem w32_nat (n : Nat) : w32 ((n : Nat) : Int) = UInt32.ofNat n := by
  unfold w32; apply UInt32.eq_of_toBitVec_eq; rw [BitVec.ofInt_natCast]; rfl
theorem w64_add (x y : Int) : w64 (x + y) = w64 x + w64 y := by unfold w64; apply UInt64.eq_of_toBitVec_eq; simp [BitVec.ofInt_add]
@[go_sem ↓] theorem arith_add_64 (x y : Int) : Op.intArith .add .u64 x y = pure (.int .u64 (I64 (w64 x + w64 y))) := by rw [← w64_add, I64_w64]; rfl
theorem w64_sub (x y : Int) : w64 (x - y) = w64 x - w64 y := by unfold w64; apply UInt64.eq_of_toBitVec_eq; simp [Int.sub_eq_add_neg, BitVec.ofInt_add, BitVec.ofInt_neg, BitVec.sub_eq_add_neg]
@[go_sem ↓] theorem arith_sub_64 (x y : Int) : Op.intArith .sub .u64 x y = pure (.int .u64 (I64 (w64 x - w64 y))) := by rw [← w64_sub, I64_w64]; rfl
theorem w64_mul (x y : Int) : w64 (x * y) = w64 x * w64 y := by unfold w64; apply UInt64.eq_of_toBitVec_eq; simp [BitVec.ofInt_mul]
@[go_sem ↓] theorem arith_mul_64 (x y : Int) : Op.intArith .mul .u64 x y = pure (.int .u64 (I64 (w64 x * w64 y))) := by rw [← w64_mul, I64_w64]; rfl
theorem bits_and_64' (x y : Int) : bits .and .u64 x y = I64 (w64 x &&& w64 y) :=
  IntWalk.u64_in _ (by have := (BitVec.ofInt 64 x &&& BitVec.ofInt 64 y).isLt; constructor; exact Int.natCast_nonneg _; simp only [IntKind.bits]; omega)
@[go_sem ↓] theorem bits_and_64 (x y : Int) : Op.intBits .and .u64 x y = pure (.int .u64 (I64 (w64 x &&& w64 y))) := by rw [intBits_and, bits_and_64']
theorem bits_or_64' (x y : Int) : bits .or .u64 x y = I64 (w64 x ||| w64 y) :=
  IntWalk.u64_in _ (by have := (BitVec.ofInt 64 x ||| BitVec.ofInt 64 y).isLt; constructor; exact Int.natCast_nonneg _; simp only [IntKind.bits]; omega)
@[go_sem ↓] theorem bits_or_64 (x y : Int) : Op.intBits .or .u64 x y = pure (.int .u64 (I64 (w64 x ||| w64 y))) := by rw [intBits_or, bits_or_64']
theorem bits_xor_64' (x y : Int) : bits .xor .u64 x y = I64 (w64 x ^^^ w64 y) :=
  IntWalk.u64_in _ (by have := (BitVec.ofInt 64 x ^^^ BitVec.ofInt 64 y).isLt; constructor; exact Int.natCast_nonneg _; simp only [IntKind.bits]; omega)
@[go_sem ↓] theorem bits_xor_64 (x y : Int) : Op.intBits .xor .u64 x y = pure (.int .u64 (I64 (w64 x ^^^ w64 y))) := by rw [intBits_xor, bits_xor_64']
@[go_sem ↓] theorem unary_xor_64 (x : Int) : Op.unary .xor (.int .u64 x) = pure (.int .u64 (I64 (~~~ w64 x))) := by
  show Op.intBits .xor .u64 _ x = _
  rw [bits_xor_64]; congr 3
@[go_sem] theorem not_64 (x : UInt64) : w64 (IntKind.max .u64) ^^^ x = ~~~ x := by
  rw [show w64 (IntKind.max .u64) = -1 from rfl]; apply UInt64.eq_of_toBitVec_eq; simp
@[go_sem ↓] theorem conv_64 (x : Int) : Conv.intToInt .u64 x = pure (.int .u64 (I64 (w64 x))) := by rw [I64_w64]; rfl
theorem w64_shl (x : Int) (n : Nat) (h : n < 64) : w64 (x * 2 ^ n) = w64 x <<< UInt64.ofNat n := by
  apply UInt64.eq_of_toBitVec_eq
  simp only [w64, UInt64.toBitVec_shiftLeft]
  have e : ((UInt64.ofNat n).toBitVec % (64 : BitVec 64)) = BitVec.ofNat 64 n := by
    apply BitVec.eq_of_toNat_eq; simp; omega
  have e2 : BitVec.ofInt 64 (2 ^ n) = BitVec.twoPow 64 n := by
    apply BitVec.eq_of_toNat_eq; rw [BitVec.toNat_twoPow]; rw [show ((2 : Int) ^ n) = ((2 ^ n : Nat) : Int) from by simp, BitVec.ofInt_natCast, BitVec.toNat_ofNat]
  rw [BitVec.ofInt_mul, e, e2, BitVec.shiftLeft_eq', BitVec.mul_twoPow_eq_shiftLeft, BitVec.toNat_ofNat, Nat.mod_eq_of_lt (show n < 2 ^ 64 by omega)]
@[go_sem ↓] theorem shl_64 (x y : Int) (yk : IntKind) (h0 : 0 ≤ y) (h1 : y ≤ 63) : Op.shift .shl .u64 x yk y = pure (.int .u64 (I64 (w64 x <<< UInt64.ofNat y.toNat))) := by
  rw [shift_shl .u64 yk x y h0 (by simp [IntKind.bits]; omega), ← I64_w64, w64_shl _ _ (by omega)]
theorem I64_shr (x : UInt64) (n : Nat) (h : n < 64) : I64 x / 2 ^ n = I64 (x >>> UInt64.ofNat n) := by
  unfold I64; simp [Nat.shiftRight_eq_div_pow]; rw [Nat.mod_eq_of_lt h]
@[go_sem ↓] theorem shr_64 (x : UInt64) (y : Int) (yk : IntKind) (h0 : 0 ≤ y) (h1 : y ≤ 63) : Op.shift .shr .u64 (I64 x) yk y = pure (.int .u64 (I64 (x >>> UInt64.ofNat y.toNat))) := by
  rw [shift_shr .u64 yk _ y h0 (by simp [IntKind.bits]; omega), I64_shr _ _ (by omega)]
theorem I64_div (x y : UInt64) : I64 x / I64 y = I64 (x / y) := by unfold I64; simp
theorem I64_mod (x y : UInt64) : I64 x % I64 y = I64 (x % y) := by unfold I64; simp
theorem I64_lt (x y : UInt64) : I64 x < I64 y ↔ x < y := by unfold I64; rw [UInt64.lt_iff_toNat_lt]; omega
theorem I64_le (x y : UInt64) : I64 x ≤ I64 y ↔ x ≤ y := by unfold I64; rw [UInt64.le_iff_toNat_le]; omega
@[go_sem ↓] theorem wrap_64 (x : Int) : IntKind.wrap .u64 x = I64 (w64 x) := (I64_w64 x).symm
@[go_sem] theorem cast_64 (x : UInt64) : ((x.toNat : Nat) : Int) = I64 x := rfl
@[go_sem] theorem w64_lit (n : Nat) : w64 (no_index (@OfNat.ofNat Int n _)) = @OfNat.ofNat UInt64 n _ := by
  show w64 ((n : Nat) : Int) = _
  unfold w64; apply UInt64.eq_of_toBitVec_eq; rw [BitVec.ofInt_natCast]; rfl
theorem w64_nat (n : Nat) : w64 ((n : Nat) : Int) = UInt64.ofNat n := by
  unfold w64; apply UInt64.eq_of_toBitVec_eq; rw [BitVec.ofInt_natCast]; rfl
@[go_sem] theorem w32_I8 (x : UInt8) : w32 (I8 x) = x.toUInt32 := by unfold I8; rw [w32_nat]; simp
@[go_sem] theorem w64_I8 (x : UInt8) : w64 (I8 x) = x.toUInt64 := by unfold I8; rw [w64_nat]; simp
@[go_sem] theorem w8_I32 (x : UInt32) : w8 (I32 x) = x.toUInt8 := by unfold I32; rw [w8_nat]; simp
@[go_sem] theorem w64_I32 (x : UInt32) : w64 (I32 x) = x.toUInt64 := by unfold I32; rw [w64_nat]; simp
@[go_sem] theorem w8_I64 (x : UInt64) : w8 (I64 x) = x.toUInt8 := by unfold I64; rw [w8_nat]; simp
@[go_sem] theorem w32_I64 (x : UInt64) : w32 (I64 x) = x.toUInt32 := by unfold I64; rw [w32_nat]; simp
end TL
end Go

/- Rows of cells in memory: a slice that the call owns, a slice that it sees; what append, slicing, len, indexing, string conversion and copy do to them. Conditions: each law names its own. -/
namespace Go
namespace TL
open Go.RowKit
/-! ### setCells: the frame -/
theorem size_setCells (b : Nat) : ∀ (vs : List Value) (o : Nat) (w : World), (w.setCells b o vs).heap.size = w.heap.size
  | [], _, _ => rfl
  | v :: r, o, w => by rw [World.setCells, size_setCells b r]; simp
theorem below_setCells {B b : Nat} (hb : B ≤ b) {a : World} : ∀ (vs : List Value) (o : Nat) (w : World), Below B a w → Below B a (w.setCells b o vs)
  | [], _, _, h => h
  | v :: r, o, w, h => by rw [World.setCells]; exact below_setCells hb r (o + 1) _ (h.setCell hb v)
theorem block_setCells (b : Nat) : ∀ (vs : List Value) (o : Nat) (w : World) (k : Nat), k ≠ b → (w.setCells b o vs).heap[k]? = w.heap[k]?
  | [], _, _, _, _ => rfl
  | v :: r, o, w, k, h => by rw [World.setCells, block_setCells b r _ _ k h]; exact Below.heap_setCell _ _ _ _ h
theorem tape_setCells (b : Nat) : ∀ (vs : List Value) (o : Nat) (w : World), (w.setCells b o vs).tape = w.tape
  | [], _, _ => rfl
  | v :: r, o, w => by rw [World.setCells, tape_setCells b r]; simp
theorem os_setCells (b : Nat) : ∀ (vs : List Value) (o : Nat) (w : World), (w.setCells b o vs).os = w.os
  | [], _, _ => rfl
  | v :: r, o, w => by rw [World.setCells, os_setCells b r]; rfl
theorem output_setCells (b : Nat) : ∀ (vs : List Value) (o : Nat) (w : World), (w.setCells b o vs).output = w.output
  | [], _, _ => rfl
  | v :: r, o, w => by rw [World.setCells, output_setCells b r]; rfl
theorem grownBy_setCells (w : World) (b o : Nat) (vs : List Value) : w.grownBy (w.setCells b o vs) (some b) :=
  ⟨os_setCells b vs o w, tape_setCells b vs o w, output_setCells b vs o w, Nat.le_of_eq (size_setCells b vs o w).symm, fun k _ hne => block_setCells b vs o w k (fun e => hne (by rw [e]))⟩
theorem grownBy_refl (w : World) (row : Option Nat) : w.grownBy w row := ⟨rfl, rfl, rfl, Nat.le_refl _, fun _ _ _ => rfl⟩
theorem grownBy_drew (w : World) (row : Option Nat) : w.grownBy w.drew row := ⟨rfl, rfl, rfl, Nat.le_refl _, fun _ _ _ => rfl⟩
theorem grownBy_trans {a b c : World} {row : Option Nat} (h : a.grownBy b row) (k : b.grownBy c row) : a.grownBy c row :=
  ⟨k.os.trans h.os, k.tape.trans h.tape, k.output.trans h.output, Nat.le_trans h.size k.size, fun i hi hne => (k.block i (Nat.lt_of_lt_of_le hi h.size) hne).trans (h.block i hi hne)⟩
theorem grownBy_setCell (w : World) (a : Addr) (v : Value) : w.grownBy (w.setCell a v) (some a.block) :=
  ⟨rfl, rfl, rfl, by simp, fun k _ hne => Below.heap_setCell _ _ _ _ (fun e => hne (by rw [e]))⟩
theorem grownBy_of_below {w w' : World} (h : Below w.heap.size w w') (row : Option Nat) : w.grownBy w' row :=
  ⟨h.os, h.tape, h.output, h.size, fun k hk _ => h.block k hk⟩
theorem below_of_grownBy {B : Nat} {w w' : World} {row : Option Nat} (h : w.grownBy w' row) (hB : B ≤ w.heap.size) (hr : ∀ k, row = some k → B ≤ k) : Below B w w' :=
  (Below.refl B w).grown h hB hr
/-! ### ranges -/
theorem rangeAt_of_block {w w' : World} {g o : Nat} {xs : List Value} (h : w.rangeAt g o xs) (hb : w'.heap[g]? = w.heap[g]?) : w'.rangeAt g o xs := fun j v hv => by
  rw [World.cell?_of_block (w := w) (w' := w') (a := ⟨g, o + j, none⟩) hb]; exact h j v hv
theorem there_of_block {w w' : World} {g o n : Nat} (h : w.there g o n) (hb : w'.heap[g]? = w.heap[g]?) : w'.there g o n := fun j hj => by
  rw [World.cell?_of_block (w := w) (w' := w') (a := ⟨g, o + j, none⟩) hb, World.frozen?_of_block (w := w) (w' := w') (a := ⟨g, o + j, none⟩) hb]; exact h j hj
theorem rangeAt_take {w : World} {g o : Nat} {xs : List Value} (h : w.rangeAt g o xs) (k : Nat) : w.rangeAt g o (xs.take k) := fun j v hv => by
  rw [List.getElem?_take] at hv; split at hv
  · exact h j v hv
  · cases hv
theorem rangeAt_drop {w : World} {g o : Nat} {xs : List Value} (h : w.rangeAt g o xs) (k : Nat) : w.rangeAt g (o + k) (xs.drop k) := fun j v hv => by
  rw [List.getElem?_drop] at hv; rw [Nat.add_assoc]; exact h _ v hv
theorem there_mono {w : World} {g o n m : Nat} (h : w.there g o n) (hm : m ≤ n) : w.there g o m := fun j hj => h j (by omega)
theorem there_drop {w : World} {g o n : Nat} (h : w.there g o n) (k : Nat) : w.there g (o + k) (n - k) := fun j hj => by
  rw [Nat.add_assoc]; exact h (k + j) (by omega)
theorem rangeAt_nil (w : World) (g o : Nat) : w.rangeAt g o [] := fun j v hv => by simp at hv
theorem rangeAt_append {w : World} {g o : Nat} {xs ys : List Value} (h : w.rangeAt g o xs) (k : w.rangeAt g (o + xs.length) ys) : w.rangeAt g o (xs ++ ys) := fun j v hv => by
  rw [List.getElem?_append] at hv; split at hv
  · exact h j v hv
  · have := k (j - xs.length) v hv; rw [show o + xs.length + (j - xs.length) = o + j by omega] at this; exact this
theorem rangeAt_setCell_same {w : World} {g o : Nat} {xs : List Value} (h : w.rangeAt g o xs) (i : Nat) (hi : i < xs.length) (u : Value) : (w.setCell ⟨g, o + i, none⟩ u).rangeAt g o (xs.set i u) := fun j v hv => by
  by_cases e : i = j
  · subst e; rw [List.getElem?_set_self hi] at hv; cases hv
    exact World.cell?_setCell_same _ _ _ (h i _ (List.getElem?_eq_getElem hi))
  · rw [List.getElem?_set_ne e] at hv
    rw [World.cell?_setCell_other _ _ _ _ (by intro e2; injection e2; omega)]; exact h j v hv
theorem rangeAt_setCell_apart {w : World} {g o : Nat} {xs : List Value} (h : w.rangeAt g o xs) (a : Addr) (ha : a.block ≠ g ∨ a.off < o ∨ o + xs.length ≤ a.off) (u : Value) : (w.setCell a u).rangeAt g o xs := fun j v hv => by
  have hj : j < xs.length := (List.getElem?_eq_some_iff.1 hv).1
  rw [World.cell?_setCell_other _ _ _ _ (by intro e; subst e; simp at ha; omega)]; exact h j v hv
theorem there_setCell {w : World} {g o n : Nat} (h : w.there g o n) (a : Addr) (u : Value) : (w.setCell a u).there g o n := fun j hj => by
  obtain ⟨h1, h2⟩ := h j hj
  refine ⟨?_, by rw [World.frozen?_setCell]; exact h2⟩
  obtain ⟨x, hx⟩ := Option.isSome_iff_exists.1 h1
  by_cases e : a = ⟨g, o + j, none⟩
  · subst e; rw [World.cell?_setCell_same _ _ _ hx]; rfl
  · rw [World.cell?_setCell_other _ _ _ _ e, hx]; rfl
theorem rangeAt_new (w : World) (C : Array Value) (t : TypeId) (fr : Nat × Nat) : (w.alloc (.cells C t fr)).rangeAt w.heap.size 0 C.toList := fun j v hv => by
  rw [World.cell?_alloc_mark, Nat.zero_add]; simpa using hv
theorem there_new (w : World) (C : Array Value) (t : TypeId) (n : Nat) (hn : n ≤ C.size) : (w.alloc (.cells C t)).there w.heap.size 0 n := fun j hj => by
  refine ⟨?_, World.frozen?_alloc_new _ _ _ _⟩
  rw [World.cell?_alloc_new, Array.getElem?_eq_getElem (by omega)]; rfl
theorem rangeAt.lt {w : World} {g o : Nat} {xs : List Value} (h : w.rangeAt g o xs) (hx : xs ≠ []) : g < w.heap.size := by
  cases xs with
  | nil => exact absurd rfl hx
  | cons a r => exact World.block_lt_of_cell? _ _ (h 0 a rfl)
/-! ### a slice that is seen; a slice that is owned -/
/-- The slice value 'v' has 'n' elements of 'size' cells each, which read 'xs'. -/
def Sees (w : World) (size : Nat) (v : Value) (n : Nat) (xs : List Value) : Prop :=
  xs.length = n * size ∧ ((v = .slice none 0 0 ∧ n = 0) ∨ ∃ g o cap, v = .slice (some ⟨g, o, none⟩) n cap ∧ g < w.heap.size ∧ n ≤ cap ∧ cap ≤ maxLen ∧ w.rangeAt g o xs)
/-- The same, and it lies in a block from 'base' on, up to its capacity not frozen. -/
def Own (w : World) (base size : Nat) (v : Value) (n : Nat) (xs : List Value) : Prop :=
  xs.length = n * size ∧ ((v = .slice none 0 0 ∧ n = 0) ∨ ∃ g o cap, v = .slice (some ⟨g, o, none⟩) n cap ∧ base ≤ g ∧ g < w.heap.size ∧ n ≤ cap ∧ cap ≤ maxLen ∧ w.rangeAt g o xs ∧ w.there g o (cap * size))
theorem Own.sees {w : World} {base size : Nat} {v : Value} {n : Nat} {xs : List Value} (h : Own w base size v n xs) : Sees w size v n xs :=
  ⟨h.1, h.2.imp id fun ⟨g, o, cap, hv, _, hg, hn, hc, hr, _⟩ => ⟨g, o, cap, hv, hg, hn, hc, hr⟩⟩
theorem Own_nil (w : World) (base size : Nat) : Own w base size (.slice none 0 0) 0 [] := ⟨by simp, .inl ⟨rfl, rfl⟩⟩
theorem Sees_nil (w : World) (size : Nat) : Sees w size (.slice none 0 0) 0 [] := ⟨by simp, .inl ⟨rfl, rfl⟩⟩
section
variable {w w' : World} {base size : Nat} {v : Value} {n : Nat} {xs : List Value}
theorem Own.kept {row : Option Nat} (h : Own w base size v n xs) (hg : w.grownBy w' row) (hne : v.ownBlock = none ∨ v.ownBlock ≠ row) : Own w' base size v n xs := by
  refine ⟨h.1, h.2.imp id ?_⟩
  rintro ⟨g, o, cap, rfl, hb, hlt, hn, hc, hr, ht⟩
  have e : w'.heap[g]? = w.heap[g]? := hg.block g hlt (by simpa [Value.ownBlock] using hne)
  exact ⟨g, o, cap, rfl, hb, Nat.lt_of_lt_of_le hlt hg.size, hn, hc, rangeAt_of_block hr e, there_of_block ht e⟩
theorem Sees.kept {row : Option Nat} (h : Sees w size v n xs) (hg : w.grownBy w' row) (hne : v.ownBlock = none ∨ v.ownBlock ≠ row) : Sees w' size v n xs := by
  refine ⟨h.1, h.2.imp id ?_⟩
  rintro ⟨g, o, cap, rfl, hlt, hn, hc, hr⟩
  have e : w'.heap[g]? = w.heap[g]? := hg.block g hlt (by simpa [Value.ownBlock] using hne)
  exact ⟨g, o, cap, rfl, Nat.lt_of_lt_of_le hlt hg.size, hn, hc, rangeAt_of_block hr e⟩
theorem Own.below (h : Own w base size v n xs) (hb : Below w.heap.size w w') : Own w' base size v n xs :=
  h.kept (grownBy_of_below hb none) (by cases v.ownBlock <;> simp)
theorem Sees.below (h : Sees w size v n xs) (hb : Below w.heap.size w w') : Sees w' size v n xs :=
  h.kept (grownBy_of_below hb none) (by cases v.ownBlock <;> simp)
theorem Own.mono {b' : Nat} (h : Own w base size v n xs) (hb : b' ≤ base) : Own w b' size v n xs :=
  ⟨h.1, h.2.imp id fun ⟨g, o, cap, hv, h1, h2⟩ => ⟨g, o, cap, hv, by omega, h2⟩⟩
theorem Own.alloc (h : Own w base size v n xs) (o : Obj) : Own (w.alloc o) base size v n xs :=
  h.below ((Below.refl _ _).alloc (Nat.le_refl _) o)
theorem Sees.alloc (h : Sees w size v n xs) (o : Obj) : Sees (w.alloc o) size v n xs :=
  h.below ((Below.refl _ _).alloc (Nat.le_refl _) o)
theorem Own.drew (h : Own w base size v n xs) : Own w.drew base size v n xs := h
theorem Sees.drew (h : Sees w size v n xs) : Sees w.drew size v n xs := h
theorem Own.setCell (h : Own w base size v n xs) (a : Addr) (ha : v.ownBlock ≠ some a.block) (u : Value) : Own (w.setCell a u) base size v n xs :=
  h.kept (grownBy_setCell w a u) (.inr ha)
theorem Sees.setCell (h : Sees w size v n xs) (a : Addr) (ha : v.ownBlock ≠ some a.block) (u : Value) : Sees (w.setCell a u) size v n xs :=
  h.kept (grownBy_setCell w a u) (.inr ha)
theorem Own.base_le (h : Own w base size v n xs) {g : Nat} (hg : v.ownBlock = some g) : base ≤ g ∧ g < w.heap.size := by
  rcases h.2 with ⟨rfl, _⟩ | ⟨g', o, cap, rfl, hb, hlt, _⟩
  · simp [Value.ownBlock] at hg
  · simp [Value.ownBlock] at hg; subst hg; exact ⟨hb, hlt⟩
theorem Sees.len_le (h : Sees w size v n xs) : n ≤ maxLen := by
  rcases h.2 with ⟨_, rfl⟩ | ⟨_, _, _, _, _, h1, h2, _⟩
  · exact Nat.zero_le _
  · exact Nat.le_trans h1 h2
/-- The shape: a slice. -/
theorem Sees.form (h : Sees w size v n xs) : ∃ a cap, v = .slice a n cap ∧ n ≤ cap := by
  rcases h.2 with ⟨rfl, rfl⟩ | ⟨g, o, cap, rfl, _, h1, _⟩
  · exact ⟨none, 0, rfl, Nat.le_refl _⟩
  · exact ⟨_, cap, rfl, h1⟩
variable {P : Program}
/-- len(v). -/
theorem Sees.run_len (h : Sees w size v n xs) (t e ty : TypeId) (ht : P.underlying t = some (.slice e)) : ∀ w'' : World, (Builtin.len_ #[t] ty #[v]).run P w'' = .ok (.int .i64 (n : Int)) w'' := fun w'' => by
  obtain ⟨a, cap, rfl, _⟩ := h.form
  simp [Builtin.len_, run_underlying ht, goInt]
/-- The first cells: as append, copy read them. -/
theorem Sees.run_lenOf (h : Sees w size v n xs) : ∀ w'' : World, (Builtin.lenOf v).run P w'' = .ok n w'' := fun w'' => by
  obtain ⟨a, cap, rfl, _⟩ := h.form
  simp [Builtin.lenOf]
theorem run_loadCells_mid {g o : Nat} (h : w.rangeAt g o xs) : (loadCells ⟨g, o, none⟩ xs.length).run P w = .ok xs.toArray w :=
  run_loadCells_list (P := P) w ⟨g, o, none⟩ xs (fun j v hv => by rw [Addr.add_mid]; exact h j v hv)
theorem Sees.run_firstCells (h : Sees w size v n xs) (m : Nat) (hm : m ≤ n) : (Builtin.firstCells size m v).run P w = .ok (xs.take (m * size)).toArray w := by
  have hl : (xs.take (m * size)).length = m * size := by
    rw [List.length_take, h.1]; exact Nat.min_eq_left (Nat.mul_le_mul_right _ hm)
  rcases h.2 with ⟨rfl, rfl⟩ | ⟨g, o, cap, rfl, _, _, _, hr⟩
  · have : m = 0 := by omega
    subst this; simp [Builtin.firstCells]
  · simp only [Builtin.firstCells]
    have := run_loadCells_mid (P := P) (rangeAt_take hr (m * size))
    rwa [hl] at this
theorem run_storeCells_mid {g o : Nat} (vs : List Value) (ht : w.there g o vs.length) (h1 : ∀ u ∈ vs, u.oneCell' = true) : (storeCells ⟨g, o, none⟩ vs).run P w = .ok () (w.setCells g o vs) := by
  have := run_storeCells_cells (P := P) g o vs 0 w (fun j hj => by simpa using (ht j hj).1) (fun j hj => by simpa using (ht j hj).2) h1
  simpa using this
/-- A slice type: its element's type, cells and bytes. -/
structure SliceT (P : Program) (t e : TypeId) (size bytes : Nat) : Prop where
  ht : P.underlying t = some (.slice e)
  hi : ∃ i z, P.info? e = some i ∧ i.zero = some z ∧ i.size = size ∧ i.bytes = bytes ∧ z.cells.size = size
  hsz : 0 < size
/-- What append and copy read: 'm' elements, the cells 'news'. -/
def Src (P : Program) (w : World) (size : Nat) (x : Value) (m : Nat) (news : List Value) : Prop :=
  news.length = m * size ∧ (∀ q ∈ news, q.oneCell' = true) ∧ (∀ w'' : World, (Builtin.lenOf x).run P w'' = .ok m w'') ∧
    (∀ (w'' : World) (k : Nat), k ≤ m → w.grownBy w'' none → (Builtin.firstCells size k x).run P w'' = .ok (news.take (k * size)).toArray w'')
theorem Src_of_sees {x : Value} {m : Nat} {news : List Value} (h : Sees w size x m news) (h1 : ∀ q ∈ news, q.oneCell' = true) : Src P w size x m news :=
  ⟨h.1, h1, h.run_lenOf, fun w'' k hk hg => (h.kept hg (by cases x.ownBlock <;> simp)).run_firstCells k hk⟩
/-- append(v, x): the appended cells 'news' are read by whatever the second operand is. -/
theorem run_append_any (base : Nat) (t u ty e : TypeId) (size bytes : Nat) (T : SliceT P t e size bytes) (hu : P.underlying u = some .string ∨ ∃ e', P.underlying u = some (.slice e'))
    (v : Value) (n : Nat) (xs : List Value) (hown : Own w base size v n xs)
    (x : Value) (m : Nat) (news : List Value) (hsrc : Src P w size x m news)
    (h63 : n + m ≤ maxLen) (hbytes : (n + m) * bytes ≤ 140737488355328) (hbase : base ≤ w.heap.size) :
    ∃ v' w', (Builtin.append_ #[t, u] ty #[v, x]).run P w = .ok v' w' ∧ Own w' base size v' (n + m) (xs ++ news) ∧ w.grownBy w' v.ownBlock ∧
      (v'.ownBlock = v.ownBlock ∨ v'.ownBlock = some w.heap.size) ∧ (v = .slice none 0 0 → m = 0 → v' = .slice none 0 0 ∧ w' = w) := by
  obtain ⟨ht, ⟨i, z, hi, hz, hsize, hby, hzs⟩, hsz⟩ := T
  obtain ⟨hl, h1, hlen, hfirst'⟩ := hsrc
  have hfirst : ∀ w'' : World, w.grownBy w'' none → (Builtin.firstCells size m x).run P w'' = .ok news.toArray w'' := fun w'' hg => by
    have := hfirst' w'' m (Nat.le_refl _) hg
    rwa [← hl, List.take_length] at this
  clear hfirst'
  obtain ⟨du, hu, hui⟩ : ∃ du, P.underlying u = some du ∧ (du = .string ∨ ∃ e', du = .slice e') := by
    rcases hu with hu | ⟨e', hu⟩
    · exact ⟨_, hu, .inl rfl⟩
    · exact ⟨_, hu, .inr ⟨e', rfl⟩⟩
  subst hsize; subst hby
  have hlen2 : (xs ++ news).length = (n + m) * i.size := by rw [List.length_append, hown.1, hl, Nat.add_mul]
  have h0 := hfirst w (grownBy_refl w none)
  obtain ⟨a, sCap, hv, hnc⟩ := hown.sees.form
  by_cases hroom : n + m ≤ sCap
  · -- there is room
    rcases hown.2 with ⟨rfl, hn0⟩ | ⟨g, o, cap, rfl, hbg, hlt, hnc', hcm, hr, hth⟩
    · have hc0 : sCap = 0 := by injection hv with _ _ h3; exact h3.symm
      have hm0 : m = 0 := by omega
      subst hn0; subst hm0
      have hn : news = [] := List.eq_nil_of_length_eq_zero (by simpa using hl)
      have hx : xs = [] := List.eq_nil_of_length_eq_zero (by simpa using hown.1)
      subst hn; subst hx
      refine ⟨.slice none 0 0, w, ?_, Own_nil w base i.size, grownBy_refl _ _, .inl rfl, fun _ _ => ⟨rfl, rfl⟩⟩
      rcases hui with rfl | ⟨e', rfl⟩ <;> simp [Builtin.append_, run_underlying ht, run_underlying hu, sizeOf, typeInfo, hi, hlen, h0]
    · have hc : sCap = cap := by injection hv with _ _ h3; exact h3.symm
      subst hc
      have hthn : w.there g (o + n * i.size) news.length := by
        have := there_drop hth (n * i.size)
        refine there_mono this ?_
        rw [hl, ← Nat.sub_mul]; exact Nat.mul_le_mul_right _ (by omega)
      have hst := run_storeCells_mid (P := P) news hthn h1
      refine ⟨.slice (some ⟨g, o, none⟩) (n + m) sCap, w.setCells g (o + n * i.size) news, ?_, ⟨hlen2, .inr ⟨g, o, sCap, rfl, hbg, by rw [size_setCells]; exact hlt, hroom, hcm, ?_, ?_⟩⟩, grownBy_setCells _ _ _ _, .inl rfl, fun h => by cases h⟩
      · rcases hui with rfl | ⟨e', rfl⟩ <;> simp [Builtin.append_, run_underlying ht, run_underlying hu, sizeOf, typeInfo, hi, hlen, h0, hroom, Addr.add_mid, hst]
      · refine rangeAt_append (World.rangeAt_setCells_apart hr _ _ _ (.inr (.inl (by rw [hown.1]; omega)))) ?_
        rw [hown.1]; exact World.rangeAt_setCells_same _ _ _ _ hthn
      · exact World.there_setCells hth _ _ _
  · -- it grows
    have hgrow : sCap < n + m := by omega
    have h63' : ¬ (9223372036854775807 < ((n : Int) + (m : Int))) := by simp only [maxLen] at h63; omega
    have h48' : ¬ (281474976710656 < Builtin.nextslicecap (n + m) sCap * i.bytes) := by have := growslice_fits hgrow hbytes; omega
    have hold : (Builtin.firstCells i.size n v).run P w.drew = .ok xs.toArray w.drew := by
      have := Sees.run_firstCells (P := P) (hown.sees.drew) n (Nat.le_refl _)
      rwa [← hown.1, List.take_length] at this
    have hnew := hfirst w.drew (grownBy_drew w none)
    have hge := grownCap_ge w (n + m) sCap e
    have hcm : grownCap w (n + m) sCap e ≤ maxLen := grownCap_le_maxLen w (n + m) sCap e h63
    have hsizeC : (xs.toArray ++ news.toArray ++ Builtin.zeroCells z.cells (grownCap w (n + m) sCap e - (n + m))).size = grownCap w (n + m) sCap e * i.size := by
      simp only [Array.size_append, List.size_toArray, size_zeroCells, hzs, hown.1, hl, ← Nat.add_mul]
      congr 1; omega
    refine ⟨.slice (some ⟨w.heap.size, 0, none⟩) (n + m) (grownCap w (n + m) sCap e), w.drew.alloc (.cells (xs.toArray ++ news.toArray ++ Builtin.zeroCells z.cells (grownCap w (n + m) sCap e - (n + m))) e), ?_,
      ⟨hlen2, .inr ⟨w.heap.size, 0, _, rfl, hbase, by simp, hge, hcm, ?_, there_new w.drew _ _ _ (Nat.le_of_eq hsizeC.symm)⟩⟩, ⟨rfl, rfl, rfl, by simp, fun k hk _ => Below.heap_alloc w.drew _ k hk⟩, .inr rfl, fun hv0 hm0 => ?_⟩
    · subst hv
      have hnr : ¬ (n + m ≤ sCap) := by omega
      rcases hui with rfl | ⟨e', rfl⟩ <;> simp [Builtin.append_, run_underlying ht, run_underlying hu, sizeOf, typeInfo, zeroValue, hi, hz, hlen, hnr, h63', h48', Question.forced, hold, hnew, newRow, grownCap]
      all_goals (congr 2; apply Array.ext'; simp [List.append_assoc])
    · have := rangeAt_new w.drew (xs.toArray ++ news.toArray ++ Builtin.zeroCells z.cells (grownCap w (n + m) sCap e - (n + m))) e (0, 0)
      have h2 := rangeAt_take this ((n + m) * i.size)
      simp only [Array.toList_append] at h2
      rw [← hlen2, List.take_left' rfl] at h2
      exact h2
    · subst hv0; injection hv with _ h2 h3; omega
/-- At the operation; at a plain region's list; at a step of a region that draws. -/
theorem wp_append {o : Oper} {a : Act} {K : Act → World → Prop} {Q : Exit → Act → World → Prop} {t e : TypeId} {size bytes : Nat} (T : SliceT P t e size bytes) (s x : Operand) (u : TypeId)
    (ho : o.op = .call { callee := .builtin .append, args := #[s, x], argTypes := #[t, u] }) (hu : P.underlying u = some .string ∨ ∃ e', P.underlying u = some (.slice e'))
    (base : Nat) (v : Value) (n : Nat) (xs : List Value) (hs : a.eval s = v) (hown : Own w base size v n xs)
    (xv : Value) (m : Nat) (news : List Value) (hx : a.eval x = xv) (hsrc : Src P w size xv m news)
    (h63 : n + m ≤ maxLen) (hbytes : (n + m) * bytes ≤ 140737488355328) (hbase : base ≤ w.heap.size)
    (h : ∀ v' w', Own w' base size v' (n + m) (xs ++ news) → w.grownBy w' v.ownBlock → (v'.ownBlock = v.ownBlock ∨ v'.ownBlock = some w.heap.size) → (v = .slice none 0 0 → m = 0 → v' = .slice none 0 0 ∧ w' = w) → K (a.put o.dst v') w') : o.wp P a w K Q := by
  obtain ⟨v', w', hr, h2, h3, h4, h5⟩ := run_append_any (P := P) (w := w) base t u o.type e size bytes T hu v n xs hown xv m news hsrc h63 hbytes hbase
  unfold Oper.wp execOp
  simp only [ho, resolve, invoke, builtin, Sem.run_bind, Sem.run_pure, Result.andThen_ok, List.map_toArray, List.map_cons, List.map_nil, hs, hx, hr]
  exact h v' w' h2 h3 h4 h5
theorem wpList_append {ops : Array Oper} {rest : List Oper} {o : Oper} {a : Act} {Q : Exit → Act → World → Prop} {t e : TypeId} {size bytes : Nat} (T : SliceT P t e size bytes) (hgd : o.guard = none) (s x : Operand) (u : TypeId)
    (ho : o.op = .call { callee := .builtin .append, args := #[s, x], argTypes := #[t, u] }) (hu : P.underlying u = some .string ∨ ∃ e', P.underlying u = some (.slice e'))
    (base : Nat) (v : Value) (n : Nat) (xs : List Value) (hs : a.eval s = v) (hown : Own w base size v n xs)
    (xv : Value) (m : Nat) (news : List Value) (hx : a.eval x = xv) (hsrc : Src P w size xv m news)
    (h63 : n + m ≤ maxLen) (hbytes : (n + m) * bytes ≤ 140737488355328) (hbase : base ≤ w.heap.size)
    (h : ∀ v' w', Own w' base size v' (n + m) (xs ++ news) → w.grownBy w' v.ownBlock → (v'.ownBlock = v.ownBlock ∨ v'.ownBlock = some w.heap.size) → (v = .slice none 0 0 → m = 0 → v' = .slice none 0 0 ∧ w' = w) → wpList P ops Q rest (a.put o.dst v') w') : wpList P ops Q (o :: rest) a w :=
  wpList_plain hgd fun _ hK => wp_append T s x u ho hu base v n xs hs hown xv m news hx hsrc h63 hbytes hbase fun v' w' h2 h3 h4 h5 => hK _ _ (h v' w' h2 h3 h4 h5)
theorem step_append {ops : Array Oper} {o : Oper} {a : Act} {K : Act → World → Prop} {Q : Exit → Act → World → Prop} {E : Prop} {t e : TypeId} {size bytes : Nat} (T : SliceT P t e size bytes) (hgd : o.guard = none) (s x : Operand) (u : TypeId)
    (ho : o.op = .call { callee := .builtin .append, args := #[s, x], argTypes := #[t, u] }) (hu : P.underlying u = some .string ∨ ∃ e', P.underlying u = some (.slice e'))
    (base : Nat) (v : Value) (n : Nat) (xs : List Value) (hs : a.eval s = v) (hown : Own w base size v n xs)
    (xv : Value) (m : Nat) (news : List Value) (hx : a.eval x = xv) (hsrc : Src P w size xv m news)
    (h63 : n + m ≤ maxLen) (hbytes : (n + m) * bytes ≤ 140737488355328) (hbase : base ≤ w.heap.size)
    (h : ∀ v' w', Own w' base size v' (n + m) (xs ++ news) → w.grownBy w' v.ownBlock → (v'.ownBlock = v.ownBlock ∨ v'.ownBlock = some w.heap.size) → (v = .slice none 0 0 → m = 0 → v' = .slice none 0 0 ∧ w' = w) → K (a.put o.dst v') w') :
    if Region.wanted o (yielded ops a.tmps) = true then Oper.wp P o a w K Q else E := by
  have hw : Region.wanted o (yielded ops a.tmps) = true := by simp [Region.wanted, hgd]
  rw [if_pos hw]
  exact wp_append T s x u ho hu base v n xs hs hown xv m news hx hsrc h63 hbytes hbase h
/-! ### slicing -/
/-- v[l:h]. -/
def cutV (size : Nat) (v : Value) (l h : Nat) : Value :=
  match v with
  | .slice a _ cap => .slice (if cap = l then a else a.map (·.add (l * size))) (h - l) (cap - l)
  | v => v
theorem ownBlock_cutV (v : Value) (l h : Nat) : (cutV size v l h).ownBlock = v.ownBlock := by
  cases v <;> try rfl
  rename_i a n cap
  simp only [cutV]
  cases a with
  | none => simp [Value.ownBlock]
  | some a =>
    by_cases h : cap = l
    · simp [Value.ownBlock, h]
    · simp only [h, if_false, Option.map_some, Value.ownBlock, Addr.add]; split <;> rfl
theorem cut_parts {g o cap l : Nat} : ∃ o', (if cap = l then some (⟨g, o, none⟩ : Addr) else some ((⟨g, o, none⟩ : Addr).add (l * size))) = some ⟨g, o', none⟩ ∧ (cap = l ∨ o' = o + l * size) := by
  by_cases h : cap = l
  · exact ⟨o, by rw [if_pos h], .inl h⟩
  · exact ⟨o + l * size, by rw [if_neg h, Addr.add_mid], .inr rfl⟩
theorem Own.cut (h : Own w base size v n xs) (l k : Nat) (hl : l ≤ k) (hk : k ≤ n) : Own w base size (cutV size v l k) (k - l) ((xs.take (k * size)).drop (l * size)) := by
  refine ⟨?_, ?_⟩
  · rw [List.length_drop, List.length_take, h.1, Nat.min_eq_left (Nat.mul_le_mul_right _ hk), Nat.sub_mul]
  · rcases h.2 with ⟨rfl, rfl⟩ | ⟨g, o, cap, rfl, hb, hlt, hn, hc, hr, ht⟩
    · left; have : k = 0 := by omega
      have : l = 0 := by omega
      subst_vars; exact ⟨rfl, rfl⟩
    · right
      obtain ⟨o', ho', hor⟩ := cut_parts (size := size) (g := g) (o := o) (cap := cap) (l := l)
      refine ⟨g, o', cap - l, by simp only [cutV, Option.map_some]; rw [ho'], hb, hlt, by omega, by omega, ?_, ?_⟩
      · rcases hor with hor | rfl
        · have e1 : k = l := by omega
          subst e1
          have : (List.take (k * size) xs).drop (k * size) = [] := List.drop_eq_nil_of_le (List.length_take_le _ _)
          rw [this]; exact rangeAt_nil _ _ _
        · exact rangeAt_drop (rangeAt_take hr _) _
      · rcases hor with hor | rfl
        · have e1 : cap - l = 0 := by omega
          rw [e1, Nat.zero_mul]; intro j hj; omega
        · rw [Nat.sub_mul]; exact there_drop ht _
theorem Sees.cut (h : Sees w size v n xs) (l k : Nat) (hl : l ≤ k) (hk : k ≤ n) : Sees w size (cutV size v l k) (k - l) ((xs.take (k * size)).drop (l * size)) := by
  refine ⟨?_, ?_⟩
  · rw [List.length_drop, List.length_take, h.1, Nat.min_eq_left (Nat.mul_le_mul_right _ hk), Nat.sub_mul]
  · rcases h.2 with ⟨rfl, rfl⟩ | ⟨g, o, cap, rfl, hlt, hn, hc, hr⟩
    · left; have : k = 0 := by omega
      have : l = 0 := by omega
      subst_vars; exact ⟨rfl, rfl⟩
    · right
      obtain ⟨o', ho', hor⟩ := cut_parts (size := size) (g := g) (o := o) (cap := cap) (l := l)
      refine ⟨g, o', cap - l, by simp only [cutV, Option.map_some]; rw [ho'], hlt, by omega, by omega, ?_⟩
      rcases hor with hor | rfl
      · have e1 : k = l := by omega
        subst e1
        have : (List.take (k * size) xs).drop (k * size) = [] := List.drop_eq_nil_of_le (List.length_take_le _ _)
        rw [this]; exact rangeAt_nil _ _ _
      · exact rangeAt_drop (rangeAt_take hr _) _
/-- The runs: v[l:], v[:k], v[l:k]. -/
theorem Sees.run_cut_lo (h : Sees w size v n xs) {t e : TypeId} {bytes : Nat} (T : SliceT P t e size bytes) (l : Int) (h0 : 0 ≤ l) (h1 : l ≤ n) :
    ∀ w'' : World, (Instr.sliceAt t v (some (.int .i64 l)) none none).run P w'' = .ok (cutV size v l.toNat n) w'' := fun w'' => by
  obtain ⟨ht, ⟨i, z, hi, hz, hsize, hby, hzs⟩, hsz⟩ := T
  obtain ⟨a, cap, rfl, hnc⟩ := h.form
  obtain ⟨l, rfl⟩ := Int.eq_ofNat_of_zero_le h0
  have h1' : l ≤ n := by omega
  simp [Instr.sliceAt, Instr.slice, Instr.sliceBounds, Instr.sliceBound, run_underlying ht, asIntOf, sizeOf, typeInfo, hi, hsize, cutV, h1']
theorem Sees.run_cut_hi (h : Sees w size v n xs) {t e : TypeId} {bytes : Nat} (T : SliceT P t e size bytes) (k : Int) (h0 : 0 ≤ k) (h1 : k ≤ n) :
    ∀ w'' : World, (Instr.sliceAt t v none (some (.int .i64 k)) none).run P w'' = .ok (cutV size v 0 k.toNat) w'' := fun w'' => by
  obtain ⟨ht, ⟨i, z, hi, hz, hsize, hby, hzs⟩, hsz⟩ := T
  obtain ⟨a, cap, rfl, hnc⟩ := h.form
  obtain ⟨k, rfl⟩ := Int.eq_ofNat_of_zero_le h0
  have h1' : k ≤ cap := by omega
  simp [Instr.sliceAt, Instr.slice, Instr.sliceBounds, Instr.sliceBound, run_underlying ht, asIntOf, sizeOf, typeInfo, hi, cutV, h1']
theorem Sees.run_cut (h : Sees w size v n xs) {t e : TypeId} {bytes : Nat} (T : SliceT P t e size bytes) (l k : Int) (h0 : 0 ≤ l) (hlk : l ≤ k) (h1 : k ≤ n) :
    ∀ w'' : World, (Instr.sliceAt t v (some (.int .i64 l)) (some (.int .i64 k)) none).run P w'' = .ok (cutV size v l.toNat k.toNat) w'' := fun w'' => by
  obtain ⟨ht, ⟨i, z, hi, hz, hsize, hby, hzs⟩, hsz⟩ := T
  obtain ⟨a, cap, rfl, hnc⟩ := h.form
  obtain ⟨l, rfl⟩ := Int.eq_ofNat_of_zero_le h0
  obtain ⟨k, rfl⟩ := Int.eq_ofNat_of_zero_le (Int.le_trans h0 hlk)
  have h1' : k ≤ cap := by omega
  have h2' : l ≤ k := by omega
  simp [Instr.sliceAt, Instr.slice, Instr.sliceBounds, Instr.sliceBound, run_underlying ht, asIntOf, sizeOf, typeInfo, hi, hsize, cutV, h1', h2']
/-! ### bytes -/
/-- A byte's cell. -/
def vb (b : UInt8) : Value := .int .u8 (I8 b)
theorem vb_one (l : List UInt8) : ∀ q ∈ l.map vb, q.oneCell' = true := by
  intro q hq; obtain ⟨b, _, rfl⟩ := List.mem_map.1 hq; rfl
abbrev OwnB (w : World) (base : Nat) (v : Value) (l : List UInt8) : Prop := Own w base 1 v l.length (l.map vb)
abbrev SeesB (w : World) (v : Value) (l : List UInt8) : Prop := Sees w 1 v l.length (l.map vb)
theorem SeesB.src {l : List UInt8} (h : SeesB w v l) : Src P w 1 v l.length (l.map vb) := Src_of_sees h (vb_one l)
theorem Src_string (w : World) (s : ByteArray) : Src P w 1 (.string s) s.size (s.data.toList.map vb) := by
  refine ⟨by simp only [List.length_map, Array.length_toList, Nat.mul_one]; rfl, vb_one _, fun w'' => by simp [Builtin.lenOf], fun w'' k hk _ => ?_⟩
  simp only [Builtin.firstCells, Nat.mul_one]
  show Result.ok _ _ = _
  congr 1
  apply Array.ext'
  simp only [Array.toList_map, ByteArray.data_extract, Array.toList_extract, List.extract, List.drop_zero, Nat.sub_zero, List.map_take]
  rfl
theorem OwnB.cut {l : List UInt8} (h : OwnB w base v l) (i k : Nat) (hi : i ≤ k) (hk : k ≤ l.length) : OwnB w base (cutV 1 v i k) ((l.take k).drop i) := by
  have := Own.cut h i k hi hk
  simp only [Nat.mul_one, ← List.map_take, ← List.map_drop] at this
  show Own w base 1 _ ((l.take k).drop i).length _
  rw [show ((l.take k).drop i).length = k - i by simp; omega]; exact this
theorem SeesB.cut {l : List UInt8} (h : SeesB w v l) (i k : Nat) (hi : i ≤ k) (hk : k ≤ l.length) : SeesB w (cutV 1 v i k) ((l.take k).drop i) := by
  have := Sees.cut h i k hi hk
  simp only [Nat.mul_one, ← List.map_take, ← List.map_drop] at this
  show Sees w 1 _ ((l.take k).drop i).length _
  rw [show ((l.take k).drop i).length = k - i by simp; omega]; exact this
/-- string(v). -/
theorem SeesB.run_string {l : List UInt8} (h : SeesB w v l) (src dst e : TypeId) (hs : P.underlying src = some (.slice e)) (he : P.underlying e = some (.int .u8)) (hd : P.underlying dst = some .string) :
    ∀ w'' : World, w.grownBy w'' none → (convert src dst v).run P w'' = .ok (.string ⟨l.toArray⟩) w'' := fun w'' hg => by
  have h' := h.kept hg (by cases v.ownBlock <;> simp)
  rcases h'.2 with ⟨rfl, hn⟩ | ⟨g, o, cap, rfl, _, _, _, hr⟩
  · have : l = [] := List.eq_nil_of_length_eq_zero hn
    subst this
    rw [run_convert_bytes_string w'' src dst e none 0 0 hs he hd]
    rfl
  · exact run_convert_bytes_back w'' src dst e ⟨g, o, none⟩ cap l hs he hd (fun j hj => by
      rw [Addr.add_mid]; exact hr j _ (by simp [vb, I8, List.getElem?_eq_getElem hj]))
/-- A cell of it. -/
theorem Sees.cell (h : Sees w size v n xs) {g o cap : Nat} (hv : v = .slice (some ⟨g, o, none⟩) n cap) (j : Nat) (u : Value) (hu : xs[j]? = some u) : w.cell? ⟨g, o + j, none⟩ = some u := by
  rcases h.2 with ⟨rfl, _⟩ | ⟨g', o', cap', rfl, _, _, _, hr⟩
  · cases hv
  · injection hv with h1 h2 h3; injection h1 with h1; injection h1 with h4 h5 h6; subst h4; subst h5; exact hr j u hu
end
end TL
end Go

/- What all walks of this seat lean on: the slice types of the program as the memory laws want them; growth over several steps. No conditions but those each lemma names. -/
namespace Go
namespace TL
open Go.RowKit
/-- The value's block is as it was, or a new one. -/
def FreshOr (w : World) (v v' : Value) : Prop := v'.ownBlock = v.ownBlock ∨ ∃ g, v'.ownBlock = some g ∧ w.heap.size ≤ g
theorem FreshOr.refl (w : World) (v : Value) : FreshOr w v v := .inl rfl
theorem grow_step {w wr w2 : World} {v bv : Value} (h : w.grownBy wr v.ownBlock) (hf : FreshOr w v bv) (k : wr.grownBy w2 bv.ownBlock) : w.grownBy w2 v.ownBlock := by
  refine ⟨k.os.trans h.os, k.tape.trans h.tape, k.output.trans h.output, Nat.le_trans h.size k.size, fun i hi hne => ?_⟩
  refine (k.block i (Nat.lt_of_lt_of_le hi h.size) ?_).trans (h.block i hi hne)
  rcases hf with hf | ⟨g, hg, hge⟩
  · rw [hf]; exact hne
  · rw [hg]; intro e; injection e; omega
theorem fresh_step {w wr : World} {v bv bv' : Value} (hs : w.heap.size ≤ wr.heap.size) (hf : FreshOr w v bv) (k : bv'.ownBlock = bv.ownBlock ∨ bv'.ownBlock = some wr.heap.size) : FreshOr w v bv' := by
  rcases k with k | k
  · rcases hf with hf | ⟨g, hg, hge⟩
    · exact .inl (k.trans hf)
    · exact .inr ⟨g, k.trans hg, hge⟩
  · exact .inr ⟨_, k, hs⟩
theorem grow_alloc {w wr : World} {row : Option Nat} (h : w.grownBy wr row) (o : Obj) : w.grownBy (wr.alloc o) row :=
  grownBy_trans h (World.grownBy_alloc wr o row)
/-- A freshly laid row of bytes, as append reads it. -/
theorem Src_new {P : Program} (w : World) (t : TypeId) (l : List UInt8) (v : Value) (hv : v = .slice (some ⟨w.heap.size, 0, none⟩) l.length l.length) (hl : l.length ≤ maxLen) :
    Src P (w.alloc (.cells (l.map vb).toArray t)) 1 v l.length (l.map vb) := by
  refine Src_of_sees ⟨by simp, .inr ⟨w.heap.size, 0, l.length, hv, by simp, Nat.le_refl _, hl, ?_⟩⟩ (vb_one l)
  exact rangeAt_new w _ t (0, 0)
/-- append(v, b..) of bytes that were laid into a new row of their own just ahead. -/
theorem wp_append_new {P : Program} {o : Oper} {a : Act} {K : Act → World → Prop} {Q : Exit → Act → World → Prop} {t e : TypeId} (T : SliceT P t e 1 1) (s x : Operand)
    (ho : o.op = .call { callee := .builtin .append, args := #[s, x], argTypes := #[t, t] })
    (base : Nat) (W : World) (bs : List UInt8) (C : Array Value) (t' : TypeId) (hC : C = (bs.map vb).toArray) (v : Value) (l : List UInt8) (hs : a.eval s = v) (hown : OwnB W base v l)
    (hx : a.eval x = .slice (some ⟨W.heap.size, 0, none⟩) bs.length bs.length) (hlen : l.length + bs.length ≤ 100000000000000) (hbase : base ≤ W.heap.size)
    (h : ∀ v' w', OwnB w' base v' (l ++ bs) → W.grownBy w' v.ownBlock → FreshOr W v v' → K (a.put o.dst v') w') : o.wp P a (W.alloc (.cells C t')) K Q := by
  subst hC
  refine wp_append T s x t ho (.inr ⟨e, T.ht⟩) base v l.length (l.map vb) hs (hown.alloc _) _ bs.length (bs.map vb) hx (Src_new W t' bs _ rfl (by simp only [maxLen]; omega)) (by simp only [maxLen]; omega) (by omega) (by simp; omega) ?_
  intro v' w' h1 h2 h3 _
  refine h v' w' (by simpa [OwnB, List.map_append] using h1) (grownBy_trans (World.grownBy_alloc W _ _) h2) ?_
  rcases h3 with h3 | h3
  · exact .inl h3
  · exact .inr ⟨_, h3, by simp⟩
theorem wpList_append_new {P : Program} {ops : Array Oper} {rest : List Oper} {o : Oper} {a : Act} {Q : Exit → Act → World → Prop} {t e : TypeId} (T : SliceT P t e 1 1) (hgd : o.guard = none) (s x : Operand)
    (ho : o.op = .call { callee := .builtin .append, args := #[s, x], argTypes := #[t, t] })
    (base : Nat) (W : World) (bs : List UInt8) (C : Array Value) (t' : TypeId) (hC : C = (bs.map vb).toArray) (v : Value) (l : List UInt8) (hs : a.eval s = v) (hown : OwnB W base v l)
    (hx : a.eval x = .slice (some ⟨W.heap.size, 0, none⟩) bs.length bs.length) (hlen : l.length + bs.length ≤ 100000000000000) (hbase : base ≤ W.heap.size)
    (h : ∀ v' w', OwnB w' base v' (l ++ bs) → W.grownBy w' v.ownBlock → FreshOr W v v' → wpList P ops Q rest (a.put o.dst v') w') : wpList P ops Q (o :: rest) a (W.alloc (.cells C t')) :=
  wpList_plain hgd fun _ hK => wp_append_new T s x ho base W bs C t' hC v l hs hown hx hlen hbase fun v' w' h2 h3 h4 => hK _ _ (h v' w' h2 h3 h4)
theorem step_append_new {P : Program} {ops : Array Oper} {o : Oper} {a : Act} {K : Act → World → Prop} {Q : Exit → Act → World → Prop} {E : Prop} {t e : TypeId} (T : SliceT P t e 1 1) (hgd : o.guard = none) (s x : Operand)
    (ho : o.op = .call { callee := .builtin .append, args := #[s, x], argTypes := #[t, t] })
    (base : Nat) (W : World) (bs : List UInt8) (C : Array Value) (t' : TypeId) (hC : C = (bs.map vb).toArray) (v : Value) (l : List UInt8) (hs : a.eval s = v) (hown : OwnB W base v l)
    (hx : a.eval x = .slice (some ⟨W.heap.size, 0, none⟩) bs.length bs.length) (hlen : l.length + bs.length ≤ 100000000000000) (hbase : base ≤ W.heap.size)
    (h : ∀ v' w', OwnB w' base v' (l ++ bs) → W.grownBy w' v.ownBlock → FreshOr W v v' → K (a.put o.dst v') w') :
    if Region.wanted o (yielded ops a.tmps) = true then Oper.wp P o a (W.alloc (.cells C t')) K Q else E := by
  have hw : Region.wanted o (yielded ops a.tmps) = true := by simp [Region.wanted, hgd]
  rw [if_pos hw]
  exact wp_append_new T s x ho base W bs C t' hC v l hs hown hx hlen hbase h
theorem fresh_trans {w wr : World} {v bv bv' : Value} (hs : w.heap.size ≤ wr.heap.size) (hf : FreshOr w v bv) (k : FreshOr wr bv bv') : FreshOr w v bv' := by
  rcases k with k | ⟨g, hg, hge⟩
  · rcases hf with hf | ⟨g, hg, hge⟩
    · exact .inl (k.trans hf)
    · exact .inr ⟨g, k.trans hg, hge⟩
  · exact .inr ⟨g, hg, Nat.le_trans hs hge⟩
/-- A struct or an array is built: the value that it comes to is a closed fact. -/
theorem wpList_built {P : Program} {ops : Array Oper} {rest : List Oper} {o : Oper} {a : Act} {w : World} {Q : Exit → Act → World → Prop} (hgd : o.guard = none) (t : TypeId) (parts : Array (Nat × Operand)) (ho : o.op = .build t parts)
    (v : Value) (hrun : (Instr.build t (parts.map fun (i, x) => (i, a.eval x))).run P w = .ok v w)
    (h : wpList P ops Q rest (a.put o.dst v) w) : wpList P ops Q (o :: rest) a w :=
  wpList_plain hgd fun _ hK => by
    unfold Oper.wp execOp
    simp only [ho, Sem.run_bind, hrun, Result.andThen_ok]
    exact hK _ _ h
/-- A result that lies in a range of cells. -/
theorem results_row {P : Program} {fn : Func} {p : Tmp} {ty : TypeId} (h : fn.results = #[.cell p ty]) (tmps : Array Value) (w : World) (b o : Nat) (cs : List Value) (d : TypeDesc)
    (hp : tmps.getD p undef = .pointer (some ⟨b, o, none⟩)) (hc : w.rangeAt b o cs) (hu : P.underlying ty = some d) (hd : d.isRow = true) (hi : (P.info? ty).map (·.size) = some cs.length) :
    (results fn tmps).run P w = .ok (.agg cs.toArray) w := by
  have hp' : tmps[p]?.getD undef = .pointer (some ⟨b, o, none⟩) := by simpa using hp
  simp [results, h, hp', asAddr, run_loadVar_mid w b o ty cs d hc hu hd hi]
/-- A whole array is stored into a range of cells. -/
theorem wpList_putRow {P : Program} {ops : Array Oper} {rest : List Oper} {op : Oper} {a : Act} {w : World} {Q : Exit → Act → World → Prop} (hgd : op.guard = none) (ty : TypeId) (x y : Operand) (ho : op.op = .store ty x y)
    (b o : Nat) (cells : List Value) (hx : a.eval x = .pointer (some ⟨b, o, none⟩)) (hy : a.eval y = .agg cells.toArray)
    (ht : w.there b o cells.length) (hi : (P.info? ty).map (·.size) = some cells.length) (h1 : ∀ v ∈ cells, v.oneCell' = true)
    (h : wpList P ops Q rest (a.put op.dst undef) (w.setCells b o cells)) : wpList P ops Q (op :: rest) a w :=
  wpList_store_mid hgd ty x y ho b o cells.toArray hx hy (by simpa using ht) (by simpa using hi) (all_oneCell_toArray h1) (by simpa using h)
end TL
end Go
namespace Go.Proofs.YtidadhbaomieiaaGreat
open Go.RowKit Go.TL
set_option maxRecDepth 1000000 in
theorem bytesT : SliceT Tryz.prog 70 5 1 1 := ⟨Tryz.underlying70, ⟨_, _, rfl, rfl, rfl, rfl, rfl⟩, by omega⟩
theorem uB : Tryz.prog.underlying 70 = some .string ∨ ∃ e', Tryz.prog.underlying 70 = some (.slice e') := .inr ⟨_, Tryz.underlying70⟩
theorem uS : Tryz.prog.underlying 9 = some .string ∨ ∃ e', Tryz.prog.underlying 9 = some (.slice e') := .inl Tryz.underlying9
end Go.Proofs.YtidadhbaomieiaaGreat

/- The walks of bits.RotateLeft32, of the reference's rot, of getBig and putBig of package sha. Conditions: each theorem names its own. -/
namespace Go
namespace TL
theorem and31 (k : Int) (m : Nat) (hk : k = - (m : Int)) (hm : 1 ≤ m) (hm2 : m ≤ 31) : I64 (w64 k &&& 31) = ((32 - m : Nat) : Int) := by
  have : m = 1 ∨ m = 2 ∨ m = 3 ∨ m = 4 ∨ m = 5 ∨ m = 6 ∨ m = 7 ∨ m = 8 ∨ m = 9 ∨ m = 10 ∨ m = 11 ∨ m = 12 ∨ m = 13 ∨ m = 14 ∨ m = 15 ∨ m = 16 ∨ m = 17 ∨ m = 18 ∨ m = 19 ∨ m = 20 ∨ m = 21 ∨ m = 22 ∨ m = 23 ∨ m = 24 ∨ m = 25 ∨ m = 26 ∨ m = 27 ∨ m = 28 ∨ m = 29 ∨ m = 30 ∨ m = 31 := by omega
  subst hk
  rcases this with h | h | h | h | h | h | h | h | h | h | h | h | h | h | h | h | h | h | h | h | h | h | h | h | h | h | h | h | h | h | h <;> subst h <;> decide
theorem sub32 (m : Nat) (hm : 1 ≤ m) (hm2 : m ≤ 31) : I64 (32 - w64 m) = ((32 - m : Nat) : Int) := by
  rw [w64_nat, I64_eq, UInt64.toNat_sub, UInt64.toNat_ofNat]; simp; omega
theorem sub32' (m : Nat) (hm : 1 ≤ m) (hm2 : m ≤ 31) : I64 (32 - w64 ((32 - m : Nat) : Int)) = (m : Int) := by
  rw [w64_nat, I64_eq, UInt64.toNat_sub, UInt64.toNat_ofNat]; simp; omega
/-- Turned to the right by m bits. -/
def ror (x : UInt32) (m : Nat) : UInt32 := (x >>> UInt32.ofNat m) ||| (x <<< UInt32.ofNat (32 - m))
def be64 (l : List UInt8) : UInt64 := l.foldl (fun x b => (x <<< 8) ||| b.toUInt64) 0
theorem be64_snoc (l : List UInt8) (b : UInt8) : be64 (l ++ [b]) = (be64 l <<< 8) ||| b.toUInt64 := by simp [be64]
theorem take_snoc (s : ByteArray) (k : Nat) (h : k < s.size) : s.data.toList.take (k + 1) = s.data.toList.take k ++ [s[k]] := by
  rw [List.take_succ_eq_append_getElem (by simpa using h)]; rfl
/-- A number's lowest n bytes, the highest one first. -/
def bigB (x : UInt64) : Nat → List UInt8
  | 0 => []
  | n + 1 => (x >>> (8 * UInt64.ofNat n)).toUInt8 :: bigB x n
theorem bigB_length (x : UInt64) (n : Nat) : (bigB x n).length = n := by
  induction n with
  | zero => rfl
  | succ n ih => simp [bigB, ih]
end TL
end Go
namespace Go.Proofs.YtidadhbaomieiaaGreat
open Go.RowKit Go.TL
set_option maxHeartbeats 400000 in
theorem rot_any (x : UInt32) (m : Nat) (k : Int) (w : World) (hk : k = - (m : Int)) (hm : 1 ≤ m) (hm2 : m ≤ 31) :
    Calls Tryz.prog 185 #[.int .u32 (I32 x), .int .i64 k] w fun e w' => e = .returned (.int .u32 (I32 (ror x m))) ∧ w = w' := by
  have h1 := and31 k m hk hm hm2; clear hk
  have h2 := sub32' m hm hm2
  have h3 : (m : Int) ≤ 31 := by omega
  have h4 : ((32 - m : Nat) : Int) ≤ 31 := by omega
  go_enter Tryz.func185, Tryz.ntmps185
  go_wp2
  go_ret
  exact ⟨by rw [ror, UInt32.or_comm]; rfl, rfl⟩
set_option maxHeartbeats 400000 in
theorem getBig_any (s : ByteArray) (n : Nat) (w : World) (hs : n ≤ s.size) (hn : n ≤ 1000) :
    Calls Tryz.prog 184 #[.string s, .int .i64 n] w fun e w' => e = .returned (.int .u64 (I64 (be64 (s.data.toList.take n)))) ∧ w = w' := by
  go_enter Tryz.func184, Tryz.ntmps184
  go_wp2
  go_loop [4, 7] (fun x i => ∃ k : Nat, k ≤ n ∧ i = .int .i64 k ∧ x = .int .u64 (I64 (be64 (s.data.toList.take k)))) (fun _ i => n - (intOf i).toNat)
  case atStart => exact ⟨0, by omega, rfl, rfl⟩
  case round =>
    obtain ⟨k, hk, rfl, rfl⟩ := hrel
    by_cases hlt : k < n
    · have hk4 : k < s.size := by omega
      have H := Lib.hid (take_snoc s k hk4)
      go_wp2
      go_round
      case rel => exact ⟨k + 1, by omega, by go_num, by rw [H.out, be64_snoc]⟩
      case measure => simp [intOf]; omega
    · go_wp2
      go_ret
      have : k = n := by omega
      subst this
      exact ⟨rfl, rfl⟩
set_option maxHeartbeats 400000 in
theorem putBig_any (base : Nat) (v : Value) (l : List UInt8) (x : UInt64) (n : Nat) (w : World) (hown : OwnB w base v l) (hbase : base ≤ w.heap.size) (hn : n ≤ 8) (hl : l.length ≤ 1000000000000) :
    Calls Tryz.prog 160 #[v, .int .u64 (I64 x), .int .i64 n] w fun e w' => ∃ v', e = .returned v' ∧ OwnB w' base v' (l ++ bigB x n) ∧ w.grownBy w' v.ownBlock ∧ FreshOr w v v' := by
  go_enter Tryz.func160, Tryz.ntmps160
  go_wp2
  go_loopw [0, 7] (fun b i wr => ∃ (j : Nat) (done : List UInt8), j ≤ n ∧ i = .int .i64 ((j : Int) - 1) ∧ done.length ≤ 8 ∧ done ++ bigB x j = bigB x n ∧ OwnB wr base b (l ++ done) ∧ w.grownBy wr v.ownBlock ∧ FreshOr w v b) (fun _ i _ => (intOf i + 1).toNat)
  case atStart => exact ⟨n, [], by omega, rfl, by simp, rfl, by simpa using hown, grownBy_refl _ _, .inl rfl⟩
  case round =>
    obtain ⟨j, done, hj, rfl, hd, H, ho, hg, hf⟩ := hrel
    have H' := Lib.hid H; clear H
    have ho' := Lib.hid ho; clear ho
    have hg' := Lib.hid hg; clear hg
    have hf' := Lib.hid hf; clear hf
    cases j with
    | zero =>
      go_wp2
      go_ret
      have hx : done = bigB x n := by have := H'.out; simpa [bigB] using this
      subst hx
      exact ⟨_, rfl, ho'.out, hg'.out, hf'.out⟩
    | succ i =>
      have e : ((i + 1 : Nat) : Int) - 1 = i := by omega
      rw [e]; clear e
      have b1 : 8 * (i : Int) ≤ 63 := by omega
      have b0 : 0 ≤ 8 * (i : Int) := by omega
      go_wp2_with (at_builtin; refine wpList_append_new bytesT rfl (.tmp 14) (.tmp 20) rfl base wr [_] _ _ rfl u0 (l ++ done) rfl ho'.out rfl ?_ ?_ ?_)
      · simp; omega
      · have := hg'.out.size; omega
      · intro v' w1 hown1 hg1 hf1
        have hg2 := Lib.hid (grow_step hg'.out hf'.out hg1)
        have hf2 := Lib.hid (fresh_trans hg'.out.size hf'.out hf1)
        have hown2 := Lib.hid hown1
        clear hown1 hg1 hf1
        go_wp2
        go_roundw
        case rel => exact ⟨i, done ++ [(x >>> (8 * UInt64.ofNat i)).toUInt8], by omega, by go_num, by have := bigB_length x n; rw [← H'.out] at this; simp [bigB, bigB_length] at this ⊢; omega, by rw [← H'.out]; simp [bigB], hown2.out, hg2.out, hf2.out⟩
        case measure => simp [intOf]
end Go.Proofs.YtidadhbaomieiaaGreat

/- The hash in plain words: what package sha computes, block by block. No program is in sight. No conditions. -/
namespace Go
namespace TL
def vw (x : UInt32) : Value := .int .u32 (I32 x)
structure St where
  a : UInt32
  b : UInt32
  c : UInt32
  d : UInt32
  e : UInt32
  f : UInt32
  g : UInt32
  h : UInt32
deriving DecidableEq
def St.words (s : St) : List UInt32 := [s.a, s.b, s.c, s.d, s.e, s.f, s.g, s.h]
def St.cells (s : St) : List Value := [vw s.a, vw s.b, vw s.c, vw s.d, vw s.e, vw s.f, vw s.g, vw s.h]
def sig0 (x : UInt32) : UInt32 := ror x 7 ^^^ ror x 18 ^^^ (x >>> 3)
def sig1 (x : UInt32) : UInt32 := ror x 17 ^^^ ror x 19 ^^^ (x >>> 10)
def wordAt (s : List UInt8) (i : Nat) : UInt32 := (be64 ((s.drop (4 * i)).take 4)).toUInt32
def nextW (s : List UInt8) (l : List UInt32) : UInt32 :=
  if l.length < 16 then wordAt s l.length
  else l.getD (l.length - 16) 0 + sig0 (l.getD (l.length - 15) 0) + l.getD (l.length - 7) 0 + sig1 (l.getD (l.length - 2) 0)
def wl (s : List UInt8) : Nat → List UInt32
  | 0 => []
  | n + 1 => wl s n ++ [nextW s (wl s n)]
theorem wl_length (s : List UInt8) (n : Nat) : (wl s n).length = n := by
  induction n with
  | zero => rfl
  | succ n ih => simp [wl, ih]
def rndT (s : St) (k w : UInt32) : UInt32 :=
  s.h + (ror s.e 6 ^^^ ror s.e 11 ^^^ ror s.e 25) + ((s.e &&& s.f) ^^^ (~~~ s.e &&& s.g)) + k + w
def rndU (s : St) : UInt32 :=
  (ror s.a 2 ^^^ ror s.a 13 ^^^ ror s.a 22) + ((s.a &&& s.b) ^^^ (s.a &&& s.c) ^^^ (s.b &&& s.c))
def rnd (s : St) (k w : UInt32) : St := ⟨rndT s k w + rndU s, s.a, s.b, s.c, s.d + rndT s k w, s.e, s.f, s.g⟩
def rndN (s : St) (K W : List UInt32) : Nat → St
  | 0 => s
  | n + 1 => rnd (rndN s K W n) (K.getD n 0) (W.getD n 0)
def St.add (s t : St) : St := ⟨s.a + t.a, s.b + t.b, s.c + t.c, s.d + t.d, s.e + t.e, s.f + t.f, s.g + t.g, s.h + t.h⟩
/-- The words behind a block. -/
def turnS (h b : St) (K : List UInt32) (s : List UInt8) : St := h.add (rndN b K (wl s 64) 64)
theorem wl_step (s : List UInt8) (n : Nat) : wl s (n + 1) = wl s n ++ [nextW s (wl s n)] := rfl
theorem nextW_low (s : List UInt8) (n : Nat) (h : n < 16) : nextW s (wl s n) = wordAt s n := by
  unfold nextW; rw [wl_length, if_pos h]
theorem nextW_high (s : List UInt8) (n : Nat) (h : 16 ≤ n) : nextW s (wl s n) = (wl s n).getD (n - 16) 0 + sig0 ((wl s n).getD (n - 15) 0) + (wl s n).getD (n - 7) 0 + sig1 ((wl s n).getD (n - 2) 0) := by
  unfold nextW; rw [wl_length, if_neg (by omega)]
end TL
end Go

/- The walk of sha's turn: it turns the words by a block, and touches nothing that was there. Conditions: the block has 64 bytes, the numbers are 64. -/
namespace Go
namespace TL
open Go.RowKit
theorem drewN_heap (w : World) (n : Nat) : (w.drewN n).heap = w.heap := rfl
theorem rangeAt_of_heap {w w' : World} (h : w'.heap = w.heap) {g o : Nat} {xs : List Value} (hr : w.rangeAt g o xs) : w'.rangeAt g o xs := rangeAt_of_block hr (by rw [h])
theorem there_of_heap {w w' : World} (h : w'.heap = w.heap) {g o n : Nat} (hr : w.there g o n) : w'.there g o n := there_of_block hr (by rw [h])
/-- A callee that leaves the world alone, met in a drawn region behind another one. -/
theorem quiet_at {P : Program} {f : FuncId} {args : Array Value} {w : World} {n a : Nat} {v : Value}
    (h : Calls P f args (w.drewN (n + a)) fun e w' => e = .returned v ∧ w' = w.drewN (n + a)) : Calls P f args (w.drewN (n + a)) fun e w'' => e = .returned v ∧ ∃ m, w'' = w.drewN (n + m) :=
  h.mono fun _ _ ⟨he, hm⟩ => ⟨he, a, hm⟩
theorem vw_cell {w : World} {g o : Nat} {l : List UInt32} (h : w.rangeAt g o (l.map vw)) (i : Nat) (hi : i < l.length) : w.cell? ⟨g, o + i, none⟩ = some (.int .u32 (I32 (l.getD i 0))) := by
  refine h i _ ?_
  simp [vw, hi]
theorem free_of_there {w : World} {g o n : Nat} (h : w.there g o n) (i : Nat) (hi : i < n) : w.frozen? ⟨g, o + i, none⟩ = false := (h i hi).2
/-- What holds of turn's own blocks: the words h, the words b, the result's place, the list w. -/
structure TI (w wr : World) (h b : St) (W : List UInt32) : Prop where
  bel : Below w.heap.size w wr
  sz : wr.heap.size = w.heap.size + 4
  hh : wr.rangeAt w.heap.size 0 h.cells
  ht : wr.there w.heap.size 0 8
  bb : wr.rangeAt (w.heap.size + 1) 0 b.cells
  bt : wr.there (w.heap.size + 1) 0 8
  rt : wr.there (w.heap.size + 1 + 1) 0 8
  ww : wr.rangeAt (w.heap.size + 1 + 1 + 1) 0 (W.map vw)
  wt : wr.there (w.heap.size + 1 + 1 + 1) 0 64
theorem TI.drewN {w wr : World} {h b : St} {W : List UInt32} (T : TI w wr h b W) (n : Nat) : TI w (wr.drewN n) h b W :=
  ⟨⟨T.bel.os, T.bel.tape, T.bel.output, T.bel.size, T.bel.block⟩, T.sz, rangeAt_of_heap (drewN_heap _ _) T.hh, there_of_heap (drewN_heap _ _) T.ht, rangeAt_of_heap (drewN_heap _ _) T.bb, there_of_heap (drewN_heap _ _) T.bt, there_of_heap (drewN_heap _ _) T.rt, rangeAt_of_heap (drewN_heap _ _) T.ww, there_of_heap (drewN_heap _ _) T.wt⟩
theorem TI.pushW {w wr : World} {h b : St} {W : List UInt32} (T : TI w wr h b W) (x : UInt32) (hl : W.length < 64) : TI w (wr.setCell ⟨w.heap.size + 1 + 1 + 1, W.length, none⟩ (.int .u32 (I32 x))) h b (W ++ [x]) := by
  refine ⟨T.bel.setCell (by show w.heap.size ≤ w.heap.size + 1 + 1 + 1; omega) _, by simpa using T.sz, rangeAt_setCell_apart T.hh _ (.inl (by show _ + 1 + 1 + 1 ≠ _; omega)) _, there_setCell T.ht _ _, rangeAt_setCell_apart T.bb _ (.inl (by show _ + 1 + 1 + 1 ≠ _; omega)) _, there_setCell T.bt _ _, there_setCell T.rt _ _, ?_, there_setCell T.wt _ _⟩
  rw [List.map_append]
  refine rangeAt_append (rangeAt_setCell_apart T.ww _ (by simp) _) ?_
  intro j v hv
  cases j with
  | zero =>
    simp at hv; subst hv
    obtain ⟨u, hu⟩ := Option.isSome_iff_exists.1 (T.wt W.length hl).1
    simp only [List.length_map, Nat.zero_add, Nat.add_zero] at hu ⊢
    exact World.cell?_setCell_same _ _ _ hu
  | succ j => simp at hv
theorem TI.storeB {w wr : World} {h b : St} {W : List UInt32} (T : TI w wr h b W) (b' : St) : TI w (wr.setCells (w.heap.size + 1) 0 b'.cells) h b' W := by
  refine ⟨below_setCells (by omega) _ _ _ T.bel, by rw [size_setCells]; exact T.sz, World.rangeAt_setCells_apart T.hh _ _ _ (.inl (by omega)), World.there_setCells T.ht _ _ _, World.rangeAt_setCells_same _ _ _ _ T.bt, World.there_setCells T.bt _ _ _, World.there_setCells T.rt _ _ _, World.rangeAt_setCells_apart T.ww _ _ _ (.inl (by omega)), World.there_setCells T.wt _ _ _⟩
/-- The words h, of which the first i have had b's added. -/
def St.mix (h b : St) (i : Nat) : St :=
  ⟨if 0 < i then h.a + b.a else h.a, if 1 < i then h.b + b.b else h.b, if 2 < i then h.c + b.c else h.c, if 3 < i then h.d + b.d else h.d,
   if 4 < i then h.e + b.e else h.e, if 5 < i then h.f + b.f else h.f, if 6 < i then h.g + b.g else h.g, if 7 < i then h.h + b.h else h.h⟩
theorem St.mix_zero (h b : St) : h.mix b 0 = h := rfl
theorem St.mix_all (h b : St) : h.mix b 8 = h.add b := rfl
theorem St.mix_step (h b : St) (k : Nat) (hk : k < 8) : (h.mix b k).cells.set k (.int .u32 (I32 ((h.mix b k).words.getD k 0 + b.words.getD k 0))) = (h.mix b (k + 1)).cells := by
  have : k = 0 ∨ k = 1 ∨ k = 2 ∨ k = 3 ∨ k = 4 ∨ k = 5 ∨ k = 6 ∨ k = 7 := by omega
  rcases this with e | e | e | e | e | e | e | e <;> subst e <;> rfl
theorem TI.storeH {w wr : World} {h b : St} {W : List UInt32} (T : TI w wr h b W) (k : Nat) (hk : k < 8) (h' : St) (u : Value) (e : h.cells.set k u = h'.cells) : TI w (wr.setCell ⟨w.heap.size, k, none⟩ u) h' b W := by
  have h1 := rangeAt_setCell_same T.hh k (by simpa [St.cells] using hk) u
  rw [Nat.zero_add, e] at h1
  exact ⟨T.bel.setCell (Nat.le_refl _) _, by simpa using T.sz, h1, there_setCell T.ht _ _, rangeAt_setCell_apart T.bb _ (.inl (by show w.heap.size ≠ w.heap.size + 1; omega)) _, there_setCell T.bt _ _, there_setCell T.rt _ _, rangeAt_setCell_apart T.ww _ (.inl (by show w.heap.size ≠ w.heap.size + 1 + 1 + 1; omega)) _, there_setCell T.wt _ _⟩
theorem St.cells_eq (s : St) : s.cells = s.words.map vw := rfl
/-- turn's blocks, just laid. -/
theorem TI.start (w : World) (h b : St) (C D : Array Value) (hC : C.size = 8) (hD : D.size = 64) (t1 t2 t3 t4 : TypeId) :
    TI w ((((w.alloc (.cells h.cells.toArray t1)).alloc (.cells b.cells.toArray t2)).alloc (.cells C t3)).alloc (.cells D t4)) h b [] := by
  have n1 : (w.alloc (.cells h.cells.toArray t1)).heap.size = w.heap.size + 1 := by simp
  have n2 : ((w.alloc (.cells h.cells.toArray t1)).alloc (.cells b.cells.toArray t2)).heap.size = w.heap.size + 1 + 1 := by simp
  have n3 : (((w.alloc (.cells h.cells.toArray t1)).alloc (.cells b.cells.toArray t2)).alloc (.cells C t3)).heap.size = w.heap.size + 1 + 1 + 1 := by simp
  refine ⟨((((Below.refl _ _).alloc (Nat.le_refl _) _).alloc (by simp) _).alloc (by simp; omega) _).alloc (by simp; omega) _, by simp, ?_, ?_, ?_, ?_, ?_, by simp [World.rangeAt], ?_⟩
  · exact World.rangeAt_alloc (World.rangeAt_alloc (World.rangeAt_alloc (rangeAt_new w _ _ _) _) _) _
  · exact World.there_alloc (World.there_alloc (World.there_alloc (there_new w _ _ 8 (by simp [St.cells])) _) _) _
  · rw [← n1]; exact World.rangeAt_alloc (World.rangeAt_alloc (rangeAt_new _ _ _ _) _) _
  · rw [← n1]; exact World.there_alloc (World.there_alloc (there_new _ _ _ 8 (by simp [St.cells])) _) _
  · rw [← n2]; exact World.there_alloc (there_new _ _ _ 8 (by omega)) _
  · rw [← n3]; exact there_new _ _ _ 64 (by omega)
end TL
end Go
namespace Go.Proofs.YtidadhbaomieiaaGreat
open Go.RowKit Go.TL
theorem rot_k (x : UInt32) (k : Int) (w : World) (h1 : -31 ≤ k) (h2 : k ≤ -1) :
    Calls Tryz.prog 185 #[.int .u32 (I32 x), .int .i64 k] w fun e w' => e = .returned (.int .u32 (I32 (ror x (-k).toNat))) ∧ w' = w :=
  (rot_any x (-k).toNat k w (by omega) (by omega) (by omega)).mono fun _ _ ⟨a, b⟩ => ⟨a, b.symm⟩
set_option maxRecDepth 100000 in
set_option maxHeartbeats 1000000 in
theorem turn_any (h b : St) (K : List UInt32) (hK : K.length = 64) (kb ko : Nat) (sv : Value) (s : List UInt8) (hs : s.length = 64) (w : World)
    (hk : w.rangeAt kb ko (K.map vw)) (hsee : SeesB w sv s) :
    Calls Tryz.prog 159 #[.agg h.cells.toArray, .agg b.cells.toArray, .pointer (some ⟨kb, ko, none⟩), sv] w fun e w' => e = .returned (.agg (turnS h b K s).cells.toArray) ∧ Below w.heap.size w w' := by
  have hkb : kb < w.heap.size := rangeAt.lt hk (by intro e; have := congrArg List.length e; simp [hK] at this)
  have H0 := Lib.hid hk; clear hk
  have H1 := Lib.hid hsee; clear hsee
  have H2 := Lib.hid hs; clear hs
  have H3 := Lib.hid hK; clear hK
  go_enter Tryz.func159, Tryz.ntmps159
  go_wp2
  go_loopw [22] (fun i wr => ∃ k : Nat, k ≤ 16 ∧ i = .int .i64 k ∧ TI w wr h b (wl s k)) (fun i _ => 16 - (intOf i).toNat)
  case atStart => exact ⟨0, by omega, rfl, TI.start w h b _ _ rfl rfl _ _ _ _⟩
  case round =>
    obtain ⟨k, hk, rfl, T⟩ := hrel
    have T' := Lib.hid T
    by_cases hlt : k < 16
    · have hsee := H1.out.below T.bel
      have hcut := hsee.run_cut bytesT (4 * (k : Int)) (4 * (k : Int) + 4) (by omega) (by omega) (by have := H2.out; omega)
      have hcs := SeesB.cut hsee (4 * k) (4 * k + 4) (by omega) (by have := H2.out; omega)
      have hstr := SeesB.run_string hcs 70 9 5 Tryz.underlying70 Tryz.underlying5 Tryz.underlying9 wr (grownBy_refl _ _)
      have hcut' : ∀ w'' : World, (Instr.sliceAt 70 sv (some (.int .i64 (4 * (k : Int)))) (some (.int .i64 (4 * (k : Int) + 4))) none).run Tryz.prog w'' = .ok (cutV 1 sv (4 * k) (4 * k + 4)) w'' := by
        intro w''; have := hcut w''; rwa [show (4 * (k : Int)).toNat = 4 * k by omega, show (4 * (k : Int) + 4).toNat = 4 * k + 4 by omega] at this
      clear hcut T hsee hcs
      obtain ⟨cv, hcv⟩ : ∃ cv, cv = cutV 1 sv (4 * k) (4 * k + 4) := ⟨_, rfl⟩
      rw [← hcv] at hstr hcut'
      clear hcv
      have hfr := free_of_there T'.out.wt k (by omega)
      obtain ⟨u0, hu0⟩ := Option.isSome_iff_exists.1 (T'.out.wt k (by omega)).1
      rw [Nat.zero_add] at hfr hu0
      have hsz : 4 ≤ (⟨(List.drop (4 * k) (List.take (4 * k + 4) s)).toArray⟩ : ByteArray).size := by
        have := H2.out; show 4 ≤ (List.drop (4 * k) (List.take (4 * k + 4) s)).toArray.size; simp; omega
      have hsz' := Lib.hid hsz; clear hsz
      go_wp2_with (go_at_call 184; refine (getBig_any _ 4 _ hsz'.out (by omega)).mono ?_; rintro e w1 ⟨rfl, rfl⟩)
      go_roundw
      case rel =>
        refine ⟨k + 1, by omega, by go_num, ?_⟩
        rw [wl_step, nextW_low _ _ hlt]
        have := T'.out.pushW (wordAt s k) (by rw [wl_length]; omega)
        rw [wl_length] at this
        rw [wordAt] at this ⊢
        rw [show (List.drop (4 * k) (List.take (4 * k + 4) s)) = (s.drop (4 * k)).take 4 from by rw [List.drop_take, show 4 * k + 4 - 4 * k = 4 by omega], List.take_take, Nat.min_self]
        exact this
      case measure => simp [intOf]; omega
    · obtain rfl : k = 16 := by omega
      rw [show ((16 : Nat) : Int) = 16 from rfl]
      go_wp2_with fail
      go_loopw [11] (fun i wr => ∃ k : Nat, 16 ≤ k ∧ k ≤ 64 ∧ i = .int .i64 k ∧ TI w wr h b (wl s k)) (fun i _ => 64 - (intOf i).toNat)
      case atStart => exact ⟨16, by omega, by omega, rfl, T'.out⟩
      case round =>
        obtain ⟨k, hk16, hk, rfl, T⟩ := hrel
        have T2 := Lib.hid T; clear T
        by_cases hlt : k < 64
        · have g15 := vw_cell T2.out.ww (k - 15) (by rw [wl_length]; omega)
          have g2 := vw_cell T2.out.ww (k - 2) (by rw [wl_length]; omega)
          have g16 := vw_cell T2.out.ww (k - 16) (by rw [wl_length]; omega)
          have g7 := vw_cell T2.out.ww (k - 7) (by rw [wl_length]; omega)
          have hfr := free_of_there T2.out.wt k (by omega)
          obtain ⟨u0, hu0⟩ := Option.isSome_iff_exists.1 (T2.out.wt k (by omega)).1
          rw [Nat.zero_add] at g15 g2 g16 g7 hfr hu0
          obtain ⟨x15, e15⟩ : ∃ x, x = (wl s k).getD (k - 15) 0 := ⟨_, rfl⟩
          obtain ⟨x2, e2⟩ : ∃ x, x = (wl s k).getD (k - 2) 0 := ⟨_, rfl⟩
          obtain ⟨x16, e16⟩ : ∃ x, x = (wl s k).getD (k - 16) 0 := ⟨_, rfl⟩
          obtain ⟨x7, e7⟩ : ∃ x, x = (wl s k).getD (k - 7) 0 := ⟨_, rfl⟩
          rw [← e15] at g15; rw [← e2] at g2; rw [← e16] at g16; rw [← e7] at g7
          have hx : nextW s (wl s k) = x16 + sig0 x15 + x7 + sig1 x2 := by rw [nextW_high _ _ hk16, e15, e2, e16, e7]
          have Hx := Lib.hid hx; clear hx e15 e2 e16 e7
          go_wp2_with fail
          go_quiet (fail)
          go_wp2_with (go_at_call 185; refine (rot_k _ _ _ (by omega) (by omega)).mono ?_; rintro e w1 ⟨rfl, rfl⟩)
          go_region
          go_wp2
          go_roundw
          case rel =>
            refine ⟨k + 1, by omega, by omega, by go_num, ?_⟩
            rw [wl_step, Hx.out]
            have := (T2.out.drewN nq).pushW (x16 + sig0 x15 + x7 + sig1 x2) (by rw [wl_length]; omega)
            rw [wl_length] at this
            exact this.drewN 1
          case measure => simp [intOf]; omega
        · obtain rfl : k = 64 := by omega
          rw [show ((64 : Nat) : Int) = 64 from rfl]
          go_wp2_with fail
          go_loopw [81] (fun i wr => ∃ k : Nat, k ≤ 64 ∧ i = .int .i64 k ∧ TI w wr h (rndN b K (wl s 64) k) (wl s 64)) (fun i _ => 64 - (intOf i).toNat)
          case atStart => exact ⟨0, by omega, rfl, T2.out⟩
          case round =>
            obtain ⟨k, hk, rfl, T⟩ := hrel
            obtain ⟨st, est⟩ : ∃ st, st = rndN b K (wl s 64) k := ⟨_, rfl⟩
            rw [← est] at T
            have Hst := Lib.hid est; clear est
            have T3 := Lib.hid T; clear T
            by_cases hlt : k < 64
            · have hkk := rangeAt_of_block H0.out (T3.out.bel.block kb hkb)
              have gk := vw_cell hkk k (by rw [H3.out]; exact hlt)
              have gw := vw_cell T3.out.ww k (by rw [wl_length]; exact hlt)
              obtain ⟨xk, ek⟩ : ∃ x, x = K.getD k 0 := ⟨_, rfl⟩
              obtain ⟨xw, ew⟩ : ∃ x, x = (wl s 64).getD k 0 := ⟨_, rfl⟩
              rw [← ek] at gk; rw [← ew] at gw
              have Ek := Lib.hid ek; have Ew := Lib.hid ew; clear ek ew hkk
              have c0 := T3.out.bb 0 _ rfl
              have c1 := T3.out.bb 1 _ rfl
              have c2 := T3.out.bb 2 _ rfl
              have c3 := T3.out.bb 3 _ rfl
              have c4 := T3.out.bb 4 _ rfl
              have c5 := T3.out.bb 5 _ rfl
              have c6 := T3.out.bb 6 _ rfl
              have c7 := T3.out.bb 7 _ rfl
              simp only [Nat.zero_add, vw] at c0 c1 c2 c3 c4 c5 c6 c7 gw
              go_wp2_with fail
              go_quiet (fail)
              go_wp2_with fail
              go_quiet ((go_at_call 185; exact quiet_at (rot_k _ _ _ (by omega) (by omega))))
              go_wp2_with fail
              go_quiet ((go_at_call 185; exact quiet_at (rot_k _ _ _ (by omega) (by omega))))
              go_wp2_with ((with_reducible show wpList _ _ _ (Oper.mk none (Op.store 213 (.tmp 5) (.tmp 163)) _ _ _ _ :: _) _ _); go_must (refine wpList_putRow rfl 213 (.tmp 5) (.tmp 163) rfl (w.heap.size + 1) 0 _ rfl rfl (by exact there_of_heap (drewN_heap _ _) T3.out.bt) (by kernel_rfl) (by simp [Value.oneCell']) ?_))
              go_roundw
              case rel =>
                refine ⟨k + 1, by omega, by go_num, ?_⟩
                have e : rndN b K (wl s 64) (k + 1) = rnd st xk xw := by rw [Hst.out, Ek.out, Ew.out]; rfl
                rw [e]
                exact ((T3.out.drewN _).storeB (rnd st xk xw))
              case measure => simp [intOf]; omega
            · obtain rfl : k = 64 := by omega
              rw [show ((64 : Nat) : Int) = 64 from rfl]
              go_wp2_with fail
              go_loopw [165] (fun i wr => ∃ k : Nat, k ≤ 8 ∧ i = .int .i64 k ∧ TI w wr (h.mix st k) st (wl s 64)) (fun i _ => 8 - (intOf i).toNat)
              case atStart => exact ⟨0, by omega, rfl, T3.out⟩
              case round =>
                obtain ⟨k, hk, rfl, T⟩ := hrel
                have T4 := Lib.hid T; clear T
                by_cases hlt : k < 8
                · have gh := T4.out.hh
                  have gb := T4.out.bb
                  rw [St.cells_eq] at gh gb
                  have gh' := vw_cell gh k (by exact hlt)
                  have gb' := vw_cell gb k (by exact hlt)
                  obtain ⟨xh, eh⟩ : ∃ x, x = (h.mix st k).words.getD k 0 := ⟨_, rfl⟩
                  obtain ⟨xb, eb⟩ : ∃ x, x = st.words.getD k 0 := ⟨_, rfl⟩
                  rw [Nat.zero_add] at gh' gb'
                  rw [← eh] at gh'; rw [← eb] at gb'
                  have hst := St.mix_step h st k hlt
                  rw [← eh, ← eb] at hst
                  have Hmix := Lib.hid hst
                  have hfr := free_of_there T4.out.ht k (by omega)
                  rw [Nat.zero_add] at hfr
                  clear eh eb hst gh gb
                  go_wp2_with fail
                  go_region
                  go_wp2
                  go_roundw
                  case rel => exact ⟨k + 1, by omega, by go_num, (T4.out.drewN 1).storeH k hlt _ _ Hmix.out⟩
                  case measure => simp [intOf]; omega
                · obtain rfl : k = 8 := by omega
                  rw [show ((8 : Nat) : Int) = 8 from rfl]
                  go_wp2_with (first | ((with_reducible show wpList _ _ _ (Oper.mk _ (Op.load 213 (.tmp 4)) _ _ _ _ :: _) _ _); go_must (refine wpList_load_mid rfl 213 _ rfl w.heap.size 0 rfl _ _ T4.out.hh Tryz.underlying213 rfl (by kernel_rfl) ?_)) | ((with_reducible show wpList _ _ _ (Oper.mk none (Op.store 213 (.tmp 8) (.tmp 177)) _ _ _ _ :: _) _ _); go_must (refine wpList_putRow rfl 213 (.tmp 8) (.tmp 177) rfl (w.heap.size + 1 + 1) 0 (h.mix st 8).cells rfl rfl (by exact T4.out.rt) (by kernel_rfl) (by simp [Value.oneCell', St.cells, vw]) ?_)))
                  refine bodyPost_ret (results_row rfl _ _ (w.heap.size + 1 + 1) 0 (h.mix st 8).cells _ rfl (World.rangeAt_setCells_same _ _ _ _ (by exact T4.out.rt)) Tryz.underlying213 rfl (by kernel_rfl)) rfl ?_
                  rw [St.mix_all, Hst.out]
                  exact ⟨rfl, below_setCells (by omega) _ _ _ T4.out.bel⟩
end Go.Proofs.YtidadhbaomieiaaGreat

/- The walks of begin, numbers, New and none of package sha: the object as it is first. No conditions. -/
namespace Go
namespace TL
open Go.RowKit
def H0 : St := ⟨0x6a09e667, 0xbb67ae85, 0x3c6ef372, 0xa54ff53a, 0x510e527f, 0x9b05688c, 0x1f83d9ab, 0x5be0cd19⟩
def K64 : List UInt32 := [
  0x428a2f98, 0x71374491, 0xb5c0fbcf, 0xe9b5dba5, 0x3956c25b, 0x59f111f1, 0x923f82a4, 0xab1c5ed5,
  0xd807aa98, 0x12835b01, 0x243185be, 0x550c7dc3, 0x72be5d74, 0x80deb1fe, 0x9bdc06a7, 0xc19bf174,
  0xe49b69c1, 0xefbe4786, 0x0fc19dc6, 0x240ca1cc, 0x2de92c6f, 0x4a7484aa, 0x5cb0a9dc, 0x76f988da,
  0x983e5152, 0xa831c66d, 0xb00327c8, 0xbf597fc7, 0xc6e00bf3, 0xd5a79147, 0x06ca6351, 0x14292967,
  0x27b70a85, 0x2e1b2138, 0x4d2c6dfc, 0x53380d13, 0x650a7354, 0x766a0abb, 0x81c2c92e, 0x92722c85,
  0xa2bfe8a1, 0xa81a664b, 0xc24b8b70, 0xc76c51a3, 0xd192e819, 0xd6990624, 0xf40e3585, 0x106aa070,
  0x19a4c116, 0x1e376c08, 0x2748774c, 0x34b0bcb5, 0x391c0cb3, 0x4ed8aa4a, 0x5b9cca4f, 0x682e6ff3,
  0x748f82ee, 0x78a5636f, 0x84c87814, 0x8cc70208, 0x90befffa, 0xa4506ceb, 0xbef9a3f7, 0xc67178f2]
theorem K64_length : K64.length = 64 := rfl
/-- The object's cells at first. -/
def shaCells : List Value := H0.cells ++ K64.map vw ++ [.slice none 0 0, .int .i64 0, .bool true]
/-- A hash's object: the words, the numbers, what is left, how many bytes. -/
structure ShaAt (w : World) (base b : Nat) (h : St) (rv : Value) (rest : List UInt8) (n : Nat) : Prop where
  lo : base ≤ b
  lt : b < w.heap.size
  hh : w.rangeAt b 0 h.cells
  ht : w.there b 0 8
  kk : w.rangeAt b 8 (K64.map vw)
  rc : w.cell? ⟨b, 72, none⟩ = some rv
  rf : w.frozen? ⟨b, 72, none⟩ = false
  ro : OwnB w base rv rest
  rne : rv.ownBlock ≠ some b
  nc : w.cell? ⟨b, 73, none⟩ = some (.int .i64 n)
  nf : w.frozen? ⟨b, 73, none⟩ = false
  mc : w.cell? ⟨b, 74, none⟩ = some (.bool true)
end TL
end Go
namespace Go.Proofs.YtidadhbaomieiaaGreat
open Go.RowKit Go.TL
set_option maxRecDepth 100000 in
set_option maxHeartbeats 1000000 in
theorem begin_any (w : World) : Calls Tryz.prog 156 #[] w fun e w' => e = .returned (.agg H0.cells.toArray) ∧ Below w.heap.size w w' := by
  go_enter Tryz.func156, Tryz.ntmps156
  go_wp2
  refine bodyPost_ret (v := .agg H0.cells.toArray) ?_ rfl ⟨rfl, (Below.refl _ _).alloc (Nat.le_refl _) _⟩
  refine results_row rfl _ _ w.heap.size 0 H0.cells _ rfl ?_ Tryz.underlying213 rfl (by kernel_rfl)
  exact rangeAt_new w H0.cells.toArray _ (0, 0)
set_option maxRecDepth 100000 in
set_option maxHeartbeats 1000000 in
theorem numbers_any (w : World) : Calls Tryz.prog 157 #[] w fun e w' => e = .returned (.agg (K64.map vw).toArray) ∧ Below w.heap.size w w' := by
  go_enter Tryz.func157, Tryz.ntmps157
  go_wp2_with (first | ((with_reducible show wpList _ _ _ (Oper.mk _ (Op.build _ _) _ _ _ _ :: _) _ _); go_must (refine wpList_built rfl _ _ rfl (.agg (K64.map vw).toArray) (by kernel_rfl) ?_)) | ((with_reducible show wpList _ _ _ (Oper.mk none (Op.store _ _ _) _ _ _ _ :: _) _ _); go_must (refine wpList_putRow rfl 212 _ _ rfl w.heap.size 0 (K64.map vw) rfl rfl (by exact there_new _ _ _ _ (by simp [K64_length])) (by kernel_rfl) (by intro v hv; obtain ⟨x, _, rfl⟩ := List.mem_map.1 hv; rfl) ?_)))
  refine bodyPost_ret (v := .agg (K64.map vw).toArray) ?_ rfl ⟨rfl, below_setCells (Nat.le_refl _) _ _ _ ((Below.refl _ _).alloc (Nat.le_refl _) _)⟩
  refine results_row rfl _ _ w.heap.size 0 (K64.map vw) _ rfl ?_ Tryz.underlying212 rfl (by kernel_rfl)
  exact World.rangeAt_setCells_same _ _ _ _ (there_new _ _ _ _ (by simp [K64_length]))
theorem shaCells_length : shaCells.length = 75 := rfl
set_option maxRecDepth 100000 in
set_option maxHeartbeats 1000000 in
theorem New_any (w : World) : Calls Tryz.prog 116 #[] w fun e w' => ∃ b, e = .returned (.pointer (some ⟨b, 0, none⟩)) ∧ ShaAt w' w.heap.size b H0 (.slice none 0 0) [] 0 ∧ Below w.heap.size w w' := by
  go_enter Tryz.func116, Tryz.ntmps116
  go_wp2_with (first | (go_at_call 156; refine (begin_any _).mono ?_; rintro e w1 ⟨rfl, hb1⟩) | (go_at_call 157; refine (numbers_any _).mono ?_; rintro e w2 ⟨rfl, hb2⟩) | ((with_reducible show wpList _ _ _ (Oper.mk _ (Op.build _ _) _ _ _ _ :: _) _ _); go_must (refine wpList_built rfl _ _ rfl (.agg shaCells.toArray) (by kernel_rfl) ?_)))
  go_ret
  refine ⟨w2.heap.size, rfl, ?_, (hb1.trans (hb2.mono hb1.size)).alloc (by have := hb1.size; have := hb2.size; omega) _⟩
  have hr := rangeAt_new w2 shaCells.toArray 245 (0, 0)
  have ht := there_new w2 shaCells.toArray 245 75 (by simp [shaCells_length])
  have hle : w.heap.size ≤ w2.heap.size := Nat.le_trans hb1.size hb2.size
  refine ⟨hle, by simp, rangeAt_take hr 8, there_mono ht (by omega), rangeAt_take (rangeAt_drop hr 8) 64, hr 72 _ rfl, (ht 72 (by omega)).2, Own_nil _ _ _, by simp [Value.ownBlock], hr 73 _ rfl, (ht 73 (by omega)).2, hr 74 _ rfl⟩
set_option maxHeartbeats 400000 in
theorem none_no (w : World) (b : Nat) (hm : w.cell? ⟨b, 74, none⟩ = some (.bool true)) : Calls Tryz.prog 158 #[.pointer (some ⟨b, 0, none⟩)] w fun e w' => e = .returned (.bool false) ∧ w = w' := by
  go_enter Tryz.func158, Tryz.ntmps158
  go_wp2
  go_ret
  exact ⟨rfl, rfl⟩
end Go.Proofs.YtidadhbaomieiaaGreat

/- A region that draws its order, walked in one order: where every operation that writes waits for all that reads ahead of it, and what may come on either side of it hangs on the frame alone, whatever order is drawn comes to the same. Conditions: the check 'detOk', by computation; no operation panics. -/
namespace Go
namespace TL
/-! ### What hangs on the frame alone -/
/-- Where it comes to a value, it leaves the world, and comes to that value in every world. -/
def LocalOk {α : Type} (P : Program) (s : Sem α) : Prop := ∀ w v w1, s.run P w = .ok v w1 → w1 = w ∧ ∀ w', s.run P w' = .ok v w'
theorem LocalOk.pure {α : Type} {P : Program} (v : α) : LocalOk P (pure v : Sem α) := by
  intro w u w1 h; cases h; exact ⟨rfl, fun _ => rfl⟩
theorem LocalOk.halt {α : Type} {P : Program} (h : Halt) : LocalOk P (.halt h : Sem α) := by
  intro w u w1 h; cases h
theorem LocalOk.program {P : Program} : LocalOk P program := by
  intro w u w1 h; cases h; exact ⟨rfl, fun _ => rfl⟩
theorem LocalOk.bind {α β : Type} {P : Program} {s : Sem α} {f : α → Sem β} (h : LocalOk P s) (k : ∀ v, LocalOk P (f v)) : LocalOk P (s >>= f) := by
  intro w u w1 hr
  rw [Sem.run_bind] at hr
  cases hs : s.run P w with
  | ok v w2 =>
    rw [hs] at hr
    obtain ⟨rfl, h2⟩ := h _ _ _ hs
    obtain ⟨rfl, h3⟩ := k v _ _ _ hr
    exact ⟨rfl, fun w' => by rw [Sem.run_bind, h2 w']; exact h3 w'⟩
  | halt x w2 => rw [hs] at hr; cases hr
theorem LocalOk.map {α β : Type} {P : Program} {s : Sem α} {f : α → β} (h : LocalOk P s) : LocalOk P (Functor.map f s) := by
  have : Functor.map f s = s >>= fun v => Pure.pure (f v) := rfl
  rw [this]; exact h.bind fun v => LocalOk.pure _
theorem LocalOk.stuck {α : Type} {P : Program} (s : String) : LocalOk P (stuck s : Sem α) := LocalOk.halt _
theorem LocalOk.unsupported {α : Type} {P : Program} (s : Unsupported) : LocalOk P (unsupported s : Sem α) := LocalOk.halt _
theorem LocalOk.goPanic {α : Type} {P : Program} (v : Value) : LocalOk P (goPanic v : Sem α) := LocalOk.halt _
/-- What never comes to a value. -/
def NeverOk {α : Type} (P : Program) (s : Sem α) : Prop := ∀ w v w1, s.run P w ≠ .ok v w1
theorem NeverOk.local {α : Type} {P : Program} {s : Sem α} (h : NeverOk P s) : LocalOk P s := fun w v w1 hr => absurd hr (h w v w1)
theorem NeverOk.bind {α β : Type} {P : Program} {s : Sem α} {f : α → Sem β} (k : ∀ v, NeverOk P (f v)) : NeverOk P (s >>= f) := by
  intro w u w1 hr
  rw [Sem.run_bind] at hr
  cases hs : s.run P w with
  | ok v w2 => rw [hs] at hr; exact k v _ _ _ hr
  | halt x w2 => rw [hs] at hr; cases hr
theorem NeverOk.goPanic {α : Type} {P : Program} (v : Value) : NeverOk P (goPanic v : Sem α) := by intro w u w1 h; cases h
theorem NeverOk.runtimePanic {α : Type} {P : Program} (e : RuntimeError) : NeverOk P (runtimePanic e : Sem α) := by
  unfold Go.runtimePanic
  refine NeverOk.bind fun p => ?_
  cases e <;> first | exact NeverOk.goPanic _ | (refine NeverOk.bind fun _ => ?_; first | exact NeverOk.goPanic _ | (refine NeverOk.bind fun _ => ?_; exact NeverOk.goPanic _))
theorem NeverOk.boundsPanic {α : Type} {P : Program} (k : IntKind) (x y : Int) (c : BoundsCode) : NeverOk P (boundsPanic k x y c : Sem α) := by
  unfold Go.boundsPanic
  dsimp only
  split <;> exact NeverOk.bind fun _ => NeverOk.runtimePanic _
theorem LocalOk.boundsPanic {α : Type} {P : Program} (k : IntKind) (x y : Int) (c : BoundsCode) : LocalOk P (boundsPanic k x y c : Sem α) := (NeverOk.boundsPanic k x y c).local
theorem LocalOk.runtimePanic {α : Type} {P : Program} (e : RuntimeError) : LocalOk P (runtimePanic e : Sem α) := (NeverOk.runtimePanic e).local
theorem LocalOk.typeInfo {P : Program} (t : TypeId) : LocalOk P (typeInfo t) := by
  unfold Go.typeInfo; refine LocalOk.program.bind fun p => ?_; split
  · exact LocalOk.pure _
  · exact LocalOk.stuck _
theorem LocalOk.underlying {P : Program} (t : TypeId) : LocalOk P (underlying t) := by
  unfold Go.underlying; refine LocalOk.program.bind fun p => ?_; split
  · exact LocalOk.pure _
  · exact LocalOk.stuck _
theorem LocalOk.sizeOf {P : Program} (t : TypeId) : LocalOk P (sizeOf t) := by
  unfold Go.sizeOf; exact (LocalOk.typeInfo t).bind fun _ => LocalOk.pure _
theorem LocalOk.isAgg {P : Program} (t : TypeId) : LocalOk P (isAgg t) := by
  unfold Go.isAgg; refine (LocalOk.underlying t).bind fun d => ?_; split <;> exact LocalOk.pure _
theorem LocalOk.part {P : Program} (t : TypeId) (cs : Array Value) (o : Nat) : LocalOk P (part t cs o) := by
  unfold Go.part; refine (LocalOk.isAgg t).bind fun b => ?_; split
  · exact (LocalOk.sizeOf t).bind fun _ => LocalOk.pure _
  · split
    · exact LocalOk.pure _
    · exact LocalOk.stuck _
theorem LocalOk.sureAddr {P : Program} (v : Value) : LocalOk P (Instr.sureAddr v) := by
  unfold Instr.sureAddr; split
  · exact LocalOk.pure _
  · exact LocalOk.stuck _
theorem LocalOk.asIntOf {P : Program} (v : Value) : LocalOk P (asIntOf v) := by
  unfold Go.asIntOf; split
  · exact LocalOk.pure _
  · exact LocalOk.unsupported _
  · exact LocalOk.stuck _
theorem LocalOk.asBool {P : Program} (v : Value) : LocalOk P (asBool v) := by
  unfold Go.asBool; split
  · exact LocalOk.pure _
  · exact LocalOk.stuck _
theorem LocalOk.asAgg {P : Program} (v : Value) : LocalOk P (asAgg v) := by
  unfold Go.asAgg; split
  · exact LocalOk.pure _
  · exact LocalOk.stuck _
theorem LocalOk.asAddr {P : Program} (v : Value) : LocalOk P (asAddr v) := by
  unfold Go.asAddr; split
  · exact LocalOk.pure _
  · exact LocalOk.runtimePanic _
  · exact LocalOk.stuck _
theorem LocalOk.indexAt {P : Program} (t : TypeId) (x i : Value) : LocalOk P (Instr.indexAt t x i) := by
  unfold Instr.indexAt
  dsimp only
  repeat' (first | exact LocalOk.pure _ | exact LocalOk.stuck _ | exact LocalOk.unsupported _ | exact LocalOk.boundsPanic _ _ _ _ | exact LocalOk.sureAddr _ | exact LocalOk.asIntOf _ | exact LocalOk.underlying _ | exact LocalOk.sizeOf _ | split | refine LocalOk.bind ?_ (fun _ => ?_))
theorem LocalOk.index {P : Program} (t : TypeId) (x i : Value) : LocalOk P (Instr.index t x i) := by
  unfold Instr.index
  refine (LocalOk.asIntOf _).bind fun ki => ?_
  refine (LocalOk.underlying _).bind fun d => ?_
  split
  · split
    · exact (LocalOk.sizeOf _).bind fun _ => LocalOk.part _ _ _
    · exact LocalOk.boundsPanic _ _ _ _
  · split
    · exact LocalOk.pure _
    · exact LocalOk.boundsPanic _ _ _ _
  · exact LocalOk.stuck _
theorem LocalOk.sliceBound {P : Program} (x : Value) (y : Nat) (c : BoundsCode) : LocalOk P (Instr.sliceBound x y c) := by
  unfold Instr.sliceBound
  dsimp only
  repeat' (first | exact LocalOk.pure _ | exact LocalOk.stuck _ | exact LocalOk.boundsPanic _ _ _ _ | exact LocalOk.asIntOf _ | split | refine LocalOk.bind ?_ (fun _ => ?_))
theorem LocalOk.sliceBounds {P : Program} (b : Bool) (n c : Nat) (lo hi mx : Option Value) : LocalOk P (Instr.sliceBounds b n c lo hi mx) := by
  unfold Instr.sliceBounds
  dsimp only
  repeat' (first | exact LocalOk.pure _ | exact LocalOk.stuck _ | exact LocalOk.sliceBound _ _ _ | split | refine LocalOk.bind ?_ (fun _ => ?_))
theorem LocalOk.slice {P : Program} (t : TypeId) (x : Value) (lo hi mx : Option Value) : LocalOk P (Instr.slice t x lo hi mx) := by
  unfold Instr.slice
  dsimp only
  repeat' (first | exact LocalOk.pure _ | exact LocalOk.stuck _ | exact LocalOk.sliceBounds _ _ _ _ _ _ | exact LocalOk.underlying _ | exact LocalOk.sizeOf _ | exact LocalOk.asAddr _ | split | refine LocalOk.bind ?_ (fun _ => ?_))
theorem LocalOk.sliceAt {P : Program} (t : TypeId) (x : Value) (lo hi mx : Option Value) : LocalOk P (Instr.sliceAt t x lo hi mx) := by
  unfold Instr.sliceAt
  dsimp only
  repeat' (first | exact LocalOk.pure _ | exact LocalOk.slice _ _ _ _ _ | exact LocalOk.sliceBounds _ _ _ _ _ _ | exact LocalOk.underlying _ | exact LocalOk.sizeOf _ | exact LocalOk.sureAddr _ | split | refine LocalOk.bind ?_ (fun _ => ?_))
theorem LocalOk.field {P : Program} (t : TypeId) (x : Value) (f : Nat) : LocalOk P (Instr.field t x f) := by
  unfold Instr.field
  repeat' (first | exact LocalOk.pure _ | exact LocalOk.stuck _ | exact LocalOk.underlying _ | exact LocalOk.asAgg _ | exact LocalOk.part _ _ _ | split | refine LocalOk.bind ?_ (fun _ => ?_))
theorem LocalOk.extract {P : Program} (x : Value) (f : Nat) : LocalOk P (Instr.extract x f) := by
  unfold Instr.extract
  repeat' (first | exact LocalOk.pure _ | exact LocalOk.stuck _ | split)
theorem LocalOk.makeInterface {P : Program} (t : TypeId) (x : Value) : LocalOk P (Instr.makeInterface t x) := by
  unfold Instr.makeInterface
  repeat' (first | exact LocalOk.pure _ | exact LocalOk.stuck _ | exact LocalOk.underlying _ | split | refine LocalOk.bind ?_ (fun _ => ?_))
theorem LocalOk.unary {P : Program} (op : UnOp) (x : Value) : LocalOk P (Op.unary op x) := by
  unfold Op.unary
  split <;> first | exact LocalOk.pure _ | exact LocalOk.unsupported _ | exact LocalOk.stuck _ | exact LocalOk.pure _
/-- A field's address, where the field has cells. -/
theorem LocalOk.fieldAt {P : Program} (s : TypeId) (x : Value) (f : Nat) (h : (match P.underlying s with | some (.struct fs) => (match fs[f]? with | some fd => ((P.info? fd.type).map (·.size)) != some 0 | none => false) | _ => false) = true) : LocalOk P (Instr.fieldAt s x f) := by
  unfold Instr.fieldAt
  intro w v w1 hr
  split at h
  · rename_i fs hu
    split at h
    · rename_i fd hf
      simp only [Sem.run_bind, run_underlying hu, Result.andThen_ok, hf] at hr ⊢
      have L : LocalOk P ((do let a ← Instr.sureAddr x; Pure.pure (Value.pointer (some (← fieldPlace a fd)))) : Sem Value) := by
        refine (LocalOk.sureAddr x).bind fun a => LocalOk.bind ?_ fun _ => LocalOk.pure _
        unfold fieldPlace
        intro w v w1 hr
        cases hi : P.info? fd.type with
        | none => simp [Go.sizeOf, Go.typeInfo, hi] at hr
        | some i =>
          simp [hi] at h
          simp [Go.sizeOf, Go.typeInfo, hi, h] at hr ⊢
          exact ⟨hr.2.symm, hr.1⟩
      have := L w v w1 (by simpa only [Sem.run_bind] using hr)
      simpa only [Sem.run_bind] using this
    · cases h
  · cases h
theorem LocalOk.shift {P : Program} (op : BinOp) (k : IntKind) (x : Int) (yk : IntKind) (y : Int) : LocalOk P (Op.shift op k x yk y) := by
  unfold Op.shift
  repeat' (first | exact LocalOk.pure _ | exact LocalOk.stuck _ | exact LocalOk.runtimePanic _ | split)
theorem LocalOk.intDiv {P : Program} (op : BinOp) (k : IntKind) (x y : Int) : LocalOk P (Op.intDiv op k x y) := by
  unfold Op.intDiv
  repeat' (first | exact LocalOk.pure _ | exact LocalOk.stuck _ | exact LocalOk.runtimePanic _ | split)
theorem LocalOk.intArith {P : Program} (op : BinOp) (k : IntKind) (x y : Int) : LocalOk P (Op.intArith op k x y) := by
  unfold Op.intArith
  repeat' (first | exact LocalOk.pure _ | exact LocalOk.stuck _ | split)
theorem LocalOk.intCmp {P : Program} (op : BinOp) (x y : Int) : LocalOk P (Op.intCmp op x y) := by
  unfold Op.intCmp
  repeat' (first | exact LocalOk.pure _ | exact LocalOk.stuck _ | split)
theorem LocalOk.intBits {P : Program} (op : BinOp) (k : IntKind) (x y : Int) : LocalOk P (Op.intBits op k x y) := by
  unfold Op.intBits
  dsimp only
  repeat' (first | exact LocalOk.pure _ | exact LocalOk.stuck _ | split)
theorem LocalOk.stringOp {P : Program} (op : BinOp) (x y : ByteArray) : LocalOk P (Op.stringOp op x y) := by
  unfold Op.stringOp
  dsimp only
  repeat' (first | exact LocalOk.pure _ | exact LocalOk.stuck _ | exact LocalOk.unsupported _ | split)
/-- Two numbers, or two strings. -/
def plainPair : Value → Value → Bool
  | .int _ _, .int _ _ => true
  | .string _, .string _ => true
  | _, _ => false
theorem LocalOk.binOp {P : Program} (op : BinOp) (t : TypeId) (x y : Value) (h : plainPair x y = true) : LocalOk P (binOp op t x y) := by
  cases x <;> cases y <;> simp [plainPair] at h
  · cases op <;> simp only [Go.binOp] <;>
      repeat' (first | exact LocalOk.shift _ _ _ _ _ | exact LocalOk.intArith _ _ _ _ | exact LocalOk.intDiv _ _ _ _ | exact LocalOk.intBits _ _ _ _ | exact LocalOk.intCmp _ _ _ | exact LocalOk.stuck _ | split)
  · cases op <;> simp only [Go.binOp] <;> exact LocalOk.stringOp _ _ _
theorem LocalOk.eqGuard {P : Program} (op : BinOp) (t : TypeId) (x y : Operand) (a b : Value) (h : plainPair a b = true) : LocalOk P (eqGuard op t x y a b) := by
  cases a <;> cases b <;> simp [plainPair] at h <;> (unfold Go.eqGuard; dsimp only; repeat' (first | exact LocalOk.pure _ | split | refine LocalOk.bind ?_ (fun _ => ?_)))
/-- A number turned to a number. -/
def isIntV : Value → Bool
  | .int _ _ => true
  | _ => false
theorem LocalOk.convert {P : Program} (src dst : TypeId) (x : Value) (h : isIntV x = true) (hd : (match P.underlying dst with | some (.int _) => true | _ => false) = true) : LocalOk P (convert src dst x) := by
  cases x <;> simp [isIntV] at h
  unfold Go.convert
  split at hd
  · rename_i k hk
    intro w v w1 hr
    cases hs : P.underlying src with
    | none => simp [Go.underlying, hs] at hr
    | some ds =>
      simp only [Sem.run_bind, run_underlying hs, run_underlying hk, Result.andThen_ok] at hr ⊢
      have : LocalOk P (Conv.intToInt k ‹Int›) := LocalOk.pure _
      cases ds <;> exact this _ _ _ hr
  · cases hd
/-- len of a string, a slice, an array. -/
def lenAble (P : Program) (ats : Array TypeId) : Bool :=
  match ats[0]? with
  | some t => (match P.underlying t with | some .string => true | some (.slice _) => true | some (.array _ _) => true | _ => false)
  | none => false
theorem LocalOk.len {P : Program} (ats : Array TypeId) (ty : TypeId) (args : Array Value) (h : lenAble P ats = true) : LocalOk P (Builtin.len_ ats ty args) := by
  intro w v w1 hr
  unfold lenAble at h
  cases ht : ats[0]? with
  | none => simp [ht] at h
  | some t =>
    cases hx : args[0]? with
    | none => simp only [Builtin.len_, ht, hx] at hr; cases hr
    | some x =>
      cases hs : P.underlying t with
      | none => simp [ht, hs] at h
      | some d =>
        simp only [Builtin.len_, ht, hx, Sem.run_bind, run_underlying hs, Result.andThen_ok] at hr ⊢
        cases d <;> simp [ht, hs] at h <;> cases x <;> first | (cases hr; done) | (cases hr; exact ⟨rfl, fun _ => rfl⟩)
/-! ### Arrays of numbers, compared -/
theorem LocalOk.of_same {α : Type} {P : Program} {s t : Sem α} (e : ∀ w, s.run P w = t.run P w) (h : LocalOk P t) : LocalOk P s := fun w v w1 hr => by
  rw [e] at hr
  obtain ⟨h1, h2⟩ := h w v w1 hr
  exact ⟨h1, fun w' => by rw [e]; exact h2 w'⟩
theorem LocalOk.bindOf {α β : Type} {P : Program} {s : Sem α} {f : α → Sem β} (R : α → Prop) (h : LocalOk P s) (hR : ∀ w v w1, s.run P w = .ok v w1 → R v) (k : ∀ v, R v → LocalOk P (f v)) : LocalOk P (s >>= f) := by
  intro w u w1 hr
  rw [Sem.run_bind] at hr
  cases hs : s.run P w with
  | ok v w2 =>
    rw [hs] at hr
    have hv := hR _ _ _ hs
    obtain ⟨rfl, h2⟩ := h _ _ _ hs
    obtain ⟨rfl, h3⟩ := k v hv _ _ _ hr
    exact ⟨rfl, fun w' => by rw [Sem.run_bind, h2 w']; exact h3 w'⟩
  | halt x w2 => rw [hs] at hr; cases hr
def numsV : Value → Bool
  | .agg cs => cs.all isIntV
  | _ => false
def boolV : Value → Bool
  | .bool _ => true
  | _ => false
/-- An array of whole numbers. -/
def intRow (P : Program) (t : TypeId) : Bool :=
  match P.underlying t with
  | some (.array _ e) => (match P.underlying e with | some (.int _) => true | _ => false) && !(P.eqGuardType P.depth t)
  | _ => false
theorem part_int {P : Program} {e : TypeId} {k : IntKind} (he : P.underlying e = some (.int k)) {cs : Array Value} (h : cs.all isIntV = true) (o : Nat) : ∀ w v w1, (part e cs o).run P w = .ok v w1 → isIntV v = true := by
  intro w v w1 hr
  simp only [part, isAgg, Sem.run_bind, run_underlying he, Result.andThen_ok, Sem.run_pure] at hr
  simp only [Bool.false_eq_true, if_false] at hr
  cases hc : cs[o]? with
  | none => simp [hc] at hr
  | some x =>
    simp only [hc, Sem.run_pure] at hr
    rw [Array.all_eq_true_iff_forall_mem] at h
    have hx := h x (Array.mem_of_getElem? hc)
    cases hr
    exact hx
theorem LocalOk.equalInt {P : Program} {e : TypeId} {k : IntKind} (he : P.underlying e = some (.int k)) (d : Nat) (x y : Value) (hx : isIntV x = true) (hy : isIntV y = true) : LocalOk P (Op.equalIn (d + 1) e x y) := by
  cases x <;> simp [isIntV] at hx
  cases y <;> simp [isIntV] at hy
  unfold Op.equalIn
  refine LocalOk.bindOf (fun d => d = .int k) (LocalOk.underlying e) (fun w v w1 hr => by rw [run_underlying he] at hr; cases hr; rfl) fun v hv => ?_
  subst hv
  dsimp only
  split <;> first | exact LocalOk.pure _ | exact LocalOk.stuck _
theorem LocalOk.eqItems {P : Program} {e : TypeId} {k : IntKind} (he : P.underlying e = some (.int k)) (d c : Nat) (xs ys : Array Value) (hx : xs.all isIntV = true) (hy : ys.all isIntV = true) : ∀ is : List Nat, LocalOk P (Op.eqItems (d + 1) e c xs ys is)
  | [] => LocalOk.pure _
  | i :: is => by
    unfold Op.eqItems
    refine LocalOk.bindOf _ (LocalOk.part _ _ _) (part_int he hx _) fun a ha => LocalOk.bindOf _ (LocalOk.part _ _ _) (part_int he hy _) fun b hb => (LocalOk.equalInt he d a b ha hb).bind fun r => ?_
    split
    · exact LocalOk.pure _
    · exact LocalOk.eqItems he d c xs ys hx hy is
theorem LocalOk.equalRow {P : Program} {t : TypeId} (h : intRow P t = true) (xs ys : Array Value) (hx : xs.all isIntV = true) (hy : ys.all isIntV = true) : LocalOk P (Op.equal t (.agg xs) (.agg ys)) := by
  unfold intRow at h
  split at h
  · rename_i n e hu
    simp only [Bool.and_eq_true] at h
    obtain ⟨h1, _⟩ := h
    split at h1
    · rename_i k he
      obtain ⟨i, hi⟩ := info_of_underlying he
      exact LocalOk.of_same (fun w => run_equalIn_array w 9999 xs ys hu hi) (LocalOk.eqItems he 9998 _ xs ys hx hy _)
    · cases h1
  · cases h
theorem LocalOk.binRow {P : Program} (op : BinOp) {t : TypeId} (h : intRow P t = true) (x y : Value) (hx : numsV x = true) (hy : numsV y = true) : LocalOk P (Go.binOp op t x y) := by
  cases x <;> simp only [numsV, Bool.false_eq_true] at hx
  cases y <;> simp only [numsV, Bool.false_eq_true] at hy
  cases op <;> simp only [Go.binOp] <;> first | exact LocalOk.stuck _ | exact (LocalOk.equalRow h _ _ hx hy).bind fun _ => LocalOk.pure _
theorem LocalOk.guardRow {P : Program} (op : BinOp) {t : TypeId} (h : intRow P t = true) (x y : Operand) (a b : Value) (ha : numsV a = true) (hb : numsV b = true) : LocalOk P (Go.eqGuard op t x y a b) := by
  have hg : P.eqGuardType P.depth t = false := by
    unfold intRow at h
    split at h
    · simp only [Bool.and_eq_true, Bool.not_eq_true'] at h; exact h.2
    · cases h
  cases a <;> simp only [numsV, Bool.false_eq_true] at ha
  cases b <;> simp only [numsV, Bool.false_eq_true] at hb
  unfold Go.eqGuard
  dsimp only
  split <;> simp only [Bool.not_true, Bool.not_false, Bool.false_eq_true, if_true, if_false]
  all_goals first
    | exact LocalOk.pure _
    | (refine LocalOk.bindOf (fun p => p = P) LocalOk.program (fun w v w1 hr => by cases hr; rfl) fun p hp => ?_
       subst hp
       refine LocalOk.bindOf (fun q => q = p) LocalOk.program (fun w v w1 hr => by cases hr; rfl) fun q hq => ?_
       subst hq
       rw [hg]
       exact LocalOk.pure _)
theorem LocalOk.binBool {P : Program} (op : BinOp) (t : TypeId) (x y : Value) (hx : boolV x = true) (hy : boolV y = true) : LocalOk P (Go.binOp op t x y) := by
  cases x <;> simp only [boolV, Bool.false_eq_true] at hx
  cases y <;> simp only [boolV, Bool.false_eq_true] at hy
  have key : ∀ a b, LocalOk P (Op.equal t (.bool a) (.bool b)) := fun a b => by
    unfold Op.equal Op.maxDepth Op.equalIn
    refine (LocalOk.underlying t).bind fun d => ?_
    dsimp only
    split <;> first | exact LocalOk.pure _ | exact LocalOk.stuck _ | simp_all
  cases op <;> simp only [Go.binOp] <;> first | exact LocalOk.stuck _ | exact (key _ _).bind fun _ => LocalOk.pure _
theorem LocalOk.guardBool {P : Program} (op : BinOp) (t : TypeId) (x y : Operand) (a b : Value) (ha : boolV a = true) : LocalOk P (Go.eqGuard op t x y a b) := by
  cases a <;> simp only [boolV, Bool.false_eq_true] at ha
  rw [eqGuard_at_bool]; exact LocalOk.pure _
/-! ### Structs and arrays of plain cells, compared -/
def plain1 : Value → Bool
  | .int _ _ | .string _ | .bool _ => true
  | _ => false
def plainV : Value → Bool
  | .agg cs => cs.all plain1
  | v => plain1 v
theorem part_plain {P : Program} {e : TypeId} {cs : Array Value} (h : cs.all plain1 = true) (o : Nat) : ∀ w v w1, (part e cs o).run P w = .ok v w1 → plainV v = true := by
  intro w v w1 hr
  rw [Array.all_eq_true_iff_forall_mem] at h
  have hag : ∀ u b w2, (isAgg e).run P w = .ok b w2 → (if b then (do let n ← sizeOf e; Pure.pure (.agg (cs.extract o (o + n))) : Sem Value) else match cs[o]? with | some v => Pure.pure v | none => Go.stuck u).run P w2 = .ok v w1 → plainV v = true := fun u b w2 _ hr => by
    cases b with
    | true =>
      simp only [if_true, Sem.run_bind] at hr
      cases hs : (sizeOf e).run P w2 with
      | ok n w3 =>
        rw [hs] at hr
        cases hr
        simp only [plainV, Array.all_eq_true_iff_forall_mem]
        intro x hx
        refine h x ?_
        rw [Array.mem_extract_iff_getElem] at hx
        obtain ⟨k, hk, rfl⟩ := hx
        exact Array.getElem_mem _
      | halt x w3 => rw [hs] at hr; cases hr
    | false =>
      simp only [Bool.false_eq_true, if_false] at hr
      cases hc : cs[o]? with
      | none => simp only [hc] at hr; cases hr
      | some x =>
        simp only [hc, Sem.run_pure] at hr
        have hx := h x (Array.mem_of_getElem? hc)
        cases hr
        cases v <;> simp_all [plain1, plainV]
  rw [part, Sem.run_bind] at hr
  cases hb : (isAgg e).run P w with
  | ok b w2 => rw [hb] at hr; exact hag _ b w2 hb hr
  | halt x w2 => rw [hb] at hr; cases hr
theorem LocalOk.eqFieldsP {P : Program} {d : Nat} (ih : ∀ t x y, plainV x = true → plainV y = true → LocalOk P (Op.equalIn d t x y)) (xs ys : Array Value) (hx : xs.all plain1 = true) (hy : ys.all plain1 = true) : ∀ fs : List Field, LocalOk P (Op.eqFields d xs ys fs)
  | [] => LocalOk.pure _
  | f :: fs => by
    unfold Op.eqFields
    split
    · refine LocalOk.bindOf _ (LocalOk.part _ _ _) (part_plain hx _) fun a ha => LocalOk.bindOf _ (LocalOk.part _ _ _) (part_plain hy _) fun b hb => (ih f.type a b ha hb).bind fun r => ?_
      split
      · exact LocalOk.pure _
      · exact LocalOk.eqFieldsP ih xs ys hx hy fs
    · exact LocalOk.eqFieldsP ih xs ys hx hy fs
theorem LocalOk.eqItemsP {P : Program} {d : Nat} (ih : ∀ t x y, plainV x = true → plainV y = true → LocalOk P (Op.equalIn d t x y)) (e : TypeId) (c : Nat) (xs ys : Array Value) (hx : xs.all plain1 = true) (hy : ys.all plain1 = true) : ∀ is : List Nat, LocalOk P (Op.eqItems d e c xs ys is)
  | [] => LocalOk.pure _
  | i :: is => by
    unfold Op.eqItems
    refine LocalOk.bindOf _ (LocalOk.part _ _ _) (part_plain hx _) fun a ha => LocalOk.bindOf _ (LocalOk.part _ _ _) (part_plain hy _) fun b hb => (ih e a b ha hb).bind fun r => ?_
    split
    · exact LocalOk.pure _
    · exact LocalOk.eqItemsP ih e c xs ys hx hy is
theorem LocalOk.equalP {P : Program} : ∀ (d : Nat) (t : TypeId) (x y : Value), plainV x = true → plainV y = true → LocalOk P (Op.equalIn d t x y)
  | 0, t, x, y, _, _ => LocalOk.unsupported _
  | d + 1, t, x, y, hx, hy => by
    have ih := LocalOk.equalP (P := P) d
    cases hu : P.underlying t with
    | none =>
      intro w v w1 hr
      unfold Op.equalIn at hr
      simp only [Sem.run_bind, Go.underlying] at hr
      simp [hu] at hr
    | some ds =>
      have base : (∀ xs ys, ¬ (x = .agg xs ∧ y = .agg ys)) → LocalOk P (Op.equalIn (d + 1) t x y) := fun hn => by
        unfold Op.equalIn
        refine (LocalOk.underlying t).bind fun d' => ?_
        cases x <;> simp only [plainV, plain1, Bool.false_eq_true] at hx <;> cases y <;> simp only [plainV, plain1, Bool.false_eq_true] at hy <;> first
          | exact absurd ⟨rfl, rfl⟩ (hn _ _)
          | (dsimp only; split <;> first | exact LocalOk.pure _ | exact LocalOk.stuck _ | (split <;> first | exact LocalOk.pure _ | exact LocalOk.stuck _) | simp_all)
      by_cases hag : ∃ xs ys, x = .agg xs ∧ y = .agg ys
      · obtain ⟨xs, ys, rfl, rfl⟩ := hag
        simp only [plainV] at hx hy
        by_cases hst : ∃ fs, ds = .struct fs
        · obtain ⟨fs, rfl⟩ := hst
          have hf : P.fieldsOf t = fs := by simp [Program.fieldsOf, hu]
          cases hh : P.stoodInHeld t with
          | true =>
            intro w v w1 hr
            unfold Op.equalIn at hr
            simp only [Sem.run_bind, run_underlying hu, Result.andThen_ok, run_program, hh, if_true] at hr
            cases hr
          | false => exact LocalOk.of_same (fun w => run_equalIn_struct w d t xs ys (by rw [hf]; exact hu) hh) (LocalOk.eqFieldsP ih xs ys hx hy _)
        · by_cases har : ∃ n e, ds = .array n e
          · obtain ⟨n, e, rfl⟩ := har
            cases hi : P.info? e with
            | none =>
              intro w v w1 hr
              unfold Op.equalIn at hr
              simp only [Sem.run_bind, run_underlying hu, Result.andThen_ok, Go.sizeOf, Go.typeInfo, run_program] at hr
              simp [hi] at hr
            | some i => exact LocalOk.of_same (fun w => run_equalIn_array w d xs ys hu hi) (LocalOk.eqItemsP ih e _ xs ys hx hy _)
          · intro w v w1 hr
            unfold Op.equalIn at hr
            simp only [Sem.run_bind, run_underlying hu, Result.andThen_ok] at hr
            cases ds <;> first | (cases hr; done) | exact absurd ⟨_, rfl⟩ hst | exact absurd ⟨_, _, rfl⟩ har
      · exact base fun xs ys h => hag ⟨xs, ys, h⟩
theorem LocalOk.binPlain {P : Program} (op : BinOp) (t : TypeId) (xs ys : Array Value) (hx : xs.all plain1 = true) (hy : ys.all plain1 = true) : LocalOk P (Go.binOp op t (.agg xs) (.agg ys)) := by
  cases op <;> simp only [Go.binOp] <;> first | exact LocalOk.stuck _ | exact (LocalOk.equalP _ t (.agg xs) (.agg ys) hx hy).bind fun _ => LocalOk.pure _
theorem LocalOk.guardPlain {P : Program} (op : BinOp) {t : TypeId} (hg : P.eqGuardType P.depth t = false) (x y : Operand) (xs ys : Array Value) : LocalOk P (Go.eqGuard op t x y (.agg xs) (.agg ys)) := by
  unfold Go.eqGuard
  dsimp only
  split <;> simp only [Bool.not_true, Bool.not_false, Bool.false_eq_true, if_true, if_false]
  all_goals first
    | exact LocalOk.pure _
    | (refine LocalOk.bindOf (fun p => p = P) LocalOk.program (fun w v w1 hr => by cases hr; rfl) fun p hp => ?_
       subst hp
       refine LocalOk.bindOf (fun q => q = p) LocalOk.program (fun w v w1 hr => by cases hr; rfl) fun q hq => ?_
       subst hq
       rw [hg]
       exact LocalOk.pure _)
def aggV : Value → Bool
  | .agg cs => cs.all plain1
  | _ => false
/-! ### The operations -/
/-- What the check must know of slots: each holds a number, a string, or an address. -/
inductive Shape where
  | int | str | ptr | bool | nums | cells
deriving DecidableEq
def Shape.strict : Shape → Value → Bool
  | .int, .int _ _ => true
  | .str, .string _ => true
  | .ptr, .pointer _ => true
  | .bool, v => boolV v
  | .nums, v => numsV v
  | .cells, v => aggV v
  | _, _ => false
def tupV : Value → Bool
  | .tuple _ => true
  | _ => false
/-- What the check must know of a slot; a slot that was not written (its guard was false) holds no value. -/
def Shape.ok (s : Shape) (v : Value) : Bool := s.strict v || tupV v
theorem Shape.ok_cases {s : Shape} {v : Value} (h : s.ok v = true) : s.strict v = true ∨ ∃ cs, v = .tuple cs := by
  unfold Shape.ok at h
  rcases (Bool.or_eq_true _ _).mp h with h | h
  · exact .inl h
  · cases v <;> simp [tupV] at h
    exact .inr ⟨_, rfl⟩
theorem Shape.ok_of {s : Shape} {v : Value} (h : s.strict v = true) : s.ok v = true := by unfold Shape.ok; rw [h]; rfl
theorem LocalOk.equalTup {P : Program} (t : TypeId) (x y : Value) (h : (∃ cs, x = .tuple cs) ∨ ∃ cs, y = .tuple cs) : LocalOk P (Op.equal t x y) := by
  unfold Op.equal Op.maxDepth Op.equalIn
  refine (LocalOk.underlying t).bind fun d => ?_
  rcases h with ⟨cs, rfl⟩ | ⟨cs, rfl⟩
  · dsimp only
    split <;> first | exact LocalOk.pure _ | exact LocalOk.stuck _ | exact LocalOk.unsupported _ | simp_all
  · dsimp only
    split <;> first | exact LocalOk.pure _ | exact LocalOk.stuck _ | exact LocalOk.unsupported _ | simp_all
theorem LocalOk.binTup {P : Program} (op : BinOp) (t : TypeId) (x y : Value) (h : (∃ cs, x = .tuple cs) ∨ ∃ cs, y = .tuple cs) : LocalOk P (Go.binOp op t x y) := by
  have e := LocalOk.equalTup (P := P) t x y h
  rcases h with ⟨cs, rfl⟩ | ⟨cs, rfl⟩
  · cases op <;> simp only [Go.binOp] <;> first | exact LocalOk.stuck _ | exact e.bind fun _ => LocalOk.pure _ | (split <;> first | exact LocalOk.stuck _ | exact LocalOk.unsupported _ | simp_all)
  · cases op <;> cases x <;> simp only [Go.binOp] <;> first | exact LocalOk.stuck _ | exact LocalOk.unsupported _ | exact e.bind fun _ => LocalOk.pure _ | (split <;> first | exact LocalOk.stuck _ | exact LocalOk.unsupported _ | simp_all)
theorem LocalOk.guardTup {P : Program} (op : BinOp) (t : TypeId) (x y : Operand) (a b : Value) (h : (∃ cs, a = .tuple cs) ∨ ∃ cs, b = .tuple cs) : LocalOk P (Go.eqGuard op t x y a b) := by
  rcases h with ⟨cs, rfl⟩ | ⟨cs, rfl⟩
  · unfold Go.eqGuard; dsimp only; repeat' (first | exact LocalOk.pure _ | split | refine LocalOk.bind ?_ (fun _ => ?_))
  · cases a <;> (unfold Go.eqGuard; dsimp only; repeat' (first | exact LocalOk.pure _ | split | refine LocalOk.bind ?_ (fun _ => ?_)))
theorem LocalOk.convertTup {P : Program} (src dst : TypeId) (cs : Array Value) (hd : (match P.underlying dst with | some (.int _) => true | _ => false) = true) : LocalOk P (Go.convert src dst (.tuple cs)) := by
  split at hd
  · rename_i k hk
    intro w v w1 hr
    exfalso
    unfold Go.convert at hr
    cases hs : P.underlying src with
    | none => simp [Go.underlying, hs] at hr
    | some ds =>
      simp only [Sem.run_bind, run_underlying hs, run_underlying hk, Result.andThen_ok] at hr
      cases ds <;> first
        | (cases hr; done)
        | (simp only [Conv.unsafePointer, Sem.run_bind, run_underlying hs, run_underlying hk, Result.andThen_ok] at hr; cases hr; done)
  · cases hd
/-- Needs: slots, and what each holds behind the region (a slot that no later operation writes). -/
abbrev Needs := List (Tmp × Shape)
def needOk (need : Needs) (a : Act) : Bool := need.all fun p => p.2.ok (a.tmps.getD p.1 undef)
def opndIs (need : Needs) (s : Shape) : Operand → Bool
  | .tmp t => need.contains (t, s)
  | .const v => s.ok v
  | _ => false
/-- An operation that hangs on the frame alone. -/
def pureOp (P : Program) (need : Needs) (o : Oper) : Bool :=
  match o.op with
  | .move _ | .assign _ | .pick .. | .indexAddr .. | .index .. | .slice .. | .field .. | .extract .. | .makeInterface .. | .unOp .. => true
  | .nilCheck x => opndIs need .ptr x
  | .binOp _ t x y _ => ((opndIs need .int x && opndIs need .int y) || (opndIs need .str x && opndIs need .str y)) || ((opndIs need .bool x && opndIs need .bool y) || ((opndIs need .nums x && opndIs need .nums y && intRow P t) || (opndIs need .cells x && opndIs need .cells y && !(P.eqGuardType P.depth t))))
  | .convert _ dst x => opndIs need .int x && (match P.underlying dst with | some (.int _) => true | _ => false)
  | .fieldAddr s _ f => match P.underlying s with | some (.struct fs) => (match fs[f]? with | some fd => ((P.info? fd.type).map (·.size)) != some 0 | none => false) | _ => false
  | .call c => (match c.callee with | .builtin .len => lenAble P c.argTypes | _ => false)
  | _ => false
theorem opndIs_ok {need : Needs} {s : Shape} {x : Operand} {a : Act} (h : opndIs need s x = true) (ha : needOk need a = true) : s.ok (a.eval x) = true := by
  cases x with
  | tmp t =>
    simp only [opndIs, List.contains_iff_mem] at h
    have := List.all_eq_true.1 ha _ h
    simpa [Act.eval] using this
  | const v => exact h
  | global g => cases h
  | func f => cases h
theorem Shape.ok_int {v : Value} (h : Shape.strict .int v = true) : isIntV v = true := by cases v <;> simp [Shape.strict] at h; rfl
theorem plainPair_int {x y : Value} (hx : Shape.strict .int x = true) (hy : Shape.strict .int y = true) : plainPair x y = true := by
  cases x <;> simp [Shape.strict] at hx
  cases y <;> simp [Shape.strict] at hy
  rfl
theorem plainPair_str {x y : Value} (hx : Shape.strict .str x = true) (hy : Shape.strict .str y = true) : plainPair x y = true := by
  cases x <;> simp [Shape.strict] at hx
  cases y <;> simp [Shape.strict] at hy
  rfl
/-- Both operands of the same shape: either not written, or both of it. -/
theorem both_cases {need : Needs} {s : Shape} {x y : Operand} {a : Act} (h : (opndIs need s x && opndIs need s y) = true) (ha : needOk need a = true) : ((∃ cs, a.eval x = .tuple cs) ∨ ∃ cs, a.eval y = .tuple cs) ∨ (s.strict (a.eval x) = true ∧ s.strict (a.eval y) = true) := by
  have := (Bool.and_eq_true _ _).mp h
  rcases Shape.ok_cases (opndIs_ok this.1 ha) with h1 | h1
  · rcases Shape.ok_cases (opndIs_ok this.2 ha) with h2 | h2
    · exact .inr ⟨h1, h2⟩
    · exact .inl (.inr h2)
  · exact .inl (.inl h1)
/-- Such an operation comes to a value, or to none, by the frame alone. -/
theorem pureOp_local {P : Program} {need : Needs} {o : Oper} {a : Act} (h : pureOp P need o = true) (ha : needOk need a = true) : ∃ s : Sem Value, execOp a.eval o = (do Pure.pure (Next.value (← s))) ∧ LocalOk P s := by
  obtain ⟨dst, op, type, pos, after, guard⟩ := o
  cases op <;> simp only [pureOp] at h <;> try (exact absurd h (by decide))
  case move x => exact ⟨Pure.pure (a.eval x), rfl, LocalOk.pure _⟩
  case assign x => exact ⟨Pure.pure (a.eval x), rfl, LocalOk.pure _⟩
  case nilCheck x =>
    have hx := opndIs_ok h ha
    refine ⟨(match a.eval x with | .pointer none | .nilIface | .nilFunc => Go.runtimePanic .nilDeref | x => Pure.pure x), ?_, ?_⟩
    · simp only [execOp]
      cases hv : a.eval x <;> rw [hv] at hx <;> first | (cases hx; done) | rfl | skip
      rename_i p
      cases p <;> rfl
    · split <;> first | exact LocalOk.runtimePanic _ | exact LocalOk.pure _
  case binOp op t x y yt =>
    refine ⟨_, rfl, ?_⟩
    have tup : ((∃ cs, a.eval x = .tuple cs) ∨ ∃ cs, a.eval y = .tuple cs) → LocalOk P (do Go.eqGuard op t x y (a.eval x) (a.eval y); Go.binOp op t (a.eval x) (a.eval y)) := fun ht =>
      (LocalOk.guardTup _ _ _ _ _ _ ht).bind fun _ => LocalOk.binTup _ _ _ _ ht
    rcases (Bool.or_eq_true _ _).mp h with h | h
    · have hp : ((∃ cs, a.eval x = .tuple cs) ∨ ∃ cs, a.eval y = .tuple cs) ∨ plainPair (a.eval x) (a.eval y) = true := by
        rcases (Bool.or_eq_true _ _).mp h with h | h
        · exact (both_cases h ha).imp id fun h => plainPair_int h.1 h.2
        · exact (both_cases h ha).imp id fun h => plainPair_str h.1 h.2
      rcases hp with ht | hp
      · exact tup ht
      · exact (LocalOk.eqGuard _ _ _ _ _ _ hp).bind fun _ => LocalOk.binOp _ _ _ _ hp
    · rcases (Bool.or_eq_true _ _).mp h with h | h
      · rcases both_cases h ha with ht | ⟨hx, hy⟩
        · exact tup ht
        · have hx : boolV (a.eval x) = true := hx
          have hy : boolV (a.eval y) = true := hy
          exact (LocalOk.guardBool _ _ _ _ _ _ hx).bind fun _ => LocalOk.binBool _ _ _ _ hx hy
      · rcases (Bool.or_eq_true _ _).mp h with h | h
        · have h0 := (Bool.and_eq_true _ _).mp h
          rcases both_cases h0.1 ha with ht | ⟨hx, hy⟩
          · exact tup ht
          · have hx : numsV (a.eval x) = true := hx
            have hy : numsV (a.eval y) = true := hy
            exact (LocalOk.guardRow _ h0.2 _ _ _ _ hx hy).bind fun _ => LocalOk.binRow _ h0.2 _ _ hx hy
        · have h0 := (Bool.and_eq_true _ _).mp h
          rcases both_cases h0.1 ha with ht | ⟨hx, hy⟩
          · exact tup ht
          · have hx : aggV (a.eval x) = true := hx
            have hy : aggV (a.eval y) = true := hy
            have hg : P.eqGuardType P.depth t = false := by simpa using h0.2
            clear tup
            generalize a.eval x = vx at hx ⊢
            generalize a.eval y = vy at hy ⊢
            cases vx <;> simp only [aggV, Bool.false_eq_true] at hx
            cases vy <;> simp only [aggV, Bool.false_eq_true] at hy
            exact (LocalOk.guardPlain _ hg _ _ _ _).bind fun _ => LocalOk.binPlain _ _ _ _ hx hy
  case unOp op t x => exact ⟨_, rfl, LocalOk.unary _ _⟩
  case convert src dst x =>
    have := (Bool.and_eq_true _ _).mp h
    refine ⟨_, rfl, ?_⟩
    rcases Shape.ok_cases (opndIs_ok this.1 ha) with h1 | ⟨cs, h1⟩
    · exact LocalOk.convert _ _ _ (Shape.ok_int h1) this.2
    · rw [h1]; exact LocalOk.convertTup _ _ _ this.2
  case makeInterface t x => exact ⟨_, rfl, LocalOk.makeInterface _ _⟩
  case slice t x lo hi mx => exact ⟨_, rfl, LocalOk.sliceAt _ _ _ _ _⟩
  case fieldAddr s x f => exact ⟨_, rfl, LocalOk.fieldAt _ _ _ h⟩
  case pick c x y =>
    refine ⟨(do let b ← asBool (a.eval c); Pure.pure (if b then a.eval x else a.eval y)), ?_, ?_⟩
    · simp only [execOp]; cases a.eval c <;> rfl
    · refine LocalOk.bind ?_ fun _ => LocalOk.pure _
      unfold asBool; split <;> first | exact LocalOk.pure _ | exact LocalOk.stuck _
  case field s x f => exact ⟨_, rfl, LocalOk.field _ _ _⟩
  case indexAddr t x i => exact ⟨_, rfl, LocalOk.indexAt _ _ _⟩
  case index t x i => exact ⟨_, rfl, LocalOk.index _ _ _⟩
  case extract x i => exact ⟨_, rfl, LocalOk.extract _ _⟩
  case call c =>
    obtain ⟨callee, args, ats⟩ := c
    cases callee <;> simp only at h <;> try (cases h; done)
    rename_i b
    cases b <;> simp only at h <;> try (cases h; done)
    exact ⟨_, rfl, LocalOk.len _ _ _ h⟩
/-! ### What only reads -/
/-- Where it comes to a value, it leaves the world. -/
def ReadOk {α : Type} (P : Program) (s : Sem α) : Prop := ∀ w v w1, s.run P w = .ok v w1 → w1 = w
theorem LocalOk.read {α : Type} {P : Program} {s : Sem α} (h : LocalOk P s) : ReadOk P s := fun w v w1 hr => (h w v w1 hr).1
theorem ReadOk.bind {α β : Type} {P : Program} {s : Sem α} {f : α → Sem β} (h : ReadOk P s) (k : ∀ v, ReadOk P (f v)) : ReadOk P (s >>= f) := by
  intro w u w1 hr
  rw [Sem.run_bind] at hr
  cases hs : s.run P w with
  | ok v w2 =>
    rw [hs] at hr
    obtain rfl := h _ _ _ hs
    exact k v _ _ _ hr
  | halt x w2 => rw [hs] at hr; cases hr
theorem ReadOk.load {P : Program} (a : Addr) : ReadOk P (load a) := by
  intro w v w1 hr
  unfold Go.load at hr
  simp only [Sem.run] at hr
  split at hr
  · cases hr; rfl
  · split at hr
    · cases hr; rfl
    · cases hr
theorem ReadOk.loadCellsFrom {P : Program} (a : Addr) : ∀ (n i : Nat) (acc : Array Value), ReadOk P (loadCellsFrom a i n acc)
  | 0, _, _ => (LocalOk.pure _).read
  | n + 1, i, acc => by
    unfold Go.loadCellsFrom
    exact (ReadOk.load _).bind fun v => ReadOk.loadCellsFrom a n (i + 1) _
theorem ReadOk.loadVar {P : Program} (t : TypeId) (a : Addr) : ReadOk P (loadVar t a) := by
  unfold Go.loadVar
  refine (LocalOk.isAgg t).read.bind fun b => ?_
  split
  · exact (LocalOk.sizeOf t).read.bind fun n => (ReadOk.loadCellsFrom a n 0 _).bind fun _ => (LocalOk.pure _).read
  · exact ReadOk.load a
theorem ReadOk.loadAt {P : Program} (t : TypeId) (v : Value) : ReadOk P (Instr.loadAt t v) := by
  unfold Instr.loadAt
  exact (LocalOk.sureAddr v).read.bind fun a => ReadOk.loadVar t a
theorem ReadOk.forIn_list {P : Program} {β : Type} (f : Value → β → Sem (ForInStep β)) (hf : ∀ v b, ReadOk P (f v b)) : ∀ (l : List Value) (b : β), ReadOk P (forIn l b f)
  | [], b => by simp only [List.forIn_nil]; exact (LocalOk.pure _).read
  | v :: l, b => by
    simp only [List.forIn_cons]
    refine (hf v b).bind fun s => ?_
    cases s with
    | done b => exact (LocalOk.pure _).read
    | yield b => exact ReadOk.forIn_list f hf l b
theorem ReadOk.bytesToString {P : Program} (x : Value) : ReadOk P (Conv.bytesToString x) := by
  unfold Conv.bytesToString
  split
  · exact (LocalOk.pure _).read
  · refine (ReadOk.loadCellsFrom _ _ 0 _).bind fun cs => ?_
    dsimp only
    rw [← Array.forIn_toList]
    refine ReadOk.bind (ReadOk.forIn_list _ (fun v b => ?_) _ _) fun _ => (LocalOk.pure _).read
    split <;> first | exact (LocalOk.stuck _).read | exact (LocalOk.pure _).read | exact ((LocalOk.pure _).read.bind fun _ => (LocalOk.pure _).read)
  · exact (LocalOk.stuck _).read
/-- A row of bytes turned to a string. -/
def bytesConv (P : Program) (src dst : TypeId) : Bool :=
  match P.underlying src, P.underlying dst with
  | some (.slice e), some .string => (match P.underlying e with | some (.int .u8) => true | _ => false)
  | _, _ => false
theorem ReadOk.convert {P : Program} (src dst : TypeId) (x : Value) (h : bytesConv P src dst = true) : ReadOk P (convert src dst x) := by
  unfold bytesConv at h
  split at h
  · rename_i e hs hd
    split at h
    · rename_i he
      intro w v w1 hr
      unfold Go.convert at hr
      simp only [Sem.run_bind, run_underlying hs, run_underlying hd, Result.andThen_ok] at hr
      cases x <;> first | (simp only [Sem.run_bind, run_underlying he, Result.andThen_ok] at hr; exact ReadOk.bytesToString _ _ _ _ hr) | (cases hr; rfl)
    · cases h
  · cases h
def readOp (P : Program) (need : Needs) (o : Oper) : Bool :=
  match o.op with
  | .load .. => true
  | .convert src dst _ => pureOp P need o || bytesConv P src dst
  | _ => pureOp P need o
theorem readOp_read {P : Program} {need : Needs} {o : Oper} {a : Act} (h : readOp P need o = true) (ha : needOk need a = true) : ∃ s : Sem Value, execOp a.eval o = (do Pure.pure (Next.value (← s))) ∧ ReadOk P s := by
  have go : pureOp P need o = true → ∃ s : Sem Value, execOp a.eval o = (do Pure.pure (Next.value (← s))) ∧ ReadOk P s := fun hp => by
    obtain ⟨s, h1, h2⟩ := pureOp_local hp ha; exact ⟨s, h1, h2.read⟩
  obtain ⟨dst, op, type, pos, after, guard⟩ := o
  cases op
  case load t x => exact ⟨_, rfl, ReadOk.loadAt _ _⟩
  case convert src d x =>
    rcases (Bool.or_eq_true _ _).mp h with h | h
    · exact go h
    · exact ⟨_, rfl, ReadOk.convert _ _ _ h⟩
  all_goals exact go h
/-! ### The region -/
/-- Only the region's regular end, and the needs met there. -/
def OnlyN (need : Needs) (Q : Exit → Act → World → Prop) : Exit → Act → World → Prop
  | .normal, a, w => needOk need a = true ∧ Q .normal a w
  | _, _, _ => False
theorem OnlyN.intro {need : Needs} {Q : Exit → Act → World → Prop} {a : Act} {w : World} (h : needOk need a = true) (hq : Q .normal a w) : OnlyN need Q .normal a w := ⟨h, hq⟩
theorem OnlyN.letsOut {need : Needs} {Q : Exit → Act → World → Prop} (h : LetsOut (OnlyN need Q)) : False := by
  obtain ⟨a, w, h⟩ := h; exact h
section
variable {P : Program} {ops : Array Oper} {Q : Exit → Act → World → Prop} {md : Region.Mode}
/-- Whatever comes up; as long as 'c' has not, the world is W. -/
def wpAnyW (P : Program) (md : Region.Mode) (ops : Array Oper) (Q : Exit → Act → World → Prop) (c : Nat) (W : World) : Nat → Array Bool → Act → World → Prop
  | 0, listed, a, w => Region.ready md ops listed = [] ∧ Q .normal a w
  | fuel + 1, listed, a, w =>
    (Region.ready md ops listed = [] → Q .normal a w) ∧
    ∀ j ∈ Region.ready md ops listed, wpOp P ops Q j (fun a' w' => (j ≠ c → w' = W ∧ wpAnyW P md ops Q c W fuel (listed.setIfInBounds j true) a' w') ∧ (j = c → wpAny P md ops Q fuel (listed.setIfInBounds j true) a' w')) a w
theorem wpAny_of_W {c : Nat} {W : World} : ∀ (fuel : Nat) (listed : Array Bool) (a : Act) (w : World), wpAnyW P md ops Q c W fuel listed a w → wpAny P md ops Q fuel listed a w
  | 0, _, _, _, h => h
  | fuel + 1, _, _, _, h => ⟨h.1, fun j hj => wpOp_mono (fun a' w' h' => by
      by_cases e : j = c
      · exact h'.2 e
      · exact wpAny_of_W fuel _ a' w' (h'.1 e).2) (h.2 j hj)⟩
theorem not_waits {i j : Nat} {listed : Array Bool} {oj : Oper} (hr : i ∈ Region.ready md ops listed) (_hoj : ops[j]? = some oj)
    (hall : ∀ e ∈ oj.after, Region.binds md e = true → listed.getD e.on false = true) : ∀ e ∈ oj.after, Region.binds md e = true → e.on ≠ i := fun e he hb heq => by
  have h1 := hall e he hb
  have h0 := (mem_ready.1 hr).1
  rw [heq] at h1
  rcases Nat.lt_or_ge i listed.size with h' | h'
  · simp [h'] at h0 h1; rw [h0] at h1; cases h1
  · simp [Array.getElem?_eq_none h'] at h1
/-- What hangs on the frame alone may be taken first. -/
theorem W_pure {c : Nat} {W : World} {i : Nat} {oi : Oper} {v : Value} (hi : ops[i]? = some oi) (hic : i ≠ c) (hsel : ∀ (j : Nat) (o : Oper) cs b, ops[j]? = some o → o.op ≠ .select cs b)
    (hQ : ∀ c a w, Q (.panic c) (a.put oi.dst v) w → Q (.panic c) a w) :
    ∀ (fuel : Nat) (listed : Array Bool) (a : Act),
      (∀ j oj, ops[j]? = some oj → j ≠ i → listed.getD j true = false → (∀ e ∈ oj.after, Region.binds md e = true → e.on ≠ i) → oi.apart ops oj = true) →
      i ∈ Region.ready md ops listed → Yields P ops oi v a →
      wpAnyW P md ops Q c W fuel (listed.setIfInBounds i true) (a.put oi.dst v) W → wpAnyW P md ops Q c W (fuel + 1) listed a W := by
  intro fuel
  induction fuel with
  | zero =>
    intro listed a _ hr hy H
    refine ⟨fun h => (by rw [h] at hr; cases hr), fun j hj => ?_⟩
    by_cases hji : j = i
    · subst hji; exact hy.wpOp hi ⟨fun _ => ⟨rfl, H⟩, fun e => absurd e hic⟩
    · have := ready_mono hj hji
      rw [H.1] at this
      cases this
  | succ fuel ih =>
    intro listed a hfree hr hy H
    refine ⟨fun h => (by rw [h] at hr; cases hr), fun j hj => ?_⟩
    by_cases hji : j = i
    · subst hji; exact hy.wpOp hi ⟨fun _ => ⟨rfl, H⟩, fun e => absurd e hic⟩
    · have h1 := H.2 j (ready_mono hj hji)
      obtain ⟨hjun, oj, hoj, hall⟩ := mem_ready.1 hj
      have hnot := not_waits hr hoj hall
      have h2 := wpOp_put hoj (hfree j oj hoj hji hjun hnot) (fun cs b => hsel i oi cs b hi) (fun cs b => hsel j oj cs b hoj) hQ hy h1
      have hfree' : ∀ k ok, ops[k]? = some ok → k ≠ i → (listed.setIfInBounds j true).getD k true = false →
          (∀ e ∈ ok.after, Region.binds md e = true → e.on ≠ i) → oi.apart ops ok = true := fun k ok hk hki hun hno => by
        refine hfree k ok hk hki ?_ hno
        by_cases hjk : j = k
        · subst hjk; exact hjun
        · rw [getD_set_ne true hjk] at hun; exact hun
      refine wpOp_mono (fun a' w' h3 => ⟨fun hjc => ?_, fun hjc => ?_⟩) h2
      · obtain ⟨rfl, h5⟩ := h3.2.1 hjc
        refine ⟨rfl, ih (listed.setIfInBounds j true) a' hfree' (ready_mono hr (Ne.symm hji)) h3.1 ?_⟩
        rw [Array.setIfInBounds_comm _ _ hji]; exact h5
      · have h5 := h3.2.2 hjc
        refine wpAny_first hi hsel hQ fuel (listed.setIfInBounds j true) a' w' hfree' (ready_mono hr (Ne.symm hji)) h3.1 ?_
        rw [Array.setIfInBounds_comm _ _ hji]; exact h5
/-- What reads may be taken first, if the next that writes waits for it. -/
theorem W_take {c : Nat} {W : World} {i : Nat} {oi : Oper} {v : Value} (b : Nat → Bool) (hi : ops[i]? = some oi) (hic : i ≠ c) (hsel : ∀ (j : Nat) (o : Oper) cs b, ops[j]? = some o → o.op ≠ .select cs b)
    (hQ : ∀ c a w, Q (.panic c) (a.put oi.dst v) w → Q (.panic c) a w)
    (hjust : ∀ j oj, ops[j]? = some oj → b j = true → ∃ e ∈ oj.after, Region.binds md e = true ∧ (e.on = i ∨ b e.on = true))
    (hbc : ops[c]? = none ∨ b c = true) :
    ∀ (fuel : Nat) (listed : Array Bool) (a : Act),
      (∀ j oj, ops[j]? = some oj → j ≠ i → listed.getD j true = false → (∀ e ∈ oj.after, Region.binds md e = true → e.on ≠ i) → oi.apart ops oj = true) →
      i ∈ Region.ready md ops listed → (∀ j, b j = true → listed.getD j false = false) → YieldsIf P ops (· = W) oi v a →
      wpAnyW P md ops Q c W fuel (listed.setIfInBounds i true) (a.put oi.dst v) W → wpAnyW P md ops Q c W (fuel + 1) listed a W := by
  intro fuel
  induction fuel with
  | zero =>
    intro listed a _ hr _ hy H
    refine ⟨fun h => (by rw [h] at hr; cases hr), fun j hj => ?_⟩
    by_cases hji : j = i
    · subst hji; exact hy.wpOp hi rfl ⟨fun _ => ⟨rfl, H⟩, fun e => absurd e hic⟩
    · have := ready_mono hj hji
      rw [H.1] at this
      cases this
  | succ fuel ih =>
    intro listed a hfree hr hbl hy H
    refine ⟨fun h => (by rw [h] at hr; cases hr), fun j hj => ?_⟩
    by_cases hji : j = i
    · subst hji; exact hy.wpOp hi rfl ⟨fun _ => ⟨rfl, H⟩, fun e => absurd e hic⟩
    · have h1 := H.2 j (ready_mono hj hji)
      obtain ⟨hjun, oj, hoj, hall⟩ := mem_ready.1 hj
      have hnot := not_waits hr hoj hall
      have hbj : b j = false := by
        cases hb : b j with
        | false => rfl
        | true =>
          obtain ⟨e, he, hbind, hor⟩ := hjust j oj hoj hb
          have h5 := hall e he hbind
          rcases hor with h6 | h6
          · exact absurd h6 (hnot e he hbind)
          · rw [hbl _ h6] at h5; cases h5
      have hjc : j ≠ c := by
        rintro rfl
        rcases hbc with h | h
        · rw [h] at hoj; cases hoj
        · rw [h] at hbj; cases hbj
      have h2 := wpOp_putIf hoj (hfree j oj hoj hji hjun hnot) (fun cs b => hsel i oi cs b hi) (fun cs b => hsel j oj cs b hoj) hQ hy h1
      have hfree' : ∀ k ok, ops[k]? = some ok → k ≠ i → (listed.setIfInBounds j true).getD k true = false →
          (∀ e ∈ ok.after, Region.binds md e = true → e.on ≠ i) → oi.apart ops ok = true := fun k ok hk hki hun hno => by
        refine hfree k ok hk hki ?_ hno
        by_cases hjk : j = k
        · subst hjk; exact hjun
        · rw [getD_set_ne true hjk] at hun; exact hun
      have hbl' : ∀ k, b k = true → (listed.setIfInBounds j true).getD k false = false := fun k hk => by
        have hne : j ≠ k := by rintro rfl; rw [hk] at hbj; cases hbj
        rw [getD_set_ne false hne]; exact hbl k hk
      refine wpOp_mono (fun a' w' h3 => ⟨fun _ => ?_, fun e => absurd e hjc⟩) h2
      obtain ⟨rfl, h5⟩ := h3.2.1 hjc
      refine ⟨rfl, ih (listed.setIfInBounds j true) a' hfree' (ready_mono hr (Ne.symm hji)) hbl' h3.1 ?_⟩
      rw [Array.setIfInBounds_comm _ _ hji]; exact h5
end
/-! ### The check, and the theorem -/
/-- In which order the operations are walked, and which of them write. -/
abbrev Plan := List (Nat × Bool)
def opAt (ops : Array Oper) (i : Nat) : Oper := (ops[i]?).getD default
def reord (ops : Array Oper) (p : Plan) : List Oper := p.map fun x => opAt ops x.1
def nextWr (n : Nat) : Plan → Nat
  | [] => n
  | (i, true) :: _ => i
  | (_, false) :: r => nextWr n r
def tmpsIn (o : Oper) : List Tmp := o.op.operands.toList.filterMap fun | .tmp t => some t | _ => none
def needOf (need : Needs) (o : Oper) : Needs := need.filter fun p => (tmpsIn o).contains p.1
/-- Who waits for number i, through others too. -/
def blkPass (ops : Array Oper) (i : Nat) (b : Array Bool) : Array Bool :=
  (List.range ops.size).foldl (fun b j => if (match ops[j]? with | some o => o.after.any (fun e => Region.binds .any e && (e.on == i || b.getD e.on false)) | none => false) then b.setIfInBounds j true else b) b
def blkOf (ops : Array Oper) (i : Nat) : Array Bool := blkPass ops i (Array.replicate ops.size false)
def blkOk (ops : Array Oper) (listed : Array Bool) (i : Nat) (b : Array Bool) : Bool :=
  (List.range b.size).all fun j => !b.getD j false || (!listed.getD j false && (match ops[j]? with | some o => o.after.any (fun e => Region.binds .any e && (e.on == i || b.getD e.on false)) | none => true))
def stays (ops : Array Oper) (need : Needs) (o : Oper) (r : Plan) : Bool := r.all fun x => match (opAt ops x.1).dst with | some d => (needOf need o).all fun p => p.1 != d | none => true
def detOk (P : Program) (ops : Array Oper) (need : Needs) : Array Bool → Plan → Bool
  | listed, [] => (Region.ready .any ops listed).isEmpty
  | listed, (i, false) :: r =>
    (Region.ready .any ops listed).contains i && Region.free .any ops listed i && stays ops need (opAt ops i) ((i, false) :: r) && i != nextWr ops.size r &&
      (pureOp P (needOf need (opAt ops i)) (opAt ops i) ||
        (readOp P (needOf need (opAt ops i)) (opAt ops i) && (let b := blkOf ops i; blkOk ops listed i b && (nextWr ops.size r == ops.size || b.getD (nextWr ops.size r) false)))) &&
      detOk P ops need (listed.setIfInBounds i true) r
  | listed, (i, true) :: r => Region.ready .any ops listed == [i] && detOk P ops need (listed.setIfInBounds i true) r
theorem put_ne {a : Act} {dst : Option Tmp} {v : Value} {t : Tmp} (h : dst ≠ some t) : (a.put dst v).tmps.getD t undef = a.tmps.getD t undef := by
  cases dst with
  | none => rfl
  | some d =>
    have : d ≠ t := fun e => h (by rw [e])
    simp [Act.put, Array.getElem?_setIfInBounds_ne this]
/-- A walk comes to its end: the slots that it does not write are there as they were. -/
theorem reaches {P : Program} {ops : Array Oper} {need : Needs} {Q : Exit → Act → World → Prop} : ∀ (l : List Oper) (a : Act) (w : World), wpList P ops (OnlyN need Q) l a w →
    ∃ af, needOk need af = true ∧ ∀ t, (∀ o ∈ l, o.dst ≠ some t) → af.tmps.getD t undef = a.tmps.getD t undef
  | [], a, _, h => ⟨a, h.1, fun _ _ => rfl⟩
  | o :: l, a, w, h => by
    have go : ∀ (a' : Act) (w' : World), wpList P ops (OnlyN need Q) l a' w' → (∀ t, o.dst ≠ some t → a'.tmps.getD t undef = a.tmps.getD t undef) →
        ∃ af, needOk need af = true ∧ ∀ t, (∀ x ∈ o :: l, x.dst ≠ some t) → af.tmps.getD t undef = a.tmps.getD t undef := fun a' w' h' ha => by
      obtain ⟨af, h1, h2⟩ := reaches l a' w' h'
      exact ⟨af, h1, fun t ht => (h2 t (fun x hx => ht x (List.mem_cons_of_mem _ hx))).trans (ha t (ht o List.mem_cons_self))⟩
    unfold wpList at h
    split at h
    · rcases h with h | h
      · unfold Oper.wp at h
        generalize (execOp a.eval o).run P w = r at h
        cases r with
        | ok n w1 =>
          cases n <;> simp only [Oper.upon] at h
          case value v => exact go _ _ h fun t ht => put_ne ht
          case skip => exact go _ _ h fun t ht => put_ne ht
          case defer d => exact go _ _ h fun t ht => put_ne (a := { a with defers := d :: a.defers }) ht
          case enter f args =>
            obtain ⟨e, w2, fr, hR, _⟩ := h []
            cases e with
            | returned v => exact go _ _ hR fun t ht => put_ne ht
            | panicked c => exact hR.elim
            | outgrown => exact (OnlyN.letsOut hR).elim
          case row row args =>
            obtain ⟨v, w2, hR, _⟩ := h default []
            exact go _ _ hR fun t ht => put_ne ht
        | halt x w1 => cases x <;> simp only [Oper.upon] at h <;> exact h.elim
      · exact (OnlyN.letsOut h.2).elim
    · exact go _ _ h fun t ht => put_ne ht
theorem needOf_ok {P : Program} {ops : Array Oper} {need : Needs} {Q : Exit → Act → World → Prop} {o : Oper} {l : List Oper} {a : Act} {w : World} (h : wpList P ops (OnlyN need Q) l a w)
    (hst : ∀ x ∈ l, ∀ d, x.dst = some d → ∀ p ∈ needOf need o, p.1 ≠ d) : needOk (needOf need o) a = true := by
  obtain ⟨af, h1, h2⟩ := reaches l a w h
  unfold needOk at h1 ⊢
  rw [List.all_eq_true] at h1 ⊢
  intro p hp
  have hp0 := hp
  simp only [needOf, List.mem_filter, List.contains_iff_mem] at hp
  have h3 := h1 p hp.1
  rw [h2 p.1 (fun x hx hd => hst x hx p.1 hd p hp0 rfl)] at h3
  exact h3
theorem det_main {P : Program} {ops : Array Oper} {need : Needs} {Q : Exit → Act → World → Prop} (hs : Region.noSelect ops = true) :
    ∀ (plan : Plan) (listed : Array Bool) (a : Act) (w : World), detOk P ops need listed plan = true → wpList P ops (OnlyN need Q) (reord ops plan) a w →
      wpAnyW P .any ops (OnlyN need Q) (nextWr ops.size plan) w plan.length listed a w
  | [], listed, a, w, hd, h => by
    have : Region.ready .any ops listed = [] := by simpa [detOk] using hd
    exact ⟨this, h⟩
  | (i, false) :: r, listed, a, w, hd, h => by
    simp only [detOk, Bool.and_eq_true] at hd
    obtain ⟨⟨⟨⟨⟨hr, hf⟩, hst⟩, hic⟩, hk⟩, hrest⟩ := hd
    have hr' : i ∈ Region.ready .any ops listed := by simpa using hr
    obtain ⟨_, oi, hoi, _⟩ := mem_ready.1 hr'
    have hat : opAt ops i = oi := by simp [opAt, hoi]
    have hne := needOf_ok (o := opAt ops i) h (fun x hx d hxd => by
      simp only [reord, List.mem_map] at hx
      obtain ⟨y, hy, rfl⟩ := hx
      have := List.all_eq_true.1 hst y hy
      simpa [hxd] using this)
    rw [hat] at hk hne
    have h' : wpList P ops (OnlyN need Q) (oi :: reord ops r) a w := by
      have e : reord ops ((i, false) :: r) = oi :: reord ops r := by simp [reord, hat]
      rwa [e] at h
    have hQ : ∀ v c a w, OnlyN need Q (.panic c) (a.put oi.dst v) w → OnlyN need Q (.panic c) a w := fun _ _ _ _ h => h.elim
    have hsel := fun j o cs b ho => Region.noSelect_spec hs j o cs b ho
    have hic' : i ≠ nextWr ops.size r := by simpa using hic
    -- the value, and the rest of the walk
    have key : ∀ (s : Sem Value), execOp a.eval oi = (do Pure.pure (Next.value (← s))) → ReadOk P s → Region.wanted oi (yielded ops a.tmps) = true →
        ∃ v, s.run P w = .ok v w ∧ wpList P ops (OnlyN need Q) (reord ops r) (a.put oi.dst v) w := fun s hex hread hw => by
      unfold wpList at h'
      rw [if_pos hw] at h'
      rcases h' with h' | h'
      · unfold Oper.wp at h'
        rw [hex, Sem.run_bind] at h'
        cases hrun : s.run P w with
        | ok v w1 =>
          obtain rfl := hread _ _ _ hrun
          rw [hrun] at h'
          exact ⟨v, rfl, h'⟩
        | halt x w1 =>
          rw [hrun] at h'
          cases x <;> exact h'.elim
      · exact (OnlyN.letsOut h'.2).elim
    have unw : Region.wanted oi (yielded ops a.tmps) = false → wpList P ops (OnlyN need Q) (reord ops r) (a.put oi.dst undef) w := fun hw => by
      unfold wpList at h'
      rw [if_neg (by rw [hw]; decide)] at h'
      exact h'
    rcases (Bool.or_eq_true _ _).mp hk with hp | hp
    · obtain ⟨s, hex, hloc⟩ := pureOp_local hp hne
      cases hw : Region.wanted oi (yielded ops a.tmps) with
      | true =>
        obtain ⟨v, hrun, hnext⟩ := key s hex hloc.read hw
        have hy : Yields P ops oi v a := .inl ⟨hw, fun w' => by
          rw [hex, Sem.run_bind, (hloc _ _ _ hrun).2 w']; rfl⟩
        exact W_pure hoi hic' hsel (hQ v) r.length listed a (Region.free_spec hoi hf) hr' hy (det_main hs r _ _ w hrest hnext)
      | false => exact W_pure hoi hic' hsel (hQ undef) r.length listed a (Region.free_spec hoi hf) hr' (.inr ⟨hw, rfl⟩) (det_main hs r _ _ w hrest (unw hw))
    · simp only [Bool.and_eq_true, Bool.or_eq_true] at hp
      obtain ⟨hp, hb, hbc⟩ := hp
      have hb' := List.all_eq_true.1 hb
      have hbl : ∀ j, (blkOf ops i).getD j false = true → listed.getD j false = false ∧ (∀ oj, ops[j]? = some oj → ∃ e ∈ oj.after, Region.binds .any e = true ∧ (e.on = i ∨ (blkOf ops i).getD e.on false = true)) := fun j hj => by
        have hlt : j < (blkOf ops i).size := by
          rcases Nat.lt_or_ge j (blkOf ops i).size with h | h
          · exact h
          · simp [Array.getElem?_eq_none h] at hj
        have := hb' j (List.mem_range.2 hlt)
        rw [hj] at this
        simp only [Bool.not_true, Bool.false_or, Bool.and_eq_true] at this
        refine ⟨by simpa using this.1, fun oj hoj => ?_⟩
        have h2 := this.2
        simp only [hoj] at h2
        rw [← Array.any_toList, List.any_eq_true] at h2
        obtain ⟨e, he, h3⟩ := h2
        simp only [Bool.and_eq_true, Bool.or_eq_true, beq_iff_eq] at h3
        exact ⟨e, by simpa using he, h3.1, h3.2⟩
      have hbc' : ops[nextWr ops.size r]? = none ∨ (blkOf ops i).getD (nextWr ops.size r) false = true := by
        rcases hbc with h | h
        · left; rw [beq_iff_eq] at h; rw [h]; simp
        · exact .inr h
      obtain ⟨s, hex, hread⟩ := readOp_read hp hne
      cases hw : Region.wanted oi (yielded ops a.tmps) with
      | true =>
        obtain ⟨v, hrun, hnext⟩ := key s hex hread hw
        have hy : YieldsIf P ops (· = w) oi v a := .inl ⟨hw, fun w' e => by
          subst e; rw [hex, Sem.run_bind, hrun]; rfl⟩
        exact W_take (fun j => (blkOf ops i).getD j false) hoi hic' hsel (hQ v) (fun j oj hoj hj => (hbl j hj).2 oj hoj) hbc' r.length listed a (Region.free_spec hoi hf) hr' (fun j hj => (hbl j hj).1) hy (det_main hs r _ _ w hrest hnext)
      | false => exact W_take (fun j => (blkOf ops i).getD j false) hoi hic' hsel (hQ undef) (fun j oj hoj hj => (hbl j hj).2 oj hoj) hbc' r.length listed a (Region.free_spec hoi hf) hr' (fun j hj => (hbl j hj).1) (.inr ⟨hw, rfl⟩) (det_main hs r _ _ w hrest (unw hw))
  | (i, true) :: r, listed, a, w, hd, h => by
    simp only [detOk, Bool.and_eq_true] at hd
    have hr : Region.ready .any ops listed = [i] := by simpa using hd.1
    have hr' : i ∈ Region.ready .any ops listed := by rw [hr]; simp
    obtain ⟨_, oi, hoi, _⟩ := mem_ready.1 hr'
    have hat : opAt ops i = oi := by simp [opAt, hoi]
    have h' : wpList P ops (OnlyN need Q) (oi :: reord ops r) a w := by
      have e : reord ops ((i, true) :: r) = oi :: reord ops r := by simp [reord, hat]
      rwa [e] at h
    refine ⟨fun h0 => (by rw [hr] at h0; cases h0), fun j hj => ?_⟩
    rw [hr] at hj
    obtain rfl : j = i := by simpa using hj
    have h1 : wpOp P ops (OnlyN need Q) j (wpList P ops (OnlyN need Q) (reord ops r)) a w := by
      unfold wpOp; rw [hoi]; unfold wpList at h'; exact h'
    exact wpOp_mono (fun a' w' h2 => ⟨fun e => absurd rfl e, fun _ => wpAny_of_W _ _ _ _ (det_main hs r _ a' w' hd.2 h2)⟩) h1
/-- A REGION THAT DRAWS ITS ORDER, WALKED IN THE PLAN's ORDER AS A PLAIN ONE. -/
theorem region_det {P : Program} {id : Nat} {l : List Oper} {Q : Exit → Act → World → Prop} {a : Act} {w : World} (plan : Plan) (need : Needs) (hm : P.follows .mixedOrders = true)
    (hs : Region.noSelect l.toArray = true) (hn : plan.length = l.length) (hd : detOk P l.toArray need (Array.replicate l.length false) plan = true)
    (h : wpList P l.toArray (OnlyN need Q) (reord l.toArray plan) a w.drew) : (Code.region id l.toArray true).wp P Q a w := by
  refine Code.wp_mono (Q := OnlyN need Q) (fun e a w h => ?_) ?_
  · cases e <;> first | exact h.2 | exact h.elim
  · refine wp_region_any hm (wpAny_of_W _ _ _ _ (?_ : wpAnyW P .any l.toArray (OnlyN need Q) (nextWr l.toArray.size plan) w.drew l.toArray.size (Array.replicate l.toArray.size false) a w.drew))
    have := det_main hs plan (Array.replicate l.length false) a w.drew hd h
    rw [hn] at this
    exact this
end TL
end Go

/- The walk of (*Sha).Write on an object to which nothing was written: it turns the whole blocks, and keeps what is left. Conditions: the text is shorter than 10^12 bytes. -/
namespace Go
namespace TL
open Go.RowKit
/-- The words behind the first n blocks of a text. -/
def absorb : Nat → St → List UInt8 → St
  | 0, h, _ => h
  | n + 1, h, l => absorb n (turnS h h K64 (l.take 64)) (l.drop 64)
theorem absorb_step (n : Nat) : ∀ (h : St) (l : List UInt8), absorb (n + 1) h l = turnS (absorb n h l) (absorb n h l) K64 ((l.drop (64 * n)).take 64) := by
  induction n with
  | zero => intro h l; simp [absorb]
  | succ n ih =>
    intro h l
    rw [absorb, ih, absorb, List.drop_drop]
    rw [show 64 + 64 * n = 64 * (n + 1) by omega]
section
variable {w w1 : World} {base b : Nat} {h : St} {rv : Value} {rest : List UInt8} {n : Nat}
theorem ShaAt.setN (S : ShaAt w base b h rv rest n) (m : Nat) : ShaAt (w.setCell ⟨b, 73, none⟩ (.int .i64 m)) base b h rv rest m :=
  ⟨S.lo, by simpa using S.lt, rangeAt_setCell_apart S.hh _ (by right; right; simp [St.cells]) _, there_setCell S.ht _ _, rangeAt_setCell_apart S.kk _ (by right; right; simp [K64_length]) _,
   by rw [World.cell?_setCell_other _ _ _ _ (by simp)]; exact S.rc, by rw [World.frozen?_setCell]; exact S.rf, S.ro.setCell _ S.rne _, S.rne, World.cell?_setCell_same _ _ _ S.nc, by rw [World.frozen?_setCell]; exact S.nf,
   by rw [World.cell?_setCell_other _ _ _ _ (by simp)]; exact S.mc⟩
theorem ShaAt.kept (S : ShaAt w base b h rv rest n) (hb : w1.heap[b]? = w.heap[b]?) (hs : w.heap.size ≤ w1.heap.size) {v' : Value} {rest' : List UInt8} (ho : OwnB w1 base v' rest') (hne : v'.ownBlock ≠ some b) :
    ShaAt (w1.setCell ⟨b, 72, none⟩ v') base b h v' rest' n := by
  have rc' : w1.cell? ⟨b, 72, none⟩ = some rv := by rw [World.cell?_of_block (w := w) (a := ⟨b, 72, none⟩) hb]; exact S.rc
  exact ⟨S.lo, by have := S.lt; simp; omega, rangeAt_setCell_apart (rangeAt_of_block S.hh hb) _ (by right; right; simp [St.cells]) _, there_setCell (there_of_block S.ht hb) _ _, rangeAt_setCell_apart (rangeAt_of_block S.kk hb) _ (by right; right; simp [K64_length]) _,
   World.cell?_setCell_same _ _ _ rc', by rw [World.frozen?_setCell, World.frozen?_of_block (w := w) (a := ⟨b, 72, none⟩) hb]; exact S.rf, Own.setCell ho _ hne _, hne,
   by rw [World.cell?_setCell_other _ _ _ _ (by simp), World.cell?_of_block (w := w) (a := ⟨b, 73, none⟩) hb]; exact S.nc, by rw [World.frozen?_setCell, World.frozen?_of_block (w := w) (a := ⟨b, 73, none⟩) hb]; exact S.nf,
   by rw [World.cell?_setCell_other _ _ _ _ (by simp), World.cell?_of_block (w := w) (a := ⟨b, 74, none⟩) hb]; exact S.mc⟩
theorem ShaAt.below (S : ShaAt w base b h rv rest n) (hb : Below w.heap.size w w1) : ShaAt w1 base b h rv rest n := by
  have e := hb.block b S.lt
  exact ⟨S.lo, Nat.lt_of_lt_of_le S.lt hb.size, rangeAt_of_block S.hh e, there_of_block S.ht e, rangeAt_of_block S.kk e, by rw [World.cell?_of_block (w := w) (a := ⟨b, 72, none⟩) e]; exact S.rc, by rw [World.frozen?_of_block (w := w) (a := ⟨b, 72, none⟩) e]; exact S.rf,
    Own.below S.ro hb, S.rne, by rw [World.cell?_of_block (w := w) (a := ⟨b, 73, none⟩) e]; exact S.nc, by rw [World.frozen?_of_block (w := w) (a := ⟨b, 73, none⟩) e]; exact S.nf, by rw [World.cell?_of_block (w := w) (a := ⟨b, 74, none⟩) e]; exact S.mc⟩
theorem ShaAt.drew (S : ShaAt w base b h rv rest n) : ShaAt w.drew base b h rv rest n :=
  ⟨S.lo, S.lt, S.hh, S.ht, S.kk, S.rc, S.rf, S.ro, S.rne, S.nc, S.nf, S.mc⟩
theorem ShaAt.setH (S : ShaAt w base b h rv rest n) (h' : St) : ShaAt (w.setCells b 0 h'.cells) base b h' rv rest n := by
  have out : ∀ k, 8 ≤ k → (w.setCells b 0 h'.cells).cell? ⟨b, k, none⟩ = w.cell? ⟨b, k, none⟩ := fun k hk =>
    World.cell?_setCells_out b h'.cells 0 w ⟨b, k, none⟩ (fun _ _ => .inr (by simpa [St.cells] using hk))
  exact ⟨S.lo, by rw [size_setCells]; exact S.lt, World.rangeAt_setCells_same _ _ _ _ S.ht, World.there_setCells S.ht _ _ _, World.rangeAt_setCells_apart S.kk _ _ _ (.inr (.inr (by simp [St.cells]))),
    by rw [out 72 (by omega)]; exact S.rc, by rw [World.frozen?_setCells]; exact S.rf, S.ro.kept (grownBy_setCells _ _ _ _) (.inr S.rne), S.rne, by rw [out 73 (by omega)]; exact S.nc, by rw [World.frozen?_setCells]; exact S.nf, by rw [out 74 (by omega)]; exact S.mc⟩
end
/-- How many bytes are left, as the object's cell tells. -/
def restLen (b : Nat) (w : World) : Nat := match w.cell? ⟨b, 72, none⟩ with | some (.slice _ n _) => n | _ => 0
theorem ShaAt.restLen {w : World} {base b : Nat} {h : St} {rv : Value} {rest : List UInt8} {n : Nat} (S : ShaAt w base b h rv rest n) : restLen b w = rest.length := by
  obtain ⟨a, cap, e, _⟩ := S.ro.sees.form
  unfold TL.restLen; rw [S.rc, e]
end TL
end Go
namespace Go.Proofs.YtidadhbaomieiaaGreat
open Go.RowKit Go.TL
set_option maxRecDepth 100000 in
set_option maxHeartbeats 4000000 in
theorem Write_any (base b : Nat) (s : ByteArray) (w : World) (hs : s.size ≤ 1000000000000) (hbase : base ≤ w.heap.size) (S : ShaAt w base b H0 (.slice none 0 0) [] 0) :
    Calls Tryz.prog 117 #[.pointer (some ⟨b, 0, none⟩), .string s] w fun e w' => e = .returned (.int .i64 s.size) ∧
      (∃ rv, ShaAt w' base b (absorb (s.size / 64) H0 s.data.toList) rv (s.data.toList.drop (64 * (s.size / 64))) s.size) ∧ Below base w w' := by
  have m0 := S.mc
  have n0 := S.nc
  have nf0 := S.nf
  have r0 := S.rc
  have rf0 := S.rf
  have S' := Lib.hid S; clear S
  go_enter Tryz.func117, Tryz.ntmps117
  go_wp2_with (first | (go_at_call 158; refine (none_no _ b m0).mono ?_; rintro e w1 ⟨rfl, rfl⟩) | ((with_reducible show wpList _ _ _ (Oper.mk _ (Op.call ⟨Callee.builtin Builtin.append, _, _⟩) _ _ _ _ :: _) _ _); go_must (refine wpList_append bytesT rfl _ _ _ rfl uS base (.slice none 0 0) 0 [] rfl (S'.out.setN s.size).ro (.string s) s.size _ rfl (Src_string _ s) ?_ ?_ ?_ ?_)))
  · simp only [maxLen]; omega
  · omega
  · simpa using hbase
  · intro v1 w1 hown1 hg1 hf1 _
    replace hown1 : Own w1 base 1 v1 s.size (List.map vb s.data.toList) := by simpa using hown1
    have S1 := S'.out.setN s.size
    have hsz1 : w.heap.size ≤ w1.heap.size := by have := hg1.size; simpa using this
    have hbk1 : w1.heap[b]? = (w.setCell ⟨b, 73, none⟩ (.int .i64 s.size)).heap[b]? := hg1.block b S1.lt (by simp [Value.ownBlock])
    have hne1 : v1.ownBlock ≠ some b := by
      have := S1.lt
      rcases hf1 with e | e
      · rw [e]; simp [Value.ownBlock]
      · rw [e]; simp at this ⊢; omega
    have hlen : (s.data.toList).length = s.size := by rw [Array.length_toList]; rfl
    have ho1 : OwnB w1 base v1 s.data.toList := by show Own _ _ _ _ s.data.toList.length _; rw [hlen]; exact hown1
    have S2 := Lib.hid (S1.kept hbk1 hg1.size ho1 hne1)
    have B1 : Below base w w1 := ((Below.refl base w).setCell (p := ⟨b, 73, none⟩) S'.out.lo _).trans ((Below.refl base _).grown hg1 (by simpa using hbase) (by simp [Value.ownBlock]))
    have B2 := Lib.hid (B1.setCell (p := ⟨b, 72, none⟩) S'.out.lo v1)
    have r1 : w1.cell? ⟨b, 72, none⟩ = some (.slice none 0 0) := by rw [World.cell?_of_block (w := w.setCell ⟨b, 73, none⟩ (.int .i64 s.size)) (a := ⟨b, 72, none⟩) hbk1]; exact S1.rc
    have rf1 : w1.frozen? ⟨b, 72, none⟩ = false := by rw [World.frozen?_of_block (w := w.setCell ⟨b, 73, none⟩ (.int .i64 s.size)) (a := ⟨b, 72, none⟩) hbk1]; exact S1.rf
    have hsz2 := Lib.hid (Nat.le_trans hbase hsz1)
    have hlen' := Lib.hid hlen
    obtain ⟨a1, c1, e1, _⟩ := ho1.sees.form
    rw [hlen] at e1
    subst e1
    clear hown1 hg1 hf1 S1 hbk1 ho1 B1 hlen hsz1
    go_wp2_with fail
    go_loopw [25] (fun _ wr => ∃ (j : Nat) (rv : Value), 64 * j ≤ s.size ∧ ShaAt wr base b (absorb j H0 s.data.toList) rv (s.data.toList.drop (64 * j)) s.size ∧ Below base w wr) (fun _ wr => restLen b wr)
    case atStart => exact ⟨0, _, by omega, S2.out, B2.out⟩
    case round =>
      obtain ⟨j, rv, hj, S, B⟩ := hrel
      have hrl : (s.data.toList.drop (64 * j)).length = s.size - 64 * j := by rw [List.length_drop, hlen'.out]
      have hln := Sees.run_len S.ro.sees 70 5 3 Tryz.underlying70
      rw [hrl] at hln
      have rc := S.rc
      have rf := S.rf
      have T := Lib.hid S; clear S
      have B' := Lib.hid B; clear B
      have Hrl := Lib.hid hrl; clear hrl
      by_cases hlt : 64 ≤ s.size - 64 * j
      · have hd : decide ((s.size - 64 * j : Nat) ≥ (64 : Int)) = true := by simp; omega
        obtain ⟨hj', ehj⟩ : ∃ x, x = absorb j H0 s.data.toList := ⟨_, rfl⟩
        rw [← ehj] at T
        have Ehj := Lib.hid ehj; clear ehj
        have hcut := T.out.ro.sees.run_cut_hi bytesT 64 (by omega) (by rw [Hrl.out]; omega)
        have hsee := SeesB.cut T.out.ro.sees 0 64 (by omega) (by rw [Hrl.out]; omega)
        obtain ⟨cv, ecv⟩ : ∃ x, x = cutV 1 rv 0 64 := ⟨_, rfl⟩
        rw [show (64 : Int).toNat = 64 from rfl, ← ecv] at hcut
        rw [← ecv, List.drop_zero] at hsee
        have Hsee := Lib.hid hsee; clear hsee ecv
        go_wp2_with fail
        refine region_det [(0, false), (1, false), (2, false), (3, false), (5, false), (6, false), (7, false), (9, false), (10, false), (11, false), (12, false), (13, false), (14, false), (4, false), (8, false), (15, false), (16, false), (17, true), (18, false), (19, false), (20, true)] [(32, .ptr), (36, .ptr), (40, .ptr), (43, .ptr), (31, .ptr)] (by kernel_rfl) (by kernel_rfl) rfl (by kernel_rfl) ?_
        simp only [reord, opAt, List.map_cons, List.map_nil, List.getElem?_toArray, List.getElem?_cons_zero, List.getElem?_cons_succ, Option.getD_some]
        go_wp2_with (first | ((with_reducible show wpList _ _ _ (Oper.mk _ (Op.load 213 _) _ _ _ _ :: _) _ _); go_must (refine wpList_load_mid rfl 213 _ rfl b 0 rfl _ _ T.out.drew.hh Tryz.underlying213 rfl (by kernel_rfl) ?_)) | (go_at_call 159; refine (turn_any hj' hj' K64 K64_length b 8 cv ((s.data.toList.drop (64 * j)).take 64) (by rw [List.length_take, Hrl.out]; omega) _ (by exact T.out.drew.kk) (by exact Sees.drew Hsee.out)).mono ?_; rintro e w1 ⟨rfl, hb1⟩; have S3 := Lib.hid (T.out.drew.below hb1)) | ((with_reducible show wpList _ _ _ (Oper.mk none (Op.store 213 _ _) _ _ _ _ :: _) _ _); go_must (refine wpList_putRow rfl 213 _ _ rfl b 0 _ rfl rfl (by exact S3.out.ht) (by kernel_rfl) (by simp [Value.oneCell', St.cells, vw]) ?_)))
        refine OnlyN.intro (by kernel_rfl) ?_
        have S4 := Lib.hid (S3.out.setH (turnS hj' hj' K64 ((s.data.toList.drop (64 * j)).take 64)))
        have rc4 := S4.out.rc
        have rf4 := S4.out.rf
        have hb1' := Lib.hid hb1; clear hb1
        have hlo := S4.out.ro.sees.run_cut_lo bytesT 64 (by omega) (by rw [Hrl.out]; omega)
        have ho5 := OwnB.cut S4.out.ro 64 (s.data.toList.drop (64 * j)).length (by rw [Hrl.out]; omega) (Nat.le_refl _)
        rw [List.take_length, List.drop_drop, show 64 * j + 64 = 64 * (j + 1) by omega] at ho5
        have hne5 := ownBlock_cutV (size := 1) rv 64 (s.data.toList.drop (64 * j)).length
        have hlen5 : (s.data.toList.drop (64 * (j + 1))).length = s.size - 64 * (j + 1) := by rw [List.length_drop, hlen'.out]
        obtain ⟨a2, c2, e2, _⟩ := ho5.sees.form
        rw [hlen5] at e2
        rw [show (64 : Int).toNat = 64 from rfl, e2] at hlo
        rw [e2] at ho5 hne5
        have S5 := Lib.hid (S4.out.kept rfl (Nat.le_refl _) ho5 (by rw [hne5]; exact S4.out.rne))
        have hlen6 := Lib.hid hlen5
        clear e2 ho5 hne5 hlen5
        go_wp2_with fail
        go_roundw
        case rel =>
          have e : absorb (j + 1) H0 s.data.toList = turnS hj' hj' K64 ((s.data.toList.drop (64 * j)).take 64) := by rw [absorb_step, ← Ehj.out]
          exact ⟨j + 1, .slice a2 (s.size - 64 * (j + 1)) c2, by omega, by rw [e]; exact S5.out, (below_setCells S'.out.lo _ _ _ (B'.out.drew.trans (hb1'.out.mono (Nat.le_trans hbase B'.out.size)))).setCell (p := ⟨b, 72, none⟩) S'.out.lo _⟩
        case measure =>
          rw [S5.out.restLen, T.out.restLen, hlen6.out, Hrl.out]; omega
      · go_wp2_with fail
        go_ret
        have hq : s.size / 64 = j := by omega
        rw [hq]
        exact ⟨rfl, ⟨rv, T.out⟩, B'.out⟩
end Go.Proofs.YtidadhbaomieiaaGreat

/- More laws on rows: copy; an empty slice; a loaded array's element; small words. Conditions: each names its own. -/
namespace Go
namespace TL
open Go.RowKit
section
variable {P : Program} {w : World}
theorem run_copy_any {t e : TypeId} {size bytes : Nat} (T : SliceT P t e size bytes) (u ty : TypeId) (b o dl dc : Nat) (xv : Value) (m : Nat) (news : List Value) (hsrc : Src P w size xv m news)
    (k : Nat) (hk : k = Nat.min m dl) (hth : w.there b o (k * size)) :
    (Builtin.copy_ #[t, u] ty #[.slice (some ⟨b, o, none⟩) dl dc, xv]).run P w = .ok (.int .i64 k) (w.setCells b o (news.take (k * size))) := by
  obtain ⟨ht, ⟨i, z, hi, hz, hsize, hby, hzs⟩, hsz⟩ := T
  obtain ⟨hl, h1, hlen, hfirst⟩ := hsrc
  have hkm : k ≤ m := by rw [hk]; exact Nat.min_le_left _ _
  have hf := hfirst w k hkm (grownBy_refl w none)
  have hlk : (news.take (k * size)).length = k * size := by
    rw [List.length_take, hl]; exact Nat.min_eq_left (Nat.mul_le_mul_right _ hkm)
  have hst := run_storeCells_mid (P := P) (news.take (k * size)) (by rw [hlk]; exact hth) (fun u hu => h1 u (List.mem_of_mem_take hu))
  simp [Builtin.copy_, run_underlying ht, hlen, sizeOf, typeInfo, hi, hsize, ← hk, hf, hst, goInt]
theorem wpList_copy {ops : Array Oper} {rest : List Oper} {op : Oper} {a : Act} {Q : Exit → Act → World → Prop} {t e : TypeId} {size bytes : Nat} (T : SliceT P t e size bytes) (hgd : op.guard = none) (d x : Operand) (u : TypeId)
    (ho : op.op = .call { callee := .builtin .copy, args := #[d, x], argTypes := #[t, u] })
    (b o dl dc : Nat) (hd : a.eval d = .slice (some ⟨b, o, none⟩) dl dc) (xv : Value) (m : Nat) (news : List Value) (hx : a.eval x = xv) (hsrc : Src P w size xv m news)
    (k : Nat) (hk : k = Nat.min m dl) (hth : w.there b o (k * size))
    (h : wpList P ops Q rest (a.put op.dst (.int .i64 k)) (w.setCells b o (news.take (k * size)))) : wpList P ops Q (op :: rest) a w :=
  wpList_plain hgd fun _ hK => by
    have hr := run_copy_any (P := P) (w := w) T u op.type b o dl dc xv m news hsrc k hk hth
    unfold Oper.wp execOp
    simp only [ho, resolve, invoke, builtin, Sem.run_bind, Sem.run_pure, Result.andThen_ok, List.map_toArray, List.map_cons, List.map_nil, hd, hx, hr]
    exact hK _ _ h
/-- A new array: the world behind it is a letter, of which what matters is known. -/
theorem wpList_newRow {ops : Array Oper} {rest : List Oper} {op : Oper} {a : Act} {Q : Exit → Act → World → Prop} (hgd : op.guard = none) (t : TypeId) (ho : op.op = .alloc t) (C : Array Value) (hz : (zeroValue t).run P w = .ok (.agg C) w)
    (h : ∀ w1, Below w.heap.size w w1 → w1.heap.size = w.heap.size + 1 → w1.rangeAt w.heap.size 0 C.toList → w1.there w.heap.size 0 C.size → wpList P ops Q rest (a.put op.dst (.pointer (some ⟨w.heap.size, 0, none⟩))) w1) : wpList P ops Q (op :: rest) a w :=
  wpList_plain hgd fun _ hK => by
    unfold Oper.wp execOp
    have hr : (Instr.alloc t true (.tuple #[])).run P w = .ok (.pointer (some ⟨w.heap.size, 0, none⟩)) (w.alloc (.cells C t)) := by
      simp only [Instr.alloc, Sem.run_bind, hz, Result.andThen_ok]; rfl
    simp only [ho, Sem.run_bind, hr, Result.andThen_ok]
    exact hK _ _ (h _ ((Below.refl _ _).alloc (Nat.le_refl _) _) (by simp) (rangeAt_new w C t (0, 0)) (there_new w C t C.size (Nat.le_refl _)))
theorem OwnB_empty (w : World) (base g : Nat) (hb : base ≤ g) (hg : g < w.heap.size) : OwnB w base (.slice (some ⟨g, 0, none⟩) 0 0) [] :=
  ⟨by simp, .inr ⟨g, 0, 0, rfl, hb, hg, Nat.le_refl _, Nat.zero_le _, rangeAt_nil _ _ _, fun j hj => by simp at hj⟩⟩
/-- The length of a slice value. -/
def lenV : Value → Nat | .slice _ n _ => n | _ => 0
theorem Sees.lenV {size : Nat} {v : Value} {n : Nat} {xs : List Value} (h : Sees w size v n xs) : lenV v = n := by
  obtain ⟨a, c, rfl, _⟩ := h.form; rfl
theorem Own_lt {base size : Nat} {v : Value} {n : Nat} {xs : List Value} (h : Own w base size v n xs) {g : Nat} (hg : g < base) : v.ownBlock ≠ some g := fun e => by
  have := (h.base_le e).1; omega
/-- An element of a loaded array, one cell each. -/
theorem run_index_agg {P : Program} (t e : TypeId) (n : Nat) (cs : Array Value) (h : P.underlying t = some (.array n e)) (d : TypeDesc) (hu : P.underlying e = some d) (hd : d.isRow = false) (hi : (P.info? e).map (·.size) = some 1)
    (i : Nat) (hn : i < n) (v : Value) (hv : cs[i]? = some v) (w : World) : (Instr.index t (.agg cs) (.int .i64 i)).run P w = .ok v w := by
  cases hq : P.info? e with
  | none => simp [hq] at hi
  | some inf =>
    have hsz : inf.size = 1 := by simpa [hq] using hi
    cases d <;> first | (simp [TypeDesc.isRow] at hd; done) | simp [Instr.index, run_underlying h, run_underlying hu, asIntOf, hn, sizeOf, typeInfo, hq, hsz, part, isAgg, hv]
/-- An array is sliced from l on. -/
theorem run_sliceAt_row {P : Program} (t e : TypeId) (n : Nat) (ht : P.underlying t = some (.array n e)) (hi : (P.info? e).map (·.size) = some 1) (b o l : Nat) (hl : l < n) (z : Int) (hz : z = l) (w : World) :
    (Instr.sliceAt t (.pointer (some ⟨b, o, none⟩)) (some (.int .i64 z)) none none).run P w = .ok (.slice (some ⟨b, o + l, none⟩) (n - l) (n - l)) w := by
  have hn : P.arrayLen t = n := by simp [Program.arrayLen, ht]
  have he : P.elem t = e := by simp [Program.elem, ht]
  subst hz
  rw [run_sliceAt_array_l w t _ (by rw [hn, he]; exact ht) .i64 l (by omega) (by rw [hn]; omega), hn, he]
  cases hq : P.info? e with
  | none => simp [hq] at hi
  | some inf =>
    have hsz : inf.size = 1 := by simpa [hq] using hi
    simp [sizeOf, typeInfo, hq, hsz, slicedAt, Addr.add, show n ≠ l by omega]
/-- A guarded operation that is wanted. -/
theorem wpList_want {P : Program} {ops : Array Oper} {rest : List Oper} {o : Oper} {a : Act} {w : World} {Q : Exit → Act → World → Prop} (hw : Region.wanted o (yielded ops a.tmps) = true)
    (h : o.wp P a w (fun a' w' => wpList P ops Q rest a' w') Q) : wpList P ops Q (o :: rest) a w := by
  unfold wpList
  rw [if_pos hw]
  exact .inl h
/-! ### Two arrays of bytes, compared -/
theorem run_partB {P : Program} {e : TypeId} (he : P.underlying e = some (.int .u8)) (l : List UInt8) (i : Nat) (h : i < l.length) (w : World) : (part e (l.map vb).toArray i).run P w = .ok (vb l[i]) w := by
  simp [part, isAgg, run_underlying he, h]
theorem run_eqItemsB {P : Program} {e : TypeId} (he : P.underlying e = some (.int .u8)) (d : Nat) (l m : List UInt8) (hlm : l.length = m.length) (w : World) : ∀ is : List Nat, (∀ i ∈ is, i < l.length) →
    (Op.eqItems (d + 1) e 1 (l.map vb).toArray (m.map vb).toArray is).run P w = .ok (is.all fun i => l[i]? == m[i]?) w
  | [], _ => rfl
  | i :: is, h => by
    have hi := h i List.mem_cons_self
    have hi2 : i < m.length := hlm ▸ hi
    unfold Op.eqItems
    simp only [Nat.mul_one, Sem.run_bind, run_partB he l i hi w, run_partB he m i hi2 w, Result.andThen_ok, vb, run_equalIn_int w d e .u8 .u8 _ _ he, List.all_cons, List.getElem?_eq_getElem hi, List.getElem?_eq_getElem hi2]
    have e1 : (I8 l[i] == I8 m[i]) = (l[i] == m[i]) := by
      rw [Bool.eq_iff_iff, beq_iff_eq, beq_iff_eq, I8_eq, I8_eq]
      exact ⟨fun h => UInt8.toNat_inj.1 (by omega), fun h => by rw [h]⟩
    rw [e1]
    cases hq : (l[i] == m[i]) with
    | false => simp [hq]
    | true => simp [hq, run_eqItemsB he d l m hlm w is fun j hj => h j (List.mem_cons_of_mem _ hj)]
theorem all_range_eq (l m : List UInt8) (h : l.length = m.length) : ((List.range l.length).all fun i => l[i]? == m[i]?) = (l == m) := by
  rw [Bool.eq_iff_iff, beq_iff_eq, List.all_eq_true]
  constructor
  · intro hall
    refine List.ext_getElem? fun i => ?_
    by_cases hi : i < l.length
    · simpa using hall i (List.mem_range.2 hi)
    · rw [List.getElem?_eq_none (by omega), List.getElem?_eq_none (by omega)]
  · rintro rfl i _; simp
/-- What == says of two arrays of bytes. -/
structure EqRow (P : Program) (t : TypeId) (l m : List UInt8) : Prop where
  eql : ∀ w : World, (binOp .eql t (.agg (l.map vb).toArray) (.agg (m.map vb).toArray)).run P w = .ok (.bool (l == m)) w
  neq : ∀ w : World, (binOp .neq t (.agg (l.map vb).toArray) (.agg (m.map vb).toArray)).run P w = .ok (.bool (!(l == m))) w
  guardE : ∀ (x y : Operand) (w : World), (eqGuard .eql t x y (.agg (l.map vb).toArray) (.agg (m.map vb).toArray)).run P w = .ok () w
  guardN : ∀ (x y : Operand) (w : World), (eqGuard .neq t x y (.agg (l.map vb).toArray) (.agg (m.map vb).toArray)).run P w = .ok () w
theorem eqRow {P : Program} {t e : TypeId} {n : Nat} (hu : P.underlying t = some (.array n e)) (he : P.underlying e = some (.int .u8)) (hc : P.cellsOf e = 1) (hg : P.eqGuardType P.depth t = false) (l m : List UInt8) (hl : l.length = n) (hm : m.length = n) : EqRow P t l m := by
  have key : ∀ w : World, (Op.equal t (.agg (l.map vb).toArray) (.agg (m.map vb).toArray)).run P w = .ok (l == m) w := fun w => by
    obtain ⟨i, hi⟩ := info_of_underlying he
    have := run_equalIn_array w 9999 (l.map vb).toArray (m.map vb).toArray hu hi
    rw [hc, run_eqItemsB he 9998 l m (by omega) w (List.range n) (fun i hi => by rw [hl]; exact List.mem_range.1 hi)] at this
    rw [← hl, all_range_eq l m (by omega)] at this
    exact this
  refine ⟨fun w => ?_, fun w => ?_, fun x y w => ?_, fun x y w => ?_⟩
  · simp only [binOp, Sem.run_bind, key w, Result.andThen_ok, Sem.run_pure]
  · simp only [binOp, Sem.run_bind, key w, Result.andThen_ok, Sem.run_pure]
  · have : (eqGuard .eql t x y (.agg (l.map vb).toArray) (.agg (m.map vb).toArray)).run P w = (Pure.pure () : Sem Unit).run P w := by
      have hp : ∀ w : World, (program).run P w = .ok P w := fun _ => rfl
      simp only [eqGuard]; simp [hp, hg]
    rw [this]; rfl
  · have : (eqGuard .neq t x y (.agg (l.map vb).toArray) (.agg (m.map vb).toArray)).run P w = (Pure.pure () : Sem Unit).run P w := by
      have hp : ∀ w : World, (program).run P w = .ok P w := fun _ => rfl
      simp only [eqGuard]; simp [hp, hg]
    rw [this]; rfl
theorem nums_vb (l : List UInt8) : Shape.ok .nums (.agg (l.map vb).toArray) = true := by
  refine Shape.ok_of ?_
  simp [Shape.strict, numsV, vb, isIntV]
end
end TL
end Go

/- The walk of (*Sha).Sum: the hash, and nothing that was there is touched. Conditions: fewer than 64 bytes are left; fewer than 10^12 were written. -/
namespace Go
namespace TL
open Go.RowKit
/-- How many noughts the padding has, behind r bytes. -/
def zpad (r : Nat) : Nat := (119 - r % 64) % 64
def padB (rest : List UInt8) (n : Nat) : List UInt8 := rest ++ [128] ++ List.replicate (zpad rest.length) 0 ++ bigB (UInt64.ofNat n * 8) 8
def outB (s : St) : List UInt8 := s.words.flatMap fun x => bigB x.toUInt64 4
def sumS (h : St) (rest : List UInt8) (n : Nat) : List UInt8 := outB (absorb ((padB rest n).length / 64) h (padB rest n))
theorem outB_length (s : St) : (outB s).length = 32 := rfl
/-- Sum's own blocks while it pads. -/
structure PI (w wr : World) (bv : Value) (l : List UInt8) : Prop where
  bel : Below w.heap.size w wr
  own : OwnB wr (w.heap.size + 1) bv l
  out : wr.there w.heap.size 0 32
  sz : w.heap.size < wr.heap.size
theorem PI.step {w wr w' : World} {bv v' : Value} {l l' : List UInt8} (h : PI w wr bv l) (ho : OwnB w' (w.heap.size + 1) v' l') (hg : wr.grownBy w' bv.ownBlock) : PI w w' v' l' := by
  have hne : ∀ k, bv.ownBlock = some k → w.heap.size + 1 ≤ k := fun k e => (Own.base_le h.own e).1
  refine ⟨h.bel.trans (below_of_grownBy hg (Nat.le_of_lt h.sz) fun k e => by have := hne k e; omega), ho, there_of_block h.out (hg.block _ h.sz ?_), Nat.lt_of_lt_of_le h.sz hg.size⟩
  cases e : bv.ownBlock with
  | none => simp
  | some k => intro e2; injection e2 with e2; have := hne k e; omega
theorem PI.drew {w wr : World} {bv : Value} {l : List UInt8} (h : PI w wr bv l) : PI w wr.drew bv l := ⟨h.bel.drew, h.own, h.out, h.sz⟩
/-- While the hash is laid: the words' bytes that are there. -/
structure RI (w wr : World) (s : St) (i : Nat) : Prop where
  bel : Below w.heap.size w wr
  out : wr.there w.heap.size 0 32
  sz : w.heap.size < wr.heap.size
  got : wr.rangeAt w.heap.size 0 (((outB s).take (4 * i)).map vb)
theorem outB_take (s : St) (i : Nat) (hi : i < 8) : ∃ x, s.words[i]? = some x ∧ s.cells.toArray[i]? = some (vw x) ∧ (outB s).take (4 * (i + 1)) = (outB s).take (4 * i) ++ bigB x.toUInt64 4 := by
  have : i = 0 ∨ i = 1 ∨ i = 2 ∨ i = 3 ∨ i = 4 ∨ i = 5 ∨ i = 6 ∨ i = 7 := by omega
  rcases this with rfl | rfl | rfl | rfl | rfl | rfl | rfl | rfl <;> exact ⟨_, rfl, rfl, rfl⟩
theorem RI.step {w wr w1 : World} {s : St} {i : Nat} (h : RI w wr s i) (hb : Below wr.heap.size wr w1) (hi : i < 8) (x : UInt32) (hx : (outB s).take (4 * (i + 1)) = (outB s).take (4 * i) ++ bigB x.toUInt64 4) :
    RI w (w1.setCells w.heap.size (4 * i) ((bigB x.toUInt64 4).map vb)) s (i + 1) := by
  have e := hb.block _ h.sz
  have hl : ((bigB x.toUInt64 4).map vb).length = 4 := by rw [List.length_map, bigB_length]
  have hlt : (((outB s).take (4 * i)).map vb).length = 4 * i := by rw [List.length_map, List.length_take, outB_length]; omega
  refine ⟨below_setCells (Nat.le_refl _) _ _ _ (h.bel.trans (hb.mono h.bel.size)), World.there_setCells (there_of_block h.out e) _ _ _, by rw [size_setCells]; exact Nat.lt_of_lt_of_le h.sz hb.size, ?_⟩
  rw [hx, List.map_append]
  refine rangeAt_append (World.rangeAt_setCells_apart (rangeAt_of_block h.got e) _ _ _ (.inr (.inl (by rw [hlt]; omega)))) ?_
  rw [hlt, Nat.zero_add]
  refine World.rangeAt_setCells_same _ _ _ _ ?_
  rw [hl]
  have := there_drop (there_of_block h.out e) (4 * i)
  rw [Nat.zero_add] at this
  exact there_mono this (by omega)
/-- While it turns: the words lie in a block of their own. -/
structure QI (w wr : World) (g : Nat) (bv : Value) (l : List UInt8) (s : St) : Prop where
  pi : PI w wr bv l
  glo : w.heap.size < g
  glt : g < wr.heap.size
  gne : bv.ownBlock ≠ some g
  gr : wr.rangeAt g 0 s.cells
  gt : wr.there g 0 8
theorem QI.drew {w wr : World} {g : Nat} {bv : Value} {l : List UInt8} {s : St} (h : QI w wr g bv l s) : QI w wr.drew g bv l s := ⟨h.pi.drew, h.glo, h.glt, h.gne, h.gr, h.gt⟩
theorem QI.below {w wr w' : World} {g : Nat} {bv : Value} {l : List UInt8} {s : St} (h : QI w wr g bv l s) (hb : Below wr.heap.size wr w') : QI w w' g bv l s := by
  have e := hb.block g h.glt
  exact ⟨h.pi.step (Own.below h.pi.own hb) (grownBy_of_below hb _), h.glo, Nat.lt_of_lt_of_le h.glt hb.size, h.gne, rangeAt_of_block h.gr e, there_of_block h.gt e⟩
theorem QI.set' {w wr : World} {g : Nat} {bv : Value} {l : List UInt8} (hpi : PI w wr bv l) (glo : w.heap.size < g) (glt : g < wr.heap.size) (gne : bv.ownBlock ≠ some g) (gt : wr.there g 0 8) (s' : St) : QI w (wr.setCells g 0 s'.cells) g bv l s' := by
  have hg := grownBy_setCells wr g 0 s'.cells
  refine ⟨⟨below_setCells (Nat.le_of_lt glo) _ _ _ hpi.bel, Own.kept hpi.own hg (.inr gne), there_of_block hpi.out (block_setCells g _ 0 wr _ (by omega)), by rw [size_setCells]; exact hpi.sz⟩, glo, by rw [size_setCells]; exact glt, gne, World.rangeAt_setCells_same _ _ _ _ gt, World.there_setCells gt _ _ _⟩
theorem QI.set {w wr : World} {g : Nat} {bv : Value} {l : List UInt8} {s : St} (h : QI w wr g bv l s) (s' : St) : QI w (wr.setCells g 0 s'.cells) g bv l s' := QI.set' h.pi h.glo h.glt h.gne h.gt s'
theorem padB_length (rest : List UInt8) (n : Nat) (hr : rest.length < 64) : ∃ N, N ≤ 2 ∧ (padB rest n).length = 64 * N := by
  have e : (padB rest n).length = rest.length + 1 + zpad rest.length + 8 := by simp [padB, bigB_length]; omega
  rw [e]; unfold zpad
  exact ⟨(rest.length + 1 + (119 - rest.length % 64) % 64 + 8) / 64, by omega, by omega⟩
theorem QI.slice {w wr : World} {g : Nat} {bv bv' : Value} {l l' : List UInt8} {s : St} (h : QI w wr g bv l s) (ho : OwnB wr (w.heap.size + 1) bv' l') (hne : bv'.ownBlock = bv.ownBlock) : QI w wr g bv' l' s :=
  ⟨⟨h.pi.bel, ho, h.pi.out, h.pi.sz⟩, h.glo, h.glt, by rw [hne]; exact h.gne, h.gr, h.gt⟩
end TL
end Go
namespace Go.Proofs.YtidadhbaomieiaaGreat
open Go.RowKit Go.TL
set_option maxRecDepth 100000 in
set_option maxHeartbeats 4000000 in
theorem Sum_any (base b : Nat) (h : St) (rv : Value) (rest : List UInt8) (n : Nat) (w : World) (S : ShaAt w base b h rv rest n) (hr : rest.length < 64) :
    Calls Tryz.prog 118 #[.pointer (some ⟨b, 0, none⟩)] w fun e w' => e = .returned (.agg ((sumS h rest n).map vb).toArray) ∧ Below w.heap.size w w' := by
  have m0 := S.mc
  have n0 := S.nc
  have r0 := S.rc
  have hbl := S.lt
  have S' := Lib.hid S; clear S
  go_enter Tryz.func118, Tryz.ntmps118
  go_wp2_with (first | ((with_reducible show wpList _ _ _ (Oper.mk _ (Op.alloc 64) _ _ _ _ :: _) _ _); go_must (refine wpList_newRow rfl _ rfl (Array.replicate 32 (.int .u8 0)) (by kernel_rfl) ?_; intro w1 hb1 hs1 hr1 ht1; have S1 := S'.out.below hb1; have m1 := S1.mc; have n1 := S1.nc; have r1 := S1.rc; have l1 : b < w1.heap.size := S1.lt; have T1 := Lib.hid S1; clear S1 hr1; have Hb1 := Lib.hid hb1; clear hb1; have Hs1 := Lib.hid hs1; clear hs1; have Ht1 := Lib.hid ht1; clear ht1)) | (go_at_call 158; go_must (refine (none_no _ b m1).mono ?_; rintro e w2 ⟨rfl, rfl⟩)) | ((with_reducible show wpList _ _ _ (Oper.mk _ (Op.call ⟨Callee.builtin Builtin.append, #[.tmp 10, .tmp 14], _⟩) _ _ _ _ :: _) _ _); go_must (refine wpList_append bytesT rfl _ _ _ rfl uB (w.heap.size + 1) (.slice (some ⟨w1.heap.size, 0, none⟩) 0 0) 0 [] rfl (OwnB_empty _ _ w1.heap.size (by rw [Hs1.out]; exact Nat.le_refl _) (by simp)) rv rest.length _ rfl (SeesB.src (Sees.alloc T1.out.ro.sees _)) (by simp only [maxLen]; omega) (by omega) (by simp; rw [Hs1.out]; omega) ?_; intro v1 w2 ho2 hg2 hf2 _; have B2 : Below w1.heap.size w1 w2 := below_of_grownBy (grownBy_trans (World.grownBy_alloc w1 _ _) hg2) (Nat.le_refl _) (by simp [Value.ownBlock]); have T2 := Lib.hid (T1.out.below B2); have hsz2 : w1.heap.size + 1 ≤ w2.heap.size := (by have := hg2.size; simpa using this); have hOut2 := Lib.hid (there_of_block Ht1.out (B2.block w.heap.size (by rw [Hs1.out]; omega))); have HB2 := Lib.hid (Hb1.out.trans (B2.mono (by rw [Hs1.out]; omega))); have Ho2 : Hid (OwnB w2 (w.heap.size + 1) v1 rest) := Lib.hid (by simpa [OwnB] using ho2); have Hsz2 : Hid (w.heap.size + 2 ≤ w2.heap.size) := Lib.hid (by rw [Hs1.out] at hsz2; exact hsz2); clear ho2 hg2 hf2 B2 hsz2 m1 n1 r1 T1 Ht1 Hb1 Hs1)) | ((with_reducible show wpList _ _ _ (Oper.mk _ (Op.call ⟨Callee.builtin Builtin.append, #[.tmp 15, .tmp 16], _⟩) _ _ _ _ :: _) _ _); go_must (refine wpList_append_new bytesT rfl _ _ rfl (w.heap.size + 1) w2 [128] _ _ rfl v1 rest rfl Ho2.out rfl (by simp; omega) (by have := Hsz2.out; omega) ?_; intro v2 w3 ho3 hg3 hf3)))
  have I3 : Hid (PI w w3 v2 (rest ++ [128])) := Lib.hid (PI.step ⟨HB2.out, Ho2.out, by simpa using hOut2.out, by have := Hsz2.out; omega⟩ ho3 hg3)
  clear ho3 hg3 hf3 Ho2 hOut2 HB2 Hsz2 T2
  go_loopw [3] (fun bv wr => ∃ k : Nat, k ≤ zpad rest.length ∧ PI w wr bv (rest ++ [128] ++ List.replicate k 0)) (fun bv _ => rest.length + 1 + zpad rest.length - lenV bv)
  case atStart => exact ⟨0, by omega, by simpa using I3.out⟩
  case round =>
    obtain ⟨k, hk, I⟩ := hrel
    have hln := Sees.run_len I.own.sees 70 5 3 Tryz.underlying70
    have elen : (rest ++ [128] ++ List.replicate k 0).length = rest.length + 1 + k := by simp; omega
    rw [elen] at hln
    have I' := Lib.hid I; clear I I3
    by_cases hlt : k < zpad rest.length
    · have hd : (rest.length + 1 + k) % 64 ≠ 56 := by unfold zpad at hlt; omega
      go_wp2_with ((with_reducible show wpList _ _ _ (Oper.mk _ (Op.call ⟨Callee.builtin Builtin.append, #[.tmp 22, .tmp 23], _⟩) _ _ _ _ :: _) _ _); go_must (refine wpList_append_new bytesT rfl _ _ rfl (w.heap.size + 1) wr [0] _ _ rfl _ (rest ++ [128] ++ List.replicate k 0) rfl I'.out.own rfl (by rw [elen]; simp; unfold zpad at hlt; omega) (by have := I'.out.sz; omega) ?_; intro v4 w4 ho4 hg4 _; have I4 := Lib.hid (I'.out.step ho4 hg4); clear ho4 hg4))
      go_roundw
      case rel => exact ⟨k + 1, by omega, by have := I4.out; simpa [List.replicate_succ'] using this⟩
      case measure => rw [I4.out.own.sees.lenV, I'.out.own.sees.lenV]; simp; omega
    · have hkz : k = zpad rest.length := by omega
      have hd : (rest.length + 1 + k) % 64 = 56 := by unfold zpad at hkz; omega
      have T4 := Lib.hid (S'.out.below I'.out.bel)
      have n4 := T4.out.nc
      go_wp2_with (first | (go_at_call 160; go_must (refine (putBig_any (w.heap.size + 1) _ (rest ++ [128] ++ List.replicate k 0) (UInt64.ofNat n * 8) 8 wr I'.out.own (by have := I'.out.sz; omega) (by decide) (by rw [elen]; unfold zpad at hkz; omega)).mono ?_; rintro e w5 ⟨v5, rfl, ho5, hg5, _⟩; have I5 := Lib.hid (I'.out.step ho5 hg5); have T5 := Lib.hid (S'.out.below I5.out.bel); clear ho5 hg5 T4 n4)) | ((with_reducible show wpList _ _ _ (Oper.mk (some 36) (Op.load 213 _) _ _ _ _ :: _) _ _); go_must (refine wpList_load_mid rfl 213 _ rfl b 0 rfl _ _ (by exact T5.out.hh) Tryz.underlying213 rfl (by kernel_rfl) ?_)) | ((with_reducible show wpList _ _ _ (Oper.mk _ (Op.alloc 213) _ _ _ _ :: _) _ _); go_must (refine wpList_newRow rfl _ rfl (Array.replicate 8 (.int .u32 0)) (by kernel_rfl) ?_; intro w6 hb6 hs6 hr6 ht6; have Hb6 := Lib.hid hb6; clear hb6; have Hs6 := Lib.hid hs6; clear hs6 hr6; have Ht6 := Lib.hid ht6; clear ht6)) | ((with_reducible show wpList _ _ _ (Oper.mk none (Op.store 213 _ _) _ _ _ _ :: _) _ _); go_must (refine wpList_putRow rfl 213 _ _ rfl w5.heap.size 0 h.cells rfl rfl (by simpa [St.cells] using Ht6.out) (by kernel_rfl) (by simp [Value.oneCell', St.cells, vw]) ?_)))
      have J6 : Hid (QI w (w6.setCells w5.heap.size 0 h.cells) w5.heap.size v5 (padB rest n) h) := Lib.hid (by
        have hpi := I5.out.step (Own.below I5.out.own Hb6.out) (grownBy_of_below Hb6.out _)
        rw [hkz] at hpi
        have hlt5 := Hs6.out
        exact QI.set' hpi I5.out.sz (by omega) (fun e => by have := (Own.base_le I5.out.own e).2; omega) (by simpa using Ht6.out) h)
      clear Hs6 Ht6 Hb6 I5 T5 I'
      obtain ⟨N, hN, hpl⟩ := padB_length rest n hr
      go_simp
      go_loopw [3] (fun bv wr => ∃ j : Nat, j ≤ N ∧ QI w wr w5.heap.size bv ((padB rest n).drop (64 * j)) (absorb j h (padB rest n))) (fun bv _ => lenV bv)
      case atStart => exact ⟨0, by omega, by simpa [absorb] using J6.out⟩
      case round =>
        clear J6
        obtain ⟨j, hj, J⟩ := hrel
        have hdl : ((padB rest n).drop (64 * j)).length = 64 * N - 64 * j := by rw [List.length_drop, hpl]
        have hln2 := Sees.run_len J.pi.own.sees 70 5 3 Tryz.underlying70
        rw [hdl] at hln2
        have J' := Lib.hid J; clear J
        have Hdl := Lib.hid hdl; clear hdl
        by_cases hjN : j < N
        · have hpos : decide ((64 * N - 64 * j : Nat) > (0 : Int)) = true := by simp; omega
          obtain ⟨hj', ehj⟩ : ∃ x, x = absorb j h (padB rest n) := ⟨_, rfl⟩
          rw [← ehj] at J'
          have Ehj := Lib.hid ehj; clear ehj
          have hcut := J'.out.pi.own.sees.run_cut_hi bytesT 64 (by omega) (by rw [Hdl.out]; omega)
          have hsee := SeesB.cut J'.out.pi.own.sees 0 64 (by omega) (by rw [Hdl.out]; omega)
          obtain ⟨cv, ecv⟩ : ∃ x, x = cutV 1 u3 0 64 := ⟨_, rfl⟩
          rw [show (64 : Int).toNat = 64 from rfl, ← ecv] at hcut
          rw [← ecv, List.drop_zero] at hsee
          have Hsee := Lib.hid hsee; clear hsee ecv
          go_wp2_with fail
          refine region_det [(2, false), (3, false), (4, false), (5, false), (6, false), (0, false), (1, false), (7, true), (8, true)] [(44, .ptr)] (by kernel_rfl) (by kernel_rfl) rfl (by kernel_rfl) ?_
          simp only [reord, opAt, List.map_cons, List.map_nil, List.getElem?_toArray, List.getElem?_cons_zero, List.getElem?_cons_succ, Option.getD_some]
          have T6 := Lib.hid (S'.out.below J'.out.drew.pi.bel)
          go_wp2_with (first | ((with_reducible show wpList _ _ _ (Oper.mk _ (Op.load 213 _) _ _ _ _ :: _) _ _); go_must (refine wpList_load_mid rfl 213 _ rfl w5.heap.size 0 rfl _ _ (by exact J'.out.drew.gr) Tryz.underlying213 rfl (by kernel_rfl) ?_)) | (go_at_call 159; go_must (refine (turn_any hj' hj' K64 K64_length b 8 cv (((padB rest n).drop (64 * j)).take 64) (by rw [List.length_take, Hdl.out]; omega) _ (by exact T6.out.kk) (by exact Sees.drew Hsee.out)).mono ?_; rintro e w7 ⟨rfl, hb7⟩; have J3 := Lib.hid (J'.out.drew.below hb7); clear hb7)) | ((with_reducible show wpList _ _ _ (Oper.mk none (Op.store 213 _ _) _ _ _ _ :: _) _ _); go_must (refine wpList_putRow rfl 213 _ _ rfl w5.heap.size 0 _ rfl rfl (by exact J3.out.gt) (by kernel_rfl) (by simp [Value.oneCell', St.cells, vw]) ?_)))
          refine OnlyN.intro (by kernel_rfl) ?_
          have J4 := Lib.hid (J3.out.set (turnS hj' hj' K64 (((padB rest n).drop (64 * j)).take 64)))
          have hlo := J4.out.pi.own.sees.run_cut_lo bytesT 64 (by omega) (by rw [Hdl.out]; omega)
          have ho5 := OwnB.cut J4.out.pi.own 64 ((padB rest n).drop (64 * j)).length (by rw [Hdl.out]; omega) (Nat.le_refl _)
          rw [List.take_length, List.drop_drop, show 64 * j + 64 = 64 * (j + 1) by omega] at ho5
          have J5 := Lib.hid (J4.out.slice ho5 (ownBlock_cutV (size := 1) u3 64 ((padB rest n).drop (64 * j)).length))
          have hlen5 : ((padB rest n).drop (64 * (j + 1))).length = 64 * N - 64 * (j + 1) := by rw [List.length_drop, hpl]
          have Hlen5 := Lib.hid hlen5; clear hlen5 ho5
          rw [Hdl.out] at J5
          go_wp2_with fail
          go_roundw
          case rel =>
            have e : absorb (j + 1) h (padB rest n) = turnS hj' hj' K64 (((padB rest n).drop (64 * j)).take 64) := by rw [absorb_step, ← Ehj.out]
            exact ⟨j + 1, by omega, by rw [e]; exact J5.out⟩
          case measure => rw [J5.out.pi.own.sees.lenV, J'.out.pi.own.sees.lenV, Hlen5.out, Hdl.out]; omega
        · have hjn : j = N := by omega
          subst hjn
          have hneg : decide ((64 * j - 64 * j : Nat) > (0 : Int)) = false := by simp
          go_wp2_with ((with_reducible show wpList _ _ _ (Oper.mk _ (Op.load 213 _) _ _ _ _ :: _) _ _); go_must (refine wpList_load_mid rfl 213 _ rfl w5.heap.size 0 rfl _ _ (by exact J'.out.gr) Tryz.underlying213 rfl (by kernel_rfl) ?_))
          go_simp
          obtain ⟨sN, esN⟩ : ∃ s, s = absorb j h (padB rest n) := ⟨_, rfl⟩
          rw [← esN] at J'
          have R0 : Hid (RI w wr sN 0) := Lib.hid ⟨J'.out.pi.bel, J'.out.pi.out, J'.out.pi.sz, rangeAt_nil _ _ _⟩
          have EsN := Lib.hid esN
          rw [← esN]; clear esN J'
          go_loopw [51] (fun iv wr => ∃ i : Nat, i ≤ 8 ∧ iv = .int .i64 i ∧ RI w wr sN i) (fun iv _ => 8 - (intOf iv).toNat)
          case atStart => exact ⟨0, by omega, rfl, R0.out⟩
          case round =>
            clear R0
            obtain ⟨i, hi8, rfl, R⟩ := hrel
            have R' := Lib.hid R; clear R
            by_cases hlt : i < 8
            · obtain ⟨x, hx1, hx2, hx3⟩ := outB_take sN i hlt
              have hix : ∀ w'', (Instr.index 213 (.agg sN.cells.toArray) (.int .i64 i)).run Tryz.prog w'' = .ok (.int .u32 (I32 x)) w'' := fun w'' => run_index_agg _ _ 8 _ Tryz.underlying213 _ Tryz.underlying22 rfl (by kernel_rfl) i hlt _ hx2 w''
              have hsl : ∀ w'', (Instr.sliceAt 64 (.pointer (some ⟨w.heap.size, 0, none⟩)) (some (.int .i64 (4 * (i : Int)))) none none).run Tryz.prog w'' = .ok (.slice (some ⟨w.heap.size, 4 * i, none⟩) (32 - 4 * i) (32 - 4 * i)) w'' := fun w'' => by
                have := run_sliceAt_row 64 _ 32 Tryz.underlying64 (by kernel_rfl) w.heap.size 0 (4 * i) (by omega) (4 * (i : Int)) (by omega) w''
                rwa [Nat.zero_add] at this
              have Hx3 := Lib.hid hx3; clear hx3 hx1 hx2
              go_wp2_with fail
              refine region_det [(0, false), (1, false), (2, false), (3, false), (4, false), (5, true), (6, true)] [(55, .int), (58, .int)] (by kernel_rfl) (by kernel_rfl) rfl (by kernel_rfl) ?_
              simp only [reord, opAt, List.map_cons, List.map_nil, List.getElem?_toArray, List.getElem?_cons_zero, List.getElem?_cons_succ, Option.getD_some]
              go_wp2_with (first | (go_at_call 160; go_must (refine (putBig_any (w.heap.size + 1) (.slice none 0 0) [] x.toUInt64 4 wr.drew (Own_nil _ _ _) (by exact R'.out.sz) (by decide) (by simp)).mono ?_; rintro e w8 ⟨v8, rfl, ho8, hg8, hf8⟩; have Ho8 : Hid (OwnB w8 (w.heap.size + 1) v8 (bigB x.toUInt64 4)) := Lib.hid (by simpa using ho8); have Hb8 : Hid (Below wr.heap.size wr w8) := Lib.hid ((Below.refl _ wr).drew.trans (below_of_grownBy hg8 (Nat.le_refl _) (by simp [Value.ownBlock]))); clear ho8 hg8 hf8)) | ((with_reducible show wpList _ _ _ (Oper.mk _ (Op.call ⟨Callee.builtin Builtin.copy, _, _⟩) _ _ _ _ :: _) _ _); go_must (refine wpList_copy bytesT rfl _ _ 70 rfl w.heap.size (4 * i) (32 - 4 * i) (32 - 4 * i) rfl v8 4 ((bigB x.toUInt64 4).map vb) rfl (SeesB.src Ho8.out.sees) 4 ?_ ?_ ?_)))
              · show 4 = Nat.min 4 (32 - 4 * i)
                exact (Nat.min_eq_left (by omega)).symm
              · have := there_drop (there_of_block R'.out.out (Hb8.out.block _ R'.out.sz)) (4 * i)
                rw [Nat.zero_add] at this
                exact there_mono this (by omega)
              have R8 := Lib.hid (R'.out.step Hb8.out hlt x Hx3.out)
              rw [show List.take (4 * 1) ((bigB x.toUInt64 4).map vb) = (bigB x.toUInt64 4).map vb from rfl]
              go_wp2_with fail
              refine OnlyN.intro (by kernel_rfl) ?_
              go_wp2_with fail
              go_roundw
              case rel => exact ⟨i + 1, by omega, by go_num, R8.out⟩
              case measure => simp [intOf]; omega
            · have hi8' : i = 8 := by omega
              subst hi8'
              have hgot := R'.out.got
              rw [show 4 * 8 = (outB sN).length from rfl, List.take_length] at hgot
              have Hgot := Lib.hid hgot; clear hgot
              go_wp2_with (first | ((with_reducible show wpList _ _ _ (Oper.mk _ (Op.load 64 _) _ _ _ _ :: _) _ _); go_must (refine wpList_load_mid rfl 64 _ rfl w.heap.size 0 rfl _ _ Hgot.out Tryz.underlying64 rfl (by kernel_rfl) ?_)) | ((with_reducible show wpList _ _ _ (Oper.mk none (Op.store 64 _ _) _ _ _ _ :: _) _ _); go_must (refine wpList_putRow rfl 64 _ _ rfl w.heap.size 0 ((outB sN).map vb) rfl rfl (by rw [List.length_map, outB_length]; exact R'.out.out) (by rw [List.length_map, outB_length]; kernel_rfl) (vb_one _) ?_)))
              refine bodyPost_ret (results_row rfl _ _ w.heap.size 0 ((outB sN).map vb) _ rfl (World.rangeAt_setCells_same _ _ _ _ (by rw [List.length_map, outB_length]; exact R'.out.out)) Tryz.underlying64 rfl (by rw [List.length_map, outB_length]; kernel_rfl)) rfl ?_
              refine ⟨?_, below_setCells (Nat.le_refl _) _ _ _ R'.out.bel⟩
              have e : sumS h rest n = outB sN := by rw [EsN.out]; unfold sumS; rw [hpl, Nat.mul_div_cancel_left _ (by decide)]
              rw [e]
end Go.Proofs.YtidadhbaomieiaaGreat
