/- Words of 8, 32 and 64 bits as the walk's integers: the rules by which the walk's arithmetic on unsigned kinds stays a word's own arithmetic. Conditions: none but the ones each rule names. -/
import Derived.WalkKit
import Derived.WalkSpells
import Derived.WalkLawsBesides
namespace Go
namespace TL
/-- A word's number, closed to the walk's simp. -/
def I8 (x : UInt8) : Int := (x.toNat : Int)
def I32 (x : UInt32) : Int := (x.toNat : Int)
def I64 (x : UInt64) : Int := (x.toNat : Int)
theorem I8_eq (x : UInt8) : I8 x = (x.toNat : Int) := rfl
theorem I32_eq (x : UInt32) : I32 x = (x.toNat : Int) := rfl
theorem I64_eq (x : UInt64) : I64 x = (x.toNat : Int) := rfl
theorem I8_bd (x : UInt8) : 0 ≤ I8 x ∧ I8 x < 256 := by unfold I8; have := x.toNat_lt; omega
theorem I32_bd (x : UInt32) : 0 ≤ I32 x ∧ I32 x < 4294967296 := by unfold I32; have := x.toNat_lt; omega
theorem I64_bd (x : UInt64) : 0 ≤ I64 x ∧ I64 x < 18446744073709551616 := by unfold I64; have := x.toNat_lt; omega
theorem I8_inj {x y : UInt8} : I8 x = I8 y ↔ x = y := by unfold I8; rw [Int.ofNat_inj, UInt8.toNat_inj]
theorem I32_inj {x y : UInt32} : I32 x = I32 y ↔ x = y := by unfold I32; rw [Int.ofNat_inj, UInt32.toNat_inj]
theorem I64_inj {x y : UInt64} : I64 x = I64 y ↔ x = y := by unfold I64; rw [Int.ofNat_inj, UInt64.toNat_inj]
/-- The word that an integer is, wrapped. -/
def w8 (n : Int) : UInt8 := ⟨BitVec.ofInt 8 n⟩
def w32 (n : Int) : UInt32 := ⟨BitVec.ofInt 32 n⟩
def w64 (n : Int) : UInt64 := ⟨BitVec.ofInt 64 n⟩
@[simp] theorem w8_I8 (x : UInt8) : w8 (I8 x) = x := by
  unfold w8 I8; apply UInt8.eq_of_toBitVec_eq; simp [BitVec.ofInt_natCast]
@[simp] theorem w32_I32 (x : UInt32) : w32 (I32 x) = x := by
  unfold w32 I32; apply UInt32.eq_of_toBitVec_eq; simp [BitVec.ofInt_natCast]
@[simp] theorem w64_I64 (x : UInt64) : w64 (I64 x) = x := by
  unfold w64 I64; apply UInt64.eq_of_toBitVec_eq; simp [BitVec.ofInt_natCast]
theorem toNat_w8 (n : Int) : (w8 n).toNat = (n % 256).toNat := by simp [w8, UInt8.toNat, BitVec.toNat_ofInt]
theorem toNat_w32 (n : Int) : (w32 n).toNat = (n % 4294967296).toNat := by simp [w32, UInt32.toNat, BitVec.toNat_ofInt]
theorem toNat_w64 (n : Int) : (w64 n).toNat = (n % 18446744073709551616).toNat := by simp [w64, UInt64.toNat, BitVec.toNat_ofInt]
theorem I8_w8 (n : Int) : I8 (w8 n) = IntKind.u8.wrap n := by
  unfold I8; rw [toNat_w8]; simp [IntKind.wrap, IntKind.bits, IntKind.signed]; omega
theorem I32_w32 (n : Int) : I32 (w32 n) = IntKind.u32.wrap n := by
  unfold I32; rw [toNat_w32]; simp [IntKind.wrap, IntKind.bits, IntKind.signed]; omega
theorem I64_w64 (n : Int) : I64 (w64 n) = IntKind.u64.wrap n := by
  unfold I64; rw [toNat_w64]; simp [IntKind.wrap, IntKind.bits, IntKind.signed]; omega
theorem w8_add (x y : Int) : w8 (x + y) = w8 x + w8 y := by unfold w8; apply UInt8.eq_of_toBitVec_eq; simp [BitVec.ofInt_add]
@[go_sem ↓] theorem arith_add_8 (x y : Int) : Op.intArith .add .u8 x y = pure (.int .u8 (I8 (w8 x + w8 y))) := by rw [← w8_add, I8_w8]; rfl
theorem w8_sub (x y : Int) : w8 (x - y) = w8 x - w8 y := by unfold w8; apply UInt8.eq_of_toBitVec_eq; simp [Int.sub_eq_add_neg, BitVec.ofInt_add, BitVec.ofInt_neg, BitVec.sub_eq_add_neg]
@[go_sem ↓] theorem arith_sub_8 (x y : Int) : Op.intArith .sub .u8 x y = pure (.int .u8 (I8 (w8 x - w8 y))) := by rw [← w8_sub, I8_w8]; rfl
theorem w8_mul (x y : Int) : w8 (x * y) = w8 x * w8 y := by unfold w8; apply UInt8.eq_of_toBitVec_eq; simp [BitVec.ofInt_mul]
@[go_sem ↓] theorem arith_mul_8 (x y : Int) : Op.intArith .mul .u8 x y = pure (.int .u8 (I8 (w8 x * w8 y))) := by rw [← w8_mul, I8_w8]; rfl
theorem bits_and_8' (x y : Int) : bits .and .u8 x y = I8 (w8 x &&& w8 y) :=
  IntWalk.u8_in _ (by have := (BitVec.ofInt 8 x &&& BitVec.ofInt 8 y).isLt; constructor; exact Int.natCast_nonneg _; simp only [IntKind.bits]; omega)
@[go_sem ↓] theorem bits_and_8 (x y : Int) : Op.intBits .and .u8 x y = pure (.int .u8 (I8 (w8 x &&& w8 y))) := by rw [intBits_and, bits_and_8']
theorem bits_or_8' (x y : Int) : bits .or .u8 x y = I8 (w8 x ||| w8 y) :=
  IntWalk.u8_in _ (by have := (BitVec.ofInt 8 x ||| BitVec.ofInt 8 y).isLt; constructor; exact Int.natCast_nonneg _; simp only [IntKind.bits]; omega)
@[go_sem ↓] theorem bits_or_8 (x y : Int) : Op.intBits .or .u8 x y = pure (.int .u8 (I8 (w8 x ||| w8 y))) := by rw [intBits_or, bits_or_8']
theorem bits_xor_8' (x y : Int) : bits .xor .u8 x y = I8 (w8 x ^^^ w8 y) :=
  IntWalk.u8_in _ (by have := (BitVec.ofInt 8 x ^^^ BitVec.ofInt 8 y).isLt; constructor; exact Int.natCast_nonneg _; simp only [IntKind.bits]; omega)
@[go_sem ↓] theorem bits_xor_8 (x y : Int) : Op.intBits .xor .u8 x y = pure (.int .u8 (I8 (w8 x ^^^ w8 y))) := by rw [intBits_xor, bits_xor_8']
@[go_sem ↓] theorem unary_xor_8 (x : Int) : Op.unary .xor (.int .u8 x) = pure (.int .u8 (I8 (~~~ w8 x))) := by
  show Op.intBits .xor .u8 _ x = _
  rw [bits_xor_8]; congr 3
@[go_sem] theorem not_8 (x : UInt8) : w8 (IntKind.max .u8) ^^^ x = ~~~ x := by
  rw [show w8 (IntKind.max .u8) = -1 from rfl]; apply UInt8.eq_of_toBitVec_eq; simp
@[go_sem ↓] theorem conv_8 (x : Int) : Conv.intToInt .u8 x = pure (.int .u8 (I8 (w8 x))) := by rw [I8_w8]; rfl
theorem w8_shl (x : Int) (n : Nat) (h : n < 8) : w8 (x * 2 ^ n) = w8 x <<< UInt8.ofNat n := by
  apply UInt8.eq_of_toBitVec_eq
  simp only [w8, UInt8.toBitVec_shiftLeft]
  have e : ((UInt8.ofNat n).toBitVec % (8 : BitVec 8)) = BitVec.ofNat 8 n := by
    apply BitVec.eq_of_toNat_eq; simp; omega
  have e2 : BitVec.ofInt 8 (2 ^ n) = BitVec.twoPow 8 n := by
    apply BitVec.eq_of_toNat_eq; rw [BitVec.toNat_twoPow]; rw [show ((2 : Int) ^ n) = ((2 ^ n : Nat) : Int) from by simp, BitVec.ofInt_natCast, BitVec.toNat_ofNat]
  rw [BitVec.ofInt_mul, e, e2, BitVec.shiftLeft_eq', BitVec.mul_twoPow_eq_shiftLeft, BitVec.toNat_ofNat, Nat.mod_eq_of_lt (show n < 2 ^ 8 by omega)]
@[go_sem ↓] theorem shl_8 (x y : Int) (yk : IntKind) (h0 : 0 ≤ y) (h1 : y ≤ 7) : Op.shift .shl .u8 x yk y = pure (.int .u8 (I8 (w8 x <<< UInt8.ofNat y.toNat))) := by
  rw [shift_shl .u8 yk x y h0 (by simp [IntKind.bits]; omega), ← I8_w8, w8_shl _ _ (by omega)]
theorem I8_shr (x : UInt8) (n : Nat) (h : n < 8) : I8 x / 2 ^ n = I8 (x >>> UInt8.ofNat n) := by
  unfold I8; simp [Nat.shiftRight_eq_div_pow]; rw [Nat.mod_eq_of_lt h]
@[go_sem ↓] theorem shr_8 (x : UInt8) (y : Int) (yk : IntKind) (h0 : 0 ≤ y) (h1 : y ≤ 7) : Op.shift .shr .u8 (I8 x) yk y = pure (.int .u8 (I8 (x >>> UInt8.ofNat y.toNat))) := by
  rw [shift_shr .u8 yk _ y h0 (by simp [IntKind.bits]; omega), I8_shr _ _ (by omega)]
theorem I8_div (x y : UInt8) : I8 x / I8 y = I8 (x / y) := by unfold I8; simp
theorem I8_mod (x y : UInt8) : I8 x % I8 y = I8 (x % y) := by unfold I8; simp
theorem I8_lt (x y : UInt8) : I8 x < I8 y ↔ x < y := by unfold I8; rw [UInt8.lt_iff_toNat_lt]; omega
theorem I8_le (x y : UInt8) : I8 x ≤ I8 y ↔ x ≤ y := by unfold I8; rw [UInt8.le_iff_toNat_le]; omega
@[go_sem ↓] theorem wrap_8 (x : Int) : IntKind.wrap .u8 x = I8 (w8 x) := (I8_w8 x).symm
@[go_sem] theorem cast_8 (x : UInt8) : ((x.toNat : Nat) : Int) = I8 x := rfl
@[go_sem] theorem w8_lit (n : Nat) : w8 (no_index (@OfNat.ofNat Int n _)) = @OfNat.ofNat UInt8 n _ := by
  show w8 ((n : Nat) : Int) = _
  unfold w8; apply UInt8.eq_of_toBitVec_eq; rw [BitVec.ofInt_natCast]; rfl
theorem w8_nat (n : Nat) : w8 ((n : Nat) : Int) = UInt8.ofNat n := by
  unfold w8; apply UInt8.eq_of_toBitVec_eq; rw [BitVec.ofInt_natCast]; rfl
theorem w32_add (x y : Int) : w32 (x + y) = w32 x + w32 y := by unfold w32; apply UInt32.eq_of_toBitVec_eq; simp [BitVec.ofInt_add]
@[go_sem ↓] theorem arith_add_32 (x y : Int) : Op.intArith .add .u32 x y = pure (.int .u32 (I32 (w32 x + w32 y))) := by rw [← w32_add, I32_w32]; rfl
theorem w32_sub (x y : Int) : w32 (x - y) = w32 x - w32 y := by unfold w32; apply UInt32.eq_of_toBitVec_eq; simp [Int.sub_eq_add_neg, BitVec.ofInt_add, BitVec.ofInt_neg, BitVec.sub_eq_add_neg]
@[go_sem ↓] theorem arith_sub_32 (x y : Int) : Op.intArith .sub .u32 x y = pure (.int .u32 (I32 (w32 x - w32 y))) := by rw [← w32_sub, I32_w32]; rfl
theorem w32_mul (x y : Int) : w32 (x * y) = w32 x * w32 y := by unfold w32; apply UInt32.eq_of_toBitVec_eq; simp [BitVec.ofInt_mul]
@[go_sem ↓] theorem arith_mul_32 (x y : Int) : Op.intArith .mul .u32 x y = pure (.int .u32 (I32 (w32 x * w32 y))) := by rw [← w32_mul, I32_w32]; rfl
theorem bits_and_32' (x y : Int) : bits .and .u32 x y = I32 (w32 x &&& w32 y) :=
  IntWalk.u32_in _ (by have := (BitVec.ofInt 32 x &&& BitVec.ofInt 32 y).isLt; constructor; exact Int.natCast_nonneg _; simp only [IntKind.bits]; omega)
@[go_sem ↓] theorem bits_and_32 (x y : Int) : Op.intBits .and .u32 x y = pure (.int .u32 (I32 (w32 x &&& w32 y))) := by rw [intBits_and, bits_and_32']
theorem bits_or_32' (x y : Int) : bits .or .u32 x y = I32 (w32 x ||| w32 y) :=
  IntWalk.u32_in _ (by have := (BitVec.ofInt 32 x ||| BitVec.ofInt 32 y).isLt; constructor; exact Int.natCast_nonneg _; simp only [IntKind.bits]; omega)
@[go_sem ↓] theorem bits_or_32 (x y : Int) : Op.intBits .or .u32 x y = pure (.int .u32 (I32 (w32 x ||| w32 y))) := by rw [intBits_or, bits_or_32']
theorem bits_xor_32' (x y : Int) : bits .xor .u32 x y = I32 (w32 x ^^^ w32 y) :=
  IntWalk.u32_in _ (by have := (BitVec.ofInt 32 x ^^^ BitVec.ofInt 32 y).isLt; constructor; exact Int.natCast_nonneg _; simp only [IntKind.bits]; omega)
@[go_sem ↓] theorem bits_xor_32 (x y : Int) : Op.intBits .xor .u32 x y = pure (.int .u32 (I32 (w32 x ^^^ w32 y))) := by rw [intBits_xor, bits_xor_32']
@[go_sem ↓] theorem unary_xor_32 (x : Int) : Op.unary .xor (.int .u32 x) = pure (.int .u32 (I32 (~~~ w32 x))) := by
  show Op.intBits .xor .u32 _ x = _
  rw [bits_xor_32]; congr 3
@[go_sem] theorem not_32 (x : UInt32) : w32 (IntKind.max .u32) ^^^ x = ~~~ x := by
  rw [show w32 (IntKind.max .u32) = -1 from rfl]; apply UInt32.eq_of_toBitVec_eq; simp
@[go_sem ↓] theorem conv_32 (x : Int) : Conv.intToInt .u32 x = pure (.int .u32 (I32 (w32 x))) := by rw [I32_w32]; rfl
theorem w32_shl (x : Int) (n : Nat) (h : n < 32) : w32 (x * 2 ^ n) = w32 x <<< UInt32.ofNat n := by
  apply UInt32.eq_of_toBitVec_eq
  simp only [w32, UInt32.toBitVec_shiftLeft]
  have e : ((UInt32.ofNat n).toBitVec % (32 : BitVec 32)) = BitVec.ofNat 32 n := by
    apply BitVec.eq_of_toNat_eq; simp; omega
  have e2 : BitVec.ofInt 32 (2 ^ n) = BitVec.twoPow 32 n := by
    apply BitVec.eq_of_toNat_eq; rw [BitVec.toNat_twoPow]; rw [show ((2 : Int) ^ n) = ((2 ^ n : Nat) : Int) from by simp, BitVec.ofInt_natCast, BitVec.toNat_ofNat]
  rw [BitVec.ofInt_mul, e, e2, BitVec.shiftLeft_eq', BitVec.mul_twoPow_eq_shiftLeft, BitVec.toNat_ofNat, Nat.mod_eq_of_lt (show n < 2 ^ 32 by omega)]
@[go_sem ↓] theorem shl_32 (x y : Int) (yk : IntKind) (h0 : 0 ≤ y) (h1 : y ≤ 31) : Op.shift .shl .u32 x yk y = pure (.int .u32 (I32 (w32 x <<< UInt32.ofNat y.toNat))) := by
  rw [shift_shl .u32 yk x y h0 (by simp [IntKind.bits]; omega), ← I32_w32, w32_shl _ _ (by omega)]
theorem I32_shr (x : UInt32) (n : Nat) (h : n < 32) : I32 x / 2 ^ n = I32 (x >>> UInt32.ofNat n) := by
  unfold I32; simp [Nat.shiftRight_eq_div_pow]; rw [Nat.mod_eq_of_lt h]
@[go_sem ↓] theorem shr_32 (x : UInt32) (y : Int) (yk : IntKind) (h0 : 0 ≤ y) (h1 : y ≤ 31) : Op.shift .shr .u32 (I32 x) yk y = pure (.int .u32 (I32 (x >>> UInt32.ofNat y.toNat))) := by
  rw [shift_shr .u32 yk _ y h0 (by simp [IntKind.bits]; omega), I32_shr _ _ (by omega)]
theorem I32_div (x y : UInt32) : I32 x / I32 y = I32 (x / y) := by unfold I32; simp
theorem I32_mod (x y : UInt32) : I32 x % I32 y = I32 (x % y) := by unfold I32; simp
theorem I32_lt (x y : UInt32) : I32 x < I32 y ↔ x < y := by unfold I32; rw [UInt32.lt_iff_toNat_lt]; omega
theorem I32_le (x y : UInt32) : I32 x ≤ I32 y ↔ x ≤ y := by unfold I32; rw [UInt32.le_iff_toNat_le]; omega
@[go_sem ↓] theorem wrap_32 (x : Int) : IntKind.wrap .u32 x = I32 (w32 x) := (I32_w32 x).symm
@[go_sem] theorem cast_32 (x : UInt32) : ((x.toNat : Nat) : Int) = I32 x := rfl
@[go_sem] theorem w32_lit (n : Nat) : w32 (no_index (@OfNat.ofNat Int n _)) = @OfNat.ofNat UInt32 n _ := by
  show w32 ((n : Nat) : Int) = _
  unfold w32; apply UInt32.eq_of_toBitVec_eq; rw [BitVec.ofInt_natCast]; rfl
theorem w32_nat (n : Nat) : w32 ((n : Nat) : Int) = UInt32.ofNat n := by
  unfold w32; apply UInt32.eq_of_toBitVec_eq; rw [BitVec.ofInt_natCast]; rfl
theorem w64_add (x y : Int) : w64 (x + y) = w64 x + w64 y := by unfold w64; apply UInt64.eq_of_toBitVec_eq; simp [BitVec.ofInt_add]
@[go_sem ↓] theorem arith_add_64 (x y : Int) : Op.intArith .add .u64 x y = pure (.int .u64 (I64 (w64 x + w64 y))) := by rw [← w64_add, I64_w64]; rfl
theorem w64_sub (x y : Int) : w64 (x - y) = w64 x - w64 y := by unfold w64; apply UInt64.eq_of_toBitVec_eq; simp [Int.sub_eq_add_neg, BitVec.ofInt_add, BitVec.ofInt_neg, BitVec.sub_eq_add_neg]
@[go_sem ↓] theorem arith_sub_64 (x y : Int) : Op.intArith .sub .u64 x y = pure (.int .u64 (I64 (w64 x - w64 y))) := by rw [← w64_sub, I64_w64]; rfl
theorem w64_mul (x y : Int) : w64 (x * y) = w64 x * w64 y := by unfold w64; apply UInt64.eq_of_toBitVec_eq; simp [BitVec.ofInt_mul]
@[go_sem ↓] theorem arith_mul_64 (x y : Int) : Op.intArith .mul .u64 x y = pure (.int .u64 (I64 (w64 x * w64 y))) := by rw [← w64_mul, I64_w64]; rfl
theorem bits_and_64' (x y : Int) : bits .and .u64 x y = I64 (w64 x &&& w64 y) :=
  IntWalk.u64_in _ (by have := (BitVec.ofInt 64 x &&& BitVec.ofInt 64 y).isLt; constructor; exact Int.natCast_nonneg _; simp only [IntKind.bits]; omega)
@[go_sem ↓] theorem bits_and_64 (x y : Int) : Op.intBits .and .u64 x y = pure (.int .u64 (I64 (w64 x &&& w64 y))) := by rw [intBits_and, bits_and_64']
theorem bits_or_64' (x y : Int) : bits .or .u64 x y = I64 (w64 x ||| w64 y) :=
  IntWalk.u64_in _ (by have := (BitVec.ofInt 64 x ||| BitVec.ofInt 64 y).isLt; constructor; exact Int.natCast_nonneg _; simp only [IntKind.bits]; omega)
@[go_sem ↓] theorem bits_or_64 (x y : Int) : Op.intBits .or .u64 x y = pure (.int .u64 (I64 (w64 x ||| w64 y))) := by rw [intBits_or, bits_or_64']
theorem bits_xor_64' (x y : Int) : bits .xor .u64 x y = I64 (w64 x ^^^ w64 y) :=
  IntWalk.u64_in _ (by have := (BitVec.ofInt 64 x ^^^ BitVec.ofInt 64 y).isLt; constructor; exact Int.natCast_nonneg _; simp only [IntKind.bits]; omega)
@[go_sem ↓] theorem bits_xor_64 (x y : Int) : Op.intBits .xor .u64 x y = pure (.int .u64 (I64 (w64 x ^^^ w64 y))) := by rw [intBits_xor, bits_xor_64']
@[go_sem ↓] theorem unary_xor_64 (x : Int) : Op.unary .xor (.int .u64 x) = pure (.int .u64 (I64 (~~~ w64 x))) := by
  show Op.intBits .xor .u64 _ x = _
  rw [bits_xor_64]; congr 3
@[go_sem] theorem not_64 (x : UInt64) : w64 (IntKind.max .u64) ^^^ x = ~~~ x := by
  rw [show w64 (IntKind.max .u64) = -1 from rfl]; apply UInt64.eq_of_toBitVec_eq; simp
@[go_sem ↓] theorem conv_64 (x : Int) : Conv.intToInt .u64 x = pure (.int .u64 (I64 (w64 x))) := by rw [I64_w64]; rfl
theorem w64_shl (x : Int) (n : Nat) (h : n < 64) : w64 (x * 2 ^ n) = w64 x <<< UInt64.ofNat n := by
  apply UInt64.eq_of_toBitVec_eq
  simp only [w64, UInt64.toBitVec_shiftLeft]
  have e : ((UInt64.ofNat n).toBitVec % (64 : BitVec 64)) = BitVec.ofNat 64 n := by
    apply BitVec.eq_of_toNat_eq; simp; omega
  have e2 : BitVec.ofInt 64 (2 ^ n) = BitVec.twoPow 64 n := by
    apply BitVec.eq_of_toNat_eq; rw [BitVec.toNat_twoPow]; rw [show ((2 : Int) ^ n) = ((2 ^ n : Nat) : Int) from by simp, BitVec.ofInt_natCast, BitVec.toNat_ofNat]
  rw [BitVec.ofInt_mul, e, e2, BitVec.shiftLeft_eq', BitVec.mul_twoPow_eq_shiftLeft, BitVec.toNat_ofNat, Nat.mod_eq_of_lt (show n < 2 ^ 64 by omega)]
@[go_sem ↓] theorem shl_64 (x y : Int) (yk : IntKind) (h0 : 0 ≤ y) (h1 : y ≤ 63) : Op.shift .shl .u64 x yk y = pure (.int .u64 (I64 (w64 x <<< UInt64.ofNat y.toNat))) := by
  rw [shift_shl .u64 yk x y h0 (by simp [IntKind.bits]; omega), ← I64_w64, w64_shl _ _ (by omega)]
theorem I64_shr (x : UInt64) (n : Nat) (h : n < 64) : I64 x / 2 ^ n = I64 (x >>> UInt64.ofNat n) := by
  unfold I64; simp [Nat.shiftRight_eq_div_pow]; rw [Nat.mod_eq_of_lt h]
@[go_sem ↓] theorem shr_64 (x : UInt64) (y : Int) (yk : IntKind) (h0 : 0 ≤ y) (h1 : y ≤ 63) : Op.shift .shr .u64 (I64 x) yk y = pure (.int .u64 (I64 (x >>> UInt64.ofNat y.toNat))) := by
  rw [shift_shr .u64 yk _ y h0 (by simp [IntKind.bits]; omega), I64_shr _ _ (by omega)]
theorem I64_div (x y : UInt64) : I64 x / I64 y = I64 (x / y) := by unfold I64; simp
theorem I64_mod (x y : UInt64) : I64 x % I64 y = I64 (x % y) := by unfold I64; simp
theorem I64_lt (x y : UInt64) : I64 x < I64 y ↔ x < y := by unfold I64; rw [UInt64.lt_iff_toNat_lt]; omega
theorem I64_le (x y : UInt64) : I64 x ≤ I64 y ↔ x ≤ y := by unfold I64; rw [UInt64.le_iff_toNat_le]; omega
@[go_sem ↓] theorem wrap_64 (x : Int) : IntKind.wrap .u64 x = I64 (w64 x) := (I64_w64 x).symm
@[go_sem] theorem cast_64 (x : UInt64) : ((x.toNat : Nat) : Int) = I64 x := rfl
@[go_sem] theorem w64_lit (n : Nat) : w64 (no_index (@OfNat.ofNat Int n _)) = @OfNat.ofNat UInt64 n _ := by
  show w64 ((n : Nat) : Int) = _
  unfold w64; apply UInt64.eq_of_toBitVec_eq; rw [BitVec.ofInt_natCast]; rfl
theorem w64_nat (n : Nat) : w64 ((n : Nat) : Int) = UInt64.ofNat n := by
  unfold w64; apply UInt64.eq_of_toBitVec_eq; rw [BitVec.ofInt_natCast]; rfl
@[go_sem] theorem w32_I8 (x : UInt8) : w32 (I8 x) = x.toUInt32 := by unfold I8; rw [w32_nat]; simp
@[go_sem] theorem w64_I8 (x : UInt8) : w64 (I8 x) = x.toUInt64 := by unfold I8; rw [w64_nat]; simp
@[go_sem] theorem w8_I32 (x : UInt32) : w8 (I32 x) = x.toUInt8 := by unfold I32; rw [w8_nat]; simp
@[go_sem] theorem w64_I32 (x : UInt32) : w64 (I32 x) = x.toUInt64 := by unfold I32; rw [w64_nat]; simp
@[go_sem] theorem w8_I64 (x : UInt64) : w8 (I64 x) = x.toUInt8 := by unfold I64; rw [w8_nat]; simp
@[go_sem] theorem w32_I64 (x : UInt64) : w32 (I64 x) = x.toUInt32 := by unfold I64; rw [w32_nat]; simp
end TL
end Go
