/- Texts of this seat, put together: Words, Mem, Base, Big, ShaP, Turn, New. Each begins with a remark that says what is proved in it, and under which conditions. -/
import Derived.Test.YtidadhbaomieiaaGreatY
import Derived.WalkKit
import Derived.WalkSpells
import Derived.WalkLawsBesides
import Derived.Deep.MidRow
import Derived.Lib.Hide
import Derived.Test.YtidadhbaomieiaaGreatRows
import Derived.Deep.QuietTactic
import Derived.BigQuiet
import Derived.Deep.DeepMust
set_option maxRecDepth 100000
set_option maxHeartbeats 16000000
namespace Go
namespace TL
def I8 (x : UInt8) : Int := (x.toNat : Int)
def I32 (x : UInt32) : Int := (x.toNat : Int)
def I64 (x : UInt64) : Int := (x.toNat : Int)
theorem I8_eq (x : UInt8) : I8 x = (x.toNat : Int) := rfl
theorem I32_eq (x : UInt32) : I32 x = (x.toNat : Int) := rfl
theorem qBU (x : UInt64) : I64 x = (x.toNat : Int) := rfl
theorem I8_bd (x : UInt8) : 0 ≤ I8 x ∧ I8 x < 256 := by unfold I8; have := x.toNat_lt; omega
theorem I64_bd (x : UInt64) : 0 ≤ I64 x ∧ I64 x < 18446744073709551616 := by unfold I64; have := x.toNat_lt; omega
theorem I8_inj {x y : UInt8} : I8 x = I8 y ↔ x = y := by unfold I8; rw [Int.ofNat_inj, UInt8.toNat_inj]
theorem qGA {x y : UInt64} : I64 x = I64 y ↔ x = y := by unfold I64; rw [Int.ofNat_inj, UInt64.toNat_inj]
def w8 (n : Int) : UInt8 := ⟨BitVec.ofInt 8 n⟩
def w32 (n : Int) : UInt32 := ⟨BitVec.ofInt 32 n⟩
def w64 (n : Int) : UInt64 := ⟨BitVec.ofInt 64 n⟩
@[simp] theorem w8_I8 (x : UInt8) : w8 (I8 x) = x := by
 unfold w8 I8; apply UInt8.eq_of_toBitVec_eq; simp [BitVec.ofInt_natCast]
@[simp] theorem w32_I32 (x : UInt32) : w32 (I32 x) = x := by
 unfold w32 I32; apply UInt32.eq_of_toBitVec_eq; simp [BitVec.ofInt_natCast]
@[simp] theorem w64_I64 (x : UInt64) : w64 (I64 x) = x := by
 unfold w64 I64; apply UInt64.eq_of_toBitVec_eq; simp [BitVec.ofInt_natCast]
theorem toNat_w8 (n : Int) : (w8 n).toNat = (n % 256).toNat := by simp [w8, UInt8.toNat, BitVec.toNat_ofInt]
theorem qDq (n : Int) : (w32 n).toNat = (n % 4294967296).toNat := by simp [w32, UInt32.toNat, BitVec.toNat_ofInt]
theorem toNat_w64 (n : Int) : (w64 n).toNat = (n % 18446744073709551616).toNat := by simp [w64, UInt64.toNat, BitVec.toNat_ofInt]
theorem I8_w8 (n : Int) : I8 (w8 n) = IntKind.u8.wrap n := by
 unfold I8; rw [toNat_w8]; simp [IntKind.wrap, IntKind.bits, IntKind.signed]; omega
theorem qEh (n : Int) : I32 (w32 n) = IntKind.u32.wrap n := by
 unfold I32; rw [qDq]; simp [IntKind.wrap, IntKind.bits, IntKind.signed]; omega
theorem qEg (n : Int) : I64 (w64 n) = IntKind.u64.wrap n := by
 unfold I64; rw [toNat_w64]; simp [IntKind.wrap, IntKind.bits, IntKind.signed]; omega
theorem w8_add (x y : Int) : w8 (x + y) = w8 x + w8 y := by unfold w8; apply UInt8.eq_of_toBitVec_eq; simp [BitVec.ofInt_add]
@[go_sem ↓] theorem arith_add_8 (x y : Int) : Op.intArith .add .u8 x y = pure (.int .u8 (I8 (w8 x + w8 y))) := by rw [← w8_add, I8_w8]; rfl
theorem w8_sub (x y : Int) : w8 (x - y) = w8 x - w8 y := by unfold w8; apply UInt8.eq_of_toBitVec_eq; simp [Int.sub_eq_add_neg, BitVec.ofInt_add, BitVec.ofInt_neg, BitVec.sub_eq_add_neg]
@[go_sem ↓] theorem arith_sub_8 (x y : Int) : Op.intArith .sub .u8 x y = pure (.int .u8 (I8 (w8 x - w8 y))) := by rw [← w8_sub, I8_w8]; rfl
theorem w8_mul (x y : Int) : w8 (x * y) = w8 x * w8 y := by unfold w8; apply UInt8.eq_of_toBitVec_eq; simp [BitVec.ofInt_mul]
@[go_sem ↓] theorem arith_mul_8 (x y : Int) : Op.intArith .mul .u8 x y = pure (.int .u8 (I8 (w8 x * w8 y))) := by rw [← w8_mul, I8_w8]; rfl
theorem bits_and_8' (x y : Int) : bits .and .u8 x y = I8 (w8 x &&& w8 y) :=
 IntWalk.u8_in _ (by have := (BitVec.ofInt 8 x &&& BitVec.ofInt 8 y).isLt; constructor; exact Int.natCast_nonneg _; simp only [IntKind.bits]; omega)
@[go_sem ↓] theorem bits_and_8 (x y : Int) : Op.intBits .and .u8 x y = pure (.int .u8 (I8 (w8 x &&& w8 y))) := by rw [intBits_and, bits_and_8']
theorem bits_or_8' (x y : Int) : bits .or .u8 x y = I8 (w8 x ||| w8 y) :=
 IntWalk.u8_in _ (by have := (BitVec.ofInt 8 x ||| BitVec.ofInt 8 y).isLt; constructor; exact Int.natCast_nonneg _; simp only [IntKind.bits]; omega)
@[go_sem ↓] theorem bits_or_8 (x y : Int) : Op.intBits .or .u8 x y = pure (.int .u8 (I8 (w8 x ||| w8 y))) := by rw [intBits_or, bits_or_8']
theorem bits_xor_8' (x y : Int) : bits .xor .u8 x y = I8 (w8 x ^^^ w8 y) :=
 IntWalk.u8_in _ (by have := (BitVec.ofInt 8 x ^^^ BitVec.ofInt 8 y).isLt; constructor; exact Int.natCast_nonneg _; simp only [IntKind.bits]; omega)
@[go_sem ↓] theorem bits_xor_8 (x y : Int) : Op.intBits .xor .u8 x y = pure (.int .u8 (I8 (w8 x ^^^ w8 y))) := by rw [intBits_xor, bits_xor_8']
@[go_sem ↓] theorem unary_xor_8 (x : Int) : Op.unary .xor (.int .u8 x) = pure (.int .u8 (I8 (~~~ w8 x))) := by
 show Op.intBits .xor .u8 _ x = _
 rw [bits_xor_8]; congr 3
@[go_sem] theorem not_8 (x : UInt8) : w8 (IntKind.max .u8) ^^^ x = ~~~ x := by
 rw [show w8 (IntKind.max .u8) = -1 from rfl]; apply UInt8.eq_of_toBitVec_eq; simp
@[go_sem ↓] theorem conv_8 (x : Int) : Conv.intToInt .u8 x = pure (.int .u8 (I8 (w8 x))) := by rw [I8_w8]; rfl
theorem w8_shl (x : Int) (n : Nat) (h : n < 8) : w8 (x * 2 ^ n) = w8 x <<< UInt8.ofNat n := by
 apply UInt8.eq_of_toBitVec_eq
 simp only [w8, UInt8.toBitVec_shiftLeft]
 have e : ((UInt8.ofNat n).toBitVec % (8 : BitVec 8)) = BitVec.ofNat 8 n := by
  apply BitVec.eq_of_toNat_eq; simp; omega
 have e2 : BitVec.ofInt 8 (2 ^ n) = BitVec.twoPow 8 n := by
  apply BitVec.eq_of_toNat_eq; rw [BitVec.toNat_twoPow]; rw [show ((2 : Int) ^ n) = ((2 ^ n : Nat) : Int) from by simp, BitVec.ofInt_natCast, BitVec.toNat_ofNat]
 rw [BitVec.ofInt_mul, e, e2, BitVec.shiftLeft_eq', BitVec.mul_twoPow_eq_shiftLeft, BitVec.toNat_ofNat, Nat.mod_eq_of_lt (show n < 2 ^ 8 by omega)]
@[go_sem ↓] theorem shl_8 (x y : Int) (yk : IntKind) (h0 : 0 ≤ y) (h1 : y ≤ 7) : Op.shift .shl .u8 x yk y = pure (.int .u8 (I8 (w8 x <<< UInt8.ofNat y.toNat))) := by
 rw [shift_shl .u8 yk x y h0 (by simp [IntKind.bits]; omega), ← I8_w8, w8_shl _ _ yF]
theorem I8_shr (x : UInt8) (n : Nat) (h : n < 8) : I8 x / 2 ^ n = I8 (x >>> UInt8.ofNat n) := by
 unfold I8; simp [Nat.shiftRight_eq_div_pow]; rw [Nat.mod_eq_of_lt h]
@[go_sem ↓] theorem shr_8 (x : UInt8) (y : Int) (yk : IntKind) (h0 : 0 ≤ y) (h1 : y ≤ 7) : Op.shift .shr .u8 (I8 x) yk y = pure (.int .u8 (I8 (x >>> UInt8.ofNat y.toNat))) := by
 rw [shift_shr .u8 yk _ y h0 (by simp [IntKind.bits]; omega), I8_shr _ _ yF]
@[go_sem ↓] theorem wrap_8 (x : Int) : IntKind.wrap .u8 x = I8 (w8 x) := (I8_w8 x).symm
@[go_sem] theorem cast_8 (x : UInt8) : ((x.toNat : Nat) : Int) = I8 x := rfl
@[go_sem] theorem w8_lit (n : Nat) : w8 (no_index (@OfNat.ofNat Int n _)) = @OfNat.ofNat UInt8 n _ := by
 show w8 ((n : Nat) : Int) = _
 unfold w8; apply UInt8.eq_of_toBitVec_eq; rw [BitVec.ofInt_natCast]; rfl
theorem qEj (n : Nat) : w8 ((n : Nat) : Int) = UInt8.ofNat n := by
 unfold w8; apply UInt8.eq_of_toBitVec_eq; rw [BitVec.ofInt_natCast]; rfl
theorem w32_add (x y : Int) : w32 (x + y) = w32 x + w32 y := by unfold w32; apply UInt32.eq_of_toBitVec_eq; simp [BitVec.ofInt_add]
@[go_sem ↓] theorem arith_add_32 (x y : Int) : Op.intArith .add .u32 x y = pure (.int .u32 (I32 (w32 x + w32 y))) := by rw [← w32_add, qEh]; rfl
theorem w32_sub (x y : Int) : w32 (x - y) = w32 x - w32 y := by unfold w32; apply UInt32.eq_of_toBitVec_eq; simp [Int.sub_eq_add_neg, BitVec.ofInt_add, BitVec.ofInt_neg, BitVec.sub_eq_add_neg]
@[go_sem ↓] theorem arith_sub_32 (x y : Int) : Op.intArith .sub .u32 x y = pure (.int .u32 (I32 (w32 x - w32 y))) := by rw [← w32_sub, qEh]; rfl
theorem w32_mul (x y : Int) : w32 (x * y) = w32 x * w32 y := by unfold w32; apply UInt32.eq_of_toBitVec_eq; simp [BitVec.ofInt_mul]
@[go_sem ↓] theorem arith_mul_32 (x y : Int) : Op.intArith .mul .u32 x y = pure (.int .u32 (I32 (w32 x * w32 y))) := by rw [← w32_mul, qEh]; rfl
theorem bits_and_32' (x y : Int) : bits .and .u32 x y = I32 (w32 x &&& w32 y) :=
 IntWalk.u32_in _ (by have := (BitVec.ofInt 32 x &&& BitVec.ofInt 32 y).isLt; constructor; exact Int.natCast_nonneg _; simp only [IntKind.bits]; omega)
@[go_sem ↓] theorem bits_and_32 (x y : Int) : Op.intBits .and .u32 x y = pure (.int .u32 (I32 (w32 x &&& w32 y))) := by rw [intBits_and, bits_and_32']
theorem bits_or_32' (x y : Int) : bits .or .u32 x y = I32 (w32 x ||| w32 y) :=
 IntWalk.u32_in _ (by have := (BitVec.ofInt 32 x ||| BitVec.ofInt 32 y).isLt; constructor; exact Int.natCast_nonneg _; simp only [IntKind.bits]; omega)
@[go_sem ↓] theorem bits_or_32 (x y : Int) : Op.intBits .or .u32 x y = pure (.int .u32 (I32 (w32 x ||| w32 y))) := by rw [intBits_or, bits_or_32']
theorem bits_xor_32' (x y : Int) : bits .xor .u32 x y = I32 (w32 x ^^^ w32 y) :=
 IntWalk.u32_in _ (by have := (BitVec.ofInt 32 x ^^^ BitVec.ofInt 32 y).isLt; constructor; exact Int.natCast_nonneg _; simp only [IntKind.bits]; omega)
@[go_sem ↓] theorem bits_xor_32 (x y : Int) : Op.intBits .xor .u32 x y = pure (.int .u32 (I32 (w32 x ^^^ w32 y))) := by rw [intBits_xor, bits_xor_32']
@[go_sem ↓] theorem unary_xor_32 (x : Int) : Op.unary .xor (.int .u32 x) = pure (.int .u32 (I32 (~~~ w32 x))) := by
 show Op.intBits .xor .u32 _ x = _
 rw [bits_xor_32]; congr 3
@[go_sem] theorem not_32 (x : UInt32) : w32 (IntKind.max .u32) ^^^ x = ~~~ x := by
 rw [show w32 (IntKind.max .u32) = -1 from rfl]; apply UInt32.eq_of_toBitVec_eq; simp
@[go_sem ↓] theorem conv_32 (x : Int) : Conv.intToInt .u32 x = pure (.int .u32 (I32 (w32 x))) := by rw [qEh]; rfl
theorem w32_shl (x : Int) (n : Nat) (h : n < 32) : w32 (x * 2 ^ n) = w32 x <<< UInt32.ofNat n := by
 apply UInt32.eq_of_toBitVec_eq
 simp only [w32, UInt32.toBitVec_shiftLeft]
 have e : ((UInt32.ofNat n).toBitVec % (32 : BitVec 32)) = BitVec.ofNat 32 n := by
  apply BitVec.eq_of_toNat_eq; simp; omega
 have e2 : BitVec.ofInt 32 (2 ^ n) = BitVec.twoPow 32 n := by
  apply BitVec.eq_of_toNat_eq; rw [BitVec.toNat_twoPow]; rw [show ((2 : Int) ^ n) = ((2 ^ n : Nat) : Int) from by simp, BitVec.ofInt_natCast, BitVec.toNat_ofNat]
 rw [BitVec.ofInt_mul, e, e2, BitVec.shiftLeft_eq', BitVec.mul_twoPow_eq_shiftLeft, BitVec.toNat_ofNat, Nat.mod_eq_of_lt (show n < 2 ^ 32 by omega)]
@[go_sem ↓] theorem shl_32 (x y : Int) (yk : IntKind) (h0 : 0 ≤ y) (h1 : y ≤ 31) : Op.shift .shl .u32 x yk y = pure (.int .u32 (I32 (w32 x <<< UInt32.ofNat y.toNat))) := by
 rw [shift_shl .u32 yk x y h0 (by simp [IntKind.bits]; omega), ← qEh, w32_shl _ _ yF]
theorem I32_shr (x : UInt32) (n : Nat) (h : n < 32) : I32 x / 2 ^ n = I32 (x >>> UInt32.ofNat n) := by
 unfold I32; simp [Nat.shiftRight_eq_div_pow]; rw [Nat.mod_eq_of_lt h]
@[go_sem ↓] theorem shr_32 (x : UInt32) (y : Int) (yk : IntKind) (h0 : 0 ≤ y) (h1 : y ≤ 31) : Op.shift .shr .u32 (I32 x) yk y = pure (.int .u32 (I32 (x >>> UInt32.ofNat y.toNat))) := by
 rw [shift_shr .u32 yk _ y h0 (by simp [IntKind.bits]; omega), I32_shr _ _ yF]
@[go_sem ↓] theorem wrap_32 (x : Int) : IntKind.wrap .u32 x = I32 (w32 x) := (qEh x).symm
@[go_sem] theorem cast_32 (x : UInt32) : ((x.toNat : Nat) : Int) = I32 x := rfl
@[go_sem] theorem w32_lit (n : Nat) : w32 (no_index (@OfNat.ofNat Int n _)) = @OfNat.ofNat UInt32 n _ := by
 show w32 ((n : Nat) : Int) = _
 unfold w32; apply UInt32.eq_of_toBitVec_eq; rw [BitVec.ofInt_natCast]; rfl
theorem w32_nat (n : Nat) : w32 ((n : Nat) : Int) = UInt32.ofNat n := by
 unfold w32; apply UInt32.eq_of_toBitVec_eq; rw [BitVec.ofInt_natCast]; rfl
theorem w64_add (x y : Int) : w64 (x + y) = w64 x + w64 y := by unfold w64; apply UInt64.eq_of_toBitVec_eq; simp [BitVec.ofInt_add]
@[go_sem ↓] theorem arith_add_64 (x y : Int) : Op.intArith .add .u64 x y = pure (.int .u64 (I64 (w64 x + w64 y))) := by rw [← w64_add, qEg]; rfl
theorem w64_sub (x y : Int) : w64 (x - y) = w64 x - w64 y := by unfold w64; apply UInt64.eq_of_toBitVec_eq; simp [Int.sub_eq_add_neg, BitVec.ofInt_add, BitVec.ofInt_neg, BitVec.sub_eq_add_neg]
@[go_sem ↓] theorem arith_sub_64 (x y : Int) : Op.intArith .sub .u64 x y = pure (.int .u64 (I64 (w64 x - w64 y))) := by rw [← w64_sub, qEg]; rfl
theorem w64_mul (x y : Int) : w64 (x * y) = w64 x * w64 y := by unfold w64; apply UInt64.eq_of_toBitVec_eq; simp [BitVec.ofInt_mul]
@[go_sem ↓] theorem arith_mul_64 (x y : Int) : Op.intArith .mul .u64 x y = pure (.int .u64 (I64 (w64 x * w64 y))) := by rw [← w64_mul, qEg]; rfl
theorem bits_and_64' (x y : Int) : bits .and .u64 x y = I64 (w64 x &&& w64 y) :=
 IntWalk.u64_in _ (by have := (BitVec.ofInt 64 x &&& BitVec.ofInt 64 y).isLt; constructor; exact Int.natCast_nonneg _; simp only [IntKind.bits]; omega)
@[go_sem ↓] theorem bits_and_64 (x y : Int) : Op.intBits .and .u64 x y = pure (.int .u64 (I64 (w64 x &&& w64 y))) := by rw [intBits_and, bits_and_64']
theorem bits_or_64' (x y : Int) : bits .or .u64 x y = I64 (w64 x ||| w64 y) :=
 IntWalk.u64_in _ (by have := (BitVec.ofInt 64 x ||| BitVec.ofInt 64 y).isLt; constructor; exact Int.natCast_nonneg _; simp only [IntKind.bits]; omega)
@[go_sem ↓] theorem bits_or_64 (x y : Int) : Op.intBits .or .u64 x y = pure (.int .u64 (I64 (w64 x ||| w64 y))) := by rw [intBits_or, bits_or_64']
theorem bits_xor_64' (x y : Int) : bits .xor .u64 x y = I64 (w64 x ^^^ w64 y) :=
 IntWalk.u64_in _ (by have := (BitVec.ofInt 64 x ^^^ BitVec.ofInt 64 y).isLt; constructor; exact Int.natCast_nonneg _; simp only [IntKind.bits]; omega)
@[go_sem ↓] theorem bits_xor_64 (x y : Int) : Op.intBits .xor .u64 x y = pure (.int .u64 (I64 (w64 x ^^^ w64 y))) := by rw [intBits_xor, bits_xor_64']
@[go_sem ↓] theorem unary_xor_64 (x : Int) : Op.unary .xor (.int .u64 x) = pure (.int .u64 (I64 (~~~ w64 x))) := by
 show Op.intBits .xor .u64 _ x = _
 rw [bits_xor_64]; congr 3
@[go_sem] theorem not_64 (x : UInt64) : w64 (IntKind.max .u64) ^^^ x = ~~~ x := by
 rw [show w64 (IntKind.max .u64) = -1 from rfl]; apply UInt64.eq_of_toBitVec_eq; simp
@[go_sem ↓] theorem conv_64 (x : Int) : Conv.intToInt .u64 x = pure (.int .u64 (I64 (w64 x))) := by rw [qEg]; rfl
theorem w64_shl (x : Int) (n : Nat) (h : n < 64) : w64 (x * 2 ^ n) = w64 x <<< UInt64.ofNat n := by
 apply UInt64.eq_of_toBitVec_eq
 simp only [w64, UInt64.toBitVec_shiftLeft]
 have e : ((UInt64.ofNat n).toBitVec % (64 : BitVec 64)) = BitVec.ofNat 64 n := by
  apply BitVec.eq_of_toNat_eq; simp; omega
 have e2 : BitVec.ofInt 64 (2 ^ n) = BitVec.twoPow 64 n := by
  apply BitVec.eq_of_toNat_eq; rw [BitVec.toNat_twoPow]; rw [show ((2 : Int) ^ n) = ((2 ^ n : Nat) : Int) from by simp, BitVec.ofInt_natCast, BitVec.toNat_ofNat]
 rw [BitVec.ofInt_mul, e, e2, BitVec.shiftLeft_eq', BitVec.mul_twoPow_eq_shiftLeft, BitVec.toNat_ofNat, Nat.mod_eq_of_lt (show n < 2 ^ 64 by omega)]
@[go_sem ↓] theorem shl_64 (x y : Int) (yk : IntKind) (h0 : 0 ≤ y) (h1 : y ≤ 63) : Op.shift .shl .u64 x yk y = pure (.int .u64 (I64 (w64 x <<< UInt64.ofNat y.toNat))) := by
 rw [shift_shl .u64 yk x y h0 (by simp [IntKind.bits]; omega), ← qEg, w64_shl _ _ yF]
theorem I64_shr (x : UInt64) (n : Nat) (h : n < 64) : I64 x / 2 ^ n = I64 (x >>> UInt64.ofNat n) := by
 unfold I64; simp [Nat.shiftRight_eq_div_pow]; rw [Nat.mod_eq_of_lt h]
@[go_sem ↓] theorem shr_64 (x : UInt64) (y : Int) (yk : IntKind) (h0 : 0 ≤ y) (h1 : y ≤ 63) : Op.shift .shr .u64 (I64 x) yk y = pure (.int .u64 (I64 (x >>> UInt64.ofNat y.toNat))) := by
 rw [shift_shr .u64 yk _ y h0 (by simp [IntKind.bits]; omega), I64_shr _ _ yF]
theorem I64_mod (x y : UInt64) : I64 x % I64 y = I64 (x % y) := by unfold I64; simp
theorem I64_lt (x y : UInt64) : I64 x < I64 y ↔ x < y := by unfold I64; rw [UInt64.lt_iff_toNat_lt]; omega
theorem I64_le (x y : UInt64) : I64 x ≤ I64 y ↔ x ≤ y := by unfold I64; rw [UInt64.le_iff_toNat_le]; omega
@[go_sem ↓] theorem wrap_64 (x : Int) : IntKind.wrap .u64 x = I64 (w64 x) := (qEg x).symm
@[go_sem] theorem cast_64 (x : UInt64) : ((x.toNat : Nat) : Int) = I64 x := rfl
@[go_sem] theorem w64_lit (n : Nat) : w64 (no_index (@OfNat.ofNat Int n _)) = @OfNat.ofNat UInt64 n _ := by
 show w64 ((n : Nat) : Int) = _
 unfold w64; apply UInt64.eq_of_toBitVec_eq; rw [BitVec.ofInt_natCast]; rfl
theorem qBM (n : Nat) : w64 ((n : Nat) : Int) = UInt64.ofNat n := by
 unfold w64; apply UInt64.eq_of_toBitVec_eq; rw [BitVec.ofInt_natCast]; rfl
@[go_sem] theorem w32_I8 (x : UInt8) : w32 (I8 x) = x.toUInt32 := by unfold I8; rw [w32_nat]; simp
@[go_sem] theorem w64_I8 (x : UInt8) : w64 (I8 x) = x.toUInt64 := by unfold I8; rw [qBM]; simp
@[go_sem] theorem w8_I32 (x : UInt32) : w8 (I32 x) = x.toUInt8 := by unfold I32; rw [qEj]; simp
@[go_sem] theorem w64_I32 (x : UInt32) : w64 (I32 x) = x.toUInt64 := by unfold I32; rw [qBM]; simp
@[go_sem] theorem w8_I64 (x : UInt64) : w8 (I64 x) = x.toUInt8 := by unfold I64; rw [qEj]; simp
@[go_sem] theorem w32_I64 (x : UInt64) : w32 (I64 x) = x.toUInt32 := by unfold I64; rw [w32_nat]; simp
end TL
end Go

namespace Go
namespace TL
open Go.RowKit
/-! ### setCells: the frame -/
theorem size_setCells (b : Nat) : ∀ (vs : List Value) (o : Nat) (w : World), (w.setCells b o vs).heap.size = w.heap.size
 | [], _, _ => rfl
 | v :: r, o, w => by rw [World.setCells, size_setCells b r]; simp
theorem below_setCells {B b : Nat} (hb : B ≤ b) {a : World} : ∀ (vs : List Value) (o : Nat) (w : World), Below B a w → Below B a (w.setCells b o vs)
 | [], _, _, h => h
 | v :: r, o, w, h => by rw [World.setCells]; exact below_setCells hb r (o + 1) _ (h.setCell hb v)
theorem qCM (b : Nat) : ∀ (vs : List Value) (o : Nat) (w : World) (k : Nat), k ≠ b → (w.setCells b o vs).heap[k]? = w.heap[k]?
 | [], _, _, _, _ => rfl
 | v :: r, o, w, k, h => by rw [World.setCells, qCM b r _ _ k h]; exact Below.heap_setCell _ _ _ _ h
theorem qDr (b : Nat) : ∀ (vs : List Value) (o : Nat) (w : World), (w.setCells b o vs).tape = w.tape
 | [], _, _ => rfl
 | v :: r, o, w => by rw [World.setCells, qDr b r]; simp
theorem os_setCells (b : Nat) : ∀ (vs : List Value) (o : Nat) (w : World), (w.setCells b o vs).os = w.os
 | [], _, _ => rfl
 | v :: r, o, w => by rw [World.setCells, os_setCells b r]; rfl
theorem output_setCells (b : Nat) : ∀ (vs : List Value) (o : Nat) (w : World), (w.setCells b o vs).output = w.output
 | [], _, _ => rfl
 | v :: r, o, w => by rw [World.setCells, output_setCells b r]; rfl
theorem qBH (w : World) (b o : Nat) (vs : List Value) : w.grownBy (w.setCells b o vs) (some b) :=
 ⟨os_setCells b vs o w, qDr b vs o w, output_setCells b vs o w, Nat.le_of_eq (size_setCells b vs o w).symm, fun k _ hne => qCM b vs o w k (fun e => hne (by rw [e]))⟩
theorem grownBy_refl (w : World) (row : Option Nat) : w.grownBy w row := ⟨rfl, rfl, rfl, Nat.le_refl _, fun _ _ _ => rfl⟩
theorem grownBy_drew (w : World) (row : Option Nat) : w.grownBy w.drew row := ⟨rfl, rfl, rfl, Nat.le_refl _, fun _ _ _ => rfl⟩
theorem grownBy_trans {a b c : World} {row : Option Nat} (h : a.grownBy b row) (k : b.grownBy c row) : a.grownBy c row :=
 ⟨k.os.trans h.os, k.tape.trans h.tape, k.output.trans h.output, Nat.le_trans h.size k.size, fun i hi hne => (k.block i (Nat.lt_of_lt_of_le hi h.size) hne).trans (h.block i hi hne)⟩
theorem grownBy_setCell (w : World) (a : Addr) (v : Value) : w.grownBy (w.setCell a v) (some a.block) :=
 ⟨rfl, rfl, rfl, by simp, fun k _ hne => Below.heap_setCell _ _ _ _ (fun e => hne (by rw [e]))⟩
theorem qBQ {w w' : World} (h : Below w.heap.size w w') (row : Option Nat) : w.grownBy w' row :=
 ⟨h.os, h.tape, h.output, h.size, fun k hk _ => h.block k hk⟩
theorem qBp {B : Nat} {w w' : World} {row : Option Nat} (h : w.grownBy w' row) (hB : B ≤ w.heap.size) (hr : ∀ k, row = some k → B ≤ k) : Below B w w' :=
 (Below.refl B w).grown h hB hr
/-! ### ranges -/
theorem rangeAt_of_block {w w' : World} {g o : Nat} {xs : List Value} (h : w.rangeAt g o xs) (hb : w'.heap[g]? = w.heap[g]?) : w'.rangeAt g o xs := fun j v hv => by
 rw [World.cell?_of_block (w := w) (w' := w') (a := ⟨g, o + j, none⟩) hb]; exact h j v hv
theorem qAZ {w w' : World} {g o n : Nat} (h : w.there g o n) (hb : w'.heap[g]? = w.heap[g]?) : w'.there g o n := fun j hj => by
 rw [World.cell?_of_block (w := w) (w' := w') (a := ⟨g, o + j, none⟩) hb, World.frozen?_of_block (w := w) (w' := w') (a := ⟨g, o + j, none⟩) hb]; exact h j hj
theorem qBA {w : World} {g o : Nat} {xs : List Value} (h : w.rangeAt g o xs) (k : Nat) : w.rangeAt g o (xs.take k) := fun j v hv => by
 rw [List.getElem?_take] at hv; split at hv
 ·exact h j v hv
 ·cases hv
theorem qBF {w : World} {g o : Nat} {xs : List Value} (h : w.rangeAt g o xs) (k : Nat) : w.rangeAt g (o + k) (xs.drop k) := fun j v hv => by
 rw [List.getElem?_drop] at hv; rw [Nat.add_assoc]; exact h _ v hv
theorem qAr {w : World} {g o n m : Nat} (h : w.there g o n) (hm : m ≤ n) : w.there g o m := fun j hj => h j yF
theorem qBI {w : World} {g o n : Nat} (h : w.there g o n) (k : Nat) : w.there g (o + k) (n - k) := fun j hj => by
 rw [Nat.add_assoc]; exact h (k + j) yF
theorem qCC (w : World) (g o : Nat) : w.rangeAt g o [] := fun j v hv => by simp at hv
theorem qAv {w : World} {g o : Nat} {xs ys : List Value} (h : w.rangeAt g o xs) (k : w.rangeAt g (o + xs.length) ys) : w.rangeAt g o (xs ++ ys) := fun j v hv => by
 rw [List.getElem?_append] at hv; split at hv
 ·exact h j v hv
 ·have := k (j - xs.length) v hv; rw [show o + xs.length + (j - xs.length) = o + j by omega] at this; exact this
theorem qBq {w : World} {g o : Nat} {xs : List Value} (h : w.rangeAt g o xs) (i : Nat) (hi : i < xs.length) (u : Value) : (w.setCell ⟨g, o + i, none⟩ u).rangeAt g o (xs.set i u) := fun j v hv => by
 by_cases e : i = j
 ·subst e; rw [List.getElem?_set_self hi] at hv; cases hv
  exact World.cell?_setCell_same _ _ _ (h i _ (List.getElem?_eq_getElem hi))
 ·rw [List.getElem?_set_ne e] at hv
  rw [World.cell?_setCell_other _ _ _ _ (by intro e2; injection e2; omega)]; exact h j v hv
theorem qAc {w : World} {g o : Nat} {xs : List Value} (h : w.rangeAt g o xs) (a : Addr) (ha : a.block ≠ g ∨ a.off < o ∨ o + xs.length ≤ a.off) (u : Value) : (w.setCell a u).rangeAt g o xs := fun j v hv => by
 have hj : j < xs.length := (List.getElem?_eq_some_iff.1 hv).1
 rw [World.cell?_setCell_other _ _ _ _ (by intro e; subst e; simp at ha; omega)]; exact h j v hv
theorem qAo {w : World} {g o n : Nat} (h : w.there g o n) (a : Addr) (u : Value) : (w.setCell a u).there g o n := fun j hj => by
 obtain ⟨h1, h2⟩ := h j hj
 refine ⟨?_, by rw [World.frozen?_setCell]; exact h2⟩
 obtain ⟨x, hx⟩ := Option.isSome_iff_exists.1 h1
 by_cases e : a = ⟨g, o + j, none⟩
 ·subst e; rw [World.cell?_setCell_same _ _ _ hx]; rfl
 ·rw [World.cell?_setCell_other _ _ _ _ e, hx]; rfl
theorem qBC (w : World) (C : Array Value) (t : TypeId) (fr : Nat × Nat) : (w.alloc (.cells C t fr)).rangeAt w.heap.size 0 C.toList := fun j v hv => by
 rw [World.cell?_alloc_mark, Nat.zero_add]; simpa using hv
theorem qBP (w : World) (C : Array Value) (t : TypeId) (n : Nat) (hn : n ≤ C.size) : (w.alloc (.cells C t)).there w.heap.size 0 n := fun j hj => by
 refine ⟨?_, World.frozen?_alloc_new _ _ _ _⟩
 rw [World.cell?_alloc_new, Array.getElem?_eq_getElem yF]; rfl
theorem rangeAt.lt {w : World} {g o : Nat} {xs : List Value} (h : w.rangeAt g o xs) (hx : xs ≠ []) : g < w.heap.size := by
 cases xs with
 | nil => exact absurd rfl hx
 | cons a r => exact World.block_lt_of_cell? _ _ (h 0 a rfl)
/-! ### a slice that is seen; a slice that is owned -/
def Sees (w : World) (size : Nat) (v : Value) (n : Nat) (xs : List Value) : Prop :=
 xs.length = n * size ∧ (((∃ a, v = .slice a 0 0) ∧ n = 0) ∨ ∃ g o cap, v = .slice (some ⟨g, o, none⟩) n cap ∧ g < w.heap.size ∧ n ≤ cap ∧ cap ≤ maxLen ∧ w.rangeAt g o xs)
def Own (w : World) (base size : Nat) (v : Value) (n : Nat) (xs : List Value) : Prop :=
 xs.length = n * size ∧ ((v = .slice none 0 0 ∧ n = 0) ∨ ∃ g o cap, v = .slice (some ⟨g, o, none⟩) n cap ∧ base ≤ g ∧ g < w.heap.size ∧ n ≤ cap ∧ cap ≤ maxLen ∧ w.rangeAt g o xs ∧ w.there g o (cap * size))
theorem Own.sees {w : World} {base size : Nat} {v : Value} {n : Nat} {xs : List Value} (h : Own w base size v n xs) : Sees w size v n xs :=
 ⟨h.1, h.2.imp (fun ⟨hv, hn⟩ => ⟨⟨none, hv⟩, hn⟩) fun ⟨g, o, cap, hv, _, hg, hn, hc, hr, _⟩ => ⟨g, o, cap, hv, hg, hn, hc, hr⟩⟩
theorem Own_nil (w : World) (base size : Nat) : Own w base size (.slice none 0 0) 0 [] := ⟨by simp, .inl ⟨rfl, rfl⟩⟩
theorem Sees_nil (w : World) (size : Nat) : Sees w size (.slice none 0 0) 0 [] := ⟨by simp, .inl ⟨⟨none, rfl⟩, rfl⟩⟩
section
variable {w w' : World} {base size : Nat} {v : Value} {n : Nat} {xs : List Value}
theorem Own.kept {row : Option Nat} (h : Own w base size v n xs) (hg : w.grownBy w' row) (hne : v.ownBlock = none ∨ v.ownBlock ≠ row) : Own w' base size v n xs := by
 refine ⟨h.1, h.2.imp id ?_⟩
 rintro ⟨g, o, cap, rfl, hb, hlt, hn, hc, hr, ht⟩
 have e : w'.heap[g]? = w.heap[g]? := hg.block g hlt (by simpa [Value.ownBlock] using hne)
 exact ⟨g, o, cap, rfl, hb, Nat.lt_of_lt_of_le hlt hg.size, hn, hc, rangeAt_of_block hr e, qAZ ht e⟩
theorem Sees.kept {row : Option Nat} (h : Sees w size v n xs) (hg : w.grownBy w' row) (hne : v.ownBlock = none ∨ v.ownBlock ≠ row) : Sees w' size v n xs := by
 refine ⟨h.1, h.2.imp id ?_⟩
 rintro ⟨g, o, cap, rfl, hlt, hn, hc, hr⟩
 have e : w'.heap[g]? = w.heap[g]? := hg.block g hlt (by simpa [Value.ownBlock] using hne)
 exact ⟨g, o, cap, rfl, Nat.lt_of_lt_of_le hlt hg.size, hn, hc, rangeAt_of_block hr e⟩
theorem Own.below (h : Own w base size v n xs) (hb : Below w.heap.size w w') : Own w' base size v n xs :=
 h.kept (qBQ hb none) (by cases v.ownBlock <;> simp)
theorem Sees.below (h : Sees w size v n xs) (hb : Below w.heap.size w w') : Sees w' size v n xs :=
 h.kept (qBQ hb none) (by cases v.ownBlock <;> simp)
theorem Own.mono {b' : Nat} (h : Own w base size v n xs) (hb : b' ≤ base) : Own w b' size v n xs :=
 ⟨h.1, h.2.imp id fun ⟨g, o, cap, hv, h1, h2⟩ => ⟨g, o, cap, hv, by omega, h2⟩⟩
theorem Own.alloc (h : Own w base size v n xs) (o : Obj) : Own (w.alloc o) base size v n xs :=
 h.below ((Below.refl _ _).alloc (Nat.le_refl _) o)
theorem Sees.alloc (h : Sees w size v n xs) (o : Obj) : Sees (w.alloc o) size v n xs :=
 h.below ((Below.refl _ _).alloc (Nat.le_refl _) o)
theorem Own.drew (h : Own w base size v n xs) : Own w.drew base size v n xs := h
theorem Sees.drew (h : Sees w size v n xs) : Sees w.drew size v n xs := h
theorem Own.setCell (h : Own w base size v n xs) (a : Addr) (ha : v.ownBlock ≠ some a.block) (u : Value) : Own (w.setCell a u) base size v n xs :=
 h.kept (grownBy_setCell w a u) (.inr ha)
theorem Sees.setCell (h : Sees w size v n xs) (a : Addr) (ha : v.ownBlock ≠ some a.block) (u : Value) : Sees (w.setCell a u) size v n xs :=
 h.kept (grownBy_setCell w a u) (.inr ha)
theorem Own.base_le (h : Own w base size v n xs) {g : Nat} (hg : v.ownBlock = some g) : base ≤ g ∧ g < w.heap.size := by
 rcases h.2 with ⟨rfl, _⟩ | ⟨g', o, cap, rfl, hb, hlt, _⟩
 ·simp [Value.ownBlock] at hg
 ·simp [Value.ownBlock] at hg; subst hg; exact ⟨hb, hlt⟩
theorem Sees.form (h : Sees w size v n xs) : ∃ a cap, v = .slice a n cap ∧ n ≤ cap := by
 rcases h.2 with ⟨⟨a, rfl⟩, rfl⟩ | ⟨g, o, cap, rfl, _, h1, _⟩
 ·exact ⟨a, 0, rfl, Nat.le_refl _⟩
 ·exact ⟨_, cap, rfl, h1⟩
variable {P : Program}
theorem Sees.run_len (h : Sees w size v n xs) (t e ty : TypeId) (ht : P.underlying t = some (.slice e)) : ∀ w'' : World, (Builtin.len_ #[t] ty #[v]).run P w'' = .ok (.int .i64 (n : Int)) w'' := fun w'' => by
 obtain ⟨a, cap, rfl, _⟩ := h.form
 simp [Builtin.len_, run_underlying ht, goInt]
theorem Sees.run_lenOf (h : Sees w size v n xs) : ∀ w'' : World, (Builtin.lenOf v).run P w'' = .ok n w'' := fun w'' => by
 obtain ⟨a, cap, rfl, _⟩ := h.form
 simp [Builtin.lenOf]
theorem qEW {g o : Nat} (h : w.rangeAt g o xs) : (loadCells ⟨g, o, none⟩ xs.length).run P w = .ok xs.toArray w :=
 run_loadCells_list (P := P) w ⟨g, o, none⟩ xs (fun j v hv => by rw [Addr.add_mid]; exact h j v hv)
theorem Sees.run_firstCells (h : Sees w size v n xs) (m : Nat) (hm : m ≤ n) : (Builtin.firstCells size m v).run P w = .ok (xs.take (m * size)).toArray w := by
 have hl : (xs.take (m * size)).length = m * size := by
  rw [List.length_take, h.1]; exact Nat.min_eq_left (Nat.mul_le_mul_right _ hm)
 rcases h.2 with ⟨⟨a, rfl⟩, rfl⟩ | ⟨g, o, cap, rfl, _, _, _, hr⟩
 ·have : m = 0 := by omega
  subst this; cases a <;> simp [Builtin.firstCells, loadCells, loadCellsFrom]
 ·simp only [Builtin.firstCells]
  have := qEW (P := P) (qBA hr (m * size))
  rwa [hl] at this
theorem qBL {g o : Nat} (vs : List Value) (ht : w.there g o vs.length) (h1 : ∀ u ∈ vs, u.oneCell' = true) : (storeCells ⟨g, o, none⟩ vs).run P w = .ok () (w.setCells g o vs) := by
 have := run_storeCells_cells (P := P) g o vs 0 w (fun j hj => by simpa using (ht j hj).1) (fun j hj => by simpa using (ht j hj).2) h1
 simpa using this
structure SliceT (P : Program) (t e : TypeId) (size bytes : Nat) : Prop where
 ht : P.underlying t = some (.slice e)
 hi : ∃ i z, P.info? e = some i ∧ i.zero = some z ∧ i.size = size ∧ i.bytes = bytes ∧ z.cells.size = size
 hsz : 0 < size
def Src (P : Program) (w : World) (size : Nat) (x : Value) (m : Nat) (news : List Value) : Prop :=
 news.length = m * size ∧ (∀ q ∈ news, q.oneCell' = true) ∧ (∀ w'' : World, (Builtin.lenOf x).run P w'' = .ok m w'') ∧
  (∀ (w'' : World) (k : Nat), k ≤ m → w.grownBy w'' none → (Builtin.firstCells size k x).run P w'' = .ok (news.take (k * size)).toArray w'')
theorem qBg {x : Value} {m : Nat} {news : List Value} (h : Sees w size x m news) (h1 : ∀ q ∈ news, q.oneCell' = true) : Src P w size x m news :=
 ⟨h.1, h1, h.run_lenOf, fun w'' k hk hg => (h.kept hg (by cases x.ownBlock <;> simp)).run_firstCells k hk⟩
theorem qGD (base : Nat) (t u ty e : TypeId) (size bytes : Nat) (T : SliceT P t e size bytes) (hu : P.underlying u = some .string ∨ ∃ e', P.underlying u = some (.slice e'))
  (v : Value) (n : Nat) (xs : List Value) (hown : Own w base size v n xs)
  (x : Value) (m : Nat) (news : List Value) (hsrc : Src P w size x m news)
  (h63 : n + m ≤ maxLen) (hbytes : (n + m) * bytes ≤ 140737488355328) (hbase : base ≤ w.heap.size) :
  ∃ v' w', (Builtin.append_ #[t, u] ty #[v, x]).run P w = .ok v' w' ∧ Own w' base size v' (n + m) (xs ++ news) ∧ w.grownBy w' v.ownBlock ∧
   (v'.ownBlock = v.ownBlock ∨ v'.ownBlock = some w.heap.size) ∧ (v = .slice none 0 0 → m = 0 → v' = .slice none 0 0 ∧ w' = w) := by
 obtain ⟨ht, ⟨i, z, hi, hz, hsize, hby, hzs⟩, hsz⟩ := T
 obtain ⟨hl, h1, hlen, hfirst'⟩ := hsrc
 have hfirst : ∀ w'' : World, w.grownBy w'' none → (Builtin.firstCells size m x).run P w'' = .ok news.toArray w'' := fun w'' hg => by
  have := hfirst' w'' m (Nat.le_refl _) hg
  rwa [← hl, List.take_length] at this
 clear hfirst'
 obtain ⟨du, hu, hui⟩ : ∃ du, P.underlying u = some du ∧ (du = .string ∨ ∃ e', du = .slice e') := by
  rcases hu with hu | ⟨e', hu⟩
  ·exact ⟨_, hu, .inl rfl⟩
  ·exact ⟨_, hu, .inr ⟨e', rfl⟩⟩
 subst hsize; subst hby
 have hlen2 : (xs ++ news).length = (n + m) * i.size := by rw [List.length_append, hown.1, hl, Nat.add_mul]
 have h0 := hfirst w (grownBy_refl w none)
 obtain ⟨a, sCap, hv, hnc⟩ := hown.sees.form
 by_cases hroom : n + m ≤ sCap
 ·
  rcases hown.2 with ⟨rfl, hn0⟩ | ⟨g, o, cap, rfl, hbg, hlt, hnc', hcm, hr, hth⟩
  ·have hc0 : sCap = 0 := by injection hv with _ _ h3; exact h3.symm
   have hm0 : m = 0 := by omega
   subst hn0; subst hm0
   have hn : news = [] := List.eq_nil_of_length_eq_zero (by simpa using hl)
   have hx : xs = [] := List.eq_nil_of_length_eq_zero (by simpa using hown.1)
   subst hn; subst hx
   refine ⟨.slice none 0 0, w, ?_, Own_nil w base i.size, grownBy_refl _ _, .inl rfl, fun _ _ => ⟨rfl, rfl⟩⟩
   rcases hui with rfl | ⟨e', rfl⟩ <;> simp [Builtin.append_, run_underlying ht, run_underlying hu, sizeOf, typeInfo, hi, hlen, h0]
  ·have hc : sCap = cap := by injection hv with _ _ h3; exact h3.symm
   subst hc
   have hthn : w.there g (o + n * i.size) news.length := by
    have := qBI hth (n * i.size)
    refine qAr this ?_
    rw [hl, ← Nat.sub_mul]; exact Nat.mul_le_mul_right _ yF
   have hst := qBL (P := P) news hthn h1
   refine ⟨.slice (some ⟨g, o, none⟩) (n + m) sCap, w.setCells g (o + n * i.size) news, ?_, ⟨hlen2, .inr ⟨g, o, sCap, rfl, hbg, by rw [size_setCells]; exact hlt, hroom, hcm, ?_, ?_⟩⟩, qBH _ _ _ _, .inl rfl, fun h => by cases h⟩
   ·rcases hui with rfl | ⟨e', rfl⟩ <;> simp [Builtin.append_, run_underlying ht, run_underlying hu, sizeOf, typeInfo, hi, hlen, h0, hroom, Addr.add_mid, hst]
   ·refine qAv (World.rangeAt_setCells_apart hr _ _ _ (.inr (.inl (by rw [hown.1]; omega)))) ?_
    rw [hown.1]; exact World.rangeAt_setCells_same _ _ _ _ hthn
   ·exact World.there_setCells hth _ _ _
 ·
  have hgrow : sCap < n + m := by omega
  have h63' : ¬ (9223372036854775807 < ((n : Int) + (m : Int))) := by simp only [maxLen] at h63; omega
  have h48' : ¬ (281474976710656 < Builtin.nextslicecap (n + m) sCap * i.bytes) := by have := growslice_fits hgrow hbytes; omega
  have hold : (Builtin.firstCells i.size n v).run P w.drew = .ok xs.toArray w.drew := by
   have := Sees.run_firstCells (P := P) (hown.sees.drew) n (Nat.le_refl _)
   rwa [← hown.1, List.take_length] at this
  have hnew := hfirst w.drew (grownBy_drew w none)
  have hge := grownCap_ge w (n + m) sCap e
  have hcm : grownCap w (n + m) sCap e ≤ maxLen := grownCap_le_maxLen w (n + m) sCap e h63
  have hsizeC : (xs.toArray ++ news.toArray ++ Builtin.zeroCells z.cells (grownCap w (n + m) sCap e - (n + m))).size = grownCap w (n + m) sCap e * i.size := by
   simp only [Array.size_append, List.size_toArray, size_zeroCells, hzs, hown.1, hl, ← Nat.add_mul]
   congr 1; omega
  refine ⟨.slice (some ⟨w.heap.size, 0, none⟩) (n + m) (grownCap w (n + m) sCap e), w.drew.alloc (.cells (xs.toArray ++ news.toArray ++ Builtin.zeroCells z.cells (grownCap w (n + m) sCap e - (n + m))) e), ?_,
   ⟨hlen2, .inr ⟨w.heap.size, 0, _, rfl, hbase, by simp, hge, hcm, ?_, qBP w.drew _ _ _ (Nat.le_of_eq hsizeC.symm)⟩⟩, ⟨rfl, rfl, rfl, by simp, fun k hk _ => Below.heap_alloc w.drew _ k hk⟩, .inr rfl, fun hv0 hm0 => ?_⟩
  ·subst hv
   have hnr : ¬ (n + m ≤ sCap) := by omega
   rcases hui with rfl | ⟨e', rfl⟩ <;> simp [Builtin.append_, run_underlying ht, run_underlying hu, sizeOf, typeInfo, zeroValue, hi, hz, hlen, hnr, h63', h48', Question.forced, hold, hnew, newRow, grownCap]
   all_goals (congr 2; apply Array.ext'; simp [List.append_assoc])
  ·have := qBC w.drew (xs.toArray ++ news.toArray ++ Builtin.zeroCells z.cells (grownCap w (n + m) sCap e - (n + m))) e (0, 0)
   have h2 := qBA this ((n + m) * i.size)
   simp only [Array.toList_append] at h2
   rw [← hlen2, List.take_left' rfl] at h2
   exact h2
  ·subst hv0; injection hv with _ h2 h3; omega
theorem qFC {o : Oper} {a : Act} {K : Act → World → Prop} {Q : Exit → Act → World → Prop} {t e : TypeId} {size bytes : Nat} (T : SliceT P t e size bytes) (s x : Operand) (u : TypeId)
  (ho : o.op = .call { callee := .builtin .append, args := #[s, x], argTypes := #[t, u] }) (hu : P.underlying u = some .string ∨ ∃ e', P.underlying u = some (.slice e'))
  (base : Nat) (v : Value) (n : Nat) (xs : List Value) (hs : a.eval s = v) (hown : Own w base size v n xs)
  (xv : Value) (m : Nat) (news : List Value) (hx : a.eval x = xv) (hsrc : Src P w size xv m news)
  (h63 : n + m ≤ maxLen) (hbytes : (n + m) * bytes ≤ 140737488355328) (hbase : base ≤ w.heap.size)
  (h : ∀ v' w', Own w' base size v' (n + m) (xs ++ news) → w.grownBy w' v.ownBlock → (v'.ownBlock = v.ownBlock ∨ v'.ownBlock = some w.heap.size) → (v = .slice none 0 0 → m = 0 → v' = .slice none 0 0 ∧ w' = w) → K (a.put o.dst v') w') : o.wp P a w K Q := by
 obtain ⟨v', w', hr, h2, h3, h4, h5⟩ := qGD (P := P) (w := w) base t u o.type e size bytes T hu v n xs hown xv m news hsrc h63 hbytes hbase
 unfold Oper.wp execOp
 simp only [ho, resolve, invoke, builtin, Sem.run_bind, Sem.run_pure, Result.andThen_ok, List.map_toArray, List.map_cons, List.map_nil, hs, hx, hr]
 exact h v' w' h2 h3 h4 h5
theorem qDm {ops : Array Oper} {rest : List Oper} {o : Oper} {a : Act} {Q : Exit → Act → World → Prop} {t e : TypeId} {size bytes : Nat} (T : SliceT P t e size bytes) (hgd : o.guard = none) (s x : Operand) (u : TypeId)
  (ho : o.op = .call { callee := .builtin .append, args := #[s, x], argTypes := #[t, u] }) (hu : P.underlying u = some .string ∨ ∃ e', P.underlying u = some (.slice e'))
  (base : Nat) (v : Value) (n : Nat) (xs : List Value) (hs : a.eval s = v) (hown : Own w base size v n xs)
  (xv : Value) (m : Nat) (news : List Value) (hx : a.eval x = xv) (hsrc : Src P w size xv m news)
  (h63 : n + m ≤ maxLen) (hbytes : (n + m) * bytes ≤ 140737488355328) (hbase : base ≤ w.heap.size)
  (h : ∀ v' w', Own w' base size v' (n + m) (xs ++ news) → w.grownBy w' v.ownBlock → (v'.ownBlock = v.ownBlock ∨ v'.ownBlock = some w.heap.size) → (v = .slice none 0 0 → m = 0 → v' = .slice none 0 0 ∧ w' = w) → wpList P ops Q rest (a.put o.dst v') w') : wpList P ops Q (o :: rest) a w :=
 wpList_plain hgd fun _ hK => qFC T s x u ho hu base v n xs hs hown xv m news hx hsrc h63 hbytes hbase fun v' w' h2 h3 h4 h5 => hK _ _ (h v' w' h2 h3 h4 h5)
/-! ### slicing -/
def cutV (size : Nat) (v : Value) (l h : Nat) : Value :=
 match v with
 | .slice a _ cap => .slice (if cap = l then a else a.map (·.add (l * size))) (h - l) (cap - l)
 | v => v
theorem qED (v : Value) (l h : Nat) : (cutV size v l h).ownBlock = v.ownBlock := by
 cases v <;> try rfl
 rename_i a n cap
 simp only [cutV]
 cases a with
 | none => simp [Value.ownBlock]
 | some a =>
  by_cases h : cap = l
  ·simp [Value.ownBlock, h]
  ·simp only [h, if_false, Option.map_some, Value.ownBlock, Addr.add]; split <;> rfl
theorem cut_parts {g o cap l : Nat} : ∃ o', (if cap = l then some (⟨g, o, none⟩ : Addr) else some ((⟨g, o, none⟩ : Addr).add (l * size))) = some ⟨g, o', none⟩ ∧ (cap = l ∨ o' = o + l * size) := by
 by_cases h : cap = l
 ·exact ⟨o, by rw [if_pos h], .inl h⟩
 ·exact ⟨o + l * size, by rw [if_neg h, Addr.add_mid], .inr rfl⟩
theorem Own.cut (h : Own w base size v n xs) (l k : Nat) (hl : l ≤ k) (hk : k ≤ n) : Own w base size (cutV size v l k) (k - l) ((xs.take (k * size)).drop (l * size)) := by
 refine ⟨?_, ?_⟩
 ·rw [List.length_drop, List.length_take, h.1, Nat.min_eq_left (Nat.mul_le_mul_right _ hk), Nat.sub_mul]
 ·rcases h.2 with ⟨rfl, rfl⟩ | ⟨g, o, cap, rfl, hb, hlt, hn, hc, hr, ht⟩
  ·left; have : k = 0 := by omega
   have : l = 0 := by omega
   subst_vars; exact ⟨rfl, rfl⟩
  ·right
   obtain ⟨o', ho', hor⟩ := cut_parts (size := size) (g := g) (o := o) (cap := cap) (l := l)
   refine ⟨g, o', cap - l, by simp only [cutV, Option.map_some]; rw [ho'], hb, hlt, by omega, by omega, ?_, ?_⟩
   ·rcases hor with hor | rfl
    ·have e1 : k = l := by omega
     subst e1
     have : (List.take (k * size) xs).drop (k * size) = [] := List.drop_eq_nil_of_le (List.length_take_le _ _)
     rw [this]; exact qCC _ _ _
    ·exact qBF (qBA hr _) _
   ·rcases hor with hor | rfl
    ·have e1 : cap - l = 0 := by omega
     rw [e1, Nat.zero_mul]; intro j hj; omega
    ·rw [Nat.sub_mul]; exact qBI ht _
theorem Sees.cut (h : Sees w size v n xs) (l k : Nat) (hl : l ≤ k) (hk : k ≤ n) : Sees w size (cutV size v l k) (k - l) ((xs.take (k * size)).drop (l * size)) := by
 refine ⟨?_, ?_⟩
 ·rw [List.length_drop, List.length_take, h.1, Nat.min_eq_left (Nat.mul_le_mul_right _ hk), Nat.sub_mul]
 ·rcases h.2 with ⟨⟨a, rfl⟩, rfl⟩ | ⟨g, o, cap, rfl, hlt, hn, hc, hr⟩
  ·left; have : k = 0 := by omega
   have : l = 0 := by omega
   subst_vars; exact ⟨⟨_, rfl⟩, rfl⟩
  ·right
   obtain ⟨o', ho', hor⟩ := cut_parts (size := size) (g := g) (o := o) (cap := cap) (l := l)
   refine ⟨g, o', cap - l, by simp only [cutV, Option.map_some]; rw [ho'], hlt, by omega, by omega, ?_⟩
   rcases hor with hor | rfl
   ·have e1 : k = l := by omega
    subst e1
    have : (List.take (k * size) xs).drop (k * size) = [] := List.drop_eq_nil_of_le (List.length_take_le _ _)
    rw [this]; exact qCC _ _ _
   ·exact qBF (qBA hr _) _
theorem Sees.run_cut_lo (h : Sees w size v n xs) {t e : TypeId} {bytes : Nat} (T : SliceT P t e size bytes) (l : Int) (h0 : 0 ≤ l) (h1 : l ≤ n) :
  ∀ w'' : World, (Instr.sliceAt t v (some (.int .i64 l)) none none).run P w'' = .ok (cutV size v l.toNat n) w'' := fun w'' => by
 obtain ⟨ht, ⟨i, z, hi, hz, hsize, hby, hzs⟩, hsz⟩ := T
 obtain ⟨a, cap, rfl, hnc⟩ := h.form
 obtain ⟨l, rfl⟩ := Int.eq_ofNat_of_zero_le h0
 have h1' : l ≤ n := by omega
 simp [Instr.sliceAt, Instr.slice, Instr.sliceBounds, Instr.sliceBound, run_underlying ht, asIntOf, sizeOf, typeInfo, hi, hsize, cutV, h1']
theorem Sees.run_cut_hi (h : Sees w size v n xs) {t e : TypeId} {bytes : Nat} (T : SliceT P t e size bytes) (k : Int) (h0 : 0 ≤ k) (h1 : k ≤ n) :
  ∀ w'' : World, (Instr.sliceAt t v none (some (.int .i64 k)) none).run P w'' = .ok (cutV size v 0 k.toNat) w'' := fun w'' => by
 obtain ⟨ht, ⟨i, z, hi, hz, hsize, hby, hzs⟩, hsz⟩ := T
 obtain ⟨a, cap, rfl, hnc⟩ := h.form
 obtain ⟨k, rfl⟩ := Int.eq_ofNat_of_zero_le h0
 have h1' : k ≤ cap := by omega
 simp [Instr.sliceAt, Instr.slice, Instr.sliceBounds, Instr.sliceBound, run_underlying ht, asIntOf, sizeOf, typeInfo, hi, cutV, h1']
theorem Sees.run_cut (h : Sees w size v n xs) {t e : TypeId} {bytes : Nat} (T : SliceT P t e size bytes) (l k : Int) (h0 : 0 ≤ l) (hlk : l ≤ k) (h1 : k ≤ n) :
  ∀ w'' : World, (Instr.sliceAt t v (some (.int .i64 l)) (some (.int .i64 k)) none).run P w'' = .ok (cutV size v l.toNat k.toNat) w'' := fun w'' => by
 obtain ⟨ht, ⟨i, z, hi, hz, hsize, hby, hzs⟩, hsz⟩ := T
 obtain ⟨a, cap, rfl, hnc⟩ := h.form
 obtain ⟨l, rfl⟩ := Int.eq_ofNat_of_zero_le h0
 obtain ⟨k, rfl⟩ := Int.eq_ofNat_of_zero_le (Int.le_trans h0 hlk)
 have h1' : k ≤ cap := by omega
 have h2' : l ≤ k := by omega
 simp [Instr.sliceAt, Instr.slice, Instr.sliceBounds, Instr.sliceBound, run_underlying ht, asIntOf, sizeOf, typeInfo, hi, hsize, cutV, h1', h2']
/-! ### bytes -/
def vb (b : UInt8) : Value := .int .u8 (I8 b)
theorem qDp (l : List UInt8) : ∀ q ∈ l.map vb, q.oneCell' = true := by
 intro q hq; obtain ⟨b, _, rfl⟩ := List.mem_map.1 hq; rfl
abbrev OwnB (w : World) (base : Nat) (v : Value) (l : List UInt8) : Prop := Own w base 1 v l.length (l.map vb)
abbrev SeesB (w : World) (v : Value) (l : List UInt8) : Prop := Sees w 1 v l.length (l.map vb)
theorem SeesB.src {l : List UInt8} (h : SeesB w v l) : Src P w 1 v l.length (l.map vb) := qBg h (qDp l)
theorem qEf (w : World) (s : ByteArray) : Src P w 1 (.string s) s.size (s.data.toList.map vb) := by
 refine ⟨by simp only [List.length_map, Array.length_toList, Nat.mul_one]; rfl, qDp _, fun w'' => by simp [Builtin.lenOf], fun w'' k hk _ => ?_⟩
 simp only [Builtin.firstCells, Nat.mul_one]
 show Result.ok _ _ = _
 congr 1
 apply Array.ext'
 simp only [Array.toList_map, ByteArray.data_extract, Array.toList_extract, List.extract, List.drop_zero, Nat.sub_zero, List.map_take]
 rfl
theorem OwnB.cut {l : List UInt8} (h : OwnB w base v l) (i k : Nat) (hi : i ≤ k) (hk : k ≤ l.length) : OwnB w base (cutV 1 v i k) ((l.take k).drop i) := by
 have := Own.cut h i k hi hk
 simp only [Nat.mul_one, ← List.map_take, ← List.map_drop] at this
 show Own w base 1 _ ((l.take k).drop i).length _
 rw [show ((l.take k).drop i).length = k - i by simp; omega]; exact this
theorem SeesB.cut {l : List UInt8} (h : SeesB w v l) (i k : Nat) (hi : i ≤ k) (hk : k ≤ l.length) : SeesB w (cutV 1 v i k) ((l.take k).drop i) := by
 have := Sees.cut h i k hi hk
 simp only [Nat.mul_one, ← List.map_take, ← List.map_drop] at this
 show Sees w 1 _ ((l.take k).drop i).length _
 rw [show ((l.take k).drop i).length = k - i by simp; omega]; exact this
theorem SeesB.run_string {l : List UInt8} (h : SeesB w v l) (src dst e : TypeId) (hs : P.underlying src = some (.slice e)) (he : P.underlying e = some (.int .u8)) (hd : P.underlying dst = some .string) :
  ∀ w'' : World, w.grownBy w'' none → (convert src dst v).run P w'' = .ok (.string ⟨l.toArray⟩) w'' := fun w'' hg => by
 have h' := h.kept hg (by cases v.ownBlock <;> simp)
 rcases h'.2 with ⟨⟨a, rfl⟩, hn⟩ | ⟨g, o, cap, rfl, _, _, _, hr⟩
 ·have : l = [] := List.eq_nil_of_length_eq_zero hn
  subst this
  cases a with
  | none =>
   rw [run_convert_bytes_string w'' src dst e none 0 0 hs he hd]
   rfl
  | some a => exact run_convert_bytes_back w'' src dst e a 0 [] hs he hd (fun j hj => absurd hj yB1)
 ·exact run_convert_bytes_back w'' src dst e ⟨g, o, none⟩ cap l hs he hd (fun j hj => by
   rw [Addr.add_mid]; exact hr j _ (by simp [vb, I8, List.getElem?_eq_getElem hj]))
theorem Sees.cell (h : Sees w size v n xs) {g o cap : Nat} (hv : v = .slice (some ⟨g, o, none⟩) n cap) (j : Nat) (u : Value) (hu : xs[j]? = some u) : w.cell? ⟨g, o + j, none⟩ = some u := by
 rcases h.2 with ⟨_, h0⟩ | ⟨g', o', cap', rfl, _, _, _, hr⟩
 ·have hl := h.1
  rw [h0, Nat.zero_mul] at hl
  rw [List.eq_nil_of_length_eq_zero hl] at hu; simp at hu
 ·injection hv with h1 h2 h3; injection h1 with h1; injection h1 with h4 h5 h6; subst h4; subst h5; exact hr j u hu
end
end TL
end Go

namespace Go
namespace TL
open Go.RowKit
def FreshOr (w : World) (v v' : Value) : Prop := v'.ownBlock = v.ownBlock ∨ ∃ g, v'.ownBlock = some g ∧ w.heap.size ≤ g
theorem FreshOr.refl (w : World) (v : Value) : FreshOr w v v := .inl rfl
theorem grow_step {w wr w2 : World} {v bv : Value} (h : w.grownBy wr v.ownBlock) (hf : FreshOr w v bv) (k : wr.grownBy w2 bv.ownBlock) : w.grownBy w2 v.ownBlock := by
 refine ⟨k.os.trans h.os, k.tape.trans h.tape, k.output.trans h.output, Nat.le_trans h.size k.size, fun i hi hne => ?_⟩
 refine (k.block i (Nat.lt_of_lt_of_le hi h.size) ?_).trans (h.block i hi hne)
 rcases hf with hf | ⟨g, hg, hge⟩
 ·rw [hf]; exact hne
 ·rw [hg]; intro e; injection e; omega
theorem Src_new {P : Program} (w : World) (t : TypeId) (l : List UInt8) (v : Value) (hv : v = .slice (some ⟨w.heap.size, 0, none⟩) l.length l.length) (hl : l.length ≤ maxLen) :
  Src P (w.alloc (.cells (l.map vb).toArray t)) 1 v l.length (l.map vb) := by
 refine qBg ⟨by simp, .inr ⟨w.heap.size, 0, l.length, hv, by simp, Nat.le_refl _, hl, ?_⟩⟩ (qDp l)
 exact qBC w _ t (0, 0)
theorem wp_append_new {P : Program} {o : Oper} {a : Act} {K : Act → World → Prop} {Q : Exit → Act → World → Prop} {t e : TypeId} (T : SliceT P t e 1 1) (s x : Operand)
  (ho : o.op = .call { callee := .builtin .append, args := #[s, x], argTypes := #[t, t] })
  (base : Nat) (W : World) (bs : List UInt8) (C : Array Value) (t' : TypeId) (hC : C = (bs.map vb).toArray) (v : Value) (l : List UInt8) (hs : a.eval s = v) (hown : OwnB W base v l)
  (hx : a.eval x = .slice (some ⟨W.heap.size, 0, none⟩) bs.length bs.length) (hlen : l.length + bs.length ≤ 100000000000000) (hbase : base ≤ W.heap.size)
  (h : ∀ v' w', OwnB w' base v' (l ++ bs) → W.grownBy w' v.ownBlock → FreshOr W v v' → K (a.put o.dst v') w') : o.wp P a (W.alloc (.cells C t')) K Q := by
 subst hC
 refine qFC T s x t ho (.inr ⟨e, T.ht⟩) base v l.length (l.map vb) hs (hown.alloc _) _ bs.length (bs.map vb) hx (Src_new W t' bs _ rfl yZ) yZ yF yC1 ?_
 intro v' w' h1 h2 h3 _
 refine h v' w' (by simpa [OwnB, List.map_append] using h1) (grownBy_trans (World.grownBy_alloc W _ _) h2) ?_
 rcases h3 with h3 | h3
 ·exact .inl h3
 ·exact .inr ⟨_, h3, by simp⟩
theorem qAw {P : Program} {ops : Array Oper} {rest : List Oper} {o : Oper} {a : Act} {Q : Exit → Act → World → Prop} {t e : TypeId} (T : SliceT P t e 1 1) (hgd : o.guard = none) (s x : Operand)
  (ho : o.op = .call { callee := .builtin .append, args := #[s, x], argTypes := #[t, t] })
  (base : Nat) (W : World) (bs : List UInt8) (C : Array Value) (t' : TypeId) (hC : C = (bs.map vb).toArray) (v : Value) (l : List UInt8) (hs : a.eval s = v) (hown : OwnB W base v l)
  (hx : a.eval x = .slice (some ⟨W.heap.size, 0, none⟩) bs.length bs.length) (hlen : l.length + bs.length ≤ 100000000000000) (hbase : base ≤ W.heap.size)
  (h : ∀ v' w', OwnB w' base v' (l ++ bs) → W.grownBy w' v.ownBlock → FreshOr W v v' → wpList P ops Q rest (a.put o.dst v') w') : wpList P ops Q (o :: rest) a (W.alloc (.cells C t')) :=
 wpList_plain hgd fun _ hK => wp_append_new T s x ho base W bs C t' hC v l hs hown hx hlen hbase fun v' w' h2 h3 h4 => hK _ _ (h v' w' h2 h3 h4)
theorem qCk {w wr : World} {v bv bv' : Value} (hs : w.heap.size ≤ wr.heap.size) (hf : FreshOr w v bv) (k : FreshOr wr bv bv') : FreshOr w v bv' := by
 rcases k with k | ⟨g, hg, hge⟩
 ·rcases hf with hf | ⟨g, hg, hge⟩
  ·exact .inl (k.trans hf)
  ·exact .inr ⟨g, k.trans hg, hge⟩
 ·exact .inr ⟨g, hg, Nat.le_trans hs hge⟩
theorem qEi {P : Program} {ops : Array Oper} {rest : List Oper} {o : Oper} {a : Act} {w : World} {Q : Exit → Act → World → Prop} (hgd : o.guard = none) (t : TypeId) (parts : Array (Nat × Operand)) (ho : o.op = .build t parts)
  (v : Value) (hrun : (Instr.build t (parts.map fun (i, x) => (i, a.eval x))).run P w = .ok v w)
  (h : wpList P ops Q rest (a.put o.dst v) w) : wpList P ops Q (o :: rest) a w :=
 wpList_plain hgd fun _ hK => by
  unfold Oper.wp execOp
  simp only [ho, Sem.run_bind, hrun, Result.andThen_ok]
  exact hK _ _ h
theorem qAS {P : Program} {fn : Func} {p : Tmp} {ty : TypeId} (h : fn.results = #[.cell p ty]) (tmps : Array Value) (w : World) (b o : Nat) (cs : List Value) (d : TypeDesc)
  (hp : tmps.getD p undef = .pointer (some ⟨b, o, none⟩)) (hc : w.rangeAt b o cs) (hu : P.underlying ty = some d) (hd : d.isRow = true) (hi : (P.info? ty).map (·.size) = some cs.length) :
  (results fn tmps).run P w = .ok (.agg cs.toArray) w := by
 have hp' : tmps[p]?.getD undef = .pointer (some ⟨b, o, none⟩) := by simpa using hp
 simp [results, h, hp', asAddr, run_loadVar_mid w b o ty cs d hc hu hd hi]
theorem qAn {P : Program} {ops : Array Oper} {rest : List Oper} {op : Oper} {a : Act} {w : World} {Q : Exit → Act → World → Prop} (hgd : op.guard = none) (ty : TypeId) (x y : Operand) (ho : op.op = .store ty x y)
  (b o : Nat) (cells : List Value) (hx : a.eval x = .pointer (some ⟨b, o, none⟩)) (hy : a.eval y = .agg cells.toArray)
  (ht : w.there b o cells.length) (hi : (P.info? ty).map (·.size) = some cells.length) (h1 : ∀ v ∈ cells, v.oneCell' = true)
  (h : wpList P ops Q rest (a.put op.dst undef) (w.setCells b o cells)) : wpList P ops Q (op :: rest) a w :=
 wpList_store_mid hgd ty x y ho b o cells.toArray hx hy (by simpa using ht) (by simpa using hi) (all_oneCell_toArray h1) yE1
end TL
end Go
namespace Go.Proofs.YtidadhbaomieiaaGreat
open Go.RowKit Go.TL
set_option maxRecDepth 1000000 in
theorem bytesT : SliceT Tryz.prog 70 5 1 1 := ⟨Tryz.underlying70, ⟨_, _, rfl, rfl, rfl, rfl, rfl⟩, by omega⟩
theorem uB : Tryz.prog.underlying 70 = some .string ∨ ∃ e', Tryz.prog.underlying 70 = some (.slice e') := .inr ⟨_, Tryz.underlying70⟩
theorem uS : Tryz.prog.underlying 9 = some .string ∨ ∃ e', Tryz.prog.underlying 9 = some (.slice e') := .inl Tryz.underlying9
end Go.Proofs.YtidadhbaomieiaaGreat

namespace Go
namespace TL
theorem and31 (k : Int) (m : Nat) (hk : k = - (m : Int)) (hm : 1 ≤ m) (hm2 : m ≤ 31) : I64 (w64 k &&& 31) = ((32 - m : Nat) : Int) := by
 have : m = 1 ∨ m = 2 ∨ m = 3 ∨ m = 4 ∨ m = 5 ∨ m = 6 ∨ m = 7 ∨ m = 8 ∨ m = 9 ∨ m = 10 ∨ m = 11 ∨ m = 12 ∨ m = 13 ∨ m = 14 ∨ m = 15 ∨ m = 16 ∨ m = 17 ∨ m = 18 ∨ m = 19 ∨ m = 20 ∨ m = 21 ∨ m = 22 ∨ m = 23 ∨ m = 24 ∨ m = 25 ∨ m = 26 ∨ m = 27 ∨ m = 28 ∨ m = 29 ∨ m = 30 ∨ m = 31 := by omega
 subst hk
 rcases this with h | h | h | h | h | h | h | h | h | h | h | h | h | h | h | h | h | h | h | h | h | h | h | h | h | h | h | h | h | h | h <;> subst h <;> decide
theorem sub32 (m : Nat) (hm : 1 ≤ m) (hm2 : m ≤ 31) : I64 (32 - w64 m) = ((32 - m : Nat) : Int) := by
 rw [qBM, qBU, UInt64.toNat_sub, UInt64.toNat_ofNat]; simp; omega
theorem sub32' (m : Nat) (hm : 1 ≤ m) (hm2 : m ≤ 31) : I64 (32 - w64 ((32 - m : Nat) : Int)) = (m : Int) := by
 rw [qBM, qBU, UInt64.toNat_sub, UInt64.toNat_ofNat]; simp; omega
def ror (x : UInt32) (m : Nat) : UInt32 := (x >>> UInt32.ofNat m) ||| (x <<< UInt32.ofNat (32 - m))
def be64 (l : List UInt8) : UInt64 := l.foldl (fun x b => (x <<< 8) ||| b.toUInt64) 0
theorem be64_snoc (l : List UInt8) (b : UInt8) : be64 (l ++ [b]) = (be64 l <<< 8) ||| b.toUInt64 := by simp [be64]
theorem take_snoc (s : ByteArray) (k : Nat) (h : k < s.size) : s.data.toList.take (k + 1) = s.data.toList.take k ++ [s[k]] := by
 rw [List.take_succ_eq_append_getElem yE1]; rfl
def bigB (x : UInt64) : Nat → List UInt8
 | 0 => []
 | n + 1 => (x >>> (8 * UInt64.ofNat n)).toUInt8 :: bigB x n
theorem qAW (x : UInt64) (n : Nat) : (bigB x n).length = n := by
 induction n with
 | zero => rfl
 | succ n ih => simp [bigB, ih]
end TL
end Go
namespace Go.Proofs.YtidadhbaomieiaaGreat
open Go.RowKit Go.TL
theorem rot_any (x : UInt32) (m : Nat) (k : Int) (w : World) (hk : k = - (m : Int)) (hm : 1 ≤ m) (hm2 : m ≤ 31) :
  Calls Tryz.prog 185 #[.int .u32 (I32 x), .int .i64 k] w fun e w' => e = .returned (.int .u32 (I32 (ror x m))) ∧ w = w' := by
 have h1 := and31 k m hk hm hm2; clear hk
 have h2 := sub32' m hm hm2
 have h3 : (m : Int) ≤ 31 := by omega
 have h4 : ((32 - m : Nat) : Int) ≤ 31 := by omega
 go_enter Tryz.func185, Tryz.ntmps185
 go_wp2
 go_ret
 exact ⟨by rw [ror, UInt32.or_comm]; rfl, rfl⟩
theorem getBig_any (s : ByteArray) (n : Nat) (w : World) (hs : n ≤ s.size) (hn : n ≤ 1000) :
  Calls Tryz.prog 184 #[.string s, .int .i64 n] w fun e w' => e = .returned (.int .u64 (I64 (be64 (s.data.toList.take n)))) ∧ w = w' := by
 go_enter Tryz.func184, Tryz.ntmps184
 go_wp2
 go_loop [4, 7] (fun x i => ∃ k : Nat, k ≤ n ∧ i = .int .i64 k ∧ x = .int .u64 (I64 (be64 (s.data.toList.take k)))) (fun _ i => n - (intOf i).toNat)
 case atStart => exact ⟨0, by omega, rfl, rfl⟩
 case round =>
  obtain ⟨k, hk, rfl, rfl⟩ := hrel
  by_cases hlt : k < n
  ·have hk4 : k < s.size := by omega
   have H := Lib.hid (take_snoc s k hk4)
   go_wp2
   go_round
   case rel => exact ⟨k + 1, by omega, by go_num, by rw [H.out, be64_snoc]⟩
   case measure => simp [intOf]; omega
  ·go_wp2
   go_ret
   have : k = n := by omega
   subst this
   exact ⟨rfl, rfl⟩
theorem qGP (base : Nat) (v : Value) (l : List UInt8) (x : UInt64) (n : Nat) (w : World) (hown : OwnB w base v l) (hbase : base ≤ w.heap.size) (hn : n ≤ 8) (hl : l.length ≤ 1000000000000) :
  Calls Tryz.prog 160 #[v, .int .u64 (I64 x), .int .i64 n] w fun e w' => ∃ v', e = .returned v' ∧ OwnB w' base v' (l ++ bigB x n) ∧ w.grownBy w' v.ownBlock ∧ FreshOr w v v' := by
 go_enter Tryz.func160, Tryz.ntmps160
 go_wp2
 go_loopw [0, 7] (fun b i wr => ∃ (j : Nat) (done : List UInt8), j ≤ n ∧ i = .int .i64 ((j : Int) - 1) ∧ done.length ≤ 8 ∧ done ++ bigB x j = bigB x n ∧ OwnB wr base b (l ++ done) ∧ w.grownBy wr v.ownBlock ∧ FreshOr w v b) (fun _ i _ => (intOf i + 1).toNat)
 case atStart => exact ⟨n, [], by omega, rfl, by simp, rfl, by simpa using hown, grownBy_refl _ _, .inl rfl⟩
 case round =>
  obtain ⟨j, done, hj, rfl, hd, H, ho, hg, hf⟩ := hrel
  have H' := Lib.hid H; clear H
  have ho' := Lib.hid ho; clear ho
  have hg' := Lib.hid hg; clear hg
  have hf' := Lib.hid hf; clear hf
  cases j with
  | zero =>
   go_wp2
   go_ret
   have hx : done = bigB x n := by have := H'.out; simpa [bigB] using this
   subst hx
   exact ⟨_, rfl, ho'.out, hg'.out, hf'.out⟩
  | succ i =>
   have e : ((i + 1 : Nat) : Int) - 1 = i := by omega
   rw [e]; clear e
   have b1 : 8 * (i : Int) ≤ 63 := by omega
   have b0 : 0 ≤ 8 * (i : Int) := by omega
   go_wp2_with (at_builtin; refine qAw bytesT rfl (.tmp 14) (.tmp 20) rfl base wr [_] _ _ rfl u0 (l ++ done) rfl ho'.out rfl ?_ ?_ ?_)
   ·simp; omega
   ·have := hg'.out.size; omega
   ·intro v' w1 hown1 hg1 hf1
    have hg2 := Lib.hid (grow_step hg'.out hf'.out hg1)
    have hf2 := Lib.hid (qCk hg'.out.size hf'.out hf1)
    have hown2 := Lib.hid hown1
    clear hown1 hg1 hf1
    go_wp2
    go_roundw
    case rel => exact ⟨i, done ++ [(x >>> (8 * UInt64.ofNat i)).toUInt8], by omega, by go_num, by have := qAW x n; rw [← H'.out] at this; simp [bigB, qAW] at this ⊢; omega, by rw [← H'.out]; simp [bigB], hown2.out, hg2.out, hf2.out⟩
    case measure => simp [intOf]
end Go.Proofs.YtidadhbaomieiaaGreat

namespace Go
namespace TL
def vw (x : UInt32) : Value := .int .u32 (I32 x)
structure St where
 a : UInt32
 b : UInt32
 c : UInt32
 d : UInt32
 e : UInt32
 f : UInt32
 g : UInt32
 h : UInt32
deriving DecidableEq
def St.words (s : St) : List UInt32 := [s.a, s.b, s.c, s.d, s.e, s.f, s.g, s.h]
def St.cells (s : St) : List Value := [vw s.a, vw s.b, vw s.c, vw s.d, vw s.e, vw s.f, vw s.g, vw s.h]
def sig0 (x : UInt32) : UInt32 := ror x 7 ^^^ ror x 18 ^^^ (x >>> 3)
def sig1 (x : UInt32) : UInt32 := ror x 17 ^^^ ror x 19 ^^^ (x >>> 10)
def wordAt (s : List UInt8) (i : Nat) : UInt32 := (be64 ((s.drop (4 * i)).take 4)).toUInt32
def nextW (s : List UInt8) (l : List UInt32) : UInt32 :=
 if l.length < 16 then wordAt s l.length
 else l.getD (l.length - 16) 0 + sig0 (l.getD (l.length - 15) 0) + l.getD (l.length - 7) 0 + sig1 (l.getD (l.length - 2) 0)
def wl (s : List UInt8) : Nat → List UInt32
 | 0 => []
 | n + 1 => wl s n ++ [nextW s (wl s n)]
theorem qAx (s : List UInt8) (n : Nat) : (wl s n).length = n := by
 induction n with
 | zero => rfl
 | succ n ih => simp [wl, ih]
def rndT (s : St) (k w : UInt32) : UInt32 :=
 s.h + (ror s.e 6 ^^^ ror s.e 11 ^^^ ror s.e 25) + ((s.e &&& s.f) ^^^ (~~~ s.e &&& s.g)) + k + w
def rndU (s : St) : UInt32 :=
 (ror s.a 2 ^^^ ror s.a 13 ^^^ ror s.a 22) + ((s.a &&& s.b) ^^^ (s.a &&& s.c) ^^^ (s.b &&& s.c))
def rnd (s : St) (k w : UInt32) : St := ⟨rndT s k w + rndU s, s.a, s.b, s.c, s.d + rndT s k w, s.e, s.f, s.g⟩
def rndN (s : St) (K W : List UInt32) : Nat → St
 | 0 => s
 | n + 1 => rnd (rndN s K W n) (K.getD n 0) (W.getD n 0)
def St.add (s t : St) : St := ⟨s.a + t.a, s.b + t.b, s.c + t.c, s.d + t.d, s.e + t.e, s.f + t.f, s.g + t.g, s.h + t.h⟩
def turnS (h b : St) (K : List UInt32) (s : List UInt8) : St := h.add (rndN b K (wl s 64) 64)
theorem wl_step (s : List UInt8) (n : Nat) : wl s (n + 1) = wl s n ++ [nextW s (wl s n)] := rfl
theorem nextW_low (s : List UInt8) (n : Nat) (h : n < 16) : nextW s (wl s n) = wordAt s n := by
 unfold nextW; rw [qAx, if_pos h]
theorem qGQ (s : List UInt8) (n : Nat) (h : 16 ≤ n) : nextW s (wl s n) = (wl s n).getD (n - 16) 0 + sig0 ((wl s n).getD (n - 15) 0) + (wl s n).getD (n - 7) 0 + sig1 ((wl s n).getD (n - 2) 0) := by
 unfold nextW; rw [qAx, if_neg yF]
end TL
end Go

namespace Go
namespace TL
open Go.RowKit
theorem qBS (w : World) (n : Nat) : (w.drewN n).heap = w.heap := rfl
theorem qCB {w w' : World} (h : w'.heap = w.heap) {g o : Nat} {xs : List Value} (hr : w.rangeAt g o xs) : w'.rangeAt g o xs := rangeAt_of_block hr (by rw [h])
theorem qBX {w w' : World} (h : w'.heap = w.heap) {g o n : Nat} (hr : w.there g o n) : w'.there g o n := qAZ hr (by rw [h])
theorem quiet_at {P : Program} {f : FuncId} {args : Array Value} {w : World} {n a : Nat} {v : Value}
  (h : Calls P f args (w.drewN (n + a)) fun e w' => e = .returned v ∧ w' = w.drewN (n + a)) : Calls P f args (w.drewN (n + a)) fun e w'' => e = .returned v ∧ ∃ m, w'' = w.drewN (n + m) :=
 h.mono fun _ _ ⟨he, hm⟩ => ⟨he, a, hm⟩
theorem qCt {w : World} {g o : Nat} {l : List UInt32} (h : w.rangeAt g o (l.map vw)) (i : Nat) (hi : i < l.length) : w.cell? ⟨g, o + i, none⟩ = some (.int .u32 (I32 (l.getD i 0))) := by
 refine h i _ ?_
 simp [vw, hi]
theorem qCl {w : World} {g o n : Nat} (h : w.there g o n) (i : Nat) (hi : i < n) : w.frozen? ⟨g, o + i, none⟩ = false := (h i hi).2
structure TI (w wr : World) (h b : St) (W : List UInt32) : Prop where
 bel : Below w.heap.size w wr
 sz : wr.heap.size = w.heap.size + 4
 hh : wr.rangeAt w.heap.size 0 h.cells
 ht : wr.there w.heap.size 0 8
 bb : wr.rangeAt (w.heap.size + 1) 0 b.cells
 bt : wr.there (w.heap.size + 1) 0 8
 rt : wr.there (w.heap.size + 1 + 1) 0 8
 ww : wr.rangeAt (w.heap.size + 1 + 1 + 1) 0 (W.map vw)
 wt : wr.there (w.heap.size + 1 + 1 + 1) 0 64
theorem TI.drewN {w wr : World} {h b : St} {W : List UInt32} (T : TI w wr h b W) (n : Nat) : TI w (wr.drewN n) h b W :=
 ⟨⟨T.bel.os, T.bel.tape, T.bel.output, T.bel.size, T.bel.block⟩, T.sz, qCB (qBS _ _) T.hh, qBX (qBS _ _) T.ht, qCB (qBS _ _) T.bb, qBX (qBS _ _) T.bt, qBX (qBS _ _) T.rt, qCB (qBS _ _) T.ww, qBX (qBS _ _) T.wt⟩
theorem TI.pushW {w wr : World} {h b : St} {W : List UInt32} (T : TI w wr h b W) (x : UInt32) (hl : W.length < 64) : TI w (wr.setCell ⟨w.heap.size + 1 + 1 + 1, W.length, none⟩ (.int .u32 (I32 x))) h b (W ++ [x]) := by
 refine ⟨T.bel.setCell (by show w.heap.size ≤ w.heap.size + 1 + 1 + 1; omega) _, by simpa using T.sz, qAc T.hh _ (.inl (by show _ + 1 + 1 + 1 ≠ _; omega)) _, qAo T.ht _ _, qAc T.bb _ (.inl (by show _ + 1 + 1 + 1 ≠ _; omega)) _, qAo T.bt _ _, qAo T.rt _ _, ?_, qAo T.wt _ _⟩
 rw [List.map_append]
 refine qAv (qAc T.ww _ yB1 _) ?_
 intro j v hv
 cases j with
 | zero =>
  simp at hv; subst hv
  obtain ⟨u, hu⟩ := Option.isSome_iff_exists.1 (T.wt W.length hl).1
  simp only [List.length_map, Nat.zero_add, Nat.add_zero] at hu ⊢
  exact World.cell?_setCell_same _ _ _ hu
 | succ j => simp at hv
theorem TI.storeB {w wr : World} {h b : St} {W : List UInt32} (T : TI w wr h b W) (b' : St) : TI w (wr.setCells (w.heap.size + 1) 0 b'.cells) h b' W := by
 refine ⟨below_setCells yF _ _ _ T.bel, by rw [size_setCells]; exact T.sz, World.rangeAt_setCells_apart T.hh _ _ _ (.inl yF), World.there_setCells T.ht _ _ _, World.rangeAt_setCells_same _ _ _ _ T.bt, World.there_setCells T.bt _ _ _, World.there_setCells T.rt _ _ _, World.rangeAt_setCells_apart T.ww _ _ _ (.inl yF), World.there_setCells T.wt _ _ _⟩
def St.mix (h b : St) (i : Nat) : St :=
  ⟨if 0 < i then h.a + b.a else h.a, if 1 < i then h.b + b.b else h.b, if 2 < i then h.c + b.c else h.c, if 3 < i then h.d + b.d else h.d,
   if 4 < i then h.e + b.e else h.e, if 5 < i then h.f + b.f else h.f, if 6 < i then h.g + b.g else h.g, if 7 < i then h.h + b.h else h.h⟩
theorem St.mix_all (h b : St) : h.mix b 8 = h.add b := rfl
theorem St.mix_step (h b : St) (k : Nat) (hk : k < 8) : (h.mix b k).cells.set k (.int .u32 (I32 ((h.mix b k).words.getD k 0 + b.words.getD k 0))) = (h.mix b (k + 1)).cells := by
 have : k = 0 ∨ k = 1 ∨ k = 2 ∨ k = 3 ∨ k = 4 ∨ k = 5 ∨ k = 6 ∨ k = 7 := by omega
 rcases this with e | e | e | e | e | e | e | e <;> subst e <;> rfl
theorem TI.storeH {w wr : World} {h b : St} {W : List UInt32} (T : TI w wr h b W) (k : Nat) (hk : k < 8) (h' : St) (u : Value) (e : h.cells.set k u = h'.cells) : TI w (wr.setCell ⟨w.heap.size, k, none⟩ u) h' b W := by
 have h1 := qBq T.hh k (by simpa [St.cells] using hk) u
 rw [Nat.zero_add, e] at h1
 exact ⟨T.bel.setCell (Nat.le_refl _) _, by simpa using T.sz, h1, qAo T.ht _ _, qAc T.bb _ (.inl (by show w.heap.size ≠ w.heap.size + 1; omega)) _, qAo T.bt _ _, qAo T.rt _ _, qAc T.ww _ (.inl (by show w.heap.size ≠ w.heap.size + 1 + 1 + 1; omega)) _, qAo T.wt _ _⟩
theorem St.cells_eq (s : St) : s.cells = s.words.map vw := rfl
theorem TI.start (w : World) (h b : St) (C D : Array Value) (hC : C.size = 8) (hD : D.size = 64) (t1 t2 t3 t4 : TypeId) :
  TI w ((((w.alloc (.cells h.cells.toArray t1)).alloc (.cells b.cells.toArray t2)).alloc (.cells C t3)).alloc (.cells D t4)) h b [] := by
 have n1 : (w.alloc (.cells h.cells.toArray t1)).heap.size = w.heap.size + 1 := by simp
 have n2 : ((w.alloc (.cells h.cells.toArray t1)).alloc (.cells b.cells.toArray t2)).heap.size = w.heap.size + 1 + 1 := by simp
 have n3 : (((w.alloc (.cells h.cells.toArray t1)).alloc (.cells b.cells.toArray t2)).alloc (.cells C t3)).heap.size = w.heap.size + 1 + 1 + 1 := by simp
 refine ⟨((((Below.refl _ _).alloc (Nat.le_refl _) _).alloc yB1 _).alloc yC1 _).alloc yC1 _, by simp, ?_, ?_, ?_, ?_, ?_, by simp [World.rangeAt], ?_⟩
 ·exact World.rangeAt_alloc (World.rangeAt_alloc (World.rangeAt_alloc (qBC w _ _ _) _) _) _
 ·exact World.there_alloc (World.there_alloc (World.there_alloc (qBP w _ _ 8 (by simp [St.cells])) _) _) _
 ·rw [← n1]; exact World.rangeAt_alloc (World.rangeAt_alloc (qBC _ _ _ _) _) _
 ·rw [← n1]; exact World.there_alloc (World.there_alloc (qBP _ _ _ 8 (by simp [St.cells])) _) _
 ·rw [← n2]; exact World.there_alloc (qBP _ _ _ 8 yF) _
 ·rw [← n3]; exact qBP _ _ _ 64 yF
end TL
end Go
namespace Go.Proofs.YtidadhbaomieiaaGreat
open Go.RowKit Go.TL
theorem rot_k (x : UInt32) (k : Int) (w : World) (h1 : -31 ≤ k) (h2 : k ≤ -1) :
  Calls Tryz.prog 185 #[.int .u32 (I32 x), .int .i64 k] w fun e w' => e = .returned (.int .u32 (I32 (ror x (-k).toNat))) ∧ w' = w :=
 (rot_any x (-k).toNat k w yF yF yF).mono fun _ _ ⟨a, b⟩ => ⟨a, b.symm⟩
theorem turn_any (h b : St) (K : List UInt32) (hK : K.length = 64) (kb ko : Nat) (sv : Value) (s : List UInt8) (hs : s.length = 64) (w : World)
  (hk : w.rangeAt kb ko (K.map vw)) (hsee : SeesB w sv s) :
  Calls Tryz.prog 159 #[.agg h.cells.toArray, .agg b.cells.toArray, .pointer (some ⟨kb, ko, none⟩), sv] w fun e w' => e = .returned (.agg (turnS h b K s).cells.toArray) ∧ Below w.heap.size w w' := by
 have hkb : kb < w.heap.size := rangeAt.lt hk (by intro e; have := congrArg List.length e; simp [hK] at this)
 have H0 := Lib.hid hk; clear hk
 have H1 := Lib.hid hsee; clear hsee
 have H2 := Lib.hid hs; clear hs
 have H3 := Lib.hid hK; clear hK
 go_enter Tryz.func159, Tryz.ntmps159
 go_wp2
 go_loopw [22] (fun i wr => ∃ k : Nat, k ≤ 16 ∧ i = .int .i64 k ∧ TI w wr h b (wl s k)) (fun i _ => 16 - (intOf i).toNat)
 case atStart => exact ⟨0, by omega, rfl, TI.start w h b _ _ rfl rfl _ _ _ _⟩
 case round =>
  obtain ⟨k, hk, rfl, T⟩ := hrel
  have T' := Lib.hid T
  by_cases hlt : k < 16
  ·have hsee := H1.out.below T.bel
   have hcut := hsee.run_cut bytesT (4 * (k : Int)) (4 * (k : Int) + 4) yF yF (by have := H2.out; omega)
   have hcs := SeesB.cut hsee (4 * k) (4 * k + 4) yF (by have := H2.out; omega)
   have hstr := SeesB.run_string hcs 70 9 5 Tryz.underlying70 Tryz.underlying5 Tryz.underlying9 wr (grownBy_refl _ _)
   have hcut' : ∀ w'' : World, (Instr.sliceAt 70 sv (some (.int .i64 (4 * (k : Int)))) (some (.int .i64 (4 * (k : Int) + 4))) none).run Tryz.prog w'' = .ok (cutV 1 sv (4 * k) (4 * k + 4)) w'' := by
    intro w''; have := hcut w''; rwa [show (4 * (k : Int)).toNat = 4 * k by omega, show (4 * (k : Int) + 4).toNat = 4 * k + 4 by omega] at this
   clear hcut T hsee hcs
   obtain ⟨cv, hcv⟩ : ∃ cv, cv = cutV 1 sv (4 * k) (4 * k + 4) := ⟨_, rfl⟩
   rw [← hcv] at hstr hcut'
   clear hcv
   have hfr := qCl T'.out.wt k yF
   obtain ⟨u0, hu0⟩ := Option.isSome_iff_exists.1 (T'.out.wt k yF).1
   rw [Nat.zero_add] at hfr hu0
   have hsz : 4 ≤ (⟨(List.drop (4 * k) (List.take (4 * k + 4) s)).toArray⟩ : ByteArray).size := by
    have := H2.out; show 4 ≤ (List.drop (4 * k) (List.take (4 * k + 4) s)).toArray.size; simp; omega
   have hsz' := Lib.hid hsz; clear hsz
   go_wp2_with (go_at_call 184; refine (getBig_any _ 4 _ hsz'.out yF).mono ?_; rintro e w1 ⟨rfl, rfl⟩)
   go_roundw
   case rel =>
    refine ⟨k + 1, by omega, by go_num, ?_⟩
    rw [wl_step, nextW_low _ _ hlt]
    have := T'.out.pushW (wordAt s k) (by rw [qAx]; omega)
    rw [qAx] at this
    rw [wordAt] at this ⊢
    rw [show (List.drop (4 * k) (List.take (4 * k + 4) s)) = (s.drop (4 * k)).take 4 from by rw [List.drop_take, show 4 * k + 4 - 4 * k = 4 by omega], List.take_take, Nat.min_self]
    exact this
   case measure => simp [intOf]; omega
  ·obtain rfl : k = 16 := by omega
   rw [show ((16 : Nat) : Int) = 16 from rfl]
   go_wp2_with fail
   go_loopw [11] (fun i wr => ∃ k : Nat, 16 ≤ k ∧ k ≤ 64 ∧ i = .int .i64 k ∧ TI w wr h b (wl s k)) (fun i _ => 64 - (intOf i).toNat)
   case atStart => exact ⟨16, by omega, by omega, rfl, T'.out⟩
   case round =>
    obtain ⟨k, hk16, hk, rfl, T⟩ := hrel
    have T2 := Lib.hid T; clear T
    by_cases hlt : k < 64
    ·have g15 := qCt T2.out.ww (k - 15) (by rw [qAx]; omega)
     have g2 := qCt T2.out.ww (k - 2) (by rw [qAx]; omega)
     have g16 := qCt T2.out.ww (k - 16) (by rw [qAx]; omega)
     have g7 := qCt T2.out.ww (k - 7) (by rw [qAx]; omega)
     have hfr := qCl T2.out.wt k yF
     obtain ⟨u0, hu0⟩ := Option.isSome_iff_exists.1 (T2.out.wt k yF).1
     rw [Nat.zero_add] at g15 g2 g16 g7 hfr hu0
     obtain ⟨x15, e15⟩ : ∃ x, x = (wl s k).getD (k - 15) 0 := ⟨_, rfl⟩
     obtain ⟨x2, e2⟩ : ∃ x, x = (wl s k).getD (k - 2) 0 := ⟨_, rfl⟩
     obtain ⟨x16, e16⟩ : ∃ x, x = (wl s k).getD (k - 16) 0 := ⟨_, rfl⟩
     obtain ⟨x7, e7⟩ : ∃ x, x = (wl s k).getD (k - 7) 0 := ⟨_, rfl⟩
     rw [← e15] at g15; rw [← e2] at g2; rw [← e16] at g16; rw [← e7] at g7
     have hx : nextW s (wl s k) = x16 + sig0 x15 + x7 + sig1 x2 := by rw [qGQ _ _ hk16, e15, e2, e16, e7]
     have Hx := Lib.hid hx; clear hx e15 e2 e16 e7
     go_wp2_with fail
     go_quiet (fail)
     go_wp2_with (go_at_call 185; refine (rot_k _ _ _ yF yF).mono ?_; rintro e w1 ⟨rfl, rfl⟩)
     go_region
     go_wp2
     go_roundw
     case rel =>
      refine ⟨k + 1, by omega, by omega, by go_num, ?_⟩
      rw [wl_step, Hx.out]
      have := (T2.out.drewN nq).pushW (x16 + sig0 x15 + x7 + sig1 x2) (by rw [qAx]; omega)
      rw [qAx] at this
      exact this.drewN 1
     case measure => simp [intOf]; omega
    ·obtain rfl : k = 64 := by omega
     rw [show ((64 : Nat) : Int) = 64 from rfl]
     go_wp2_with fail
     go_loopw [81] (fun i wr => ∃ k : Nat, k ≤ 64 ∧ i = .int .i64 k ∧ TI w wr h (rndN b K (wl s 64) k) (wl s 64)) (fun i _ => 64 - (intOf i).toNat)
     case atStart => exact ⟨0, by omega, rfl, T2.out⟩
     case round =>
      obtain ⟨k, hk, rfl, T⟩ := hrel
      obtain ⟨st, est⟩ : ∃ st, st = rndN b K (wl s 64) k := ⟨_, rfl⟩
      rw [← est] at T
      have Hst := Lib.hid est; clear est
      have T3 := Lib.hid T; clear T
      by_cases hlt : k < 64
      ·have hkk := rangeAt_of_block H0.out (T3.out.bel.block kb hkb)
       have gk := qCt hkk k (by rw [H3.out]; exact hlt)
       have gw := qCt T3.out.ww k (by rw [qAx]; exact hlt)
       obtain ⟨xk, ek⟩ : ∃ x, x = K.getD k 0 := ⟨_, rfl⟩
       obtain ⟨xw, ew⟩ : ∃ x, x = (wl s 64).getD k 0 := ⟨_, rfl⟩
       rw [← ek] at gk; rw [← ew] at gw
       have Ek := Lib.hid ek; have Ew := Lib.hid ew; clear ek ew hkk
       have c0 := T3.out.bb 0 _ rfl
       have c1 := T3.out.bb 1 _ rfl
       have c2 := T3.out.bb 2 _ rfl
       have c3 := T3.out.bb 3 _ rfl
       have c4 := T3.out.bb 4 _ rfl
       have c5 := T3.out.bb 5 _ rfl
       have c6 := T3.out.bb 6 _ rfl
       have c7 := T3.out.bb 7 _ rfl
       simp only [Nat.zero_add, vw] at c0 c1 c2 c3 c4 c5 c6 c7 gw
       go_wp2_with fail
       go_quiet (fail)
       go_wp2_with fail
       go_quiet ((go_at_call 185; exact quiet_at (rot_k _ _ _ yF yF)))
       go_wp2_with fail
       go_quiet ((go_at_call 185; exact quiet_at (rot_k _ _ _ yF yF)))
       go_wp2_with ((with_reducible show wpList _ _ _ (Oper.mk none (Op.store 213 (.tmp 5) (.tmp 163)) _ _ _ _ :: _) _ _); (refine qAn rfl 213 (.tmp 5) (.tmp 163) rfl (w.heap.size + 1) 0 _ rfl rfl (by exact qBX (qBS _ _) T3.out.bt) yD yD1 ?_))
       go_roundw
       case rel =>
        refine ⟨k + 1, by omega, by go_num, ?_⟩
        have e : rndN b K (wl s 64) (k + 1) = rnd st xk xw := by rw [Hst.out, Ek.out, Ew.out]; rfl
        rw [e]
        exact ((T3.out.drewN _).storeB (rnd st xk xw))
       case measure => simp [intOf]; omega
      ·obtain rfl : k = 64 := by omega
       rw [show ((64 : Nat) : Int) = 64 from rfl]
       go_wp2_with fail
       go_loopw [165] (fun i wr => ∃ k : Nat, k ≤ 8 ∧ i = .int .i64 k ∧ TI w wr (h.mix st k) st (wl s 64)) (fun i _ => 8 - (intOf i).toNat)
       case atStart => exact ⟨0, by omega, rfl, T3.out⟩
       case round =>
        obtain ⟨k, hk, rfl, T⟩ := hrel
        have T4 := Lib.hid T; clear T
        by_cases hlt : k < 8
        ·have gh := T4.out.hh
         have gb := T4.out.bb
         rw [St.cells_eq] at gh gb
         have gh' := qCt gh k (by exact hlt)
         have gb' := qCt gb k (by exact hlt)
         obtain ⟨xh, eh⟩ : ∃ x, x = (h.mix st k).words.getD k 0 := ⟨_, rfl⟩
         obtain ⟨xb, eb⟩ : ∃ x, x = st.words.getD k 0 := ⟨_, rfl⟩
         rw [Nat.zero_add] at gh' gb'
         rw [← eh] at gh'; rw [← eb] at gb'
         have hst := St.mix_step h st k hlt
         rw [← eh, ← eb] at hst
         have Hmix := Lib.hid hst
         have hfr := qCl T4.out.ht k yF
         rw [Nat.zero_add] at hfr
         clear eh eb hst gh gb
         go_wp2_with fail
         go_region
         go_wp2
         go_roundw
         case rel => exact ⟨k + 1, by omega, by go_num, (T4.out.drewN 1).storeH k hlt _ _ Hmix.out⟩
         case measure => simp [intOf]; omega
        ·obtain rfl : k = 8 := by omega
         rw [show ((8 : Nat) : Int) = 8 from rfl]
         go_wp2_with (first | ((with_reducible show wpList _ _ _ (Oper.mk _ (Op.load 213 (.tmp 4)) _ _ _ _ :: _) _ _); (refine wpList_load_mid rfl 213 _ rfl w.heap.size 0 rfl _ _ T4.out.hh Tryz.underlying213 rfl yD ?_)) | ((with_reducible show wpList _ _ _ (Oper.mk none (Op.store 213 (.tmp 8) (.tmp 177)) _ _ _ _ :: _) _ _); (refine qAn rfl 213 (.tmp 8) (.tmp 177) rfl (w.heap.size + 1 + 1) 0 (h.mix st 8).cells rfl rfl (by exact T4.out.rt) yD (by simp [Value.oneCell', St.cells, vw]) ?_)))
         refine bodyPost_ret (qAS rfl _ _ (w.heap.size + 1 + 1) 0 (h.mix st 8).cells _ rfl (World.rangeAt_setCells_same _ _ _ _ (by exact T4.out.rt)) Tryz.underlying213 rfl yD) rfl ?_
         rw [St.mix_all, Hst.out]
         exact ⟨rfl, below_setCells yF _ _ _ T4.out.bel⟩
end Go.Proofs.YtidadhbaomieiaaGreat

namespace Go
namespace TL
open Go.RowKit
def H0 : St := ⟨0x6a09e667, 0xbb67ae85, 0x3c6ef372, 0xa54ff53a, 0x510e527f, 0x9b05688c, 0x1f83d9ab, 0x5be0cd19⟩
def K64 : List UInt32 := [
 0x428a2f98, 0x71374491, 0xb5c0fbcf, 0xe9b5dba5, 0x3956c25b, 0x59f111f1, 0x923f82a4, 0xab1c5ed5,
 0xd807aa98, 0x12835b01, 0x243185be, 0x550c7dc3, 0x72be5d74, 0x80deb1fe, 0x9bdc06a7, 0xc19bf174,
 0xe49b69c1, 0xefbe4786, 0x0fc19dc6, 0x240ca1cc, 0x2de92c6f, 0x4a7484aa, 0x5cb0a9dc, 0x76f988da,
 0x983e5152, 0xa831c66d, 0xb00327c8, 0xbf597fc7, 0xc6e00bf3, 0xd5a79147, 0x06ca6351, 0x14292967,
 0x27b70a85, 0x2e1b2138, 0x4d2c6dfc, 0x53380d13, 0x650a7354, 0x766a0abb, 0x81c2c92e, 0x92722c85,
 0xa2bfe8a1, 0xa81a664b, 0xc24b8b70, 0xc76c51a3, 0xd192e819, 0xd6990624, 0xf40e3585, 0x106aa070,
 0x19a4c116, 0x1e376c08, 0x2748774c, 0x34b0bcb5, 0x391c0cb3, 0x4ed8aa4a, 0x5b9cca4f, 0x682e6ff3,
 0x748f82ee, 0x78a5636f, 0x84c87814, 0x8cc70208, 0x90befffa, 0xa4506ceb, 0xbef9a3f7, 0xc67178f2]
theorem qBh : K64.length = 64 := rfl
def shaCells : List Value := H0.cells ++ K64.map vw ++ [.slice none 0 0, .int .i64 0, .bool true]
structure ShaAt (w : World) (base b : Nat) (h : St) (rv : Value) (rest : List UInt8) (n : Nat) : Prop where
 lo : base ≤ b
 lt : b < w.heap.size
 hh : w.rangeAt b 0 h.cells
 ht : w.there b 0 8
 kk : w.rangeAt b 8 (K64.map vw)
 rc : w.cell? ⟨b, 72, none⟩ = some rv
 rf : w.frozen? ⟨b, 72, none⟩ = false
 ro : OwnB w base rv rest
 rne : rv.ownBlock ≠ some b
 nc : w.cell? ⟨b, 73, none⟩ = some (.int .i64 n)
 nf : w.frozen? ⟨b, 73, none⟩ = false
 mc : w.cell? ⟨b, 74, none⟩ = some (.bool true)
end TL
end Go
namespace Go.Proofs.YtidadhbaomieiaaGreat
open Go.RowKit Go.TL
theorem begin_any (w : World) : Calls Tryz.prog 156 #[] w fun e w' => e = .returned (.agg H0.cells.toArray) ∧ Below w.heap.size w w' := by
 go_enter Tryz.func156, Tryz.ntmps156
 go_wp2
 refine bodyPost_ret (v := .agg H0.cells.toArray) ?_ rfl ⟨rfl, (Below.refl _ _).alloc (Nat.le_refl _) _⟩
 refine qAS rfl _ _ w.heap.size 0 H0.cells _ rfl ?_ Tryz.underlying213 rfl yD
 exact qBC w H0.cells.toArray _ (0, 0)
theorem numbers_any (w : World) : Calls Tryz.prog 157 #[] w fun e w' => e = .returned (.agg (K64.map vw).toArray) ∧ Below w.heap.size w w' := by
 go_enter Tryz.func157, Tryz.ntmps157
 go_wp2_with (first | ((with_reducible show wpList _ _ _ (Oper.mk _ (Op.build _ _) _ _ _ _ :: _) _ _); (refine qEi rfl _ _ rfl (.agg (K64.map vw).toArray) yD ?_)) | ((with_reducible show wpList _ _ _ (Oper.mk none (Op.store _ _ _) _ _ _ _ :: _) _ _); (refine qAn rfl 212 _ _ rfl w.heap.size 0 (K64.map vw) rfl rfl (by exact qBP _ _ _ _ (by simp [qBh])) yD (by intro v hv; obtain ⟨x, _, rfl⟩ := List.mem_map.1 hv; rfl) ?_)))
 refine bodyPost_ret (v := .agg (K64.map vw).toArray) ?_ rfl ⟨rfl, below_setCells (Nat.le_refl _) _ _ _ ((Below.refl _ _).alloc (Nat.le_refl _) _)⟩
 refine qAS rfl _ _ w.heap.size 0 (K64.map vw) _ rfl ?_ Tryz.underlying212 rfl yD
 exact World.rangeAt_setCells_same _ _ _ _ (qBP _ _ _ _ (by simp [qBh]))
theorem qFM : shaCells.length = 75 := rfl
theorem New_any (w : World) : Calls Tryz.prog 116 #[] w fun e w' => ∃ b, e = .returned (.pointer (some ⟨b, 0, none⟩)) ∧ ShaAt w' w.heap.size b H0 (.slice none 0 0) [] 0 ∧ Below w.heap.size w w' := by
 go_enter Tryz.func116, Tryz.ntmps116
 go_wp2_with (first | (go_at_call 156; refine (begin_any _).mono ?_; rintro e w1 ⟨rfl, hb1⟩) | (go_at_call 157; refine (numbers_any _).mono ?_; rintro e w2 ⟨rfl, hb2⟩) | ((with_reducible show wpList _ _ _ (Oper.mk _ (Op.build _ _) _ _ _ _ :: _) _ _); (refine qEi rfl _ _ rfl (.agg shaCells.toArray) yD ?_)))
 go_ret
 refine ⟨w2.heap.size, rfl, ?_, (hb1.trans (hb2.mono hb1.size)).alloc (by have := hb1.size; have := hb2.size; omega) _⟩
 have hr := qBC w2 shaCells.toArray 245 (0, 0)
 have ht := qBP w2 shaCells.toArray 245 75 (by simp [qFM])
 have hle : w.heap.size ≤ w2.heap.size := Nat.le_trans hb1.size hb2.size
 refine ⟨hle, by simp, qBA hr 8, qAr ht yF, qBA (qBF hr 8) 64, hr 72 _ rfl, (ht 72 yF).2, Own_nil _ _ _, by simp [Value.ownBlock], hr 73 _ rfl, (ht 73 yF).2, hr 74 _ rfl⟩
theorem none_no (w : World) (b : Nat) (hm : w.cell? ⟨b, 74, none⟩ = some (.bool true)) : Calls Tryz.prog 158 #[.pointer (some ⟨b, 0, none⟩)] w fun e w' => e = .returned (.bool false) ∧ w = w' := by
 go_enter Tryz.func158, Tryz.ntmps158
 go_wp2
 go_ret
 exact ⟨rfl, rfl⟩
end Go.Proofs.YtidadhbaomieiaaGreat
