/- The reference's numbers in plain words: primes, and the bits behind the point of their roots. No program is in sight; no conditions. -/
import Derived.Test.YtidadhbaomieiaaGreatZa
namespace Go
namespace TL
def mulHi (x y : UInt64) : UInt64 :=
  let x0 := x &&& 4294967295
  let x1 := x >>> 32
  let y0 := y &&& 4294967295
  let y1 := y >>> 32
  let t := x1 * y0 + (x0 * y0) >>> 32
  x1 * y1 + t >>> 32 + ((t &&& 4294967295) + x0 * y1) >>> 32
def sqB (n p : UInt64) : Bool := decide (mulHi n n < p) || (mulHi n n == p && n * n == 0)
def cuB (n p : UInt64) : Bool :=
  let top := mulHi n n * n + mulHi (n * n) n
  decide (top < p <<< 32) || (top == p <<< 32 && n * n * n == 0)
def bh (p : UInt64) (three : Bool) : Nat → UInt64
  | 0 => 0
  | j + 1 =>
    let b := bh p three j
    let m := b + (1 : UInt64) <<< UInt64.ofNat (36 - j)
    if (three && decide (m < 68719476736) && cuB m p) || (!three && sqB m p) then m else b
def behindW (p : UInt64) (three : Bool) : UInt32 := (bh p three 37 % 4294967296).toUInt32
/-- The primes below p. -/
def prB : Nat → List UInt64
  | 0 => []
  | p + 1 => let l := prB p; if 2 ≤ p ∧ l.all (fun q => (UInt64.ofNat p) % q != 0) then l ++ [UInt64.ofNat p] else l
def P64 : List UInt64 := [2, 3, 5, 7, 11, 13, 17, 19, 23, 29, 31, 37, 41, 43, 47, 53, 59, 61, 67, 71, 73, 79, 83, 89, 97, 101, 103, 107, 109, 113, 127, 131, 137, 139, 149, 151, 157, 163, 167, 173, 179, 181, 191, 193, 197, 199, 211, 223, 227, 229, 233, 239, 241, 251, 257, 263, 269, 271, 277, 281, 283, 293, 307, 311]
theorem P64_length : P64.length = 64 := by decide
theorem roots3 : P64.map (behindW · true) = K64 := by decide +kernel
theorem roots2 : (P64.take 8).map (behindW · false) = H0.words := by decide +kernel
end TL
end Go
