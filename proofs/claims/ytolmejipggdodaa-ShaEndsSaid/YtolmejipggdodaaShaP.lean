/- The hash in plain words: what package sha computes, block by block. No program is in sight. No conditions. -/
import Derived.Test.YtolmejipggdodaaBig
namespace Go
namespace TL
def vw (x : UInt32) : Value := .int .u32 (I32 x)
structure St where
  a : UInt32
  b : UInt32
  c : UInt32
  d : UInt32
  e : UInt32
  f : UInt32
  g : UInt32
  h : UInt32
deriving DecidableEq
def St.words (s : St) : List UInt32 := [s.a, s.b, s.c, s.d, s.e, s.f, s.g, s.h]
def St.cells (s : St) : List Value := [vw s.a, vw s.b, vw s.c, vw s.d, vw s.e, vw s.f, vw s.g, vw s.h]
def sig0 (x : UInt32) : UInt32 := ror x 7 ^^^ ror x 18 ^^^ (x >>> 3)
def sig1 (x : UInt32) : UInt32 := ror x 17 ^^^ ror x 19 ^^^ (x >>> 10)
def wordAt (s : List UInt8) (i : Nat) : UInt32 := (be64 ((s.drop (4 * i)).take 4)).toUInt32
def nextW (s : List UInt8) (l : List UInt32) : UInt32 :=
  if l.length < 16 then wordAt s l.length
  else l.getD (l.length - 16) 0 + sig0 (l.getD (l.length - 15) 0) + l.getD (l.length - 7) 0 + sig1 (l.getD (l.length - 2) 0)
def wl (s : List UInt8) : Nat → List UInt32
  | 0 => []
  | n + 1 => wl s n ++ [nextW s (wl s n)]
theorem wl_length (s : List UInt8) (n : Nat) : (wl s n).length = n := by
  induction n with
  | zero => rfl
  | succ n ih => simp [wl, ih]
def rndT (s : St) (k w : UInt32) : UInt32 :=
  s.h + (ror s.e 6 ^^^ ror s.e 11 ^^^ ror s.e 25) + ((s.e &&& s.f) ^^^ (~~~ s.e &&& s.g)) + k + w
def rndU (s : St) : UInt32 :=
  (ror s.a 2 ^^^ ror s.a 13 ^^^ ror s.a 22) + ((s.a &&& s.b) ^^^ (s.a &&& s.c) ^^^ (s.b &&& s.c))
def rnd (s : St) (k w : UInt32) : St := ⟨rndT s k w + rndU s, s.a, s.b, s.c, s.d + rndT s k w, s.e, s.f, s.g⟩
def rndN (s : St) (K W : List UInt32) : Nat → St
  | 0 => s
  | n + 1 => rnd (rndN s K W n) (K.getD n 0) (W.getD n 0)
def St.add (s t : St) : St := ⟨s.a + t.a, s.b + t.b, s.c + t.c, s.d + t.d, s.e + t.e, s.f + t.f, s.g + t.g, s.h + t.h⟩
/-- The words behind a block. -/
def turnS (h b : St) (K : List UInt32) (s : List UInt8) : St := h.add (rndN b K (wl s 64) 64)
theorem wl_step (s : List UInt8) (n : Nat) : wl s (n + 1) = wl s n ++ [nextW s (wl s n)] := rfl
theorem nextW_low (s : List UInt8) (n : Nat) (h : n < 16) : nextW s (wl s n) = wordAt s n := by
  unfold nextW; rw [wl_length, if_pos h]
theorem nextW_high (s : List UInt8) (n : Nat) (h : 16 ≤ n) : nextW s (wl s n) = (wl s n).getD (n - 16) 0 + sig0 ((wl s n).getD (n - 15) 0) + (wl s n).getD (n - 7) 0 + sig1 ((wl s n).getD (n - 2) 0) := by
  unfold nextW; rw [wl_length, if_neg (by omega)]
end TL
end Go
