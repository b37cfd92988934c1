/- Texts of this seat, put together: InL, Shelf, PackZ, Txt, PackI, PackR, PackT, Out, PackO, PackN, PackY0, OutNew, SealW, SealA, RefInL, InM, InT, SealR, RingL. Each begins with a remark that says what is proved in it, and under which conditions. -/
import Derived.Shelf.Small.Strs
import Derived.Shelf.Strconv.Itoa0
import Derived.Shelf.Strings.Search1
import Derived.Shelf.Strings.Search2
import Derived.Shelf.Strings.Cut
import Derived.Shelf.LaysM
import Derived.Shelf.Strings.Shaped
import Derived.Shelf.Bits.Mul64
import Derived.Test.YtidadhbaomieiaaGreatProg
import Derived.OwnWalk
import Derived.IntWalk
import Derived.Test.YtidadhbaomieiaaGreatZb
import Derived.Test.YtidadhbaomieiaaGreatZc
/- Plain laws of layer 1's reader (pack.In): its state, and what each method does to it. No program in this text. No conditions but those each lemma names. -/
namespace Go
namespace TL
/-- A number below 2^64, at most. -/
def maxU : Nat := 18446744073709551615
theorem maxU_eq : maxU = 18446744073709551615 := rfl
/-- A text's bytes: its length's, and its own. -/
def textL (t : List UInt8) : List UInt8 := numL t.length ++ t
/-- A reader's state: what is left, how many bytes were read, the error. -/
structure InS where
  rest : List UInt8
  read : Nat
  err : Nat
def InS.fit (x : InS) : Prop := x.read + x.rest.length ≤ 1000000000
/-- Bytes are taken, or an error. -/
def InS.take (x : InS) (k e : Nat) : InS := if e = 0 then ⟨x.rest.drop k, x.read + k, 0⟩ else ⟨x.rest, x.read, e⟩
def InS.most (x : InS) (m : Nat) : Nat × InS := if x.err = 0 then ((readN x.rest m).1, x.take (readN x.rest m).2.1 (readN x.rest m).2.2) else (0, x)
def InS.text (x : InS) (m : Nat) : List UInt8 × InS :=
  if x.err = 0 then
    if (readN x.rest m).2.2 = 0 then
      if (readN x.rest m).1 ≤ x.rest.length - (readN x.rest m).2.1 then ((x.rest.drop (readN x.rest m).2.1).take (readN x.rest m).1, x.take ((readN x.rest m).2.1 + (readN x.rest m).1) 0)
      else ([], x.take 0 7)
    else ([], x.take 0 (readN x.rest m).2.2)
  else ([], x)
def InS.byte (x : InS) : Nat × InS := if x.err = 0 then (match x.rest with | [] => (0, x.take 0 7) | b :: _ => (b.toNat, x.take 1 0)) else (0, x)
/-- How it ends: its error, or that bytes are left. -/
def InS.fin (x : InS) : Nat := if x.err = 0 then (if x.rest.length = 0 then 0 else 8) else x.err
/-- A beginning of a number ends it: its length. -/
theorem numL_len_le : ∀ (k n : Nat), 0 < k → n < 128 ^ k → (numL n).length ≤ k
  | 0, _, h, _ => by omega
  | k + 1, n, _, h => by
    by_cases hn : n < 128
    · rw [numL_small hn]; simp
    · rw [numL_big (by omega), List.length_cons]
      have hk : 0 < k := by
        rcases Nat.eq_zero_or_pos k with rfl | h0
        · simp at h; omega
        · exact h0
      have := numL_len_le k (n / 128) hk (by rw [Nat.pow_succ] at h; omega)
      omega
/-- Whether a number has as many bytes as it was read from. -/
theorem size_canon (s : List UInt8) (h : lead s < s.length) : ((numL (numV (s.take (lead s + 1)))).length = lead s + 1) ↔ ¬ (0 < lead s ∧ (s.getD (lead s) 0).toNat = 0) := by
  constructor
  · rintro h1 ⟨h2, h3⟩
    have hv := (numV_ge s h).2
    rw [h3, Nat.zero_add, Nat.one_mul] at hv
    have := numL_len_le _ _ h2 hv
    omega
  · intro h1
    rw [canon s h fun h2 h3 => h1 ⟨h2, h3⟩]; simp; omega
theorem numV_lt64 {s : List UInt8} (h : lead s < s.length) (h9 : lead s ≤ 9) (ht : lead s = 9 → (s.getD 9 0).toNat ≤ 1) : numV (s.take (lead s + 1)) < 18446744073709551616 := by
  have v := (numV_ge s h).2
  have l := lead_last s h
  by_cases h9 : lead s = 9
  · rw [h9] at v ⊢
    have := ht h9
    have : ((s.getD 9 0).toNat + 1) * 128 ^ 9 ≤ 2 * 128 ^ 9 := Nat.mul_le_mul_right _ (by omega)
    omega
  · have h8 : 128 ^ lead s ≤ 128 ^ 8 := Nat.pow_le_pow_right (by omega) (by omega)
    have : ((s.getD (lead s) 0).toNat + 1) * 128 ^ lead s ≤ 128 * 128 ^ 8 := Nat.mul_le_mul (by omega) h8
    omega
theorem lead_ge : ∀ (s : List UInt8) (k : Nat), k < lead s → 128 ≤ (s.getD k 0).toNat
  | [], k, h => by simp [lead] at h
  | b :: l, k, h => by
    by_cases hb : b.toNat < 128
    · rw [lead, if_pos hb] at h; omega
    · rw [lead, if_neg hb] at h
      cases k with
      | zero => simpa using hb
      | succ k => simpa using lead_ge l k (by omega)
theorem lead_stop (s : List UInt8) (k : Nat) (h : k ≤ lead s) (hb : (s.getD k 0).toNat < 128) : lead s = k := by
  by_cases e : k < lead s
  · have := lead_ge s k e; omega
  · omega
/-- The number's reading, unbounded: pack.number. -/
theorem readN_form (s : List UInt8) (h : 10 ≤ lead s) (m : Nat) : readN s m = (0, 0, 8) := by unfold readN; rw [if_pos h]
theorem readN_short (s : List UInt8) (h : lead s < 10) (h1 : s.length ≤ lead s) (m : Nat) : readN s m = (0, 0, 7) := by unfold readN; rw [if_neg (by omega), if_pos h1]
theorem readN_ten (s : List UInt8) (h : lead s = 9) (h1 : lead s < s.length) (h2 : 1 < (s.getD 9 0).toNat) (m : Nat) : readN s m = (0, 0, 8) := by
  unfold readN; rw [if_neg (by omega), if_neg (by omega), if_pos ⟨h, h2⟩]
theorem readN_zero (s : List UInt8) (h : lead s < 10) (h1 : lead s < s.length) (h2 : 0 < lead s) (h3 : (s.getD (lead s) 0).toNat = 0) (m : Nat) : readN s m = (0, 0, 8) := by
  unfold readN; rw [if_neg (by omega), if_neg (by omega)]
  split
  · rfl
  · rw [if_pos ⟨h2, h3⟩]
theorem readN_val (s : List UInt8) (h : lead s < 10) (h1 : lead s < s.length) (h9 : lead s = 9 → (s.getD 9 0).toNat ≤ 1) (h3 : ¬ (0 < lead s ∧ (s.getD (lead s) 0).toNat = 0)) (m : Nat) :
    readN s m = if m < numV (s.take (lead s + 1)) then (0, 0, 8) else (numV (s.take (lead s + 1)), lead s + 1, 0) := by
  unfold readN; rw [if_neg (by omega), if_neg (by omega), if_neg (by rintro ⟨a, b⟩; have := h9 a; omega), if_neg h3]
theorem readN_max (s : List UInt8) (m : Nat) : readN s m = if (readN s maxU).2.2 = 0 ∧ m < (readN s maxU).1 then (0, 0, 8) else readN s maxU := by
  rw [maxU_eq] at *
  by_cases a : 10 ≤ lead s
  · rw [readN_form s a, readN_form s a]; rfl
  by_cases b : s.length ≤ lead s
  · rw [readN_short s (by omega) b, readN_short s (by omega) b]; rfl
  by_cases c : lead s = 9 ∧ 1 < (s.getD 9 0).toNat
  · rw [readN_ten s c.1 (by omega) c.2, readN_ten s c.1 (by omega) c.2]; rfl
  by_cases d : 0 < lead s ∧ (s.getD (lead s) 0).toNat = 0
  · rw [readN_zero s (by omega) (by omega) d.1 d.2, readN_zero s (by omega) (by omega) d.1 d.2]; rfl
  have h9 : lead s = 9 → (s.getD 9 0).toNat ≤ 1 := fun e => by
    have : ¬ 1 < (s.getD 9 0).toNat := fun h => c ⟨e, h⟩
    omega
  have hv := numV_lt64 (s := s) (by omega) (by omega) h9
  rw [readN_val s (by omega) (by omega) h9 d, readN_val s (by omega) (by omega) h9 d, if_neg (by omega : ¬ 18446744073709551615 < numV (s.take (lead s + 1)))]
  simp
theorem numV_drop : ∀ (s : List UInt8) (i : Nat), i < s.length → numV (s.drop i) = (s.getD i 0).toNat % 128 + 128 * numV (s.drop (i + 1))
  | [], i, h => by simp at h
  | b :: l, 0, _ => by simp [numV]
  | b :: l, i + 1, h => by simpa using numV_drop l i (by simpa using h)
theorem numV_lt (s : List UInt8) : numV s < 128 ^ s.length := by
  induction s with
  | nil => simp [numV]
  | cons b l ih => rw [numV, List.length_cons, Nat.pow_succ]; omega
theorem numV_last : ∀ (n : Nat) (l : List UInt8), l.length = n + 1 → numV l < ((l.getD n 0).toNat % 128 + 1) * 128 ^ n
  | _, [], h => by simp at h
  | 0, [b], _ => by simp [numV]
  | 0, b :: c :: l, h => by simp at h
  | n + 1, b :: l, h => by
    have := numV_last n l (by simpa using h)
    rw [numV, List.getD_cons_succ, Nat.pow_succ, ← Nat.mul_assoc]; omega
theorem numV_drop_lt (s : List UInt8) (hl : lead s < s.length) (h9 : lead s ≤ 9) (ht : lead s = 9 → (s.getD 9 0).toNat ≤ 1) (j : Nat) (hj : 1 ≤ j) : numV ((s.take (lead s + 1)).drop j) < 144115188075855872 := by
  by_cases hjl : j ≤ lead s
  · have e : ((s.take (lead s + 1)).drop j).length = (lead s - j) + 1 := by simp; omega
    have h := numV_last _ _ e
    have g : ((s.take (lead s + 1)).drop j).getD (lead s - j) 0 = s.getD (lead s) 0 := by
      simp only [List.getD_eq_getElem?_getD, List.getElem?_drop, List.getElem?_take]
      rw [show j + (lead s - j) = lead s by omega, if_pos (by omega)]
    rw [g] at h
    by_cases e9 : lead s = 9
    · have h8 : 128 ^ (lead s - j) ≤ 128 ^ 8 := Nat.pow_le_pow_right (by omega) (by omega)
      have t := ht e9
      rw [← e9] at t
      have := Nat.mul_le_mul (show (s.getD (lead s) 0).toNat % 128 + 1 ≤ 2 by omega) h8
      omega
    · have h8 : 128 ^ (lead s - j) ≤ 128 ^ 7 := Nat.pow_le_pow_right (by omega) (by omega)
      have := Nat.mul_le_mul (show (s.getD (lead s) 0).toNat % 128 + 1 ≤ 128 by omega) h8
      omega
  · rw [List.drop_of_length_le (by simp; omega)]; simp [numV]
/-- What pack.number comes to behind its loop. -/
theorem readN_size (s : List UInt8) (h : lead s ≤ 9) (h1 : lead s < s.length) (h9 : lead s = 9 → (s.getD 9 0).toNat ≤ 1) :
    readN s maxU = if (numL (numV (s.take (lead s + 1)))).length = lead s + 1 then (numV (s.take (lead s + 1)), lead s + 1, 0) else (0, 0, 8) := by
  have hc := size_canon s h1
  have hv := numV_lt64 h1 h h9
  by_cases d : 0 < lead s ∧ (s.getD (lead s) 0).toNat = 0
  · rw [readN_zero s (by omega) h1 d.1 d.2, if_neg (fun e => hc.1 e d)]
  · rw [readN_val s (by omega) h1 h9 d, if_pos (hc.2 d), maxU_eq, if_neg (by omega)]
end TL
end Go

/-
  DERIVED: THE SHELF's CONTRACTS AT THIS DUMP, IN PLAIN WORDS (tools/lay-plain.mjs out of 'TryzShelf.lean', which tools/lay-shelf.mjs wrote): THE SAME DECLARATIONS UNDER THE SAME NAMES: 'import', 'namespace', 'open', 'def', 'theorem' AND NOTHING ELSE: no command of the shelf's: FOR A HAND-IN. Each laying: the table of numbers ('.._ren') and one theorem, a field a fact of the dump's own or the kernel's comparison; each contract: ONE APPLICATION.
-/
namespace Go.Proofs
open Go.Shelf
def Tryz.lays137_ren : Go.Shelf.Ren := ⟨fun | 137 => 215 | 217 => 217 | 266 => 221 | n => n, fun | 9 => 9 | 5 => 5 | 3 => 3 | n => n, fun | n => n⟩
theorem Tryz.lays137 : Go.Proofs.Lays.n137 Tryz.prog Tryz.lays137_ren := {
  mixed := by kernel_rfl
  f137 := Tryz.func215.trans (congrArg some (by kernel_rfl))
  f217 := Tryz.func217.trans (congrArg some (by kernel_rfl))
  f266 := Tryz.func221.trans (congrArg some (by kernel_rfl))
  t3 := Tryz.underlying3
  a3 := Tryz.isAgg3
  z3 := Tryz.sizeOf3
  v3 := Tryz.zeroValue3
  t5 := Tryz.underlying5
  a5 := Tryz.isAgg5
  z5 := Tryz.sizeOf5
  v5 := Tryz.zeroValue5
  t9 := Tryz.underlying9
  a9 := Tryz.isAgg9
  z9 := Tryz.sizeOf9
  v9 := Tryz.zeroValue9 }
open Go.RowKit in
/-- strings.IndexByte: "IndexByte returns the index of the first instance of c in s, or -1 if c is not present in s.": IT RETURNS 'Lib.indexByte s c'; the world is as it was. (LAID: no walk: one application.) -/
theorem Tryz.strings_IndexByte (s : ByteArray) (c : Int) (w : World) :
    Calls Tryz.prog 215 #[.string s, .int .u8 c] w fun e w' => e = .returned (.int .i64 (Lib.indexByte s.data.toList c.toNat.toUInt8)) ∧ w' = w := Any.strings_IndexByte Tryz.lays137 s c w
def Tryz.lays129_ren : Go.Shelf.Ren := ⟨fun | 129 => 170 | n => n, fun | 53 => 30 | 3 => 3 | 4 => 4 | 46 => 109 | 5 => 5 | 9 => 9 | n => n, fun | n => n⟩
theorem Tryz.lays129 : Go.Proofs.Lays.n129 Tryz.prog Tryz.lays129_ren := {
  mixed := by kernel_rfl
  f129 := Tryz.func170.trans (congrArg some (by kernel_rfl))
  t3 := Tryz.underlying3
  a3 := Tryz.isAgg3
  z3 := Tryz.sizeOf3
  v3 := Tryz.zeroValue3
  t4 := Tryz.underlying4
  a4 := Tryz.isAgg4
  z4 := Tryz.sizeOf4
  v4 := Tryz.zeroValue4
  t5 := Tryz.underlying5
  a5 := Tryz.isAgg5
  z5 := Tryz.sizeOf5
  v5 := Tryz.zeroValue5
  t9 := Tryz.underlying9
  a9 := Tryz.isAgg9
  z9 := Tryz.sizeOf9
  v9 := Tryz.zeroValue9
  t46 := Tryz.underlying109
  a46 := Tryz.isAgg109
  z46 := Tryz.sizeOf109
  v46 := Tryz.zeroValue109
  t53 := Tryz.underlying30
  a53 := Tryz.isAgg30
  z53 := Tryz.sizeOf30
  v53 := Tryz.zeroValue30 }
/-- bits.Len64: "Len64 returns the minimum number of bits required to represent x; the result is 0 for x == 0.": IT RETURNS 'Lib.bitLen x'; the world is as it was. ('h0', 'h1': x is a uint64.) (LAID: no walk: one application.) -/
theorem Tryz.bits_Len64 (x : Int) (w : World) (h0 : 0 ≤ x) (h1 : x ≤ 18446744073709551615) :
    Calls Tryz.prog 170 #[.int .u64 x] w fun e w' => e = .returned (.int .i64 (Lib.bitLen x.toNat)) ∧ w' = w := Any.bits_Len64 Tryz.lays129 x w h0 h1
def Tryz.lays217_ren : Go.Shelf.Ren := ⟨fun | 217 => 217 | 266 => 221 | n => n, fun | 9 => 9 | 5 => 5 | 3 => 3 | n => n, fun | n => n⟩
theorem Tryz.lays217 : Go.Proofs.Lays.n217 Tryz.prog Tryz.lays217_ren := {
  mixed := by kernel_rfl
  f217 := Tryz.func217.trans (congrArg some (by kernel_rfl))
  f266 := Tryz.func221.trans (congrArg some (by kernel_rfl))
  t3 := Tryz.underlying3
  a3 := Tryz.isAgg3
  z3 := Tryz.sizeOf3
  v3 := Tryz.zeroValue3
  t5 := Tryz.underlying5
  a5 := Tryz.isAgg5
  z5 := Tryz.sizeOf5
  v5 := Tryz.zeroValue5
  t9 := Tryz.underlying9
  a9 := Tryz.isAgg9
  z9 := Tryz.sizeOf9
  v9 := Tryz.zeroValue9 }
open Go.RowKit Go.Lib in
/-- internal/stringslite.IndexByte (what strings.IndexByte calls): IT RETURNS 'Lib.indexByte s c'; the world is as it was. (LAID: no walk: one application.) -/
theorem Tryz.stringslite_IndexByte (s : ByteArray) (c : Int) (w : World) :
    Calls Tryz.prog 217 #[.string s, .int .u8 c] w fun e w' => e = .returned (.int .i64 (Lib.indexByte s.data.toList c.toNat.toUInt8)) ∧ w' = w := Any.stringslite_IndexByte Tryz.lays217 s c w
def Tryz.lays224_ren : Go.Shelf.Ren := ⟨fun | 224 => 219 | n => n, fun | 3 => 3 | n => n, fun | n => n⟩
theorem Tryz.lays224 : Go.Proofs.Lays.n224 Tryz.prog Tryz.lays224_ren := {
  mixed := by kernel_rfl
  f224 := Tryz.func219.trans (congrArg some (by kernel_rfl))
  t3 := Tryz.underlying3
  a3 := Tryz.isAgg3
  z3 := Tryz.sizeOf3
  v3 := Tryz.zeroValue3 }
open Go.RowKit Go.Lib in
/-- internal/bytealg.Cutover: "Cutover reports the number of failures of IndexByte we should tolerate before switching over to Index. n is the number of bytes processed so far.": on amd64: (n + 16) / 8. (LAID: no walk: one application.) -/
theorem Tryz.bytealg_Cutover (n : Int) (h0 : 0 ≤ n) (h1 : n < 4611686018427387904) (w : World) :
    Calls Tryz.prog 219 #[.int .i64 n] w fun e w' => e = .returned (.int .i64 ((n + 16) / 8)) ∧ w' = w := Any.bytealg_Cutover Tryz.lays224 n h0 h1 w
def Tryz.lays314_ren : Go.Shelf.Ren := ⟨fun | 314 => 222 | n => n, fun | 9 => 9 | 51 => 22 | 3 => 3 | 4 => 4 | 5 => 5 | 46 => 109 | n => n, fun | n => n⟩
theorem Tryz.lays314 : Go.Proofs.Lays.n314 Tryz.prog Tryz.lays314_ren := {
  mixed := by kernel_rfl
  f314 := Tryz.func222.trans (congrArg some (by kernel_rfl))
  t3 := Tryz.underlying3
  a3 := Tryz.isAgg3
  z3 := Tryz.sizeOf3
  v3 := Tryz.zeroValue3
  t4 := Tryz.underlying4
  a4 := Tryz.isAgg4
  z4 := Tryz.sizeOf4
  v4 := Tryz.zeroValue4
  t5 := Tryz.underlying5
  a5 := Tryz.isAgg5
  z5 := Tryz.sizeOf5
  v5 := Tryz.zeroValue5
  t9 := Tryz.underlying9
  a9 := Tryz.isAgg9
  z9 := Tryz.sizeOf9
  v9 := Tryz.zeroValue9
  t46 := Tryz.underlying109
  a46 := Tryz.isAgg109
  z46 := Tryz.sizeOf109
  v46 := Tryz.zeroValue109
  t51 := Tryz.underlying22
  a51 := Tryz.isAgg22
  z51 := Tryz.sizeOf22
  v51 := Tryz.zeroValue22 }
open Go.RowKit Go.Lib in
/-- hashStr: "returns the hash and the appropriate multiplicative factor for use in Rabin-Karp algorithm": THE HASH OF ALL OF sep, AND 16777619 ^ len(sep), both in uint32. (LAID: no walk: one application.) -/
theorem Tryz.bytealg_hashStr (sep : ByteArray) (hs : sep.size < 4294967281) (w : World) :
    Calls Tryz.prog 222 #[.string sep] w fun e w' => e = .returned (.tuple #[.int .u32 (RK.H sep.data.toList % 4294967296), .int .u32 (16777619 ^ sep.size % 4294967296)]) ∧ w' = w := Any.bytealg_hashStr Tryz.lays314 sep hs w
def Tryz.lays267_ren : Go.Shelf.Ren := ⟨fun | 267 => 220 | 314 => 222 | n => n, fun | 9 => 9 | 3 => 3 | 146 => 289 | 51 => 22 | 4 => 4 | 5 => 5 | 46 => 109 | n => n, fun | n => n⟩
theorem Tryz.lays267 : Go.Proofs.Lays.n267 Tryz.prog Tryz.lays267_ren := {
  mixed := by kernel_rfl
  f267 := Tryz.func220.trans (congrArg some (by kernel_rfl))
  f314 := Tryz.func222.trans (congrArg some (by kernel_rfl))
  t3 := Tryz.underlying3
  a3 := Tryz.isAgg3
  z3 := Tryz.sizeOf3
  v3 := Tryz.zeroValue3
  t4 := Tryz.underlying4
  a4 := Tryz.isAgg4
  z4 := Tryz.sizeOf4
  v4 := Tryz.zeroValue4
  t5 := Tryz.underlying5
  a5 := Tryz.isAgg5
  z5 := Tryz.sizeOf5
  v5 := Tryz.zeroValue5
  t9 := Tryz.underlying9
  a9 := Tryz.isAgg9
  z9 := Tryz.sizeOf9
  v9 := Tryz.zeroValue9
  t46 := Tryz.underlying109
  a46 := Tryz.isAgg109
  z46 := Tryz.sizeOf109
  v46 := Tryz.zeroValue109
  t51 := Tryz.underlying22
  a51 := Tryz.isAgg22
  z51 := Tryz.sizeOf22
  v51 := Tryz.zeroValue22
  t146 := Tryz.underlying289
  a146 := Tryz.isAgg289
  z146 := Tryz.sizeOf289
  v146 := Tryz.zeroValue289 }
open Go.RowKit Go.Lib in
theorem Tryz.bytealg_IndexRabinKarp (s sep : ByteArray) (h1 : 1 ≤ sep.size) (h2 : sep.size ≤ s.size) (hs : s.size < 4294967281) (w : World) :
    Calls Tryz.prog 220 #[.string s, .string sep] w fun e w' => e = .returned (.int .i64 (Lib.index s.data.toList sep.data.toList)) ∧ w' = w := Any.bytealg_IndexRabinKarp Tryz.lays267 s sep h1 h2 hs w
def Tryz.lays219_ren : Go.Shelf.Ren := ⟨fun | 219 => 216 | 217 => 217 | 225 => 218 | 224 => 219 | 267 => 220 | 266 => 221 | 314 => 222 | n => n, fun | 9 => 9 | 3 => 3 | 4 => 4 | 5 => 5 | 46 => 109 | 146 => 289 | 51 => 22 | n => n, fun | 1 => 0 | n => n⟩
theorem Tryz.lays219 : Go.Proofs.Lays.n219 Tryz.prog Tryz.lays219_ren := {
  mixed := by kernel_rfl
  f217 := Tryz.func217.trans (congrArg some (by kernel_rfl))
  f219 := Tryz.func216.trans (congrArg some (by kernel_rfl))
  f224 := Tryz.func219.trans (congrArg some (by kernel_rfl))
  f225 := Tryz.func218.trans (congrArg some (by kernel_rfl))
  f266 := Tryz.func221.trans (congrArg some (by kernel_rfl))
  f267 := Tryz.func220.trans (congrArg some (by kernel_rfl))
  f314 := Tryz.func222.trans (congrArg some (by kernel_rfl))
  t3 := Tryz.underlying3
  a3 := Tryz.isAgg3
  z3 := Tryz.sizeOf3
  v3 := Tryz.zeroValue3
  t4 := Tryz.underlying4
  a4 := Tryz.isAgg4
  z4 := Tryz.sizeOf4
  v4 := Tryz.zeroValue4
  t5 := Tryz.underlying5
  a5 := Tryz.isAgg5
  z5 := Tryz.sizeOf5
  v5 := Tryz.zeroValue5
  t9 := Tryz.underlying9
  a9 := Tryz.isAgg9
  z9 := Tryz.sizeOf9
  v9 := Tryz.zeroValue9
  t46 := Tryz.underlying109
  a46 := Tryz.isAgg109
  z46 := Tryz.sizeOf109
  v46 := Tryz.zeroValue109
  t51 := Tryz.underlying22
  a51 := Tryz.isAgg22
  z51 := Tryz.sizeOf22
  v51 := Tryz.zeroValue22
  t146 := Tryz.underlying289
  a146 := Tryz.isAgg289
  z146 := Tryz.sizeOf289
  v146 := Tryz.zeroValue289
  g1 := by kernel_rfl }
open Go.RowKit Go.Lib in
/-- internal/stringslite.Index (what strings.Index calls) AT A substr OF ONE BYTE c: IT RETURNS 'Lib.indexByte s c'; the world is as it was. (LAID: no walk: one application.) -/
theorem Tryz.stringslite_Index_one (s : ByteArray) (c : UInt8) (w : World) :
    Calls Tryz.prog 216 #[.string s, .string ⟨#[c]⟩] w fun e w' => e = .returned (.int .i64 (Lib.indexByte s.data.toList c)) ∧ w' = w := Any.stringslite_Index_one Tryz.lays219 s c w
open Go.RowKit Go.Lib in
/-- internal/stringslite.Index (what strings.Index calls) AT A substr OF WHATEVER LENGTH: IT RETURNS 'Lib.index s substr'; the world is as it was. 'm': what internal/bytealg.MaxLen holds: whatever. (LAID: no walk: one application.) -/
theorem Tryz.stringslite_Index (s sub : ByteArray) (m : Int) (w : World) (hs : s.size < 4294967281) (hm : w.cell? ⟨0, 0, none⟩ = some (.int .i64 m)) :
    Calls Tryz.prog 216 #[.string s, .string sub] w fun e w' => e = .returned (.int .i64 (Lib.index s.data.toList sub.data.toList)) ∧ w' = w := Any.stringslite_Index Tryz.lays219 s sub m w hs hm
def Tryz.lays220_ren : Go.Shelf.Ren := ⟨fun | 220 => 214 | 219 => 216 | 217 => 217 | 225 => 218 | 224 => 219 | 267 => 220 | 266 => 221 | 314 => 222 | n => n, fun | 9 => 9 | 4 => 4 | 3 => 3 | 5 => 5 | 46 => 109 | 146 => 289 | 51 => 22 | n => n, fun | 1 => 0 | n => n⟩
theorem Tryz.lays220 : Go.Proofs.Lays.n220 Tryz.prog Tryz.lays220_ren := {
  mixed := by kernel_rfl
  f217 := Tryz.func217.trans (congrArg some (by kernel_rfl))
  f219 := Tryz.func216.trans (congrArg some (by kernel_rfl))
  f220 := Tryz.func214.trans (congrArg some (by kernel_rfl))
  f224 := Tryz.func219.trans (congrArg some (by kernel_rfl))
  f225 := Tryz.func218.trans (congrArg some (by kernel_rfl))
  f266 := Tryz.func221.trans (congrArg some (by kernel_rfl))
  f267 := Tryz.func220.trans (congrArg some (by kernel_rfl))
  f314 := Tryz.func222.trans (congrArg some (by kernel_rfl))
  t3 := Tryz.underlying3
  a3 := Tryz.isAgg3
  z3 := Tryz.sizeOf3
  v3 := Tryz.zeroValue3
  t4 := Tryz.underlying4
  a4 := Tryz.isAgg4
  z4 := Tryz.sizeOf4
  v4 := Tryz.zeroValue4
  t5 := Tryz.underlying5
  a5 := Tryz.isAgg5
  z5 := Tryz.sizeOf5
  v5 := Tryz.zeroValue5
  t9 := Tryz.underlying9
  a9 := Tryz.isAgg9
  z9 := Tryz.sizeOf9
  v9 := Tryz.zeroValue9
  t46 := Tryz.underlying109
  a46 := Tryz.isAgg109
  z46 := Tryz.sizeOf109
  v46 := Tryz.zeroValue109
  t51 := Tryz.underlying22
  a51 := Tryz.isAgg22
  z51 := Tryz.sizeOf22
  v51 := Tryz.zeroValue22
  t146 := Tryz.underlying289
  a146 := Tryz.isAgg289
  z146 := Tryz.sizeOf289
  v146 := Tryz.zeroValue289
  g1 := by kernel_rfl }
open Go.RowKit Go.Lib in
/-- internal/stringslite.Cut (what strings.Cut calls): IT RETURNS 'Lib.cut s sep'; the world is as it was but for the count of draws. (LAID: no walk: one application.) -/
theorem Tryz.stringslite_Cut (s sep : ByteArray) (m : Int) (w : World) (hs : s.size < 4294967281) (hm : w.cell? ⟨0, 0, none⟩ = some (.int .i64 m)) :
    Calls Tryz.prog 214 #[.string s, .string sep] w fun e w' => e = .returned (.tuple #[.string ⟨(Lib.cut s.data.toList sep.data.toList).1.toArray⟩, .string ⟨(Lib.cut s.data.toList sep.data.toList).2.1.toArray⟩, .bool (Lib.cut s.data.toList sep.data.toList).2.2]) ∧ ∃ n, w' = w.drewN n := Any.stringslite_Cut Tryz.lays220 s sep m w hs hm
def Tryz.lays145_ren : Go.Shelf.Ren := ⟨fun | 145 => 211 | 220 => 214 | 219 => 216 | 217 => 217 | 225 => 218 | 224 => 219 | 267 => 220 | 266 => 221 | 314 => 222 | n => n, fun | 9 => 9 | 4 => 4 | 59 => 250 | 3 => 3 | 5 => 5 | 46 => 109 | 146 => 289 | 51 => 22 | n => n, fun | 1 => 0 | n => n⟩
theorem Tryz.lays145 : Go.Proofs.Lays.n145 Tryz.prog Tryz.lays145_ren := {
  mixed := by kernel_rfl
  f145 := Tryz.func211.trans (congrArg some (by kernel_rfl))
  f217 := Tryz.func217.trans (congrArg some (by kernel_rfl))
  f219 := Tryz.func216.trans (congrArg some (by kernel_rfl))
  f220 := Tryz.func214.trans (congrArg some (by kernel_rfl))
  f224 := Tryz.func219.trans (congrArg some (by kernel_rfl))
  f225 := Tryz.func218.trans (congrArg some (by kernel_rfl))
  f266 := Tryz.func221.trans (congrArg some (by kernel_rfl))
  f267 := Tryz.func220.trans (congrArg some (by kernel_rfl))
  f314 := Tryz.func222.trans (congrArg some (by kernel_rfl))
  t3 := Tryz.underlying3
  a3 := Tryz.isAgg3
  z3 := Tryz.sizeOf3
  v3 := Tryz.zeroValue3
  t4 := Tryz.underlying4
  a4 := Tryz.isAgg4
  z4 := Tryz.sizeOf4
  v4 := Tryz.zeroValue4
  t5 := Tryz.underlying5
  a5 := Tryz.isAgg5
  z5 := Tryz.sizeOf5
  v5 := Tryz.zeroValue5
  t9 := Tryz.underlying9
  a9 := Tryz.isAgg9
  z9 := Tryz.sizeOf9
  v9 := Tryz.zeroValue9
  t46 := Tryz.underlying109
  a46 := Tryz.isAgg109
  z46 := Tryz.sizeOf109
  v46 := Tryz.zeroValue109
  t51 := Tryz.underlying22
  a51 := Tryz.isAgg22
  z51 := Tryz.sizeOf22
  v51 := Tryz.zeroValue22
  t59 := Tryz.underlying250
  a59 := Tryz.isAgg250
  z59 := Tryz.sizeOf250
  v59 := Tryz.zeroValue250
  t146 := Tryz.underlying289
  a146 := Tryz.isAgg289
  z146 := Tryz.sizeOf289
  v146 := Tryz.zeroValue289
  g1 := by kernel_rfl }
open Go.RowKit Go.Lib in
/-- strings.Cut: "Cut slices s around the first instance of sep, returning the text before and after sep. The found result reports whether sep appears in s. If sep does not appear in s, cut returns s, "", false.": IT RETURNS 'Lib.cut s sep'; the world is as it was but for the count of draws. (LAID: no walk: one application.) -/
theorem Tryz.strings_Cut (s sep : ByteArray) (m : Int) (w : World) (hs : s.size < 4294967281) (hm : w.cell? ⟨0, 0, none⟩ = some (.int .i64 m)) :
    Calls Tryz.prog 211 #[.string s, .string sep] w fun e w' => e = .returned (.tuple #[.string ⟨(Lib.cut s.data.toList sep.data.toList).1.toArray⟩, .string ⟨(Lib.cut s.data.toList sep.data.toList).2.1.toArray⟩, .bool (Lib.cut s.data.toList sep.data.toList).2.2]) ∧ ∃ n, w' = w.drewN n := Any.strings_Cut Tryz.lays145 s sep m w hs hm
def Tryz.laysM219_ren : Go.Shelf.Ren := ⟨fun | 219 => 216 | 217 => 217 | 225 => 218 | 224 => 219 | 267 => 220 | 266 => 221 | 314 => 222 | n => n, fun | 9 => 9 | 3 => 3 | 4 => 4 | 5 => 5 | 46 => 109 | 146 => 289 | 51 => 22 | n => n, fun | 1 => 0 | n => n⟩
theorem Tryz.laysM219 : Go.Proofs.LaysM.n219 Tryz.prog Tryz.laysM219_ren := {
  mixed := by kernel_rfl
  f217 := Tryz.func217.trans (congrArg some (by kernel_rfl))
  f219 := Tryz.func216.trans (congrArg some (by kernel_rfl))
  f224 := Tryz.func219.trans (congrArg some (by kernel_rfl))
  f225 := Tryz.func218.trans (congrArg some (by kernel_rfl))
  f266 := Tryz.func221.trans (congrArg some (by kernel_rfl))
  f267 := Tryz.func220.trans (congrArg some (by kernel_rfl))
  f314 := Tryz.func222.trans (congrArg some (by kernel_rfl))
  t3 := Tryz.underlying3
  a3 := Tryz.isAgg3
  z3 := Tryz.sizeOf3
  v3 := Tryz.zeroValue3
  t4 := Tryz.underlying4
  a4 := Tryz.isAgg4
  z4 := Tryz.sizeOf4
  v4 := Tryz.zeroValue4
  t5 := Tryz.underlying5
  a5 := Tryz.isAgg5
  z5 := Tryz.sizeOf5
  v5 := Tryz.zeroValue5
  t9 := Tryz.underlying9
  a9 := Tryz.isAgg9
  z9 := Tryz.sizeOf9
  v9 := Tryz.zeroValue9
  t46 := Tryz.underlying109
  a46 := Tryz.isAgg109
  z46 := Tryz.sizeOf109
  v46 := Tryz.zeroValue109
  t51 := Tryz.underlying22
  a51 := Tryz.isAgg22
  z51 := Tryz.sizeOf22
  v51 := Tryz.zeroValue22
  t146 := Tryz.underlying289
  a146 := Tryz.isAgg289
  z146 := Tryz.sizeOf289
  v146 := Tryz.zeroValue289
  g1 := by kernel_rfl
  i3 := by kernel_rfl
  i4 := by kernel_rfl
  i5 := by kernel_rfl
  i9 := by kernel_rfl
  i46 := by kernel_rfl
  i51 := by kernel_rfl
  i146 := by kernel_rfl
  m1 := by kernel_rfl
  s1_3 := fun w h => Go.Proofs.cell_of_shapedOpen_int (zero := #[.int .i64 0]) (t := 3) h (of_decide_eq_true (by kernel_rfl)) (by kernel_rfl) rfl (by kernel_rfl) (by kernel_rfl) Tryz.underlying3 }
open Go.RowKit Go.Lib in
theorem Tryz.stringslite_Index_shaped (s sub : ByteArray) (w : World) (h : w.ShapedOpen Tryz.prog) (hs : s.size < 4294967281) :
    Calls Tryz.prog 216 #[.string s, .string sub] w fun e w' => e = .returned (.int .i64 (Lib.index s.data.toList sub.data.toList)) ∧ w' = w := Any.stringslite_Index_shaped Tryz.laysM219 s sub w h hs
def Tryz.laysM220_ren : Go.Shelf.Ren := ⟨fun | 220 => 214 | 219 => 216 | 217 => 217 | 225 => 218 | 224 => 219 | 267 => 220 | 266 => 221 | 314 => 222 | n => n, fun | 9 => 9 | 4 => 4 | 3 => 3 | 5 => 5 | 46 => 109 | 146 => 289 | 51 => 22 | n => n, fun | 1 => 0 | n => n⟩
theorem Tryz.laysM220 : Go.Proofs.LaysM.n220 Tryz.prog Tryz.laysM220_ren := {
  mixed := by kernel_rfl
  f217 := Tryz.func217.trans (congrArg some (by kernel_rfl))
  f219 := Tryz.func216.trans (congrArg some (by kernel_rfl))
  f220 := Tryz.func214.trans (congrArg some (by kernel_rfl))
  f224 := Tryz.func219.trans (congrArg some (by kernel_rfl))
  f225 := Tryz.func218.trans (congrArg some (by kernel_rfl))
  f266 := Tryz.func221.trans (congrArg some (by kernel_rfl))
  f267 := Tryz.func220.trans (congrArg some (by kernel_rfl))
  f314 := Tryz.func222.trans (congrArg some (by kernel_rfl))
  t3 := Tryz.underlying3
  a3 := Tryz.isAgg3
  z3 := Tryz.sizeOf3
  v3 := Tryz.zeroValue3
  t4 := Tryz.underlying4
  a4 := Tryz.isAgg4
  z4 := Tryz.sizeOf4
  v4 := Tryz.zeroValue4
  t5 := Tryz.underlying5
  a5 := Tryz.isAgg5
  z5 := Tryz.sizeOf5
  v5 := Tryz.zeroValue5
  t9 := Tryz.underlying9
  a9 := Tryz.isAgg9
  z9 := Tryz.sizeOf9
  v9 := Tryz.zeroValue9
  t46 := Tryz.underlying109
  a46 := Tryz.isAgg109
  z46 := Tryz.sizeOf109
  v46 := Tryz.zeroValue109
  t51 := Tryz.underlying22
  a51 := Tryz.isAgg22
  z51 := Tryz.sizeOf22
  v51 := Tryz.zeroValue22
  t146 := Tryz.underlying289
  a146 := Tryz.isAgg289
  z146 := Tryz.sizeOf289
  v146 := Tryz.zeroValue289
  g1 := by kernel_rfl
  i3 := by kernel_rfl
  i4 := by kernel_rfl
  i5 := by kernel_rfl
  i9 := by kernel_rfl
  i46 := by kernel_rfl
  i51 := by kernel_rfl
  i146 := by kernel_rfl
  m1 := by kernel_rfl
  s1_3 := fun w h => Go.Proofs.cell_of_shapedOpen_int (zero := #[.int .i64 0]) (t := 3) h (of_decide_eq_true (by kernel_rfl)) (by kernel_rfl) rfl (by kernel_rfl) (by kernel_rfl) Tryz.underlying3 }
open Go.RowKit Go.Lib in
theorem Tryz.stringslite_Cut_shaped (s sep : ByteArray) (w : World) (h : w.ShapedOpen Tryz.prog) (hs : s.size < 4294967281) :
    Calls Tryz.prog 214 #[.string s, .string sep] w fun e w' => e = .returned (.tuple #[.string ⟨(Lib.cut s.data.toList sep.data.toList).1.toArray⟩, .string ⟨(Lib.cut s.data.toList sep.data.toList).2.1.toArray⟩, .bool (Lib.cut s.data.toList sep.data.toList).2.2]) ∧ ∃ n, w' = w.drewN n := Any.stringslite_Cut_shaped Tryz.laysM220 s sep w h hs
def Tryz.laysM145_ren : Go.Shelf.Ren := ⟨fun | 145 => 211 | 220 => 214 | 219 => 216 | 217 => 217 | 225 => 218 | 224 => 219 | 267 => 220 | 266 => 221 | 314 => 222 | n => n, fun | 9 => 9 | 4 => 4 | 59 => 250 | 3 => 3 | 5 => 5 | 46 => 109 | 146 => 289 | 51 => 22 | n => n, fun | 1 => 0 | n => n⟩
theorem Tryz.laysM145 : Go.Proofs.LaysM.n145 Tryz.prog Tryz.laysM145_ren := {
  mixed := by kernel_rfl
  f145 := Tryz.func211.trans (congrArg some (by kernel_rfl))
  f217 := Tryz.func217.trans (congrArg some (by kernel_rfl))
  f219 := Tryz.func216.trans (congrArg some (by kernel_rfl))
  f220 := Tryz.func214.trans (congrArg some (by kernel_rfl))
  f224 := Tryz.func219.trans (congrArg some (by kernel_rfl))
  f225 := Tryz.func218.trans (congrArg some (by kernel_rfl))
  f266 := Tryz.func221.trans (congrArg some (by kernel_rfl))
  f267 := Tryz.func220.trans (congrArg some (by kernel_rfl))
  f314 := Tryz.func222.trans (congrArg some (by kernel_rfl))
  t3 := Tryz.underlying3
  a3 := Tryz.isAgg3
  z3 := Tryz.sizeOf3
  v3 := Tryz.zeroValue3
  t4 := Tryz.underlying4
  a4 := Tryz.isAgg4
  z4 := Tryz.sizeOf4
  v4 := Tryz.zeroValue4
  t5 := Tryz.underlying5
  a5 := Tryz.isAgg5
  z5 := Tryz.sizeOf5
  v5 := Tryz.zeroValue5
  t9 := Tryz.underlying9
  a9 := Tryz.isAgg9
  z9 := Tryz.sizeOf9
  v9 := Tryz.zeroValue9
  t46 := Tryz.underlying109
  a46 := Tryz.isAgg109
  z46 := Tryz.sizeOf109
  v46 := Tryz.zeroValue109
  t51 := Tryz.underlying22
  a51 := Tryz.isAgg22
  z51 := Tryz.sizeOf22
  v51 := Tryz.zeroValue22
  t59 := Tryz.underlying250
  a59 := Tryz.isAgg250
  z59 := Tryz.sizeOf250
  v59 := Tryz.zeroValue250
  t146 := Tryz.underlying289
  a146 := Tryz.isAgg289
  z146 := Tryz.sizeOf289
  v146 := Tryz.zeroValue289
  g1 := by kernel_rfl
  i3 := by kernel_rfl
  i4 := by kernel_rfl
  i5 := by kernel_rfl
  i9 := by kernel_rfl
  i46 := by kernel_rfl
  i51 := by kernel_rfl
  i59 := by kernel_rfl
  i146 := by kernel_rfl
  m1 := by kernel_rfl
  s1_3 := fun w h => Go.Proofs.cell_of_shapedOpen_int (zero := #[.int .i64 0]) (t := 3) h (of_decide_eq_true (by kernel_rfl)) (by kernel_rfl) rfl (by kernel_rfl) (by kernel_rfl) Tryz.underlying3 }
open Go.RowKit Go.Lib in
theorem Tryz.strings_Cut_shaped (s sep : ByteArray) (w : World) (h : w.ShapedOpen Tryz.prog) (hs : s.size < 4294967281) :
    Calls Tryz.prog 211 #[.string s, .string sep] w fun e w' => e = .returned (.tuple #[.string ⟨(Lib.cut s.data.toList sep.data.toList).1.toArray⟩, .string ⟨(Lib.cut s.data.toList sep.data.toList).2.1.toArray⟩, .bool (Lib.cut s.data.toList sep.data.toList).2.2]) ∧ ∃ n, w' = w.drewN n := Any.strings_Cut_shaped Tryz.laysM145 s sep w h hs
def Tryz.lays264_ren : Go.Shelf.Ren := ⟨fun | 264 => 186 | n => n, fun | 53 => 30 | 46 => 109 | n => n, fun | n => n⟩
theorem Tryz.lays264 : Go.Proofs.Lays.n264 Tryz.prog Tryz.lays264_ren := {
  mixed := by kernel_rfl
  f264 := Tryz.func186.trans (congrArg some (by kernel_rfl))
  t46 := Tryz.underlying109
  a46 := Tryz.isAgg109
  z46 := Tryz.sizeOf109
  v46 := Tryz.zeroValue109
  t53 := Tryz.underlying30
  a53 := Tryz.isAgg30
  z53 := Tryz.sizeOf30
  v53 := Tryz.zeroValue30 }
open Go.RowKit Go.Lib in
theorem Tryz.bits_Mul64 (x y : Nat) (hx : x < 18446744073709551616) (hy : y < 18446744073709551616) (w : World) :
    Calls Tryz.prog 186 #[.int .u64 x, .int .u64 y] w fun e w' => e = .returned (.tuple #[.int .u64 ((x * y / 18446744073709551616 : Nat) : Int), .int .u64 ((x * y % 18446744073709551616 : Nat) : Int)]) ∧ w' = w := Any.bits_Mul64 Tryz.lays264 x y hx hy w
end Go.Proofs

/- The walk of pack.size. Conditions: numbers below 2^64. -/
namespace Go.Proofs.YtidadhbaomieiaaGreat
open Go.RowKit Go.TL
theorem or128 (m : Nat) : UInt8.ofNat m ||| 128 = UInt8.ofNat (m % 128 + 128) := by
  have h : ∀ n : Fin 256, UInt8.ofNat n.1 ||| 128 = UInt8.ofNat (n.1 % 128 + 128) := by decide +kernel
  have e : UInt8.ofNat m = UInt8.ofNat (m % 256) := by apply UInt8.toNat_inj.1; simp
  have := h ⟨m % 256, by omega⟩
  rw [e, this, show m % 256 % 128 = m % 128 by omega]
theorem Len64_c (n : Nat) (w : World) (h : n < 18446744073709551616) :
    Calls Tryz.prog 170 #[.int .u64 n] w fun e w' => e = .returned (.int .i64 (Lib.bitLen n)) ∧ w = w' :=
  (Go.Proofs.Tryz.bits_Len64 n w (by omega) (by omega)).mono fun _ _ ⟨a, b⟩ => ⟨a, b.symm⟩
set_option maxHeartbeats 1000000 in
theorem size_c (n : Nat) (w : World) (h : n < 18446744073709551616) :
    Calls Tryz.prog 137 #[.int .u64 n] w fun e w' => e = .returned (.int .i64 (numL n).length) ∧ w = w' := by
  have hs := size_eq n h
  have hl := numL_length_le n h
  have hp := numL_pos n
  obtain ⟨k, ek⟩ : ∃ k, k = (numL n).length := ⟨_, rfl⟩
  obtain ⟨b, eb⟩ : ∃ b, b = Lib.bitLen n := ⟨_, rfl⟩
  rw [← ek, ← eb] at hs
  rw [← ek] at hl hp ⊢
  have hb : b ≤ 70 := by omega
  have L := Len64_c n w h
  rw [← eb] at L
  obtain ⟨q, eq⟩ : ∃ q, q = (b + 6) / 7 := ⟨_, rfl⟩
  have e1 : ((b : Int) + 7 - 1).tdiv 7 = (q : Int) := by rw [Int.tdiv_eq_ediv_of_nonneg (by omega)]; omega
  rw [← eq] at hs
  by_cases h1 : 1 ≤ q
  all_goals
    go_enter Tryz.func137, Tryz.ntmps137
    go_wp2_with (first | (go_at_call 170; go_must (refine (L).mono ?_; rintro e w1 ⟨rfl, rfl⟩)))
    go_ret
    exact ⟨by first | rfl | (congr; omega) | (simp; omega), rfl⟩
end Go.Proofs.YtidadhbaomieiaaGreat

/- Bytes of texts, in a word that is closed to the walk. No conditions but those each law names. -/
namespace Go
namespace TL
open Go.RowKit
theorem lead_geI {s : List UInt8} {k : Nat} (h : k < lead s) : 128 ≤ I8 (bt s k) := by have := lead_ge s k h; rw [I8_bt]; omega
theorem lead_lastI {s : List UInt8} (h : lead s < s.length) : I8 (bt s (lead s)) < 128 := by have := lead_last s h; rw [I8_bt]; omega
theorem shl_or (n : Nat) (b : UInt8) (h : n < 144115188075855872) : I64 (w64 (n : Int) <<< 7 ||| w64 ((I8 b).tmod 128)) = ((b.toNat % 128 + 128 * n : Nat) : Int) := by
  have hb := I8_bd b
  rw [Int.tmod_eq_emod_of_nonneg hb.1, I8_eq, show ((b.toNat : Int) % 128) = ((b.toNat % 128 : Nat) : Int) by omega, w64_nat, w64_nat, I64_eq, UInt64.toNat_or, UInt64.toNat_shiftLeft]
  have e1 : (UInt64.ofNat n).toNat = n := by rw [UInt64.toNat_ofNat']; omega
  have e2 : (UInt64.ofNat (b.toNat % 128)).toNat = b.toNat % 128 := by rw [UInt64.toNat_ofNat']; omega
  rw [e1, e2]
  have e3 : ((7 : UInt64).toNat % 64) = 7 := rfl
  rw [e3, Nat.mod_eq_of_lt (by rw [Nat.shiftLeft_eq]; omega), ← Nat.shiftLeft_add_eq_or_of_lt (by omega), Nat.shiftLeft_eq]
  omega
theorem I64_nat (n : Nat) (h : n < 18446744073709551616) : I64 (w64 (n : Int)) = (n : Int) := by
  rw [w64_nat, I64_eq, UInt64.toNat_ofNat']; omega
theorem SeesB.of_own {w : World} {v : Value} {n : Nat} {l : List UInt8} (h : (Chunk.sl 1 v n (bs l)).ok w) (hn : n = l.length) : SeesB w v l := by
  subst hn; exact Own.sees h
end TL
end Go

/- The walks of pack.number and pack.bounded. Conditions: lengths. -/
namespace Go.Proofs.YtidadhbaomieiaaGreat
open Go.RowKit Go.TL
set_option maxRecDepth 100000 in
set_option maxHeartbeats 2000000 in
theorem number_c (s : List UInt8) (w : World) (hs : s.length ≤ 1000000000) :
    Calls Tryz.prog 97 #[.string (mkS s)] w fun e w' => e = .returned (.tuple #[.int .u64 (readN s maxU).1, .int .i64 (readN s maxU).2.1, .int .i64 (readN s maxU).2.2]) ∧ w = w' := by
  obtain ⟨R, eR⟩ : ∃ R, R = readN s maxU := ⟨_, rfl⟩
  rw [← eR]
  have ER := Lib.hid eR; clear eR
  obtain ⟨L, eL⟩ : ∃ L, L = lead s := ⟨_, rfl⟩
  have hle : L ≤ s.length := by rw [eL]; exact lead_le s
  have EL := Lib.hid eL; clear eL
  go_enter Tryz.func97, Tryz.ntmps97
  go_wp2_with fail
  go_loop [3] (fun n => ∃ k : Nat, k ≤ L ∧ k ≤ 10 ∧ n = .int .i64 k) (fun n => s.length - (intOf n).toNat)
  case atStart => exact ⟨0, by omega, by omega, rfl⟩
  case round =>
    obtain ⟨k, hk, hk10, rfl⟩ := hrel
    by_cases hlt : k < L ∧ k < 10
    · obtain ⟨h1, h2⟩ := hlt
      have hb : 128 ≤ I8 (bt s k) := lead_geI (by rw [← EL.out]; exact h1)
      have hm : (k : Int) < min (s.length : Int) 10 := by omega
      go_wp2_with fail
      go_round
      case rel => exact ⟨k + 1, by omega, by omega, by go_num⟩
      case measure => simp [intOf]; omega
    · by_cases h10 : k = 10
      · subst h10
        have e : R = (0, 0, 8) := by rw [ER.out]; exact readN_form s (by rw [← EL.out]; omega) _
        subst e
        go_wp2_with fail
        go_ret3
        exact ⟨rfl, rfl⟩
      · have ek : L = k := by omega
        subst ek
        have h9 : L ≤ 9 := by omega
        by_cases hlen : L = s.length
        · have e : R = (0, 0, 7) := by rw [ER.out]; exact readN_short s (by rw [← EL.out]; omega) (by rw [← EL.out]; omega) _
          subst e
          have hm : ((L : Int) < min (s.length : Int) 10) = False := by simp; omega
          have hne : ((L : Int) == 10) = false := by simp; omega
          have heq : ((L : Int) == (s.length : Int)) = true := by simp; omega
          go_wp2_with fail
          go_ret3
          exact ⟨rfl, rfl⟩
        · have hlt' : L < s.length := by omega
          have hb : I8 (bt s L) < 128 := by
            have h2 : lead s < s.length := by rw [← EL.out]; exact hlt'
            have h1 := lead_lastI h2
            rwa [← EL.out] at h1
          have hm : (L : Int) < min (s.length : Int) 10 := by omega
          have hne : ((L : Int) == 10) = false := by simp; omega
          have heq : ((L : Int) == (s.length : Int)) = false := by simp; omega
          by_cases ht : L = 9 ∧ 1 < (bt s 9).toNat
          · obtain ⟨rfl, ht⟩ := ht
            have e : R = (0, 0, 8) := by rw [ER.out]; exact readN_ten s EL.out.symm (by rw [← EL.out]; omega) ht _
            subst e
            have hb2 : 1 < I8 (bt s 9) := by rw [I8_eq]; omega
            go_wp2_with fail
            go_ret3
            exact ⟨rfl, rfl⟩
          · have hb2 : L = 9 → I8 (bt s L) ≤ 1 := fun h => by subst h; rw [I8_eq]; omega
            have HB2 := Lib.hid hb2; clear hb2
            clear ht hlt h10 hlen hk hk10
            by_cases hn9 : L = 9
            have hq : ((L : Int) == 9) = true := by simp; omega
            have hb3 := HB2.out hn9
            replace hn9 := Lib.hid hn9
            go_wp2_with fail
            clear hq hb3
            rotate_left
            have hq : ((L : Int) == 9) = false := by simp; omega
            replace hn9 := Lib.hid hn9
            go_wp2_with fail
            clear hq
            rotate_left
            all_goals
              clear hm hne heq hn9
              obtain ⟨T, eT⟩ : ∃ T, T = s.take (L + 1) := ⟨_, rfl⟩
              have lT : T.length = L + 1 := by rw [eT]; simp; omega
              have h2 : lead s < s.length := by rw [← EL.out]; exact hlt'
              have h4 : lead s = 9 → (s.getD 9 0).toNat ≤ 1 := fun h => by
                have h := HB2.out (EL.out.trans h)
                rw [I8_bt, EL.out, ‹lead s = 9›] at h
                omega
              have DR : Hid (∀ j, numV (T.drop j) = if j ≤ L then (bt s j).toNat % 128 + 128 * numV (T.drop (j + 1)) else 0) := Lib.hid fun j => by
                by_cases hj : j ≤ L
                · have := numV_drop T j (by omega)
                  rw [if_pos hj, this, eT]; simp only [bt, List.getD_eq_getElem?_getD, List.getElem?_take]; rw [if_pos (by omega)]
                · rw [if_neg hj, List.drop_of_length_le (by omega)]; rfl
              have LT : Hid (∀ j, numV (T.drop (j + 1)) < 144115188075855872) := Lib.hid fun j => by
                rw [eT, EL.out]; exact numV_drop_lt s h2 (by rw [← EL.out]; exact h9) h4 (j + 1) (by omega)
              have RS := Lib.hid (readN_size s (by rw [← EL.out]; exact h9) h2 h4)
              rw [← ER.out, ← EL.out, ← eT] at RS
              have VT := numV_lt64 h2 (by rw [← EL.out]; exact h9) h4
              rw [← EL.out, ← eT] at VT
              have lT := Lib.hid lT
              clear eT h2 h4
              go_loop [2, 5] (fun nv iv => ∃ j : Nat, j ≤ L + 1 ∧ iv = .int .i64 ((j : Int) - 1) ∧ nv = .int .u64 (numV (T.drop j))) (fun _ iv => (intOf iv + 1).toNat)
              case atStart => exact ⟨L + 1, by omega, by go_num, by rw [List.drop_of_length_le (by have := lT.out; omega)]; rfl⟩
              case round =>
                obtain ⟨j, hj, rfl, rfl⟩ := hrel
                cases j with
                | zero =>
                  rw [List.drop_zero]
                  obtain ⟨V, eV⟩ : ∃ V, V = numV T := ⟨_, rfl⟩
                  rw [← eV] at RS VT ⊢
                  obtain ⟨z, ez⟩ : ∃ z, z = (numL V).length := ⟨_, rfl⟩
                  have SZ := Lib.hid (size_c V w VT)
                  rw [← ez] at RS SZ
                  clear eV ez
                  by_cases hz : z = L + 1
                  · have e := RS.out
                    rw [if_pos hz] at e
                    have hzz : ((z : Int) == (L : Int) + 1) = true := by simp; omega
                    have hzz' : ((z : Int) != (L : Int) + 1) = false := by simp; omega
                    subst e
                    go_wp2_with ((go_at_call 137; go_must (refine (SZ.out).mono ?_; rintro e w1 ⟨rfl, rfl⟩)))
                    go_ret3
                    exact ⟨by congr, rfl⟩
                  · have e := RS.out
                    rw [if_neg hz] at e
                    have hzz : ((z : Int) == (L : Int) + 1) = false := by simp; omega
                    have hzz' : ((z : Int) != (L : Int) + 1) = true := by simp; omega
                    subst e
                    go_wp2_with ((go_at_call 137; go_must (refine (SZ.out).mono ?_; rintro e w1 ⟨rfl, rfl⟩)))
                    go_ret3
                    exact ⟨rfl, rfl⟩
                | succ j =>
                  have l57 := LT.out j
                  have hjL : j ≤ L := by omega
                  have e : I64 (w64 ((numV (T.drop (j + 1)) : Nat) : Int) <<< 7 ||| w64 ((I8 (bt s j)).tmod 128)) = ((numV (T.drop j) : Nat) : Int) := by
                    rw [shl_or _ _ l57, DR.out j, if_pos hjL]
                  obtain ⟨X, eX⟩ : ∃ X, X = numV (T.drop (j + 1)) := ⟨_, rfl⟩
                  rw [← eX] at e l57 ⊢
                  have E := Lib.hid e
                  clear e eX
                  have hjs : j < s.length := by omega
                  go_wp2_with fail
                  go_round
                  case rel => exact ⟨j, by omega, rfl, by rw [E.out]⟩
                  case measure => simp [intOf]
end Go.Proofs.YtidadhbaomieiaaGreat

/- The walks of pack.In's methods: the reader's state turns as its plain law says. Conditions: lengths. -/
namespace Go
namespace TL
open Go.RowKit
/-- A reader's cells. -/
def inV (x : InS) : List Value := [.string (mkS x.rest), .int .i64 x.read, .int .i64 x.err]
end TL
end Go
namespace Go.Proofs.YtidadhbaomieiaaGreat
open Go.RowKit Go.TL
set_option maxRecDepth 100000 in
set_option maxHeartbeats 2000000 in
theorem bounded_c (s : List UInt8) (m : Nat) (w : World) (hs : s.length ≤ 1000000000) (hm : m < 9223372036854775808) :
    Calls Tryz.prog 95 #[.string (mkS s), .int .i64 m] w fun e w' => e = .returned (.tuple #[.int .i64 (readN s m).1, .int .i64 (readN s m).2.1, .int .i64 (readN s m).2.2]) ∧ w = w' := by
  have hr := readN_max s m
  obtain ⟨⟨x, b, e⟩, eR⟩ : ∃ R, R = readN s maxU := ⟨_, rfl⟩
  have he := read_err s maxU
  have hlt : e = 0 → x < 18446744073709551616 := fun h => (read_ok (eR.symm.trans (by rw [h]))).2.2.2
  have hle := read_le eR.symm
  have N := number_c s w hs
  rw [← eR] at hr he N
  rw [hr]
  simp only at N he ⊢
  clear eR hr
  have N := Lib.hid N
  have HE := Lib.hid he
  have HI := Lib.hid (I64_nat m (by omega))
  clear he
  by_cases h0 : e = 0
  · subst h0
    replace hlt := hlt rfl
    by_cases hx : m < x
    · rw [if_pos ⟨rfl, hx⟩]
      go_enter Tryz.func95, Tryz.ntmps95
      go_wp2_with ((go_at_call 97; go_must (refine (N.out).mono ?_; rintro e w1 ⟨rfl, rfl⟩)))
      all_goals (first | (exfalso; have := HI.out; omega) | (go_ret3; exact ⟨rfl, rfl⟩))
    · rw [if_neg (fun h => hx h.2)]
      go_enter Tryz.func95, Tryz.ntmps95
      go_wp2_with ((go_at_call 97; go_must (refine (N.out).mono ?_; rintro e w1 ⟨rfl, rfl⟩)))
      all_goals (first | (exfalso; have := HI.out; omega) | (go_ret3; exact ⟨rfl, rfl⟩))
  · rw [if_neg (fun h => h0 h.1)]
    have h0' : ((e : Int) == 0) = false := by simp; omega
    have h0'' : ((e : Int) != 0) = true := by simp; omega
    obtain ⟨rfl, rfl⟩ : x = 0 ∧ b = 0 := by
      have := HE.out; simp at this; omega
    go_enter Tryz.func95, Tryz.ntmps95
    go_wp2_with ((go_at_call 97; go_must (refine (N.out).mono ?_; rintro e w1 ⟨rfl, rfl⟩)))
    go_ret3
    exact ⟨rfl, rfl⟩
section
variable (g : Nat) (x : InS) (w : World) (h : (Chunk.row g (inV x)).ok w)
include h
set_option maxHeartbeats 1000000 in
theorem reads_ok (he : x.err = 0) : Calls Tryz.prog 94 #[.pointer (some ⟨g, 0, none⟩)] w fun e w' => e = .returned (.bool true) ∧ w = w' := by
  obtain ⟨rest, read, err⟩ := x
  simp only at he; subst he
  have M := Mem.start1 (c := .row g [.string (mkS rest), .int .i64 (read : Nat), .int .i64 (0 : Nat)]) h
  go_enter Tryz.func94, Tryz.ntmps94
  go_wp2_with ((first | ((with_reducible refine tGuard ?_); first | refine w_strip rfl (by with_reducible rfl) ?_ | ((fail_if_success (refine w_lit false rfl (by with_reducible rfl) ?_)); (fail_if_success (refine w_lit true rfl (by with_reducible rfl) ?_)); refine w_case rfl ?_ ?_ <;> (intro hgd; rw [hgd]; try (exfalso; simp at hgd; omega)))) | ((with_reducible refine tConv _ 70 9 ?_); go_must (first | refine w_stringW M _ _ _ _ _ rfl rfl (by first | exact at0) rfl (by first | assumption | exact lenI | exact lenS ‹_› | rfl) (by decide) Tryz.underlying70 Tryz.underlying5 Tryz.underlying9 ?_ | refine w_string M _ _ _ _ _ rfl rfl (by first | exact at0) (by first | rfl | (simp; done) | assumption) rfl Tryz.underlying70 Tryz.underlying5 Tryz.underlying9 ?_)) | ((with_reducible refine tLoad ?_); go_must (refine w_at _ _ rfl (by exact ev_tmp rfl) ?_; intro hx; (first | refine w_load M _ _ _ rfl (by first | exact at0) hx rfl (by decide +kernel) (by exact rfl) ?_ | refine w_loadB M _ _ _ rfl (by first | exact at0) hx rfl (by decide +kernel) (by first | assumption | omega | (simp; omega)) ?_ | refine w_loadH M _ _ _ rfl (by first | exact at0) hx rfl (by decide +kernel) (by first | assumption | exact lenI | exact lenS ‹_› | rfl) (by decide +kernel) ?_ | refine w_loadR M _ _ _ rfl (by first | exact at0) hx rfl (by decide +kernel) (by kernel_rfl) ?_); clear hx)) | ((with_reducible refine tStore ?_); go_must (refine w_at2 _ _ _ rfl (by exact ev_tmp rfl) (by first | exact ev_tmp rfl | exact ev_const) ?_; intro hx hy; (first | refine w_storeB M _ _ _ _ rfl (by first | exact at0) hx rfl hy (by decide +kernel) (by first | assumption | omega | (simp; omega)) ?_ | refine w_storeH M _ _ _ _ rfl (by first | exact at0) hx rfl hy (by first | assumption | exact lenI | exact lenS ‹_› | rfl) (by decide +kernel) (by first | assumption | exact lenI | exact lenS ‹_› | rfl) ?_ | refine w_store M _ _ _ _ rfl (by first | exact at0) hx rfl hy rfl rfl (by decide +kernel) (by first | decide | simp | (simp; omega)) ?_ | refine w_storeR M _ _ _ _ rfl (by first | exact at0) hx rfl _ hy rfl (by kernel_rfl) (by simp [Value.oneCell']) (by first | rfl | assumption) ?_); clear hx hy M; intro w1 M; (try simp only [setC] at M))) | ((with_reducible refine tBox _ ?_); (refine w_box M _ _ rfl rfl _ rfl _ rfl ?_; clear M; intro g w1 M))) <;> (try conv => arg 5; simp only [Act.put, List.setIfInBounds_toArray, setC]))
  go_ret
  exact ⟨rfl, rfl⟩
set_option maxHeartbeats 1000000 in
theorem reads_no (he : x.err ≠ 0) : Calls Tryz.prog 94 #[.pointer (some ⟨g, 0, none⟩)] w fun e w' => e = .returned (.bool false) ∧ w = w' := by
  obtain ⟨rest, read, err⟩ := x
  have M := Mem.start1 (c := .row g [.string (mkS rest), .int .i64 (read : Nat), .int .i64 (err : Nat)]) h
  have hz : ((err : Int) == 0) = false := by simp at he ⊢; exact he
  go_enter Tryz.func94, Tryz.ntmps94
  go_wp2_with ((first | ((with_reducible refine tGuard ?_); first | refine w_strip rfl (by with_reducible rfl) ?_ | ((fail_if_success (refine w_lit false rfl (by with_reducible rfl) ?_)); (fail_if_success (refine w_lit true rfl (by with_reducible rfl) ?_)); refine w_case rfl ?_ ?_ <;> (intro hgd; rw [hgd]; try (exfalso; simp at hgd; omega)))) | ((with_reducible refine tConv _ 70 9 ?_); go_must (first | refine w_stringW M _ _ _ _ _ rfl rfl (by first | exact at0) rfl (by first | assumption | exact lenI | exact lenS ‹_› | rfl) (by decide) Tryz.underlying70 Tryz.underlying5 Tryz.underlying9 ?_ | refine w_string M _ _ _ _ _ rfl rfl (by first | exact at0) (by first | rfl | (simp; done) | assumption) rfl Tryz.underlying70 Tryz.underlying5 Tryz.underlying9 ?_)) | ((with_reducible refine tLoad ?_); go_must (refine w_at _ _ rfl (by exact ev_tmp rfl) ?_; intro hx; (first | refine w_load M _ _ _ rfl (by first | exact at0) hx rfl (by decide +kernel) (by exact rfl) ?_ | refine w_loadB M _ _ _ rfl (by first | exact at0) hx rfl (by decide +kernel) (by first | assumption | omega | (simp; omega)) ?_ | refine w_loadH M _ _ _ rfl (by first | exact at0) hx rfl (by decide +kernel) (by first | assumption | exact lenI | exact lenS ‹_› | rfl) (by decide +kernel) ?_ | refine w_loadR M _ _ _ rfl (by first | exact at0) hx rfl (by decide +kernel) (by kernel_rfl) ?_); clear hx)) | ((with_reducible refine tStore ?_); go_must (refine w_at2 _ _ _ rfl (by exact ev_tmp rfl) (by first | exact ev_tmp rfl | exact ev_const) ?_; intro hx hy; (first | refine w_storeB M _ _ _ _ rfl (by first | exact at0) hx rfl hy (by decide +kernel) (by first | assumption | omega | (simp; omega)) ?_ | refine w_storeH M _ _ _ _ rfl (by first | exact at0) hx rfl hy (by first | assumption | exact lenI | exact lenS ‹_› | rfl) (by decide +kernel) (by first | assumption | exact lenI | exact lenS ‹_› | rfl) ?_ | refine w_store M _ _ _ _ rfl (by first | exact at0) hx rfl hy rfl rfl (by decide +kernel) (by first | decide | simp | (simp; omega)) ?_ | refine w_storeR M _ _ _ _ rfl (by first | exact at0) hx rfl _ hy rfl (by kernel_rfl) (by simp [Value.oneCell']) (by first | rfl | assumption) ?_); clear hx hy M; intro w1 M; (try simp only [setC] at M))) | ((with_reducible refine tBox _ ?_); (refine w_box M _ _ rfl rfl _ rfl _ rfl ?_; clear M; intro g w1 M))) <;> (try conv => arg 5; simp only [Act.put, List.setIfInBounds_toArray, setC]))
  go_ret
  exact ⟨rfl, rfl⟩
set_option maxHeartbeats 1000000 in
theorem takes_ok (hf : x.fit) (k : Nat) (hk : k ≤ x.rest.length) (a b : Int) (ha : a = (k : Int)) (hb : b = 0) :
    Calls Tryz.prog 96 #[.pointer (some ⟨g, 0, none⟩), .int .i64 a, .int .i64 b] w fun e w' => e = .returned (.bool true) ∧ Upd w (.row g (inV x)) w' (.row g (inV (x.take k 0))) := by
  subst ha; subst hb
  obtain ⟨rest, read, err⟩ := x
  unfold InS.fit at hf
  simp only at hk hf
  have M := Mem.start1 (c := .row g [.string (mkS rest), .int .i64 (read : Nat), .int .i64 (err : Nat)]) h
  go_enter Tryz.func96, Tryz.ntmps96
  go_wp2_with ((first | ((with_reducible refine tGuard ?_); first | refine w_strip rfl (by with_reducible rfl) ?_ | ((fail_if_success (refine w_lit false rfl (by with_reducible rfl) ?_)); (fail_if_success (refine w_lit true rfl (by with_reducible rfl) ?_)); refine w_case rfl ?_ ?_ <;> (intro hgd; rw [hgd]; try (exfalso; simp at hgd; omega)))) | ((with_reducible refine tConv _ 70 9 ?_); go_must (first | refine w_stringW M _ _ _ _ _ rfl rfl (by first | exact at0) rfl (by first | assumption | exact lenI | exact lenS ‹_› | rfl) (by decide) Tryz.underlying70 Tryz.underlying5 Tryz.underlying9 ?_ | refine w_string M _ _ _ _ _ rfl rfl (by first | exact at0) (by first | rfl | (simp; done) | assumption) rfl Tryz.underlying70 Tryz.underlying5 Tryz.underlying9 ?_)) | ((with_reducible refine tLoad ?_); go_must (refine w_at _ _ rfl (by exact ev_tmp rfl) ?_; intro hx; (first | refine w_load M _ _ _ rfl (by first | exact at0) hx rfl (by decide +kernel) (by exact rfl) ?_ | refine w_loadB M _ _ _ rfl (by first | exact at0) hx rfl (by decide +kernel) (by first | assumption | omega | (simp; omega)) ?_ | refine w_loadH M _ _ _ rfl (by first | exact at0) hx rfl (by decide +kernel) (by first | assumption | exact lenI | exact lenS ‹_› | rfl) (by decide +kernel) ?_ | refine w_loadR M _ _ _ rfl (by first | exact at0) hx rfl (by decide +kernel) (by kernel_rfl) ?_); clear hx)) | ((with_reducible refine tStore ?_); go_must (refine w_at2 _ _ _ rfl (by exact ev_tmp rfl) (by first | exact ev_tmp rfl | exact ev_const) ?_; intro hx hy; (first | refine w_storeB M _ _ _ _ rfl (by first | exact at0) hx rfl hy (by decide +kernel) (by first | assumption | omega | (simp; omega)) ?_ | refine w_storeH M _ _ _ _ rfl (by first | exact at0) hx rfl hy (by first | assumption | exact lenI | exact lenS ‹_› | rfl) (by decide +kernel) (by first | assumption | exact lenI | exact lenS ‹_› | rfl) ?_ | refine w_store M _ _ _ _ rfl (by first | exact at0) hx rfl hy rfl rfl (by decide +kernel) (by first | decide | simp | (simp; omega)) ?_ | refine w_storeR M _ _ _ _ rfl (by first | exact at0) hx rfl _ hy rfl (by kernel_rfl) (by simp [Value.oneCell']) (by first | rfl | assumption) ?_); clear hx hy M; intro w1 M; (try simp only [setC] at M))) | ((with_reducible refine tBox _ ?_); (refine w_box M _ _ rfl rfl _ rfl _ rfl ?_; clear M; intro g w1 M))) <;> (try conv => arg 5; simp only [Act.put, List.setIfInBounds_toArray, setC]))
  go_ret
  refine ⟨rfl, ?_⟩
  rw [show inV (InS.take ⟨rest, read, err⟩ k 0) = [.string (mkS (rest.drop k)), .int .i64 ((read : Int) + k), .int .i64 0] by simp [inV, InS.take]]
  exact M.upd1 0 rfl
set_option maxHeartbeats 1000000 in
theorem takes_no (k : Nat) (er : Nat) (hn : er ≠ 0) (a b : Int) (hb : b = (er : Int)) :
    Calls Tryz.prog 96 #[.pointer (some ⟨g, 0, none⟩), .int .i64 a, .int .i64 b] w fun e w' => e = .returned (.bool false) ∧ Upd w (.row g (inV x)) w' (.row g (inV (x.take k er))) := by
  subst hb
  obtain ⟨rest, read, err⟩ := x
  have M := Mem.start1 (c := .row g [.string (mkS rest), .int .i64 (read : Nat), .int .i64 (err : Nat)]) h
  have hz : ((er : Int) == 0) = false := by simp; exact hn
  go_enter Tryz.func96, Tryz.ntmps96
  go_wp2_with ((first | ((with_reducible refine tGuard ?_); first | refine w_strip rfl (by with_reducible rfl) ?_ | ((fail_if_success (refine w_lit false rfl (by with_reducible rfl) ?_)); (fail_if_success (refine w_lit true rfl (by with_reducible rfl) ?_)); refine w_case rfl ?_ ?_ <;> (intro hgd; rw [hgd]; try (exfalso; simp at hgd; omega)))) | ((with_reducible refine tConv _ 70 9 ?_); go_must (first | refine w_stringW M _ _ _ _ _ rfl rfl (by first | exact at0) rfl (by first | assumption | exact lenI | exact lenS ‹_› | rfl) (by decide) Tryz.underlying70 Tryz.underlying5 Tryz.underlying9 ?_ | refine w_string M _ _ _ _ _ rfl rfl (by first | exact at0) (by first | rfl | (simp; done) | assumption) rfl Tryz.underlying70 Tryz.underlying5 Tryz.underlying9 ?_)) | ((with_reducible refine tLoad ?_); go_must (refine w_at _ _ rfl (by exact ev_tmp rfl) ?_; intro hx; (first | refine w_load M _ _ _ rfl (by first | exact at0) hx rfl (by decide +kernel) (by exact rfl) ?_ | refine w_loadB M _ _ _ rfl (by first | exact at0) hx rfl (by decide +kernel) (by first | assumption | omega | (simp; omega)) ?_ | refine w_loadH M _ _ _ rfl (by first | exact at0) hx rfl (by decide +kernel) (by first | assumption | exact lenI | exact lenS ‹_› | rfl) (by decide +kernel) ?_ | refine w_loadR M _ _ _ rfl (by first | exact at0) hx rfl (by decide +kernel) (by kernel_rfl) ?_); clear hx)) | ((with_reducible refine tStore ?_); go_must (refine w_at2 _ _ _ rfl (by exact ev_tmp rfl) (by first | exact ev_tmp rfl | exact ev_const) ?_; intro hx hy; (first | refine w_storeB M _ _ _ _ rfl (by first | exact at0) hx rfl hy (by decide +kernel) (by first | assumption | omega | (simp; omega)) ?_ | refine w_storeH M _ _ _ _ rfl (by first | exact at0) hx rfl hy (by first | assumption | exact lenI | exact lenS ‹_› | rfl) (by decide +kernel) (by first | assumption | exact lenI | exact lenS ‹_› | rfl) ?_ | refine w_store M _ _ _ _ rfl (by first | exact at0) hx rfl hy rfl rfl (by decide +kernel) (by first | decide | simp | (simp; omega)) ?_ | refine w_storeR M _ _ _ _ rfl (by first | exact at0) hx rfl _ hy rfl (by kernel_rfl) (by simp [Value.oneCell']) (by first | rfl | assumption) ?_); clear hx hy M; intro w1 M; (try simp only [setC] at M))) | ((with_reducible refine tBox _ ?_); (refine w_box M _ _ rfl rfl _ rfl _ rfl ?_; clear M; intro g w1 M))) <;> (try conv => arg 5; simp only [Act.put, List.setIfInBounds_toArray, setC]))
  go_ret
  refine ⟨rfl, ?_⟩
  rw [show inV (InS.take ⟨rest, read, err⟩ k er) = [.string (mkS rest), .int .i64 read, .int .i64 er] by simp [inV, InS.take, hn]]
  exact M.upd1 0 rfl
set_option maxHeartbeats 1000000 in
theorem Left_c (hf : x.fit) : Calls Tryz.prog 98 #[.pointer (some ⟨g, 0, none⟩)] w fun e w' => e = .returned (.int .i64 x.rest.length) ∧ w = w' := by
  obtain ⟨rest, read, err⟩ := x
  have M := Mem.start1 (c := .row g [.string (mkS rest), .int .i64 (read : Nat), .int .i64 (err : Nat)]) h
  go_enter Tryz.func98, Tryz.ntmps98
  go_wp2_with ((first | ((with_reducible refine tGuard ?_); first | refine w_strip rfl (by with_reducible rfl) ?_ | ((fail_if_success (refine w_lit false rfl (by with_reducible rfl) ?_)); (fail_if_success (refine w_lit true rfl (by with_reducible rfl) ?_)); refine w_case rfl ?_ ?_ <;> (intro hgd; rw [hgd]; try (exfalso; simp at hgd; omega)))) | ((with_reducible refine tConv _ 70 9 ?_); go_must (first | refine w_stringW M _ _ _ _ _ rfl rfl (by first | exact at0) rfl (by first | assumption | exact lenI | exact lenS ‹_› | rfl) (by decide) Tryz.underlying70 Tryz.underlying5 Tryz.underlying9 ?_ | refine w_string M _ _ _ _ _ rfl rfl (by first | exact at0) (by first | rfl | (simp; done) | assumption) rfl Tryz.underlying70 Tryz.underlying5 Tryz.underlying9 ?_)) | ((with_reducible refine tLoad ?_); go_must (refine w_at _ _ rfl (by exact ev_tmp rfl) ?_; intro hx; (first | refine w_load M _ _ _ rfl (by first | exact at0) hx rfl (by decide +kernel) (by exact rfl) ?_ | refine w_loadB M _ _ _ rfl (by first | exact at0) hx rfl (by decide +kernel) (by first | assumption | omega | (simp; omega)) ?_ | refine w_loadH M _ _ _ rfl (by first | exact at0) hx rfl (by decide +kernel) (by first | assumption | exact lenI | exact lenS ‹_› | rfl) (by decide +kernel) ?_ | refine w_loadR M _ _ _ rfl (by first | exact at0) hx rfl (by decide +kernel) (by kernel_rfl) ?_); clear hx)) | ((with_reducible refine tStore ?_); go_must (refine w_at2 _ _ _ rfl (by exact ev_tmp rfl) (by first | exact ev_tmp rfl | exact ev_const) ?_; intro hx hy; (first | refine w_storeB M _ _ _ _ rfl (by first | exact at0) hx rfl hy (by decide +kernel) (by first | assumption | omega | (simp; omega)) ?_ | refine w_storeH M _ _ _ _ rfl (by first | exact at0) hx rfl hy (by first | assumption | exact lenI | exact lenS ‹_› | rfl) (by decide +kernel) (by first | assumption | exact lenI | exact lenS ‹_› | rfl) ?_ | refine w_store M _ _ _ _ rfl (by first | exact at0) hx rfl hy rfl rfl (by decide +kernel) (by first | decide | simp | (simp; omega)) ?_ | refine w_storeR M _ _ _ _ rfl (by first | exact at0) hx rfl _ hy rfl (by kernel_rfl) (by simp [Value.oneCell']) (by first | rfl | assumption) ?_); clear hx hy M; intro w1 M; (try simp only [setC] at M))) | ((with_reducible refine tBox _ ?_); (refine w_box M _ _ rfl rfl _ rfl _ rfl ?_; clear M; intro g w1 M))) <;> (try conv => arg 5; simp only [Act.put, List.setIfInBounds_toArray, setC]))
  go_ret
  exact ⟨rfl, rfl⟩
set_option maxHeartbeats 2000000 in
theorem Most_c (hf : x.fit) (m : Nat) (a : Int) (ha : a = (m : Int)) (hm : m < 9223372036854775808) :
    Calls Tryz.prog 58 #[.pointer (some ⟨g, 0, none⟩), .int .i64 a] w fun e w' => e = .returned (.int .i64 (x.most m).1) ∧ Upd w (.row g (inV x)) w' (.row g (inV (x.most m).2)) := by
  subst ha
  have M := Mem.start1 h
  have hl : x.rest.length ≤ 1000000000 := by unfold InS.fit at hf; omega
  by_cases h0 : x.err = 0
  · have e1 : x.most m = ((readN x.rest m).1, x.take (readN x.rest m).2.1 (readN x.rest m).2.2) := by unfold InS.most; rw [if_pos h0]
    rw [e1]; clear e1
    obtain ⟨⟨n, b, er⟩, eR⟩ : ∃ R, R = readN x.rest m := ⟨_, rfl⟩
    have hb := (read_le eR.symm).1
    have hz := read_err x.rest m
    have B := bounded_c x.rest m w hl hm
    rw [← eR] at B hz ⊢
    have B := Lib.hid B
    have HZ := Lib.hid hz
    clear eR hz
    simp only
    have H0 := Lib.hid h0
    clear h0
    by_cases he : er = 0
    · subst he
      go_enter Tryz.func58, Tryz.ntmps58
      go_wp2_with ((first | (go_at_call 94; go_must (refine (reads_ok g x _ h H0.out).mono ?_; rintro e w1 ⟨rfl, rfl⟩)) | (go_at_call 95; go_must (refine (B.out).mono ?_; rintro e w1 ⟨rfl, rfl⟩)) | (go_at_call 96; go_must (refine (takes_ok g x _ (M.ok 0 _ rfl) hf b hb _ _ rfl rfl).mono ?_; rintro e w1 ⟨rfl, U⟩; replace M := M.upd 0 rfl U; clear U)) | ((with_reducible refine tGuard ?_); first | refine w_strip rfl (by with_reducible rfl) ?_ | ((fail_if_success (refine w_lit false rfl (by with_reducible rfl) ?_)); (fail_if_success (refine w_lit true rfl (by with_reducible rfl) ?_)); refine w_case rfl ?_ ?_ <;> (intro hgd; rw [hgd]; try (exfalso; simp at hgd; omega)))) | ((with_reducible refine tConv _ 70 9 ?_); go_must (first | refine w_stringW M _ _ _ _ _ rfl rfl (by first | exact at0) rfl (by first | assumption | exact lenI | exact lenS ‹_› | rfl) (by decide) Tryz.underlying70 Tryz.underlying5 Tryz.underlying9 ?_ | refine w_string M _ _ _ _ _ rfl rfl (by first | exact at0) (by first | rfl | (simp; done) | assumption) rfl Tryz.underlying70 Tryz.underlying5 Tryz.underlying9 ?_)) | ((with_reducible refine tLoad ?_); go_must (refine w_at _ _ rfl (by exact ev_tmp rfl) ?_; intro hx; (first | refine w_load M _ _ _ rfl (by first | exact at0) hx rfl (by decide +kernel) (by exact rfl) ?_ | refine w_loadB M _ _ _ rfl (by first | exact at0) hx rfl (by decide +kernel) (by first | assumption | omega | (simp; omega)) ?_ | refine w_loadH M _ _ _ rfl (by first | exact at0) hx rfl (by decide +kernel) (by first | assumption | exact lenI | exact lenS ‹_› | rfl) (by decide +kernel) ?_ | refine w_loadR M _ _ _ rfl (by first | exact at0) hx rfl (by decide +kernel) (by kernel_rfl) ?_); clear hx)) | ((with_reducible refine tStore ?_); go_must (refine w_at2 _ _ _ rfl (by exact ev_tmp rfl) (by first | exact ev_tmp rfl | exact ev_const) ?_; intro hx hy; (first | refine w_storeB M _ _ _ _ rfl (by first | exact at0) hx rfl hy (by decide +kernel) (by first | assumption | omega | (simp; omega)) ?_ | refine w_storeH M _ _ _ _ rfl (by first | exact at0) hx rfl hy (by first | assumption | exact lenI | exact lenS ‹_› | rfl) (by decide +kernel) (by first | assumption | exact lenI | exact lenS ‹_› | rfl) ?_ | refine w_store M _ _ _ _ rfl (by first | exact at0) hx rfl hy rfl rfl (by decide +kernel) (by first | decide | simp | (simp; omega)) ?_ | refine w_storeR M _ _ _ _ rfl (by first | exact at0) hx rfl _ hy rfl (by kernel_rfl) (by simp [Value.oneCell']) (by first | rfl | assumption) ?_); clear hx hy M; intro w1 M; (try simp only [setC] at M))) | ((with_reducible refine tBox _ ?_); (refine w_box M _ _ rfl rfl _ rfl _ rfl ?_; clear M; intro g w1 M))) <;> (try conv => arg 5; simp only [Act.put, List.setIfInBounds_toArray, setC]))
      go_ret
      exact ⟨rfl, M.upd1 0 rfl⟩
    · obtain ⟨rfl, rfl⟩ : n = 0 ∧ b = 0 := by
        have := HZ.out; simp at this; omega
      go_enter Tryz.func58, Tryz.ntmps58
      go_wp2_with ((first | (go_at_call 94; go_must (refine (reads_ok g x _ h H0.out).mono ?_; rintro e w1 ⟨rfl, rfl⟩)) | (go_at_call 95; go_must (refine (B.out).mono ?_; rintro e w1 ⟨rfl, rfl⟩)) | (go_at_call 96; go_must (refine (takes_no g x _ (M.ok 0 _ rfl) 0 er he _ _ rfl).mono ?_; rintro e w1 ⟨rfl, U⟩; replace M := M.upd 0 rfl U; clear U)) | ((with_reducible refine tGuard ?_); first | refine w_strip rfl (by with_reducible rfl) ?_ | ((fail_if_success (refine w_lit false rfl (by with_reducible rfl) ?_)); (fail_if_success (refine w_lit true rfl (by with_reducible rfl) ?_)); refine w_case rfl ?_ ?_ <;> (intro hgd; rw [hgd]; try (exfalso; simp at hgd; omega)))) | ((with_reducible refine tConv _ 70 9 ?_); go_must (first | refine w_stringW M _ _ _ _ _ rfl rfl (by first | exact at0) rfl (by first | assumption | exact lenI | exact lenS ‹_› | rfl) (by decide) Tryz.underlying70 Tryz.underlying5 Tryz.underlying9 ?_ | refine w_string M _ _ _ _ _ rfl rfl (by first | exact at0) (by first | rfl | (simp; done) | assumption) rfl Tryz.underlying70 Tryz.underlying5 Tryz.underlying9 ?_)) | ((with_reducible refine tLoad ?_); go_must (refine w_at _ _ rfl (by exact ev_tmp rfl) ?_; intro hx; (first | refine w_load M _ _ _ rfl (by first | exact at0) hx rfl (by decide +kernel) (by exact rfl) ?_ | refine w_loadB M _ _ _ rfl (by first | exact at0) hx rfl (by decide +kernel) (by first | assumption | omega | (simp; omega)) ?_ | refine w_loadH M _ _ _ rfl (by first | exact at0) hx rfl (by decide +kernel) (by first | assumption | exact lenI | exact lenS ‹_› | rfl) (by decide +kernel) ?_ | refine w_loadR M _ _ _ rfl (by first | exact at0) hx rfl (by decide +kernel) (by kernel_rfl) ?_); clear hx)) | ((with_reducible refine tStore ?_); go_must (refine w_at2 _ _ _ rfl (by exact ev_tmp rfl) (by first | exact ev_tmp rfl | exact ev_const) ?_; intro hx hy; (first | refine w_storeB M _ _ _ _ rfl (by first | exact at0) hx rfl hy (by decide +kernel) (by first | assumption | omega | (simp; omega)) ?_ | refine w_storeH M _ _ _ _ rfl (by first | exact at0) hx rfl hy (by first | assumption | exact lenI | exact lenS ‹_› | rfl) (by decide +kernel) (by first | assumption | exact lenI | exact lenS ‹_› | rfl) ?_ | refine w_store M _ _ _ _ rfl (by first | exact at0) hx rfl hy rfl rfl (by decide +kernel) (by first | decide | simp | (simp; omega)) ?_ | refine w_storeR M _ _ _ _ rfl (by first | exact at0) hx rfl _ hy rfl (by kernel_rfl) (by simp [Value.oneCell']) (by first | rfl | assumption) ?_); clear hx hy M; intro w1 M; (try simp only [setC] at M))) | ((with_reducible refine tBox _ ?_); (refine w_box M _ _ rfl rfl _ rfl _ rfl ?_; clear M; intro g w1 M))) <;> (try conv => arg 5; simp only [Act.put, List.setIfInBounds_toArray, setC]))
      go_ret
      exact ⟨rfl, M.upd1 0 rfl⟩
  · have e1 : x.most m = (0, x) := by unfold InS.most; rw [if_neg h0]
    rw [e1]; clear e1
    have H0 := Lib.hid h0
    clear h0
    go_enter Tryz.func58, Tryz.ntmps58
    go_wp2_with (first | (go_at_call 94; go_must (refine (reads_no g x _ h H0.out).mono ?_; rintro e w1 ⟨rfl, rfl⟩)))
    go_ret
    exact ⟨rfl, M.upd1 0 rfl⟩
end
end Go.Proofs.YtidadhbaomieiaaGreat

/- The walks of pack.In's Text, Fault and End, and of pack.Of. Conditions: lengths. -/
namespace Go.Proofs.YtidadhbaomieiaaGreat
open Go.RowKit Go.TL
section
variable (g : Nat) (x : InS) (w : World) (h : (Chunk.row g (inV x)).ok w)
include h
set_option maxRecDepth 100000 in
set_option maxHeartbeats 2000000 in
theorem In_Text_c (hf : x.fit) (m : Nat) (a : Int) (ha : a = (m : Int)) (hm : m < 1000000000) :
    Calls Tryz.prog 60 #[.pointer (some ⟨g, 0, none⟩), .int .i64 a] w fun e w' => e = .returned (.string (mkS (x.text m).1)) ∧ Upd w (.row g (inV x)) w' (.row g (inV (x.text m).2)) := by
  subst ha
  have M := Mem.start1 h
  have hl : x.rest.length ≤ 1000000000 := by unfold InS.fit at hf; omega
  by_cases h0 : x.err = 0
  · have e1 : x.text m = if (readN x.rest m).2.2 = 0 then if (readN x.rest m).1 ≤ x.rest.length - (readN x.rest m).2.1 then ((x.rest.drop (readN x.rest m).2.1).take (readN x.rest m).1, x.take ((readN x.rest m).2.1 + (readN x.rest m).1) 0) else ([], x.take 0 7) else ([], x.take 0 (readN x.rest m).2.2) := by unfold InS.text; rw [if_pos h0]
    rw [e1]; clear e1
    obtain ⟨⟨n, b, er⟩, eR⟩ : ∃ R, R = readN x.rest m := ⟨_, rfl⟩
    have hb := read_le eR.symm
    have hz := read_err x.rest m
    have B := bounded_c x.rest m w hl (by omega)
    rw [← eR] at B hz ⊢
    have B := Lib.hid B
    have HZ := Lib.hid hz
    clear eR hz
    simp only
    have H0 := Lib.hid h0
    clear h0
    obtain ⟨hb1, hb2, hb3⟩ := hb
    by_cases he : er = 0
    · subst he
      rw [if_pos rfl]
      by_cases hn : n ≤ x.rest.length - b
      · rw [if_pos hn]
        have e2 : (x.rest.drop b).take n = (x.rest.take (b + n)).drop b := by rw [List.drop_take]; congr; omega
        simp only
        rw [e2]; clear e2
        have hn' : (n : Int) ≤ (x.rest.length : Int) - b := by omega
        go_enter Tryz.func60, Tryz.ntmps60
        go_wp2_with ((first | (go_at_call 94; go_must (refine (reads_ok g x _ h H0.out).mono ?_; rintro e w1 ⟨rfl, rfl⟩)) | (go_at_call 95; go_must (refine (B.out).mono ?_; rintro e w1 ⟨rfl, rfl⟩)) | (go_at_call 96; go_must (refine (takes_ok g x _ (M.ok 0 _ rfl) hf (b + n) (by omega) _ _ (by simp) rfl).mono ?_; rintro e w1 ⟨rfl, U⟩; replace M := M.upd 0 rfl U; clear U)) | ((with_reducible refine tGuard ?_); first | refine w_strip rfl (by with_reducible rfl) ?_ | ((fail_if_success (refine w_lit false rfl (by with_reducible rfl) ?_)); (fail_if_success (refine w_lit true rfl (by with_reducible rfl) ?_)); refine w_case rfl ?_ ?_ <;> (intro hgd; rw [hgd]; try (exfalso; simp at hgd; omega)))) | ((with_reducible refine tConv _ 70 9 ?_); go_must (first | refine w_stringW M _ _ _ _ _ rfl rfl (by first | exact at0) rfl (by first | assumption | exact lenI | exact lenS ‹_› | rfl) (by decide) Tryz.underlying70 Tryz.underlying5 Tryz.underlying9 ?_ | refine w_string M _ _ _ _ _ rfl rfl (by first | exact at0) (by first | rfl | (simp; done) | assumption) rfl Tryz.underlying70 Tryz.underlying5 Tryz.underlying9 ?_)) | ((with_reducible refine tLoad ?_); go_must (refine w_at _ _ rfl (by exact ev_tmp rfl) ?_; intro hx; (first | refine w_load M _ _ _ rfl (by first | exact at0) hx rfl (by decide +kernel) (by exact rfl) ?_ | refine w_loadB M _ _ _ rfl (by first | exact at0) hx rfl (by decide +kernel) (by first | assumption | omega | (simp; omega)) ?_ | refine w_loadH M _ _ _ rfl (by first | exact at0) hx rfl (by decide +kernel) (by first | assumption | exact lenI | exact lenS ‹_› | rfl) (by decide +kernel) ?_ | refine w_loadR M _ _ _ rfl (by first | exact at0) hx rfl (by decide +kernel) (by kernel_rfl) ?_); clear hx)) | ((with_reducible refine tStore ?_); go_must (refine w_at2 _ _ _ rfl (by exact ev_tmp rfl) (by first | exact ev_tmp rfl | exact ev_const) ?_; intro hx hy; (first | refine w_storeB M _ _ _ _ rfl (by first | exact at0) hx rfl hy (by decide +kernel) (by first | assumption | omega | (simp; omega)) ?_ | refine w_storeH M _ _ _ _ rfl (by first | exact at0) hx rfl hy (by first | assumption | exact lenI | exact lenS ‹_› | rfl) (by decide +kernel) (by first | assumption | exact lenI | exact lenS ‹_› | rfl) ?_ | refine w_store M _ _ _ _ rfl (by first | exact at0) hx rfl hy rfl rfl (by decide +kernel) (by first | decide | simp | (simp; omega)) ?_ | refine w_storeR M _ _ _ _ rfl (by first | exact at0) hx rfl _ hy rfl (by kernel_rfl) (by simp [Value.oneCell']) (by first | rfl | assumption) ?_); clear hx hy M; intro w1 M; (try simp only [setC] at M))) | ((with_reducible refine tBox _ ?_); (refine w_box M _ _ rfl rfl _ rfl _ rfl ?_; clear M; intro g w1 M))) <;> (try conv => arg 5; simp only [Act.put, List.setIfInBounds_toArray, setC]))
        go_ret
        exact ⟨rfl, M.upd1 0 rfl⟩
      · rw [if_neg hn]
        have hn' : (x.rest.length : Int) - b < (n : Int) := by omega
        go_enter Tryz.func60, Tryz.ntmps60
        go_wp2_with ((first | (go_at_call 94; go_must (refine (reads_ok g x _ h H0.out).mono ?_; rintro e w1 ⟨rfl, rfl⟩)) | (go_at_call 95; go_must (refine (B.out).mono ?_; rintro e w1 ⟨rfl, rfl⟩)) | (go_at_call 96; go_must (refine (takes_no g x _ (M.ok 0 _ rfl) 0 7 (by decide) _ _ rfl).mono ?_; rintro e w1 ⟨rfl, U⟩; replace M := M.upd 0 rfl U; clear U)) | ((with_reducible refine tGuard ?_); first | refine w_strip rfl (by with_reducible rfl) ?_ | ((fail_if_success (refine w_lit false rfl (by with_reducible rfl) ?_)); (fail_if_success (refine w_lit true rfl (by with_reducible rfl) ?_)); refine w_case rfl ?_ ?_ <;> (intro hgd; rw [hgd]; try (exfalso; simp at hgd; omega)))) | ((with_reducible refine tConv _ 70 9 ?_); go_must (first | refine w_stringW M _ _ _ _ _ rfl rfl (by first | exact at0) rfl (by first | assumption | exact lenI | exact lenS ‹_› | rfl) (by decide) Tryz.underlying70 Tryz.underlying5 Tryz.underlying9 ?_ | refine w_string M _ _ _ _ _ rfl rfl (by first | exact at0) (by first | rfl | (simp; done) | assumption) rfl Tryz.underlying70 Tryz.underlying5 Tryz.underlying9 ?_)) | ((with_reducible refine tLoad ?_); go_must (refine w_at _ _ rfl (by exact ev_tmp rfl) ?_; intro hx; (first | refine w_load M _ _ _ rfl (by first | exact at0) hx rfl (by decide +kernel) (by exact rfl) ?_ | refine w_loadB M _ _ _ rfl (by first | exact at0) hx rfl (by decide +kernel) (by first | assumption | omega | (simp; omega)) ?_ | refine w_loadH M _ _ _ rfl (by first | exact at0) hx rfl (by decide +kernel) (by first | assumption | exact lenI | exact lenS ‹_› | rfl) (by decide +kernel) ?_ | refine w_loadR M _ _ _ rfl (by first | exact at0) hx rfl (by decide +kernel) (by kernel_rfl) ?_); clear hx)) | ((with_reducible refine tStore ?_); go_must (refine w_at2 _ _ _ rfl (by exact ev_tmp rfl) (by first | exact ev_tmp rfl | exact ev_const) ?_; intro hx hy; (first | refine w_storeB M _ _ _ _ rfl (by first | exact at0) hx rfl hy (by decide +kernel) (by first | assumption | omega | (simp; omega)) ?_ | refine w_storeH M _ _ _ _ rfl (by first | exact at0) hx rfl hy (by first | assumption | exact lenI | exact lenS ‹_› | rfl) (by decide +kernel) (by first | assumption | exact lenI | exact lenS ‹_› | rfl) ?_ | refine w_store M _ _ _ _ rfl (by first | exact at0) hx rfl hy rfl rfl (by decide +kernel) (by first | decide | simp | (simp; omega)) ?_ | refine w_storeR M _ _ _ _ rfl (by first | exact at0) hx rfl _ hy rfl (by kernel_rfl) (by simp [Value.oneCell']) (by first | rfl | assumption) ?_); clear hx hy M; intro w1 M; (try simp only [setC] at M))) | ((with_reducible refine tBox _ ?_); (refine w_box M _ _ rfl rfl _ rfl _ rfl ?_; clear M; intro g w1 M))) <;> (try conv => arg 5; simp only [Act.put, List.setIfInBounds_toArray, setC]))
        go_ret
        exact ⟨rfl, M.upd1 0 rfl⟩
    · obtain ⟨rfl, rfl⟩ : n = 0 ∧ b = 0 := by
        have := HZ.out; simp at this; omega
      rw [if_neg he]
      have hz0 : ((er : Int) == 0) = false := by simp; exact he
      go_enter Tryz.func60, Tryz.ntmps60
      go_wp2_with ((first | (go_at_call 94; go_must (refine (reads_ok g x _ h H0.out).mono ?_; rintro e w1 ⟨rfl, rfl⟩)) | (go_at_call 95; go_must (refine (B.out).mono ?_; rintro e w1 ⟨rfl, rfl⟩)) | (go_at_call 96; go_must (refine (takes_no g x _ (M.ok 0 _ rfl) 0 er he _ _ rfl).mono ?_; rintro e w1 ⟨rfl, U⟩; replace M := M.upd 0 rfl U; clear U)) | ((with_reducible refine tGuard ?_); first | refine w_strip rfl (by with_reducible rfl) ?_ | ((fail_if_success (refine w_lit false rfl (by with_reducible rfl) ?_)); (fail_if_success (refine w_lit true rfl (by with_reducible rfl) ?_)); refine w_case rfl ?_ ?_ <;> (intro hgd; rw [hgd]; try (exfalso; simp at hgd; omega)))) | ((with_reducible refine tConv _ 70 9 ?_); go_must (first | refine w_stringW M _ _ _ _ _ rfl rfl (by first | exact at0) rfl (by first | assumption | exact lenI | exact lenS ‹_› | rfl) (by decide) Tryz.underlying70 Tryz.underlying5 Tryz.underlying9 ?_ | refine w_string M _ _ _ _ _ rfl rfl (by first | exact at0) (by first | rfl | (simp; done) | assumption) rfl Tryz.underlying70 Tryz.underlying5 Tryz.underlying9 ?_)) | ((with_reducible refine tLoad ?_); go_must (refine w_at _ _ rfl (by exact ev_tmp rfl) ?_; intro hx; (first | refine w_load M _ _ _ rfl (by first | exact at0) hx rfl (by decide +kernel) (by exact rfl) ?_ | refine w_loadB M _ _ _ rfl (by first | exact at0) hx rfl (by decide +kernel) (by first | assumption | omega | (simp; omega)) ?_ | refine w_loadH M _ _ _ rfl (by first | exact at0) hx rfl (by decide +kernel) (by first | assumption | exact lenI | exact lenS ‹_› | rfl) (by decide +kernel) ?_ | refine w_loadR M _ _ _ rfl (by first | exact at0) hx rfl (by decide +kernel) (by kernel_rfl) ?_); clear hx)) | ((with_reducible refine tStore ?_); go_must (refine w_at2 _ _ _ rfl (by exact ev_tmp rfl) (by first | exact ev_tmp rfl | exact ev_const) ?_; intro hx hy; (first | refine w_storeB M _ _ _ _ rfl (by first | exact at0) hx rfl hy (by decide +kernel) (by first | assumption | omega | (simp; omega)) ?_ | refine w_storeH M _ _ _ _ rfl (by first | exact at0) hx rfl hy (by first | assumption | exact lenI | exact lenS ‹_› | rfl) (by decide +kernel) (by first | assumption | exact lenI | exact lenS ‹_› | rfl) ?_ | refine w_store M _ _ _ _ rfl (by first | exact at0) hx rfl hy rfl rfl (by decide +kernel) (by first | decide | simp | (simp; omega)) ?_ | refine w_storeR M _ _ _ _ rfl (by first | exact at0) hx rfl _ hy rfl (by kernel_rfl) (by simp [Value.oneCell']) (by first | rfl | assumption) ?_); clear hx hy M; intro w1 M; (try simp only [setC] at M))) | ((with_reducible refine tBox _ ?_); (refine w_box M _ _ rfl rfl _ rfl _ rfl ?_; clear M; intro g w1 M))) <;> (try conv => arg 5; simp only [Act.put, List.setIfInBounds_toArray, setC]))
      go_ret
      exact ⟨rfl, M.upd1 0 rfl⟩
  · have e1 : x.text m = ([], x) := by unfold InS.text; rw [if_neg h0]
    rw [e1]; clear e1
    have H0 := Lib.hid h0
    clear h0
    go_enter Tryz.func60, Tryz.ntmps60
    go_wp2_with (first | (go_at_call 94; go_must (refine (reads_no g x _ h H0.out).mono ?_; rintro e w1 ⟨rfl, rfl⟩)))
    go_ret
    exact ⟨rfl, M.upd1 0 rfl⟩
set_option maxHeartbeats 2000000 in
theorem Fault_ok (he : x.err = 0) :
    Calls Tryz.prog 92 #[.pointer (some ⟨g, 0, none⟩)] w fun e w' => e = .returned (.tuple #[.int .i64 0, .int .i64 0]) ∧ w = w' := by
  have M := Mem.start1 h
  have H0 := Lib.hid he
  clear he
  go_enter Tryz.func92, Tryz.ntmps92
  go_wp2_with (first | (go_at_call 94; go_must (refine (reads_ok g x _ h H0.out).mono ?_; rintro e w1 ⟨rfl, rfl⟩)))
  go_ret2
  exact ⟨rfl, rfl⟩
set_option maxHeartbeats 2000000 in
theorem Fault_no (he : x.err ≠ 0) :
    Calls Tryz.prog 92 #[.pointer (some ⟨g, 0, none⟩)] w fun e w' => e = .returned (.tuple #[.int .i64 x.err, .int .i64 x.read]) ∧ Below w.heap.size w w' := by
  have M := Mem.start1 h
  have H0 := Lib.hid he
  clear he
  go_enter Tryz.func92, Tryz.ntmps92
  go_wp2_with ((first | (go_at_call 94; go_must (refine (reads_no g x _ h H0.out).mono ?_; rintro e w1 ⟨rfl, rfl⟩)) | ((with_reducible show Code.wp _ (Code.region 3 _ _) _ _ _); go_must (refine region_det [(0, false), (1, false), (2, false), (4, false), (5, false), (6, false), (3, false), (8, false), (7, false), (9, false)] [(10, .ptr), (14, .ptr)] (by kernel_rfl) (by kernel_rfl) rfl (by kernel_rfl) ?_; replace M := M.drew; simp only [reord, opAt, List.map_cons, List.map_nil, List.getElem?_toArray, List.getElem?_cons_zero, List.getElem?_cons_succ, Option.getD_some])) | ((with_reducible show Seg _ _ _ _); go_must (first | refine Seg.intro ⟨fun h => absurd rfl h, ?_⟩ | refine Seg.intro ⟨fun _ => (by repeat' (first | exact ixOk_nil M.kept | refine ixOk_cons rfl (by first | exact M.ok 0 _ rfl | exact M.ok 1 _ rfl | exact M.ok 2 _ rfl) ?_)), ?_⟩ | refine Seg.intro ⟨(by repeat' (first | (with_reducible exact needs_nil) | refine needs_at rfl (by first | (show Shape.ok Shape.nums _ = true; exact nums_bs _) | rfl) ?_)), (by repeat' (first | (with_reducible exact ats_nil) | refine ats_cons (by first | exact ev_tmp rfl | rfl) ?_)), ?_⟩)) | ((with_reducible show OnlyN _ _ _ _ _); refine OnlyN.intro (by kernel_rfl) ?_) | ((with_reducible refine tGuard ?_); first | refine w_strip rfl (by with_reducible rfl) ?_ | ((fail_if_success (refine w_lit false rfl (by with_reducible rfl) ?_)); (fail_if_success (refine w_lit true rfl (by with_reducible rfl) ?_)); refine w_case rfl ?_ ?_ <;> (intro hgd; rw [hgd]; try (exfalso; simp at hgd; omega)))) | ((with_reducible refine tConv _ 70 9 ?_); go_must (first | refine w_stringW M _ _ _ _ _ rfl rfl (by first | exact at0) rfl (by first | assumption | exact lenI | exact lenS ‹_› | rfl) (by decide) Tryz.underlying70 Tryz.underlying5 Tryz.underlying9 ?_ | refine w_string M _ _ _ _ _ rfl rfl (by first | exact at0) (by first | rfl | (simp; done) | assumption) rfl Tryz.underlying70 Tryz.underlying5 Tryz.underlying9 ?_)) | ((with_reducible refine tLoad ?_); go_must (refine w_at _ _ rfl (by exact ev_tmp rfl) ?_; intro hx; (first | refine w_load M _ _ _ rfl (by first | exact at0) hx rfl (by decide +kernel) (by exact rfl) ?_ | refine w_loadB M _ _ _ rfl (by first | exact at0) hx rfl (by decide +kernel) (by first | assumption | omega | (simp; omega)) ?_ | refine w_loadH M _ _ _ rfl (by first | exact at0) hx rfl (by decide +kernel) (by first | assumption | exact lenI | exact lenS ‹_› | rfl) (by decide +kernel) ?_ | refine w_loadR M _ _ _ rfl (by first | exact at0) hx rfl (by decide +kernel) (by kernel_rfl) ?_); clear hx)) | ((with_reducible refine tStore ?_); go_must (refine w_at2 _ _ _ rfl (by exact ev_tmp rfl) (by first | exact ev_tmp rfl | exact ev_const) ?_; intro hx hy; (first | refine w_storeB M _ _ _ _ rfl (by first | exact at0) hx rfl hy (by decide +kernel) (by first | assumption | omega | (simp; omega)) ?_ | refine w_storeH M _ _ _ _ rfl (by first | exact at0) hx rfl hy (by first | assumption | exact lenI | exact lenS ‹_› | rfl) (by decide +kernel) (by first | assumption | exact lenI | exact lenS ‹_› | rfl) ?_ | refine w_store M _ _ _ _ rfl (by first | exact at0) hx rfl hy rfl rfl (by decide +kernel) (by first | decide | simp | (simp; omega)) ?_ | refine w_storeR M _ _ _ _ rfl (by first | exact at0) hx rfl _ hy rfl (by kernel_rfl) (by simp [Value.oneCell']) (by first | rfl | assumption) ?_); clear hx hy M; intro w1 M; (try simp only [setC] at M))) | ((with_reducible refine tBox _ ?_); (refine w_box M _ _ rfl rfl _ rfl _ rfl ?_; clear M; intro g w1 M))) <;> (try conv => arg 5; simp only [Act.put, List.setIfInBounds_toArray, setC]))
  go_ret2
  exact ⟨rfl, (Kept.refl [] w).drew.below⟩
set_option maxHeartbeats 2000000 in
theorem End_c (hf : x.fit) :
    Calls Tryz.prog 62 #[.pointer (some ⟨g, 0, none⟩)] w fun e w' => e = .returned (.int .i64 x.fin) ∧ Below w.heap.size w w' := by
  have M := (Mem.start [] w)
  have H := Lib.hid h
  by_cases he : x.err = 0
  · have H0 := Lib.hid he
    by_cases hl : x.rest.length = 0
    · have e : x.fin = 0 := by unfold InS.fin; rw [if_pos he, if_pos hl]
      have hl' : ¬ (0 : Int) < (x.rest.length : Int) := by omega
      rw [e]; clear e hl he
      go_enter Tryz.func62, Tryz.ntmps62
      go_wp2_with (first | (go_at_call 92; go_must (refine (Fault_ok g x _ H.out H0.out).mono ?_; rintro e w1 ⟨rfl, rfl⟩)) | (go_at_call 98; go_must (refine (Left_c g x _ H.out hf).mono ?_; rintro e w1 ⟨rfl, rfl⟩)))
      go_ret
      exact ⟨rfl, M.below⟩
    · have e : x.fin = 8 := by unfold InS.fin; rw [if_pos he, if_neg hl]
      have hl' : (0 : Int) < (x.rest.length : Int) := by omega
      rw [e]; clear e hl he
      go_enter Tryz.func62, Tryz.ntmps62
      go_wp2_with (first | (go_at_call 92; go_must (refine (Fault_ok g x _ H.out H0.out).mono ?_; rintro e w1 ⟨rfl, rfl⟩)) | (go_at_call 98; go_must (refine (Left_c g x _ H.out hf).mono ?_; rintro e w1 ⟨rfl, rfl⟩)))
      go_ret
      exact ⟨rfl, M.below⟩
  · have H0 := Lib.hid he
    have e : x.fin = x.err := by unfold InS.fin; rw [if_neg he]
    have hz0 : ((x.err : Int) == 0) = false := by simp; exact he
    rw [e]; clear e he
    go_enter Tryz.func62, Tryz.ntmps62
    go_wp2_with (first | (go_at_call 92; go_must (refine (Fault_no g x _ H.out H0.out).mono ?_; rintro e w1 ⟨rfl, hb⟩; replace M := M.call hb; clear hb)))
    go_ret
    exact ⟨rfl, M.below⟩
end
set_option maxHeartbeats 1000000 in
theorem packOf_c (s : List UInt8) (w : World) :
    Calls Tryz.prog 57 #[.string (mkS s)] w fun e w' => ∃ g, e = .returned (.pointer (some ⟨g, 0, none⟩)) ∧ Mem [] w w' [.row g (inV ⟨s, 0, 0⟩)] := by
  have M := Mem.start [] w
  go_enter Tryz.func57, Tryz.ntmps57
  go_wp2_with (first | ((with_reducible refine tBox (some 5) ?_); refine w_box M _ _ rfl rfl _ rfl (inV ⟨s, 0, 0⟩) rfl ?_; clear M; intro g w1 M; (try conv => arg 5; simp only [Act.put, List.setIfInBounds_toArray, setC])))
  go_ret
  exact ⟨g, rfl, M⟩
end Go.Proofs.YtidadhbaomieiaaGreat

/- A writer's object (pack.Out): its row, and the slice that it owns; pieces split and put together. No conditions. -/
namespace Go
namespace TL
open Go.RowKit
theorem Mem.split {F : List Nat} {w0 w : World} {a b c : Chunk} {L : List Chunk} (M : Mem F w0 w (c :: L)) (ha : a.ok w) (hb : b.ok w) (fa : ∀ k ∈ a.fp, k ∈ c.fp) (fb : ∀ k ∈ b.fp, k ∈ c.fp) (hd : ∀ k ∈ a.fp, k ∉ b.fp) : Mem F w0 w (a :: b :: L) := by
  have own0 := M.own 0 c rfl
  have nd0 : ∀ (j : Nat) (d : Chunk), L[j]? = some d → ∀ k ∈ c.fp, k ∉ d.fp := fun j d hj => M.nd 0 (j + 1) c d (by omega) rfl (by simpa using hj)
  refine ⟨M.kept, ?_, ?_, ?_⟩
  · rintro (_ | _ | i) d hd'
    · simp at hd'; subst hd'; exact ha
    · simp at hd'; subst hd'; exact hb
    · exact M.ok (i + 1) d (by simpa using hd')
  · rintro (_ | _ | i) d hd' k hk
    · simp at hd'; subst hd'; exact own0 k (fa k hk)
    · simp at hd'; subst hd'; exact own0 k (fb k hk)
    · exact M.own (i + 1) d (by simpa using hd') k hk
  · rintro (_ | _ | i) (_ | _ | j) x y hij hx hy k hk hk2
    · exact hij rfl
    · simp at hx hy; subst hx; subst hy; exact hd k hk hk2
    · simp at hx; subst hx; exact nd0 j y (by simpa using hy) k (fa k hk) hk2
    · simp at hx hy; subst hx; subst hy; exact hd k hk2 hk
    · exact hij rfl
    · simp at hx; subst hx; exact nd0 j y (by simpa using hy) k (fb k hk) hk2
    · simp at hy; subst hy; exact nd0 i x (by simpa using hx) k (fa k hk2) hk
    · simp at hy; subst hy; exact nd0 i x (by simpa using hx) k (fb k hk2) hk
    · exact M.nd (i + 1) (j + 1) x y (by omega) (by simpa using hx) (by simpa using hy) k hk hk2
theorem Mem.fuse {F : List Nat} {w0 w : World} {a b c : Chunk} {L : List Chunk} (M : Mem F w0 w (a :: b :: L)) (hc : c.ok w) (hf : ∀ k ∈ c.fp, k ∈ a.fp ∨ k ∈ b.fp) : Mem F w0 w (c :: L) := by
  have nd0 : ∀ (j : Nat) (d : Chunk), L[j]? = some d → ∀ k ∈ c.fp, k ∉ d.fp := fun j d hj k hk => by
    rcases hf k hk with h | h
    · exact M.nd 0 (j + 2) a d (by omega) rfl (by simpa using hj) k h
    · exact M.nd 1 (j + 2) b d (by omega) rfl (by simpa using hj) k h
  refine ⟨M.kept, ?_, ?_, ?_⟩
  · rintro (_ | i) d hd
    · simp at hd; subst hd; exact hc
    · exact M.ok (i + 2) d (by simpa using hd)
  · rintro (_ | i) d hd k hk
    · simp at hd; subst hd
      rcases hf k hk with h | h
      · exact M.own 0 a rfl k h
      · exact M.own 1 b rfl k h
    · exact M.own (i + 2) d (by simpa using hd) k hk
  · rintro (_ | i) (_ | j) x y hij hx hy k hk hk2
    · exact hij rfl
    · simp at hx; subst hx; exact nd0 j y (by simpa using hy) k hk hk2
    · simp at hy; subst hy; exact nd0 i x (by simpa using hx) k hk2 hk
    · exact M.nd (i + 2) (j + 2) x y (by omega) (by simpa using hx) (by simpa using hy) k hk hk2
theorem row_sees1 {w : World} {g : Nat} {b : UInt8} (h : (Chunk.row g (bs [b])).ok w) : SeesB w (.slice (some ⟨g, 0, none⟩) 1 1) [b] :=
  row_sees h (off := 0) (n := 1) (cap := 1) (by simp) (by omega) (by simp only [maxLen]; omega)
def outC (g : Nat) (v : Value) (l : List UInt8) : Chunk :=
  .obj (g :: v.ownBlock.toList) fun w => (Chunk.row g [v]).ok w ∧ (Chunk.sl 1 v l.length (bs l)).ok w ∧ g ∉ v.ownBlock.toList
theorem outC_ok {w : World} {g : Nat} {v : Value} {l : List UInt8} (h1 : (Chunk.row g [v]).ok w) (h2 : (Chunk.sl 1 v l.length (bs l)).ok w) (h3 : g ∉ v.ownBlock.toList) : (outC g v l).ok w := by
  refine ⟨fun k hk => ?_, ⟨h1, h2, h3⟩, fun w' hs hb => ⟨h1.stay hs fun k hk => hb k ?_, h2.stay hs fun k hk => hb k ?_, h3⟩⟩
  · rcases List.mem_cons.1 hk with rfl | hk
    · exact h1.lt _ (by simp [Chunk.fp])
    · exact h2.lt k hk
  · simp [Chunk.fp] at hk; subst hk; simp
  · exact List.mem_cons_of_mem _ hk
theorem Mem.outOpen {F : List Nat} {w0 w : World} {g : Nat} {v : Value} {l : List UInt8} {L : List Chunk} (M : Mem F w0 w (outC g v l :: L)) : Mem F w0 w (.row g [v] :: .sl 1 v l.length (bs l) :: L) := by
  obtain ⟨h1, h2, h3⟩ := (M.ok 0 _ rfl).2.1
  refine M.split h1 h2 (fun k hk => ?_) (fun k hk => List.mem_cons_of_mem _ hk) (fun k hk hk2 => ?_)
  · simp [Chunk.fp] at hk; subst hk; exact List.mem_cons_self
  · simp [Chunk.fp] at hk; subst hk; exact h3 hk2
theorem Mem.outShut {F : List Nat} {w0 w : World} {g : Nat} {v : Value} {l : List UInt8} {L : List Chunk} (M : Mem F w0 w (.row g [v] :: .sl 1 v l.length (bs l) :: L)) : Mem F w0 w (outC g v l :: L) := by
  refine M.fuse (outC_ok (M.ok 0 _ rfl) (M.ok 1 _ rfl) fun hk => M.nd 0 1 _ _ (by omega) rfl rfl g (by simp [Chunk.fp]) hk) fun k hk => ?_
  rcases List.mem_cons.1 hk with rfl | hk
  · exact .inl (by simp [Chunk.fp])
  · exact .inr hk
end TL
end Go

/- The walks of pack.Out's methods: what is written is behind what was. Conditions: lengths. -/
namespace Go.Proofs.YtidadhbaomieiaaGreat
open Go.RowKit Go.TL
set_option maxRecDepth 100000 in
set_option maxHeartbeats 1000000 in
theorem put_c (g : Nat) (v x : Value) (l news : List UInt8) (w : World) (h : (outC g v l).ok w) (hx : SeesB w x news) (hn : l.length + news.length ≤ 100000000) :
    Calls Tryz.prog 114 #[.pointer (some ⟨g, 0, none⟩), x] w fun e w' => e = .returned (.tuple #[]) ∧ ∃ v', Upd w (outC g v l) w' (outC g v' (l ++ news)) := by
  have hsrc : Src Tryz.prog w 1 x news.length (bs news) := Src_of_sees hx (bs_one _)
  have M := (Mem.start1 h).outOpen
  go_enter Tryz.func114, Tryz.ntmps114
  go_wp2_with ((first | ((with_reducible refine tGuard ?_); first | refine w_strip rfl (by with_reducible rfl) ?_ | ((fail_if_success (refine w_lit false rfl (by with_reducible rfl) ?_)); (fail_if_success (refine w_lit true rfl (by with_reducible rfl) ?_)); refine w_case rfl ?_ ?_ <;> (intro hgd; rw [hgd]; try (exfalso; simp at hgd; omega)))) | ((with_reducible refine tConv _ 70 9 ?_); go_must (first | refine w_stringW M _ _ _ _ _ rfl rfl (by first | exact at0) rfl (by first | assumption | exact lenI | exact lenS ‹_› | rfl) (by decide) Tryz.underlying70 Tryz.underlying5 Tryz.underlying9 ?_ | refine w_string M _ _ _ _ _ rfl rfl (by first | exact at0) (by first | rfl | (simp; done) | assumption) rfl Tryz.underlying70 Tryz.underlying5 Tryz.underlying9 ?_)) | ((with_reducible refine tLoad ?_); go_must (refine w_at _ _ rfl (by exact ev_tmp rfl) ?_; intro hx; (first | refine w_load M _ _ _ rfl (by first | exact at0) hx rfl (by decide +kernel) (by exact rfl) ?_ | refine w_loadB M _ _ _ rfl (by first | exact at0) hx rfl (by decide +kernel) (by first | assumption | omega | (simp; omega)) ?_ | refine w_loadH M _ _ _ rfl (by first | exact at0) hx rfl (by decide +kernel) (by first | assumption | exact lenI | exact lenS ‹_› | rfl) (by decide +kernel) ?_ | refine w_loadR M _ _ _ rfl (by first | exact at0) hx rfl (by decide +kernel) (by kernel_rfl) ?_); clear hx)) | ((with_reducible refine tStore ?_); go_must (refine w_at2 _ _ _ rfl (by exact ev_tmp rfl) (by first | exact ev_tmp rfl | exact ev_const) ?_; intro hx hy; (first | refine w_storeB M _ _ _ _ rfl (by first | exact at0) hx rfl hy (by decide +kernel) (by first | assumption | omega | (simp; omega)) ?_ | refine w_storeH M _ _ _ _ rfl (by first | exact at0) hx rfl hy (by first | assumption | exact lenI | exact lenS ‹_› | rfl) (by decide +kernel) (by first | assumption | exact lenI | exact lenS ‹_› | rfl) ?_ | refine w_store M _ _ _ _ rfl (by first | exact at0) hx rfl hy rfl rfl (by decide +kernel) (by first | decide | simp | (simp; omega)) ?_ | refine w_storeR M _ _ _ _ rfl (by first | exact at0) hx rfl _ hy rfl (by kernel_rfl) (by simp [Value.oneCell']) (by first | rfl | assumption) ?_); clear hx hy M; intro w1 M; (try simp only [setC] at M))) | ((with_reducible refine tBox _ ?_); (refine w_box M _ _ rfl rfl _ rfl _ rfl ?_; clear M; intro g w1 M)) | (at_builtin; go_must (refine w_append M 1 bytesT (.tmp 10) (.tmp 11) _ rfl uB rfl rfl rfl rfl _ _ hsrc (by simp only [maxLen]; omega) (by omega) ?_; clear M; intro p cap w1 M))) <;> (try conv => arg 5; simp only [Act.put, List.setIfInBounds_toArray, setC]))
  rw [← bs_append, ← List.length_append] at M
  exact bodyPost_end (results_none rfl _ _ _) rfl ⟨rfl, _, (M.outShut).upd1 0 rfl⟩
set_option maxRecDepth 100000 in
set_option maxHeartbeats 1000000 in
theorem Out_String_c (g : Nat) (v : Value) (l : List UInt8) (w : World) (h : (outC g v l).ok w) :
    Calls Tryz.prog 81 #[.pointer (some ⟨g, 0, none⟩)] w fun e w' => e = .returned (.string (mkS l)) ∧ w = w' := by
  have M := (Mem.start1 h).outOpen
  go_enter Tryz.func81, Tryz.ntmps81
  go_wp2_with ((first | ((with_reducible refine tGuard ?_); first | refine w_strip rfl (by with_reducible rfl) ?_ | ((fail_if_success (refine w_lit false rfl (by with_reducible rfl) ?_)); (fail_if_success (refine w_lit true rfl (by with_reducible rfl) ?_)); refine w_case rfl ?_ ?_ <;> (intro hgd; rw [hgd]; try (exfalso; simp at hgd; omega)))) | ((with_reducible refine tConv _ 70 9 ?_); go_must (first | refine w_stringW M _ _ _ _ _ rfl rfl (by first | exact at0 | exact at1) rfl (by first | assumption | exact lenI | exact lenS ‹_› | rfl) (by decide) Tryz.underlying70 Tryz.underlying5 Tryz.underlying9 ?_ | refine w_string M _ _ _ _ _ rfl rfl (by first | exact at0 | exact at1) (by first | rfl | (simp; done) | assumption) rfl Tryz.underlying70 Tryz.underlying5 Tryz.underlying9 ?_)) | ((with_reducible refine tLoad ?_); go_must (refine w_at _ _ rfl (by exact ev_tmp rfl) ?_; intro hx; (first | refine w_load M _ _ _ rfl (by first | exact at0 | exact at1) hx rfl (by decide +kernel) (by exact rfl) ?_ | refine w_loadB M _ _ _ rfl (by first | exact at0 | exact at1) hx rfl (by decide +kernel) (by first | assumption | omega | (simp; omega)) ?_ | refine w_loadH M _ _ _ rfl (by first | exact at0 | exact at1) hx rfl (by decide +kernel) (by first | assumption | exact lenI | exact lenS ‹_› | rfl) (by decide +kernel) ?_ | refine w_loadR M _ _ _ rfl (by first | exact at0 | exact at1) hx rfl (by decide +kernel) (by kernel_rfl) ?_); clear hx)) | ((with_reducible refine tStore ?_); go_must (refine w_at2 _ _ _ rfl (by exact ev_tmp rfl) (by first | exact ev_tmp rfl | exact ev_const) ?_; intro hx hy; (first | refine w_storeB M _ _ _ _ rfl (by first | exact at0 | exact at1) hx rfl hy (by decide +kernel) (by first | assumption | omega | (simp; omega)) ?_ | refine w_storeH M _ _ _ _ rfl (by first | exact at0 | exact at1) hx rfl hy (by first | assumption | exact lenI | exact lenS ‹_› | rfl) (by decide +kernel) (by first | assumption | exact lenI | exact lenS ‹_› | rfl) ?_ | refine w_store M _ _ _ _ rfl (by first | exact at0 | exact at1) hx rfl hy rfl rfl (by decide +kernel) (by first | decide | simp | (simp; omega)) ?_ | refine w_storeR M _ _ _ _ rfl (by first | exact at0 | exact at1) hx rfl _ hy rfl (by kernel_rfl) (by simp [Value.oneCell']) (by first | rfl | assumption) ?_); clear hx hy M; intro w1 M; (try simp only [setC] at M))) | ((with_reducible refine tBox _ ?_); (refine w_box M _ _ rfl rfl _ rfl _ rfl ?_; clear M; intro g w1 M))) <;> (try conv => arg 5; simp only [Act.put, List.setIfInBounds_toArray, setC]))
  go_ret
  exact ⟨rfl, rfl⟩
end Go.Proofs.YtidadhbaomieiaaGreat

/- The walks of pack.Out's Num, Text and Byte. Conditions: lengths. -/
namespace Go.Proofs.YtidadhbaomieiaaGreat
open Go.RowKit Go.TL
set_option maxHeartbeats 2000000 in
theorem Num_c (g : Nat) (v : Value) (l : List UInt8) (n : Nat) (a : Int) (ha : a = (n : Int)) (w : World) (h : n < 18446744073709551616) (hl : l.length ≤ 10000000) (ho : (outC g v l).ok w) :
    Calls Tryz.prog 113 #[.pointer (some ⟨g, 0, none⟩), .int .u64 a] w fun e w' => e = .returned (.tuple #[]) ∧ ∃ v', Upd w (outC g v l) w' (outC g v' (l ++ numL n)) := by
  subst ha
  have M := Mem.start1 ho
  have hn10 := numL_length_le n h
  go_enter Tryz.func113, Tryz.ntmps113
  go_wp2_with (first | (go_at_call 137; go_must (refine (size_c n _ h).mono ?_; rintro e w1 ⟨rfl, rfl⟩)))
  go_loopw [1, 4] (fun nv lv wr => ∃ (m : Nat) (d : List UInt8) (v' : Value), m < 18446744073709551616 ∧ d ++ numL m = numL n ∧ nv = .int .u64 m ∧ lv = .int .i64 (numL m).length ∧ Mem (outC g v l).fp w wr [outC g v' (l ++ d)]) (fun _ lv _ => (intOf lv).toNat)
  case atStart => exact ⟨n, [], v, h, rfl, rfl, rfl, by simpa using M⟩
  case round =>
    clear M
    obtain ⟨m, d, v', hm, hd, rfl, rfl, M⟩ := hrel
    have hdl : d.length ≤ 10 := by have := congrArg List.length hd; simp at this; omega
    by_cases h128 : m < 128
    · have e1 := numL_small h128
      rw [e1] at hd ⊢
      rw [List.length_singleton]
      go_wp2_with (first | ((with_reducible show wpList _ _ _ (Oper.mk _ (Op.buildSlice 70 1 _) _ _ _ _ :: _) _ _); go_must (refine w_buildSliceB M bytesT _ rfl rfl (by first | exact ev_tmp rfl | exact ev_const) ?_; clear M; intro g w1 M; (try conv => arg 5; simp only [Act.put, List.setIfInBounds_toArray, setC]))) | (go_at_call 114; go_must (refine (put_c _ _ _ _ [_] _ (M.ok 1 _ rfl) (row_sees1 (M.ok 0 _ rfl)) (by simp; omega)).mono ?_; rintro e w2 ⟨rfl, v1, U⟩; replace M := (M.upd 1 rfl U).tail; clear U)))
      simp only [List.set_cons_zero] at M
      rw [w8_nat, List.append_assoc, hd] at M
      exact bodyPost_end (results_none rfl _ _ _) rfl ⟨rfl, _, M.upd1 0 rfl⟩
    · have e1 := numL_big (n := m) (by omega)
      obtain ⟨k, ek⟩ : ∃ k, k = (numL (m / 128)).length := ⟨_, rfl⟩
      have hk : 0 < k := by rw [ek]; exact numL_pos _
      have e2 : (numL m).length = k + 1 := by rw [e1, ek]; rfl
      rw [e2]
      go_wp2_with (first | ((with_reducible show wpList _ _ _ (Oper.mk _ (Op.buildSlice 70 1 _) _ _ _ _ :: _) _ _); go_must (refine w_buildSliceB M bytesT _ rfl rfl (by first | exact ev_tmp rfl | exact ev_const) ?_; clear M; intro g w1 M; (try conv => arg 5; simp only [Act.put, List.setIfInBounds_toArray, setC]))) | (go_at_call 114; go_must (refine (put_c _ _ _ _ [_] _ (M.ok 1 _ rfl) (row_sees1 (M.ok 0 _ rfl)) (by simp; omega)).mono ?_; rintro e w2 ⟨rfl, v1, U⟩; replace M := (M.upd 1 rfl U).tail; clear U)))
      simp only [List.set_cons_zero] at M
      have eb : w8 (m : Int) ||| 128 = UInt8.ofNat (m % 128 + 128) := by
        rw [w8_nat]; exact or128 m
      rw [eb, List.append_assoc] at M
      have hk10 : k ≤ 10 := by have := numL_length_le (m / 128) (by omega); omega
      refine ⟨⟨m / 128, d ++ [UInt8.ofNat (m % 128 + 128)], v1, by omega, by rw [← hd, e1]; simp, by go_num, by rw [← ek, IntWalk.wrap64_in _ (by omega)], M⟩, ?_⟩
      rw [← ek, IntWalk.wrap64_in _ (by omega)]
      simp only [intOf]; omega
set_option maxHeartbeats 1000000 in
/-- A text's bytes. -/
theorem Out_Text_c (g : Nat) (v : Value) (l t : List UInt8) (w : World) (ht : t.length ≤ 1000000) (hl : l.length ≤ 1000000) (ho : (outC g v l).ok w) :
    Calls Tryz.prog 80 #[.pointer (some ⟨g, 0, none⟩), .string (mkS t)] w fun e w' => e = .returned (.tuple #[]) ∧ ∃ v', Upd w (outC g v l) w' (outC g v' (l ++ textL t)) := by
  have M := Mem.start1 ho
  have hn := numL_length_le t.length (by omega)
  go_enter Tryz.func80, Tryz.ntmps80
  go_wp2_with (first | ((with_reducible refine tConv (some 11) 9 70 ?_); go_must (refine w_bytes M _ _ _ _ rfl rfl rfl Tryz.underlying9 Tryz.underlying70 Tryz.underlying5 (by first | omega | (simp; omega)) ?_; clear M; intro gb capgb w1 hcapgb M; (try conv => arg 5; simp only [Act.put, List.setIfInBounds_toArray, setC]))) | (go_at_call 113; go_must (refine (Num_c _ _ _ t.length _ (I64_nat _ (by omega)) _ (by omega) (by omega) (M.ok 0 _ rfl)).mono ?_; rintro e w2 ⟨rfl, v1, U⟩; replace M := M.upd 0 rfl U; clear U; simp only [List.set_cons_zero] at M)) | (go_at_call 114; go_must (refine (put_c _ _ _ _ _ _ (M.ok 1 _ rfl) (SeesB.of_own (M.ok 0 _ rfl) rfl) (by simp; omega)).mono ?_; rintro e w2 ⟨rfl, v1, U⟩; replace M := (M.upd 1 rfl U).tail; clear U)))
  simp only [List.set_cons_zero, List.append_assoc] at M
  exact bodyPost_end (results_none rfl _ _ _) rfl ⟨rfl, _, M.upd1 0 rfl⟩
end Go.Proofs.YtidadhbaomieiaaGreat

/- The walks of pack.In.Byte and pack.In.Num, for seats without batches. Conditions: lengths. -/
namespace Go.Proofs.YtidadhbaomieiaaGreat
open Go.RowKit Go.TL
section
variable (g : Nat) (x : InS) (w : World) (h : (Chunk.row g (inV x)).ok w)
include h
set_option maxRecDepth 100000 in
set_option maxHeartbeats 2000000 in
theorem In_Byte_c (hf : x.fit) :
    Calls Tryz.prog 61 #[.pointer (some ⟨g, 0, none⟩)] w fun e w' => e = .returned (.int .u8 x.byte.1) ∧ Upd w (.row g (inV x)) w' (.row g (inV x.byte.2)) := by
  obtain ⟨rest, read, err⟩ := x
  have M := Mem.start1 (c := .row g [.string (mkS rest), .int .i64 (read : Nat), .int .i64 (err : Nat)]) h
  by_cases h0 : err = 0
  · subst h0
    cases rest with
    | nil =>
      go_enter Tryz.func61, Tryz.ntmps61
      go_wp2_with ((first | (go_at_call 94; go_must (refine (reads_ok g _ _ h rfl).mono ?_; rintro e w1 ⟨rfl, rfl⟩)) | ((with_reducible refine tGuard ?_); refine w_strip rfl (by with_reducible rfl) ?_) | ((with_reducible refine tConv _ 70 9 ?_); go_must (first | refine w_stringW M _ _ _ _ _ rfl rfl (by first | exact at0) rfl (by first | assumption | exact lenI | exact lenS ‹_› | rfl) (by decide) Tryz.underlying70 Tryz.underlying5 Tryz.underlying9 ?_ | refine w_string M _ _ _ _ _ rfl rfl (by first | exact at0) (by first | rfl | (simp; done) | assumption) rfl Tryz.underlying70 Tryz.underlying5 Tryz.underlying9 ?_)) | ((with_reducible refine tLoad ?_); go_must (refine w_at _ _ rfl (by exact ev_tmp rfl) ?_; intro hx; (first | refine w_load M _ _ _ rfl (by first | exact at0) hx rfl (by decide +kernel) (by exact rfl) ?_ | refine w_loadB M _ _ _ rfl (by first | exact at0) hx rfl (by decide +kernel) (by first | assumption | omega | (simp; omega)) ?_ | refine w_loadH M _ _ _ rfl (by first | exact at0) hx rfl (by decide +kernel) (by first | assumption | exact lenI | exact lenS ‹_› | rfl) (by decide +kernel) ?_ | refine w_loadR M _ _ _ rfl (by first | exact at0) hx rfl (by decide +kernel) (by kernel_rfl) ?_); clear hx)) | ((with_reducible refine tStore ?_); go_must (refine w_at2 _ _ _ rfl (by exact ev_tmp rfl) (by first | exact ev_tmp rfl | exact ev_const) ?_; intro hx hy; (first | refine w_storeB M _ _ _ _ rfl (by first | exact at0) hx rfl hy (by decide +kernel) (by first | assumption | omega | (simp; omega)) ?_ | refine w_storeH M _ _ _ _ rfl (by first | exact at0) hx rfl hy (by first | assumption | exact lenI | exact lenS ‹_› | rfl) (by decide +kernel) (by first | assumption | exact lenI | exact lenS ‹_› | rfl) ?_ | refine w_store M _ _ _ _ rfl (by first | exact at0) hx rfl hy rfl rfl (by decide +kernel) (by first | decide | simp | (simp; omega)) ?_ | refine w_storeR M _ _ _ _ rfl (by first | exact at0) hx rfl _ hy rfl (by kernel_rfl) (by simp [Value.oneCell']) (by first | rfl | assumption) ?_); clear hx hy M; intro w1 M; (try simp only [setC] at M))) | ((with_reducible refine tBox _ ?_); (refine w_box M _ _ rfl rfl _ rfl _ rfl ?_; clear M; intro g w1 M))) <;> (try conv => arg 5; simp only [Act.put, List.setIfInBounds_toArray, setC]))
      go_ret
      exact ⟨rfl, M.upd1 0 rfl⟩
    | cons b r =>
      have hb : ((b.toNat : Nat) : Int) = I8 b := (I8_eq b).symm
      have e : InS.byte ⟨b :: r, read, 0⟩ = (b.toNat, InS.take ⟨b :: r, read, 0⟩ 1 0) := rfl
      rw [e]; simp only [hb]; clear e hb
      go_enter Tryz.func61, Tryz.ntmps61
      go_wp2_with ((first | (go_at_call 94; go_must (refine (reads_ok g _ _ h rfl).mono ?_; rintro e w1 ⟨rfl, rfl⟩)) | (go_at_call 96; go_must (refine (takes_ok g _ _ (M.ok 0 _ rfl) hf 1 (by simp) _ _ rfl rfl).mono ?_; rintro e w1 ⟨rfl, U⟩; replace M := M.upd 0 rfl U; clear U)) | ((with_reducible refine tGuard ?_); refine w_strip rfl (by with_reducible rfl) ?_) | ((with_reducible refine tConv _ 70 9 ?_); go_must (first | refine w_stringW M _ _ _ _ _ rfl rfl (by first | exact at0) rfl (by first | assumption | exact lenI | exact lenS ‹_› | rfl) (by decide) Tryz.underlying70 Tryz.underlying5 Tryz.underlying9 ?_ | refine w_string M _ _ _ _ _ rfl rfl (by first | exact at0) (by first | rfl | (simp; done) | assumption) rfl Tryz.underlying70 Tryz.underlying5 Tryz.underlying9 ?_)) | ((with_reducible refine tLoad ?_); go_must (refine w_at _ _ rfl (by exact ev_tmp rfl) ?_; intro hx; (first | refine w_load M _ _ _ rfl (by first | exact at0) hx rfl (by decide +kernel) (by exact rfl) ?_ | refine w_loadB M _ _ _ rfl (by first | exact at0) hx rfl (by decide +kernel) (by first | assumption | omega | (simp; omega)) ?_ | refine w_loadH M _ _ _ rfl (by first | exact at0) hx rfl (by decide +kernel) (by first | assumption | exact lenI | exact lenS ‹_› | rfl) (by decide +kernel) ?_ | refine w_loadR M _ _ _ rfl (by first | exact at0) hx rfl (by decide +kernel) (by kernel_rfl) ?_); clear hx)) | ((with_reducible refine tStore ?_); go_must (refine w_at2 _ _ _ rfl (by exact ev_tmp rfl) (by first | exact ev_tmp rfl | exact ev_const) ?_; intro hx hy; (first | refine w_storeB M _ _ _ _ rfl (by first | exact at0) hx rfl hy (by decide +kernel) (by first | assumption | omega | (simp; omega)) ?_ | refine w_storeH M _ _ _ _ rfl (by first | exact at0) hx rfl hy (by first | assumption | exact lenI | exact lenS ‹_› | rfl) (by decide +kernel) (by first | assumption | exact lenI | exact lenS ‹_› | rfl) ?_ | refine w_store M _ _ _ _ rfl (by first | exact at0) hx rfl hy rfl rfl (by decide +kernel) (by first | decide | simp | (simp; omega)) ?_ | refine w_storeR M _ _ _ _ rfl (by first | exact at0) hx rfl _ hy rfl (by kernel_rfl) (by simp [Value.oneCell']) (by first | rfl | assumption) ?_); clear hx hy M; intro w1 M; (try simp only [setC] at M))) | ((with_reducible refine tBox _ ?_); (refine w_box M _ _ rfl rfl _ rfl _ rfl ?_; clear M; intro g w1 M))) <;> (try conv => arg 5; simp only [Act.put, List.setIfInBounds_toArray, setC]))
      go_ret
      exact ⟨rfl, M.upd1 0 rfl⟩
  · have e1 : InS.byte ⟨rest, read, err⟩ = (0, ⟨rest, read, err⟩) := by unfold InS.byte; rw [if_neg h0]
    rw [e1]; clear e1
    have H0 := Lib.hid h0
    clear h0
    go_enter Tryz.func61, Tryz.ntmps61
    go_wp2_with (first | (go_at_call 94; go_must (refine (reads_no g _ _ h H0.out).mono ?_; rintro e w1 ⟨rfl, rfl⟩)))
    go_ret
    exact ⟨rfl, M.upd1 0 rfl⟩
end
section
variable (g : Nat) (x : InS) (w : World) (h : (Chunk.row g (inV x)).ok w)
include h
set_option maxRecDepth 100000 in
set_option maxHeartbeats 2000000 in
theorem In_Num_c (hf : x.fit) :
    Calls Tryz.prog 59 #[.pointer (some ⟨g, 0, none⟩)] w fun e w' => e = .returned (.int .u64 (x.most maxU).1) ∧ Upd w (.row g (inV x)) w' (.row g (inV (x.most maxU).2)) := by
  have M := Mem.start1 h
  have hl : x.rest.length ≤ 1000000000 := by unfold InS.fit at hf; omega
  by_cases h0 : x.err = 0
  · have e1 : x.most maxU = ((readN x.rest maxU).1, x.take (readN x.rest maxU).2.1 (readN x.rest maxU).2.2) := by unfold InS.most; rw [if_pos h0]
    rw [e1]; clear e1
    obtain ⟨⟨n, b, er⟩, eR⟩ : ∃ R, R = readN x.rest maxU := ⟨_, rfl⟩
    have hb := (read_le eR.symm).1
    have hz := read_err x.rest maxU
    have B := number_c x.rest w hl
    rw [← eR] at B hz ⊢
    have B := Lib.hid B
    have HZ := Lib.hid hz
    clear eR hz
    simp only
    have H0 := Lib.hid h0
    clear h0
    by_cases he : er = 0
    · subst he
      go_enter Tryz.func59, Tryz.ntmps59
      go_wp2_with ((first | (go_at_call 94; go_must (refine (reads_ok g x _ h H0.out).mono ?_; rintro e w1 ⟨rfl, rfl⟩)) | (go_at_call 97; go_must (refine (B.out).mono ?_; rintro e w1 ⟨rfl, rfl⟩)) | (go_at_call 96; go_must (refine (takes_ok g x _ (M.ok 0 _ rfl) hf b hb _ _ rfl rfl).mono ?_; rintro e w1 ⟨rfl, U⟩; replace M := M.upd 0 rfl U; clear U)) | ((with_reducible refine tGuard ?_); first | refine w_strip rfl (by with_reducible rfl) ?_ | ((fail_if_success (refine w_lit false rfl (by with_reducible rfl) ?_)); (fail_if_success (refine w_lit true rfl (by with_reducible rfl) ?_)); refine w_case rfl ?_ ?_ <;> (intro hgd; rw [hgd]; try (exfalso; simp at hgd; omega)))) | ((with_reducible refine tConv _ 70 9 ?_); go_must (first | refine w_stringW M _ _ _ _ _ rfl rfl (by first | exact at0) rfl (by first | assumption | exact lenI | exact lenS ‹_› | rfl) (by decide) Tryz.underlying70 Tryz.underlying5 Tryz.underlying9 ?_ | refine w_string M _ _ _ _ _ rfl rfl (by first | exact at0) (by first | rfl | (simp; done) | assumption) rfl Tryz.underlying70 Tryz.underlying5 Tryz.underlying9 ?_)) | ((with_reducible refine tLoad ?_); go_must (refine w_at _ _ rfl (by exact ev_tmp rfl) ?_; intro hx; (first | refine w_load M _ _ _ rfl (by first | exact at0) hx rfl (by decide +kernel) (by exact rfl) ?_ | refine w_loadB M _ _ _ rfl (by first | exact at0) hx rfl (by decide +kernel) (by first | assumption | omega | (simp; omega)) ?_ | refine w_loadH M _ _ _ rfl (by first | exact at0) hx rfl (by decide +kernel) (by first | assumption | exact lenI | exact lenS ‹_› | rfl) (by decide +kernel) ?_ | refine w_loadR M _ _ _ rfl (by first | exact at0) hx rfl (by decide +kernel) (by kernel_rfl) ?_); clear hx)) | ((with_reducible refine tStore ?_); go_must (refine w_at2 _ _ _ rfl (by exact ev_tmp rfl) (by first | exact ev_tmp rfl | exact ev_const) ?_; intro hx hy; (first | refine w_storeB M _ _ _ _ rfl (by first | exact at0) hx rfl hy (by decide +kernel) (by first | assumption | omega | (simp; omega)) ?_ | refine w_storeH M _ _ _ _ rfl (by first | exact at0) hx rfl hy (by first | assumption | exact lenI | exact lenS ‹_› | rfl) (by decide +kernel) (by first | assumption | exact lenI | exact lenS ‹_› | rfl) ?_ | refine w_store M _ _ _ _ rfl (by first | exact at0) hx rfl hy rfl rfl (by decide +kernel) (by first | decide | simp | (simp; omega)) ?_ | refine w_storeR M _ _ _ _ rfl (by first | exact at0) hx rfl _ hy rfl (by kernel_rfl) (by simp [Value.oneCell']) (by first | rfl | assumption) ?_); clear hx hy M; intro w1 M; (try simp only [setC] at M))) | ((with_reducible refine tBox _ ?_); (refine w_box M _ _ rfl rfl _ rfl _ rfl ?_; clear M; intro g w1 M))) <;> (try conv => arg 5; simp only [Act.put, List.setIfInBounds_toArray, setC]))
      go_ret
      exact ⟨rfl, M.upd1 0 rfl⟩
    · obtain ⟨rfl, rfl⟩ : n = 0 ∧ b = 0 := by
        have := HZ.out; simp at this; omega
      go_enter Tryz.func59, Tryz.ntmps59
      go_wp2_with ((first | (go_at_call 94; go_must (refine (reads_ok g x _ h H0.out).mono ?_; rintro e w1 ⟨rfl, rfl⟩)) | (go_at_call 97; go_must (refine (B.out).mono ?_; rintro e w1 ⟨rfl, rfl⟩)) | (go_at_call 96; go_must (refine (takes_no g x _ (M.ok 0 _ rfl) 0 er he _ _ rfl).mono ?_; rintro e w1 ⟨rfl, U⟩; replace M := M.upd 0 rfl U; clear U)) | ((with_reducible refine tGuard ?_); first | refine w_strip rfl (by with_reducible rfl) ?_ | ((fail_if_success (refine w_lit false rfl (by with_reducible rfl) ?_)); (fail_if_success (refine w_lit true rfl (by with_reducible rfl) ?_)); refine w_case rfl ?_ ?_ <;> (intro hgd; rw [hgd]; try (exfalso; simp at hgd; omega)))) | ((with_reducible refine tConv _ 70 9 ?_); go_must (first | refine w_stringW M _ _ _ _ _ rfl rfl (by first | exact at0) rfl (by first | assumption | exact lenI | exact lenS ‹_› | rfl) (by decide) Tryz.underlying70 Tryz.underlying5 Tryz.underlying9 ?_ | refine w_string M _ _ _ _ _ rfl rfl (by first | exact at0) (by first | rfl | (simp; done) | assumption) rfl Tryz.underlying70 Tryz.underlying5 Tryz.underlying9 ?_)) | ((with_reducible refine tLoad ?_); go_must (refine w_at _ _ rfl (by exact ev_tmp rfl) ?_; intro hx; (first | refine w_load M _ _ _ rfl (by first | exact at0) hx rfl (by decide +kernel) (by exact rfl) ?_ | refine w_loadB M _ _ _ rfl (by first | exact at0) hx rfl (by decide +kernel) (by first | assumption | omega | (simp; omega)) ?_ | refine w_loadH M _ _ _ rfl (by first | exact at0) hx rfl (by decide +kernel) (by first | assumption | exact lenI | exact lenS ‹_› | rfl) (by decide +kernel) ?_ | refine w_loadR M _ _ _ rfl (by first | exact at0) hx rfl (by decide +kernel) (by kernel_rfl) ?_); clear hx)) | ((with_reducible refine tStore ?_); go_must (refine w_at2 _ _ _ rfl (by exact ev_tmp rfl) (by first | exact ev_tmp rfl | exact ev_const) ?_; intro hx hy; (first | refine w_storeB M _ _ _ _ rfl (by first | exact at0) hx rfl hy (by decide +kernel) (by first | assumption | omega | (simp; omega)) ?_ | refine w_storeH M _ _ _ _ rfl (by first | exact at0) hx rfl hy (by first | assumption | exact lenI | exact lenS ‹_› | rfl) (by decide +kernel) (by first | assumption | exact lenI | exact lenS ‹_› | rfl) ?_ | refine w_store M _ _ _ _ rfl (by first | exact at0) hx rfl hy rfl rfl (by decide +kernel) (by first | decide | simp | (simp; omega)) ?_ | refine w_storeR M _ _ _ _ rfl (by first | exact at0) hx rfl _ hy rfl (by kernel_rfl) (by simp [Value.oneCell']) (by first | rfl | assumption) ?_); clear hx hy M; intro w1 M; (try simp only [setC] at M))) | ((with_reducible refine tBox _ ?_); (refine w_box M _ _ rfl rfl _ rfl _ rfl ?_; clear M; intro g w1 M))) <;> (try conv => arg 5; simp only [Act.put, List.setIfInBounds_toArray, setC]))
      go_ret
      exact ⟨rfl, M.upd1 0 rfl⟩
  · have e1 : x.most maxU = (0, x) := by unfold InS.most; rw [if_neg h0]
    rw [e1]; clear e1
    have H0 := Lib.hid h0
    clear h0
    go_enter Tryz.func59, Tryz.ntmps59
    go_wp2_with (first | (go_at_call 94; go_must (refine (reads_no g x _ h H0.out).mono ?_; rintro e w1 ⟨rfl, rfl⟩)))
    go_ret
    exact ⟨rfl, M.upd1 0 rfl⟩
end
end Go.Proofs.YtidadhbaomieiaaGreat

/- A new writer, as a piece of the walk's memory. No conditions. -/
namespace Go
namespace TL
open Go.RowKit
/-- A new writer. -/
theorem Mem.outNew {F : List Nat} {w0 w : World} {g : Nat} {L : List Chunk} (M : Mem F w0 w (.row g [.slice none 0 0] :: L)) : Mem F w0 w (outC g (.slice none 0 0) [] :: L) := by
  have M2 := M.nil 1
  have M3 : Mem F w0 w (.row g [.slice none 0 0] :: .sl 1 (.slice none 0 0) ([] : List UInt8).length (bs []) :: L) := by
    refine M2.pick _ (fun i => if i = 0 then 1 else if i = 1 then 0 else i) ?_ ?_
    · intro i j hi hj h
      by_cases i0 : i = 0 <;> by_cases i1 : i = 1 <;> by_cases j0 : j = 0 <;> by_cases j1 : j = 1 <;> simp_all <;> omega
    · intro i c h
      match i with
      | 0 => exact h
      | 1 => exact h
      | i + 2 => simpa using h
  exact M3.outShut
end TL
end Go

/- Envelopes in memory: their cells, and what may be done to them. No conditions but those each law names. -/
namespace Go
namespace TL
open Go.RowKit
/-- An envelope's cells. -/
def envC (k : Int) (b : UInt32) (n : UInt64) (d t : List UInt8) : List Value := .int .i64 k :: .int .u32 (I32 b) :: .int .u64 (I64 n) :: .string (mkS d) :: bs t
def zeroT : List UInt8 := List.replicate 32 0
theorem zeroT_len : zeroT.length = 32 := List.length_replicate
theorem envC_len (k : Int) (b : UInt32) (n : UInt64) (d t : List UInt8) : (envC k b n d t).length = t.length + 4 := by unfold envC; simp only [List.length_cons, bs_length]
theorem envC_data (k : Int) (b : UInt32) (n : UInt64) (d e t : List UInt8) : (envC k b n d t).set 3 (.string (mkS e)) = envC k b n e t := rfl
theorem envC_n (k : Int) (b : UInt32) (n m : UInt64) (d t : List UInt8) : (envC k b n d t).set 2 (.int .u64 (I64 m)) = envC k b m d t := rfl
theorem envC_one (k : Int) (b : UInt32) (n : UInt64) (d t : List UInt8) : ∀ v ∈ envC k b n d t, v.oneCell' = true := by
  intro v hv
  unfold envC at hv
  simp only [List.mem_cons] at hv
  rcases hv with rfl | rfl | rfl | rfl | hv
  · rfl
  · rfl
  · rfl
  · rfl
  · exact bs_one _ v hv
section
variable {P : Program} {ops : Array Oper} {rest : List Oper} {o : Oper} {a : Act} {w w0 : World} {Q : Exit → Act → World → Prop} {F : List Nat} {L : List Chunk} {g : Nat} {k : Int} {b : UInt32} {n : UInt64} {d tg : List UInt8}
/-- The whole of it. -/
theorem w_loadE (M : Mem F w0 w L) (i : Nat) (t : TypeId) (x : Operand) (ho : o.op = .load t x) (hi : L[i]? = some (.row g (envC k b n d tg))) (hx : a.eval x = .pointer (some ⟨g, 0, none⟩)) (hw : Region.wanted o (yielded ops a.tmps) = true)
    (ht : rowT P t = true) (hn : (P.info? t).map (·.size) = some 36) (hg : tg.length = 32) (h : wpList P ops Q rest (a.put o.dst (.agg (envC k b n d tg).toArray)) w) : wpList P ops Q (o :: rest) a w :=
  w_loadR M i t x ho hi hx hw ht (by rw [envC_len, hg]; exact hn) h
/-- Its tag. -/
theorem w_loadTag (M : Mem F w0 w L) (i : Nat) (t : TypeId) (x : Operand) (ho : o.op = .load t x) (hi : L[i]? = some (.row g (envC k b n d tg))) (hx : a.eval x = .pointer (some ⟨g, 4, none⟩)) (hw : Region.wanted o (yielded ops a.tmps) = true)
    (ht : rowT P t = true) (hn : (P.info? t).map (·.size) = some 32) (hg : tg.length = 32) (h : wpList P ops Q rest (a.put o.dst (.agg (bs tg).toArray)) w) : wpList P ops Q (o :: rest) a w :=
  w_loadA M i t x ho hi hx hw ht [.int .i64 k, .int .u32 (I32 b), .int .u64 (I64 n), .string (mkS d)] (bs tg) [] (by rw [List.append_nil]; rfl) rfl (by rw [bs_length, hg]; exact hn) h
/-- A byte of its tag. -/
theorem w_loadTagB (M : Mem F w0 w L) (i : Nat) (t : TypeId) (x : Operand) (ho : o.op = .load t x) (hi : L[i]? = some (.row g (envC k b n d tg))) {off : Nat} (hx : a.eval x = .pointer (some ⟨g, off, none⟩)) (hw : Region.wanted o (yielded ops a.tmps) = true)
    (ht : scalarT P t = true) (j : Nat) (hoff : off = 4 + j) (hlt : j < tg.length) (h : wpList P ops Q rest (a.put o.dst (.int .u8 (I8 (tg.getD j 0)))) w) : wpList P ops Q (o :: rest) a w := by
  refine w_load M i t x ho hi hx hw ht ?_ h
  rw [hoff, Nat.add_comm]
  show (bs tg)[j]? = _
  exact getD_some hlt
/-- The whole of it is stored. -/
theorem w_storeE (M : Mem F w0 w L) (i : Nat) (t : TypeId) (x y : Operand) (ho : o.op = .store t x y) {k' : Int} {b' : UInt32} {n' : UInt64} {d' tg' : List UInt8} (hi : L[i]? = some (.row g (envC k' b' n' d' tg'))) (hx : a.eval x = .pointer (some ⟨g, 0, none⟩)) (hw : Region.wanted o (yielded ops a.tmps) = true)
    {C : Array Value} (hy : a.eval y = .agg C) (hC : C = (envC k b n d tg).toArray) (hn : (P.info? t).map (·.size) = some 36) (hg : tg.length = 32) (hg' : tg'.length = 32)
    (h : ∀ w' : World, Mem F w0 w' (L.set i (.row g (envC k b n d tg))) → wpList P ops Q rest (a.put o.dst undef) w') : wpList P ops Q (o :: rest) a w :=
  w_storeR M i t x y ho hi hx hw (envC k b n d tg) hy hC (by rw [envC_len, hg]; exact hn) (envC_one _ _ _ _ _) (by rw [envC_len, envC_len, hg, hg']) h
/-- Its tag is stored. -/
theorem w_storeTag (M : Mem F w0 w L) (i : Nat) (t : TypeId) (x y : Operand) (ho : o.op = .store t x y) {tg' : List UInt8} (hi : L[i]? = some (.row g (envC k b n d tg'))) (hx : a.eval x = .pointer (some ⟨g, 4, none⟩)) (hw : Region.wanted o (yielded ops a.tmps) = true)
    (hy : a.eval y = .agg (bs tg).toArray) (hn : (P.info? t).map (·.size) = some 32) (hg : tg.length = 32) (hg' : tg'.length = 32)
    (h : ∀ w' : World, Mem F w0 w' (L.set i (.row g (envC k b n d tg))) → wpList P ops Q rest (a.put o.dst undef) w') : wpList P ops Q (o :: rest) a w := by
  refine w_storeA M i t x y ho hi hx hw (bs tg) hy rfl (by rw [bs_length, hg]; exact hn) (bs_one _) [.int .i64 k, .int .u32 (I32 b), .int .u64 (I64 n), .string (mkS d)] (bs tg') [] (by rw [List.append_nil]; rfl) rfl (by rw [bs_length, bs_length, hg, hg']) ?_
  intro w' M'
  rw [List.append_nil] at M'
  exact h w' M'
/-- Its data are stored. -/
theorem w_storeData (M : Mem F w0 w L) (i : Nat) (t : TypeId) (x y : Operand) (ho : o.op = .store t x y) {d' : List UInt8} (hi : L[i]? = some (.row g (envC k b n d' tg))) (hx : a.eval x = .pointer (some ⟨g, 3, none⟩)) (hw : Region.wanted o (yielded ops a.tmps) = true)
    (hy : a.eval y = .string (mkS d)) (hn : (P.info? t).map (·.size) = some 1)
    (h : ∀ w' : World, Mem F w0 w' (L.set i (.row g (envC k b n d tg))) → wpList P ops Q rest (a.put o.dst undef) w') : wpList P ops Q (o :: rest) a w :=
  w_store M i t x y ho hi hx hw hy rfl rfl hn (by rw [envC_len]; omega) fun w' M' => h w' M'
/-- Its number is stored. -/
theorem w_storeNum (M : Mem F w0 w L) (i : Nat) (t : TypeId) (x y : Operand) (ho : o.op = .store t x y) {n' : UInt64} (hi : L[i]? = some (.row g (envC k b n' d tg))) (hx : a.eval x = .pointer (some ⟨g, 2, none⟩)) (hw : Region.wanted o (yielded ops a.tmps) = true)
    (hy : a.eval y = .int .u64 (I64 n)) (hn : (P.info? t).map (·.size) = some 1)
    (h : ∀ w' : World, Mem F w0 w' (L.set i (.row g (envC k b n d tg))) → wpList P ops Q rest (a.put o.dst undef) w') : wpList P ops Q (o :: rest) a w :=
  w_store M i t x y ho hi hx hw hy rfl rfl hn (by rw [envC_len]; omega) fun w' M' => h w' M'
/-- A byte of its tag is stored. -/
theorem w_storeTagB (M : Mem F w0 w L) (i : Nat) (t : TypeId) (x y : Operand) (ho : o.op = .store t x y) (hi : L[i]? = some (.row g (envC k b n d tg))) {off : Nat} (hx : a.eval x = .pointer (some ⟨g, off, none⟩)) (hw : Region.wanted o (yielded ops a.tmps) = true)
    {c : UInt8} (hy : a.eval y = .int .u8 (I8 c)) (hn : (P.info? t).map (·.size) = some 1) (j : Nat) (hoff : off = 4 + j) (hlt : j < tg.length)
    (h : ∀ w' : World, Mem F w0 w' (L.set i (.row g (envC k b n d (tg.set j c)))) → wpList P ops Q rest (a.put o.dst undef) w') : wpList P ops Q (o :: rest) a w := by
  refine w_store M i t x y ho hi hx hw hy rfl rfl hn (by rw [envC_len]; omega) fun w' M' => h w' ?_
  have e : (envC k b n d tg).set off (.int .u8 (I8 c)) = envC k b n d (tg.set j c) := by
    rw [hoff, Nat.add_comm]
    show .int .i64 k :: .int .u32 (I32 b) :: .int .u64 (I64 n) :: .string (mkS d) :: (bs tg).set j (vb c) = _
    rw [← bs_set]; rfl
  rw [← e]; exact M'
theorem seesTag {w : World} (h : (Chunk.row g (envC k b n d tg)).ok w) (hg : tg.length = 32) : SeesB w (.slice (some ⟨g, 4, none⟩) 32 32) tg := by
  refine ⟨by simp [hg], .inr ⟨g, 4, 32, by rw [hg], h.1, by omega, by decide, ?_⟩⟩
  have := rangeAt_drop h.2.1 4
  rw [Nat.zero_add] at this
  exact this
/-- string(x.Tag[:]). -/
theorem w_stringTag (M : Mem F w0 w L) (i : Nat) (src dst e : TypeId) (x : Operand) (ho : o.op = .convert src dst x) (hw : Region.wanted o (yielded ops a.tmps) = true) (hi : L[i]? = some (.row g (envC k b n d tg))) (hx : a.eval x = .slice (some ⟨g, 4, none⟩) 32 32)
    (hg : tg.length = 32) (hs : P.underlying src = some (.slice e)) (he : P.underlying e = some (.int .u8)) (hd : P.underlying dst = some .string)
    (h : wpList P ops Q rest (a.put o.dst (.string (mkS tg))) w) : wpList P ops Q (o :: rest) a w :=
  wpW hw fun _ hK => by
    have hr := SeesB.run_string (P := P) (seesTag (M.ok i _ hi) hg) src dst e hs he hd w (grownBy_refl _ _)
    unfold Oper.wp execOp
    simp only [ho, hx, Sem.run_bind, hr, Result.andThen_ok]
    exact hK _ _ h
theorem stab_strTag (M : Mem F w0 w L) {is : List Nat} (i : Nat) {src dst e : TypeId} {x : Operand} (ho : o.op = .convert src dst x) (hi : L[i]? = some (.row g (envC k b n d tg))) (hin : i ∈ is) (hg : tg.length = 32) (hs : P.underlying src = some (.slice e)) (he : P.underlying e = some (.int .u8)) (hd : P.underlying dst = some .string) : Stab P (IxOk M is) o (.slice (some ⟨g, 4, none⟩) 32 32) :=
  stab_conv ho _ tg (fun w' hw => seesTag (hw.2 i hin _ hi) hg) hs he hd
theorem stab_env (M : Mem F w0 w L) {is : List Nat} (i : Nat) {t : TypeId} {x : Operand} (ho : o.op = .load t x) (hi : L[i]? = some (.row g (envC k b n d tg))) (hin : i ∈ is) (ht : rowT P t = true) (hn : (P.info? t).map (·.size) = some 36) (hg : tg.length = 32) : Stab P (IxOk M is) o (.pointer (some ⟨g, 0, none⟩)) :=
  stab_ixR M i ho hi hin ht (by rw [envC_len, hg]; exact hn)
theorem stab_tag (M : Mem F w0 w L) {is : List Nat} (i : Nat) {t : TypeId} {x : Operand} (ho : o.op = .load t x) (hi : L[i]? = some (.row g (envC k b n d tg))) (hin : i ∈ is) (ht : rowT P t = true) (hn : (P.info? t).map (·.size) = some 32) (hg : tg.length = 32) : Stab P (IxOk M is) o (.pointer (some ⟨g, 4, none⟩)) :=
  stab_ixA M i 4 ho hi hin ht [.int .i64 k, .int .u32 (I32 b), .int .u64 (I64 n), .string (mkS d)] (bs tg) [] (by rw [List.append_nil]; rfl) rfl (by rw [bs_length, hg]; exact hn)
end
theorem results_two {P : Program} {fn : Func} {p q : Tmp} {ty : TypeId} (h : fn.results = #[.cell p ty, .tmp q]) (tmps : Array Value) (w : World) (b o : Nat) (cs : List Value) (d : TypeDesc) (z : Value)
    (hp : tmps.getD p undef = .pointer (some ⟨b, o, none⟩)) (hz : tmps.getD q undef = z) (hc : w.rangeAt b o cs) (hu : P.underlying ty = some d) (hd : d.isRow = true) (hi : (P.info? ty).map (·.size) = some cs.length) :
    (results fn tmps).run P w = .ok (.tuple #[.agg cs.toArray, z]) w := by
  have hp' : tmps[p]?.getD undef = .pointer (some ⟨b, o, none⟩) := by simpa using hp
  have hz' : tmps[q]?.getD undef = z := by simpa using hz
  simp [results, h, hp', hz', asAddr, run_loadVar_mid w b o ty cs d hc hu hd hi]
end TL
end Go

/- The walks of package seal's inner functions: right, numbers, stream, tag. Conditions: lengths. -/
namespace Go
namespace TL
def rightE (k : Int) (d : List UInt8) : Bool := decide (0 ≤ k) && (decide (k ≤ 1048576) && decide ((d.length : Int) ≤ 8192))
/-- An envelope's numbers. -/
def headL (k : Nat) (b : UInt32) (n : UInt64) : List UInt8 := numL k ++ (numL b.toNat ++ numL n.toNat)
def nonceL (b : UInt32) (n : UInt64) : List UInt8 := bigB b.toUInt64 4 ++ bigB n 8
theorem nonceL_len (b : UInt32) (n : UInt64) : (nonceL b n).length = 12 := by unfold nonceL; rw [List.length_append, bigB_length, bigB_length]
def encL : List UInt8 := [101, 110, 99]
def macT : List UInt8 := [109, 97, 99]
/-- An envelope's text, sealed or opened. -/
def sealL (key : List UInt8) (b : UInt32) (n : UInt64) (text : List UInt8) : List UInt8 := streamL (macL key encL) (nonceL b n) text
/-- The tag that an envelope must have. -/
def tagL (key : List UInt8) (k : Nat) (b : UInt32) (n : UInt64) (about data : List UInt8) : List UInt8 := macL (macL key macT) (headL k b n ++ (textL about ++ textL data))
theorem headL_len (k : Nat) (b : UInt32) (n : UInt64) (h : k < 18446744073709551616) : (headL k b n).length ≤ 30 := by
  have h1 := numL_length_le k h
  have h2 := numL_length_le b.toNat (by have := b.toNat_lt; omega)
  have h3 := numL_length_le n.toNat (by have := n.toNat_lt; omega)
  unfold headL; simp only [List.length_append]; omega
end TL
end Go
namespace Go.Proofs.YtidadhbaomieiaaGreat
open Go.RowKit Go.TL
set_option maxRecDepth 100000 in
set_option maxHeartbeats 2000000 in
theorem sealRight_c (k : Int) (b : UInt32) (n : UInt64) (d t : List UInt8) (w : World) :
    Calls Tryz.prog 74 #[.agg (envC k b n d t).toArray] w fun e w' => e = .returned (.bool (rightE k d)) ∧ Below w.heap.size w w' := by
  have M := Mem.start [] w
  unfold rightE
  by_cases h1 : 0 ≤ k
  · by_cases h2 : k ≤ 1048576
    · by_cases h3 : (d.length : Int) ≤ 8192
      · rw [decide_eq_true h1, decide_eq_true h2, decide_eq_true h3]
        go_enter Tryz.func74, Tryz.ntmps74
        go_wp2_with ((first | ((with_reducible refine tBox (some 1) ?_); refine w_box M _ _ rfl rfl _ rfl (envC k b n d t) rfl ?_; clear M; intro gx w1 M) | ((with_reducible refine tGuard ?_); (with_reducible refine w_stripE ?_ ?_); (focus (refine ⟨_, rfl, ?_⟩; first | (with_reducible rfl) | exact decide_eq_false (by omega) | exact decide_eq_true (by omega)))) | ((with_reducible refine tGuard ?_); first | ((with_reducible refine w_skip1 ?_ ?_); (focus (refine ⟨_, rfl, ?_⟩; first | (with_reducible rfl) | exact decide_eq_false (by omega) | exact decide_eq_true (by omega)))) | ((with_reducible refine w_skip0 ?_ ?_); (focus (refine ⟨_, rfl, ?_⟩; first | (with_reducible rfl) | exact decide_eq_false (by omega) | exact decide_eq_true (by omega))))) | ((with_reducible refine tGuard ?_); refine w_strip rfl (by with_reducible rfl) ?_) | fail | ((with_reducible refine tLoad ?_); go_must (refine w_at _ _ rfl (by exact ev_tmp rfl) ?_; intro hx; (first | refine w_load M _ _ _ rfl (by first | exact at0) hx rfl (by decide +kernel) (by exact rfl) ?_ | refine w_loadR M _ _ _ rfl (by first | exact at0) hx rfl (by decide +kernel) (by kernel_rfl) ?_); clear hx)) | ((with_reducible refine tStore ?_); go_must (refine w_at2 _ _ _ rfl (by exact ev_tmp rfl) (by first | exact ev_tmp rfl | exact ev_const) ?_; intro hx hy; (first | refine w_store M _ _ _ _ rfl (by first | exact at0) hx rfl hy rfl rfl (by decide +kernel) (by first | decide | simp | (simp; omega)) ?_ | refine w_storeR M _ _ _ _ rfl (by first | exact at0) hx rfl _ hy rfl (by kernel_rfl) (by simp [Value.oneCell']) (by first | rfl | assumption) ?_); clear hx hy M; intro w1 M; (try simp only [setC] at M))) | ((with_reducible refine tBox _ ?_); (refine w_box M _ _ rfl rfl _ rfl _ rfl ?_; clear M; intro g w1 M))) <;> (try conv => arg 5; simp only [Act.put, List.setIfInBounds_toArray, setC]))
        go_ret
        exact ⟨rfl, M.below⟩
      · rw [decide_eq_true h1, decide_eq_true h2, decide_eq_false h3]
        go_enter Tryz.func74, Tryz.ntmps74
        go_wp2_with ((first | ((with_reducible refine tBox (some 1) ?_); refine w_box M _ _ rfl rfl _ rfl (envC k b n d t) rfl ?_; clear M; intro gx w1 M) | ((with_reducible refine tGuard ?_); (with_reducible refine w_stripE ?_ ?_); (focus (refine ⟨_, rfl, ?_⟩; first | (with_reducible rfl) | exact decide_eq_false (by omega) | exact decide_eq_true (by omega)))) | ((with_reducible refine tGuard ?_); first | ((with_reducible refine w_skip1 ?_ ?_); (focus (refine ⟨_, rfl, ?_⟩; first | (with_reducible rfl) | exact decide_eq_false (by omega) | exact decide_eq_true (by omega)))) | ((with_reducible refine w_skip0 ?_ ?_); (focus (refine ⟨_, rfl, ?_⟩; first | (with_reducible rfl) | exact decide_eq_false (by omega) | exact decide_eq_true (by omega))))) | ((with_reducible refine tGuard ?_); refine w_strip rfl (by with_reducible rfl) ?_) | fail | ((with_reducible refine tLoad ?_); go_must (refine w_at _ _ rfl (by exact ev_tmp rfl) ?_; intro hx; (first | refine w_load M _ _ _ rfl (by first | exact at0) hx rfl (by decide +kernel) (by exact rfl) ?_ | refine w_loadR M _ _ _ rfl (by first | exact at0) hx rfl (by decide +kernel) (by kernel_rfl) ?_); clear hx)) | ((with_reducible refine tStore ?_); go_must (refine w_at2 _ _ _ rfl (by exact ev_tmp rfl) (by first | exact ev_tmp rfl | exact ev_const) ?_; intro hx hy; (first | refine w_store M _ _ _ _ rfl (by first | exact at0) hx rfl hy rfl rfl (by decide +kernel) (by first | decide | simp | (simp; omega)) ?_ | refine w_storeR M _ _ _ _ rfl (by first | exact at0) hx rfl _ hy rfl (by kernel_rfl) (by simp [Value.oneCell']) (by first | rfl | assumption) ?_); clear hx hy M; intro w1 M; (try simp only [setC] at M))) | ((with_reducible refine tBox _ ?_); (refine w_box M _ _ rfl rfl _ rfl _ rfl ?_; clear M; intro g w1 M))) <;> (try conv => arg 5; simp only [Act.put, List.setIfInBounds_toArray, setC]))
        go_ret
        exact ⟨rfl, M.below⟩
    · rw [decide_eq_true h1, decide_eq_false h2]
      go_enter Tryz.func74, Tryz.ntmps74
      go_wp2_with ((first | ((with_reducible refine tBox (some 1) ?_); refine w_box M _ _ rfl rfl _ rfl (envC k b n d t) rfl ?_; clear M; intro gx w1 M) | ((with_reducible refine tGuard ?_); (with_reducible refine w_stripE ?_ ?_); (focus (refine ⟨_, rfl, ?_⟩; first | (with_reducible rfl) | exact decide_eq_false (by omega) | exact decide_eq_true (by omega)))) | ((with_reducible refine tGuard ?_); first | ((with_reducible refine w_skip1 ?_ ?_); (focus (refine ⟨_, rfl, ?_⟩; first | (with_reducible rfl) | exact decide_eq_false (by omega) | exact decide_eq_true (by omega)))) | ((with_reducible refine w_skip0 ?_ ?_); (focus (refine ⟨_, rfl, ?_⟩; first | (with_reducible rfl) | exact decide_eq_false (by omega) | exact decide_eq_true (by omega))))) | ((with_reducible refine tGuard ?_); refine w_strip rfl (by with_reducible rfl) ?_) | fail | ((with_reducible refine tLoad ?_); go_must (refine w_at _ _ rfl (by exact ev_tmp rfl) ?_; intro hx; (first | refine w_load M _ _ _ rfl (by first | exact at0) hx rfl (by decide +kernel) (by exact rfl) ?_ | refine w_loadR M _ _ _ rfl (by first | exact at0) hx rfl (by decide +kernel) (by kernel_rfl) ?_); clear hx)) | ((with_reducible refine tStore ?_); go_must (refine w_at2 _ _ _ rfl (by exact ev_tmp rfl) (by first | exact ev_tmp rfl | exact ev_const) ?_; intro hx hy; (first | refine w_store M _ _ _ _ rfl (by first | exact at0) hx rfl hy rfl rfl (by decide +kernel) (by first | decide | simp | (simp; omega)) ?_ | refine w_storeR M _ _ _ _ rfl (by first | exact at0) hx rfl _ hy rfl (by kernel_rfl) (by simp [Value.oneCell']) (by first | rfl | assumption) ?_); clear hx hy M; intro w1 M; (try simp only [setC] at M))) | ((with_reducible refine tBox _ ?_); (refine w_box M _ _ rfl rfl _ rfl _ rfl ?_; clear M; intro g w1 M))) <;> (try conv => arg 5; simp only [Act.put, List.setIfInBounds_toArray, setC]))
      go_ret
      exact ⟨rfl, M.below⟩
  · rw [decide_eq_false h1]
    go_enter Tryz.func74, Tryz.ntmps74
    go_wp2_with ((first | ((with_reducible refine tBox (some 1) ?_); refine w_box M _ _ rfl rfl _ rfl (envC k b n d t) rfl ?_; clear M; intro gx w1 M) | ((with_reducible refine tGuard ?_); (with_reducible refine w_stripE ?_ ?_); (focus (refine ⟨_, rfl, ?_⟩; first | (with_reducible rfl) | exact decide_eq_false (by omega) | exact decide_eq_true (by omega)))) | ((with_reducible refine tGuard ?_); first | ((with_reducible refine w_skip1 ?_ ?_); (focus (refine ⟨_, rfl, ?_⟩; first | (with_reducible rfl) | exact decide_eq_false (by omega) | exact decide_eq_true (by omega)))) | ((with_reducible refine w_skip0 ?_ ?_); (focus (refine ⟨_, rfl, ?_⟩; first | (with_reducible rfl) | exact decide_eq_false (by omega) | exact decide_eq_true (by omega))))) | ((with_reducible refine tGuard ?_); refine w_strip rfl (by with_reducible rfl) ?_) | fail | ((with_reducible refine tLoad ?_); go_must (refine w_at _ _ rfl (by exact ev_tmp rfl) ?_; intro hx; (first | refine w_load M _ _ _ rfl (by first | exact at0) hx rfl (by decide +kernel) (by exact rfl) ?_ | refine w_loadR M _ _ _ rfl (by first | exact at0) hx rfl (by decide +kernel) (by kernel_rfl) ?_); clear hx)) | ((with_reducible refine tStore ?_); go_must (refine w_at2 _ _ _ rfl (by exact ev_tmp rfl) (by first | exact ev_tmp rfl | exact ev_const) ?_; intro hx hy; (first | refine w_store M _ _ _ _ rfl (by first | exact at0) hx rfl hy rfl rfl (by decide +kernel) (by first | decide | simp | (simp; omega)) ?_ | refine w_storeR M _ _ _ _ rfl (by first | exact at0) hx rfl _ hy rfl (by kernel_rfl) (by simp [Value.oneCell']) (by first | rfl | assumption) ?_); clear hx hy M; intro w1 M; (try simp only [setC] at M))) | ((with_reducible refine tBox _ ?_); (refine w_box M _ _ rfl rfl _ rfl _ rfl ?_; clear M; intro g w1 M))) <;> (try conv => arg 5; simp only [Act.put, List.setIfInBounds_toArray, setC]))
    go_ret
    exact ⟨rfl, M.below⟩
set_option maxRecDepth 100000 in
set_option maxHeartbeats 400000 in
theorem numbers_c (g : Nat) (v : Value) (l : List UInt8) (k : Nat) (b : UInt32) (n : UInt64) (d t : List UInt8) (w : World) (hk : k ≤ 1048576) (hl : l.length ≤ 1000000) (ho : (outC g v l).ok w) :
    Calls Tryz.prog 79 #[.pointer (some ⟨g, 0, none⟩), .agg (envC k b n d t).toArray] w fun e w' => e = .returned (.tuple #[]) ∧ ∃ v', Upd w (outC g v l) w' (outC g v' (l ++ headL k b n)) := by
  have M := Mem.start1 ho
  have h1 := numL_length_le k (by omega)
  have h2 := numL_length_le b.toNat (by have := b.toNat_lt; omega)
  have hb := b.toNat_lt
  have hn := n.toNat_lt
  have e1 := I64_nat k (by omega)
  have e2 : I64 b.toUInt64 = ((b.toNat : Nat) : Int) := by rw [I64_eq, UInt32.toNat_toUInt64]
  replace e2 := Lib.hid fun _ : Unit => e2
  go_enter Tryz.func79, Tryz.ntmps79
  go_wp2_with ((first | ((with_reducible refine tBox (some 3) ?_); refine w_box M _ _ rfl rfl _ rfl (envC k b n d t) rfl ?_; clear M; intro gx w1 M) | (go_at_call 113; go_must (first | (with_reducible refine (Num_c _ _ _ k (k : Int) rfl _ (by omega) (by first | omega | (simp only [List.length_append]; omega)) (M.ok 1 _ rfl)).mono ?_) | (with_reducible refine (Num_c _ _ _ b.toNat (I64 b.toUInt64) (e2.out ()) _ (by omega) (by first | omega | (simp only [List.length_append]; omega)) (M.ok 1 _ rfl)).mono ?_) | (with_reducible refine (Num_c _ _ _ n.toNat (I64 n) (I64_eq n) _ (by omega) (by first | omega | (simp only [List.length_append]; omega)) (M.ok 1 _ rfl)).mono ?_)); rintro e w2 ⟨rfl, v1, U⟩; replace M := M.upd 1 rfl U; clear U) | ((with_reducible refine tGuard ?_); first | refine w_strip rfl (by with_reducible rfl) ?_ | ((fail_if_success (refine w_lit false rfl (by with_reducible rfl) ?_)); (fail_if_success (refine w_lit true rfl (by with_reducible rfl) ?_)); refine w_case rfl ?_ ?_ <;> (intro hgd; rw [hgd]; try (exfalso; simp at hgd; omega)))) | fail | ((with_reducible refine tLoad ?_); go_must (refine w_at _ _ rfl (by exact ev_tmp rfl) ?_; intro hx; (first | refine w_load M _ _ _ rfl (by first | exact at0) hx rfl (by decide +kernel) (by exact rfl) ?_ | refine w_loadR M _ _ _ rfl (by first | exact at0) hx rfl (by decide +kernel) (by kernel_rfl) ?_); clear hx)) | ((with_reducible refine tStore ?_); go_must (refine w_at2 _ _ _ rfl (by exact ev_tmp rfl) (by first | exact ev_tmp rfl | exact ev_const) ?_; intro hx hy; (first | refine w_store M _ _ _ _ rfl (by first | exact at0) hx rfl hy rfl rfl (by decide +kernel) (by first | decide | simp | (simp; omega)) ?_ | refine w_storeR M _ _ _ _ rfl (by first | exact at0) hx rfl _ hy rfl (by kernel_rfl) (by simp [Value.oneCell']) (by first | rfl | assumption) ?_); clear hx hy M; intro w1 M; (try simp only [setC] at M))) | ((with_reducible refine tBox _ ?_); (refine w_box M _ _ rfl rfl _ rfl _ rfl ?_; clear M; intro g w1 M))) <;> (try conv => arg 5; simp only [Act.put, List.setIfInBounds_toArray, setC]))
  simp only [List.append_assoc] at M
  exact bodyPost_end (results_none rfl _ _ _) rfl ⟨rfl, _, (M.tail).upd1 0 rfl⟩
set_option maxRecDepth 100000 in
set_option maxHeartbeats 2000000 in
theorem sealStream_c (key : List UInt8) (k : Int) (b : UInt32) (n : UInt64) (d t text : List UInt8) (w : World) (hk : key.length = 32) (hx : text.length ≤ 1000000) :
    Calls Tryz.prog 75 #[.agg (bs key).toArray, .agg (envC k b n d t).toArray, .string (mkS text)] w fun e w' => e = .returned (.string (mkS (sealL key b n text))) ∧ Below w.heap.size w w' := by
  have M := Mem.start [] w
  have KC := fun w => Key_c key encL w hk (by decide)
  have SE : sealL key b n text = streamL (macL key encL) (nonceL b n) text := rfl
  have hm := macL_len key encL
  have SC := fun w => Stream_c (macL key encL) (nonceL b n) text w hm (nonceL_len b n) hx
  have A1 := fun (w : World) hok => sealPutc (.slice none 0 0) [] b.toUInt64 4 w hok (by omega) (by simp)
  have A2 := fun v (w : World) hok => sealPutc v (bigB b.toUInt64 4) n 8 w hok (by omega) (by rw [bigB_length]; omega)
  have hb1 := bigB_length b.toUInt64 4
  have hn0 := nonceL_len b n
  have hno : bigB b.toUInt64 4 ++ bigB n 8 = nonceL b n := rfl
  rw [hno] at A2
  rw [List.nil_append, show ((4 : Nat) : Int) = 4 from rfl] at A1
  rw [show ((8 : Nat) : Int) = 8 from rfl] at A2
  obtain ⟨m, em⟩ : ∃ m, m = macL key encL := ⟨_, rfl⟩
  rw [← em] at KC SE hm SC
  obtain ⟨nn, enn⟩ : ∃ x, x = nonceL b n := ⟨_, rfl⟩
  rw [← enn] at SE SC A2 hn0
  obtain ⟨b4, eb4⟩ : ∃ x, x = bigB b.toUInt64 4 := ⟨_, rfl⟩
  rw [← eb4] at A1 A2 hb1
  rw [hb1] at A1 A2
  rw [hn0] at A2
  obtain ⟨r, er⟩ : ∃ x, x = sealL key b n text := ⟨_, rfl⟩
  rw [SE] at er
  rw [← er] at SC
  have ER := Lib.hid fun _ : Unit => (show sealL key b n text = r from SE.trans er.symm)
  replace KC := Lib.hid KC
  replace SC := Lib.hid SC
  replace A1 := Lib.hid A1
  replace A2 := Lib.hid A2
  clear em enn eb4 er SE hno
  go_enter Tryz.func75, Tryz.ntmps75
  have NI := Lib.hid fun _ : Unit => (show (List.replicate 12 (0 : UInt8)).take 0 ++ (nn.take 12 ++ (List.replicate 12 0).drop (0 + 12)) = nn by rw [List.take_zero, List.nil_append, List.take_of_length_le (by omega)]; simp)
  have hz : (List.replicate 12 (0 : UInt8)).length = 12 := List.length_replicate
  go_wp2_with ((first | ((with_reducible refine tBox (some 3) ?_); refine w_box M _ _ rfl rfl _ rfl (bs key) rfl ?_; clear M; intro gk w1 M) | ((with_reducible refine tBox (some 4) ?_); refine w_box M _ _ rfl rfl _ rfl (envC k b n d t) rfl ?_; clear M; intro gx w1 M) | ((with_reducible refine tAlloc (some 7) 194 ?_); refine w_alloc M _ rfl rfl (.agg (Array.replicate 12 (.int .u8 0))) (bs (List.replicate 12 (0 : UInt8))) (by kernel_rfl) rfl ?_; clear M; intro gn w1 M) | ((with_reducible show Code.wp _ (Code.region 2 _ _) _ _ _); go_must (have MR := M; refine region_lowc [(0, false), (1, false), (5, false), (2, false), (3, false), (6, false), (4, true), (7, true), (8, true)] [(10, .int)] [(2, _), (6, _)] (IxOk MR [1]) 9 (by kernel_rfl) (by kernel_rfl) rfl (by kernel_rfl) (lows_cons (by first | exact stab_ix MR 1 1 rfl rfl (by decide) (by decide +kernel) rfl | exact stab_ixB MR 1 1 rfl rfl (by decide) (by decide +kernel) (by first | assumption | omega) | exact stab_ix32 MR 1 1 rfl rfl (by decide) (by decide +kernel) (by first | assumption | omega | (simp; omega)) | exact stab_ixH MR 1 rfl rfl (by decide) (by decide +kernel) (by first | assumption | exact lenI | exact lenS ‹_› | rfl) (by decide +kernel) | exact stab_ixW32 MR 1 rfl rfl (by decide) (by decide +kernel) (by first | assumption | exact lenI | exact lenS ‹_› | rfl) (by decide +kernel) | exact stab_ixR MR 1 rfl rfl (by decide) (by decide +kernel) (by kernel_rfl) | exact stab_ixW MR 1 rfl rfl (by decide) (by first | assumption | exact lenI | exact lenS ‹_› | rfl) (by decide) Tryz.underlying70 Tryz.underlying5 Tryz.underlying9 | exact stab_ixS MR 1 rfl rfl (by decide) (by first | rfl | simp | assumption) Tryz.underlying70 Tryz.underlying5 Tryz.underlying9) (lows_cons (by first | exact stab_ix MR 1 2 rfl rfl (by decide) (by decide +kernel) rfl | exact stab_ixB MR 1 2 rfl rfl (by decide) (by decide +kernel) (by first | assumption | omega) | exact stab_ix32 MR 1 2 rfl rfl (by decide) (by decide +kernel) (by first | assumption | omega | (simp; omega)) | exact stab_ixH MR 1 rfl rfl (by decide) (by decide +kernel) (by first | assumption | exact lenI | exact lenS ‹_› | rfl) (by decide +kernel) | exact stab_ixW32 MR 1 rfl rfl (by decide) (by decide +kernel) (by first | assumption | exact lenI | exact lenS ‹_› | rfl) (by decide +kernel) | exact stab_ixR MR 1 rfl rfl (by decide) (by decide +kernel) (by kernel_rfl) | exact stab_ixW MR 1 rfl rfl (by decide) (by first | assumption | exact lenI | exact lenS ‹_› | rfl) (by decide) Tryz.underlying70 Tryz.underlying5 Tryz.underlying9 | exact stab_ixS MR 1 rfl rfl (by decide) (by first | rfl | simp | assumption) Tryz.underlying70 Tryz.underlying5 Tryz.underlying9) lows_nil)) (ixOk_self MR _) ?_; replace M := M.drew; simp only [planC, opAt, List.getElem?_toArray, List.getElem?_cons_zero, List.getElem?_cons_succ, Option.getD_some])) | ((with_reducible show Code.wp _ (Code.region 3 _ _) _ _ _); go_must (have MR := M; refine region_lowc [(3, false), (0, false), (2, false), (1, true), (4, true), (5, false)] [] [(0, _), (2, _)] (IxOk MR [2, 0]) 6 (by kernel_rfl) (by kernel_rfl) rfl (by kernel_rfl) (lows_cons (by first | exact stab_ix MR 2 0 rfl rfl (by decide) (by decide +kernel) rfl | exact stab_ixB MR 2 0 rfl rfl (by decide) (by decide +kernel) (by first | assumption | omega) | exact stab_ix32 MR 2 0 rfl rfl (by decide) (by decide +kernel) (by first | assumption | omega | (simp; omega)) | exact stab_ixH MR 2 rfl rfl (by decide) (by decide +kernel) (by first | assumption | exact lenI | exact lenS ‹_› | rfl) (by decide +kernel) | exact stab_ixW32 MR 2 rfl rfl (by decide) (by decide +kernel) (by first | assumption | exact lenI | exact lenS ‹_› | rfl) (by decide +kernel) | exact stab_ixR MR 2 rfl rfl (by decide) (by decide +kernel) (by kernel_rfl) | exact stab_ixW MR 2 rfl rfl (by decide) (by first | assumption | exact lenI | exact lenS ‹_› | rfl) (by decide) Tryz.underlying70 Tryz.underlying5 Tryz.underlying9 | exact stab_ixS MR 2 rfl rfl (by decide) (by first | rfl | simp | assumption) Tryz.underlying70 Tryz.underlying5 Tryz.underlying9) (lows_cons (by first | exact stab_ix MR 0 0 rfl rfl (by decide) (by decide +kernel) rfl | exact stab_ixB MR 0 0 rfl rfl (by decide) (by decide +kernel) (by first | assumption | omega) | exact stab_ix32 MR 0 0 rfl rfl (by decide) (by decide +kernel) (by first | assumption | omega | (simp; omega)) | exact stab_ixH MR 0 rfl rfl (by decide) (by decide +kernel) (by first | assumption | exact lenI | exact lenS ‹_› | rfl) (by decide +kernel) | exact stab_ixW32 MR 0 rfl rfl (by decide) (by decide +kernel) (by first | assumption | exact lenI | exact lenS ‹_› | rfl) (by decide +kernel) | exact stab_ixR MR 0 rfl rfl (by decide) (by decide +kernel) (by kernel_rfl) | exact stab_ixW MR 0 rfl rfl (by decide) (by first | assumption | exact lenI | exact lenS ‹_› | rfl) (by decide) Tryz.underlying70 Tryz.underlying5 Tryz.underlying9 | exact stab_ixS MR 0 rfl rfl (by decide) (by first | rfl | simp | assumption) Tryz.underlying70 Tryz.underlying5 Tryz.underlying9) lows_nil)) (ixOk_self MR _) ?_; replace M := M.drew; simp only [planC, opAt, List.getElem?_toArray, List.getElem?_cons_zero, List.getElem?_cons_succ, Option.getD_some])) | (go_at_call 108; go_must (first | (replace M := M.nil 1; with_reducible refine (A1.out _ (M.ok 0 _ rfl)).mono ?_; rintro e w1 ⟨p1, c1, rfl, U⟩; replace M := M.upd 0 rfl U; clear U; simp only [List.set_cons_zero] at M) | (with_reducible refine (A2.out _ _ (M.ok 0 _ rfl)).mono ?_; rintro e w1 ⟨p2, c2, rfl, U⟩; replace M := M.upd 0 rfl U; clear U; simp only [List.set_cons_zero] at M))) | ((with_reducible show wpList _ _ _ (Oper.mk _ (Op.call ⟨Callee.builtin Builtin.copy, _, _⟩) _ _ _ _ :: _) _ _); go_must (refine w_copyB M 1 bytesT _ _ _ rfl rfl rfl rfl rfl (sees_of (M.ok 0 _ rfl) hn0.symm) 12 (by omega) (by omega) ?_; clear M; intro w1 M; simp only [List.set_cons_succ, List.set_cons_zero] at M; rw [NI.out ()] at M; replace M := M.tail)) | (go_at_call 110; go_must (refine (KC.out _).mono ?_; rintro e w1 ⟨rfl, hb⟩; replace M := M.call hb; clear hb)) | (go_at_call 109; go_must (refine (SC.out _).mono ?_; rintro e w1 ⟨rfl, hb⟩; replace M := M.call hb; clear hb)) | ((with_reducible show Seg _ _ _ _); go_must (first | refine Seg.intro ⟨fun h => absurd rfl h, ?_⟩ | refine Seg.intro ⟨fun _ => (by repeat' (first | exact ixOk_nil M.kept | refine ixOk_cons rfl (by first | exact M.ok 0 _ rfl | exact M.ok 1 _ rfl | exact M.ok 2 _ rfl | exact M.ok 3 _ rfl | exact M.ok 4 _ rfl | exact M.ok 5 _ rfl) ?_)), ?_⟩ | refine Seg.intro ⟨(by repeat' (first | (with_reducible exact needs_nil) | refine needs_at rfl (by first | (show Shape.ok Shape.nums _ = true; exact nums_bs _) | rfl) ?_)), (by repeat' (first | (with_reducible exact ats_nil) | refine ats_cons (by first | exact ev_tmp rfl | rfl) ?_)), ?_⟩)) | ((with_reducible show OnlyN _ _ _ _ _); refine OnlyN.intro (by kernel_rfl) ?_) | ((with_reducible refine tGuard ?_); first | refine w_strip rfl (by with_reducible rfl) ?_ | ((fail_if_success (refine w_lit false rfl (by with_reducible rfl) ?_)); (fail_if_success (refine w_lit true rfl (by with_reducible rfl) ?_)); refine w_case rfl ?_ ?_ <;> (intro hgd; rw [hgd]; try (exfalso; simp at hgd; omega)))) | ((with_reducible refine tConv _ 70 9 ?_); go_must (first | refine w_stringW M _ _ _ _ _ rfl rfl (by first | exact at0 | exact at1 | exact at2 | exact at3) rfl (by first | assumption | exact lenI | exact lenS ‹_› | rfl) (by decide) Tryz.underlying70 Tryz.underlying5 Tryz.underlying9 ?_ | refine w_string M _ _ _ _ _ rfl rfl (by first | exact at0 | exact at1 | exact at2 | exact at3) (by first | rfl | (simp; done) | assumption) rfl Tryz.underlying70 Tryz.underlying5 Tryz.underlying9 ?_)) | ((with_reducible refine tLoad ?_); go_must (refine w_at _ _ rfl (by exact ev_tmp rfl) ?_; intro hx; (first | refine w_load M _ _ _ rfl (by first | exact at0 | exact at1 | exact at2 | exact at3) hx rfl (by decide +kernel) (by exact rfl) ?_ | refine w_loadB M _ _ _ rfl (by first | exact at0 | exact at1 | exact at2 | exact at3) hx rfl (by decide +kernel) (by first | assumption | omega | (simp; omega)) ?_ | refine w_loadH M _ _ _ rfl (by first | exact at0 | exact at1 | exact at2 | exact at3) hx rfl (by decide +kernel) (by first | assumption | exact lenI | exact lenS ‹_› | rfl) (by decide +kernel) ?_ | refine w_loadR M _ _ _ rfl (by first | exact at0 | exact at1 | exact at2 | exact at3) hx rfl (by decide +kernel) (by kernel_rfl) ?_); clear hx)) | ((with_reducible refine tStore ?_); go_must (refine w_at2 _ _ _ rfl (by exact ev_tmp rfl) (by first | exact ev_tmp rfl | exact ev_const) ?_; intro hx hy; (first | refine w_storeB M _ _ _ _ rfl (by first | exact at0 | exact at1 | exact at2 | exact at3) hx rfl hy (by decide +kernel) (by first | assumption | omega | (simp; omega)) ?_ | refine w_storeH M _ _ _ _ rfl (by first | exact at0 | exact at1 | exact at2 | exact at3) hx rfl hy (by first | assumption | exact lenI | exact lenS ‹_› | rfl) (by decide +kernel) (by first | assumption | exact lenI | exact lenS ‹_› | rfl) ?_ | refine w_store M _ _ _ _ rfl (by first | exact at0 | exact at1 | exact at2 | exact at3) hx rfl hy rfl rfl (by decide +kernel) (by first | decide | simp | (simp; omega)) ?_ | refine w_storeR M _ _ _ _ rfl (by first | exact at0 | exact at1 | exact at2 | exact at3) hx rfl _ hy rfl (by kernel_rfl) (by simp [Value.oneCell']) (by first | rfl | assumption) ?_); clear hx hy M; intro w1 M; (try simp only [setC] at M))) | ((with_reducible refine tBox _ ?_); (refine w_box M _ _ rfl rfl _ rfl _ rfl ?_; clear M; intro g w1 M))) <;> (try conv => arg 5; simp only [Act.put, List.setIfInBounds_toArray, setC]))
  go_ret
  exact ⟨congrArg (fun x => Ending.returned (.string (mkS x))) (ER.out ()).symm, M.below⟩
set_option maxRecDepth 100000 in
set_option maxHeartbeats 2000000 in
theorem sealTag_c (key : List UInt8) (k : Nat) (b : UInt32) (n : UInt64) (d t about : List UInt8) (w : World) (hk : key.length = 32) (ht : t.length = 32) (hkk : k ≤ 1048576) (ha : about.length ≤ 100000) (hd : d.length ≤ 100000) :
    Calls Tryz.prog 76 #[.agg (bs key).toArray, .agg (envC k b n d t).toArray, .string (mkS about)] w fun e w' => e = .returned (.agg (bs (tagL key k b n about d)).toArray) ∧ Below w.heap.size w w' := by
  have M := Mem.start [] w
  have KC := fun w => Key_c key macT w hk (by decide)
  have SE : tagL key k b n about d = macL (macL key macT) (headL k b n ++ (textL about ++ textL d)) := rfl
  have hm := macL_len key macT
  have hh := headL_len k b n (by omega)
  have hta : (textL about).length ≤ 100010 := by unfold textL; have := numL_length_le about.length (by omega); simp; omega
  have htd : (textL d).length ≤ 100010 := by unfold textL; have := numL_length_le d.length (by omega); simp; omega
  have NC := fun (g : Nat) (v : Value) (w : World) hok => numbers_c g v [] k b n d t w hkk (by simp) hok
  have T1 := fun (g : Nat) (v : Value) (w : World) hok => Out_Text_c g v (headL k b n) about w (by omega) (by omega) hok
  have T2 := fun (g : Nat) (v : Value) (w : World) hok => Out_Text_c g v (headL k b n ++ textL about) d w (by omega) (by simp; omega) hok
  have TC := fun w => Tag_c (macL key macT) (headL k b n ++ (textL about ++ textL d)) w (by omega) (by simp; omega)
  rw [List.append_assoc] at T2
  rw [List.nil_append] at NC
  obtain ⟨m, em⟩ : ∃ m, m = macL key macT := ⟨_, rfl⟩
  rw [← em] at KC SE hm TC
  obtain ⟨h0, eh⟩ : ∃ x, x = headL k b n := ⟨_, rfl⟩
  rw [← eh] at SE NC T1 T2 TC hh
  obtain ⟨u2, eu⟩ : ∃ x, x = h0 ++ (textL about ++ textL d) := ⟨_, rfl⟩
  rw [← eu] at SE T2 TC
  obtain ⟨u1, eu1⟩ : ∃ x, x = h0 ++ textL about := ⟨_, rfl⟩
  rw [← eu1] at T1 T2
  obtain ⟨r, er⟩ : ∃ x, x = macL m u2 := ⟨_, rfl⟩
  have hr : r.length = 32 := by rw [er]; exact macL_len _ _
  rw [← er] at SE TC
  have ER := Lib.hid fun _ : Unit => SE
  replace KC := Lib.hid KC
  replace NC := Lib.hid NC
  replace T1 := Lib.hid T1
  replace T2 := Lib.hid T2
  replace TC := Lib.hid TC
  clear em eh eu eu1 er SE hta htd hh
  go_enter Tryz.func76, Tryz.ntmps76
  go_wp2_with ((first | ((with_reducible refine tBox (some 3) ?_); refine w_box M _ _ rfl rfl _ rfl (bs key) rfl ?_; clear M; intro gk w1 M) | ((with_reducible refine tBox (some 4) ?_); refine w_box M _ _ rfl rfl _ rfl (envC k b n d t) rfl ?_; clear M; intro gx w1 M) | ((with_reducible refine tAlloc (some 6) 64 ?_); refine w_alloc M _ rfl rfl (.agg (Array.replicate 32 (.int .u8 0))) (bs (List.replicate 32 (0 : UInt8))) (by kernel_rfl) rfl ?_; clear M; intro gr w1 M) | (((with_reducible refine tAlloc (some 7) 155 ?_); refine w_alloc M _ rfl rfl (.agg #[.slice none 0 0]) ([.slice none 0 0]) (by kernel_rfl) rfl ?_; clear M; intro go w1 M); replace M := M.outNew) | ((with_reducible refine tAlloc (some 8) 50 ?_); refine w_alloc M _ rfl rfl (.agg (Array.replicate 32 (.int .u8 0))) (bs (List.replicate 32 (0 : UInt8))) (by kernel_rfl) rfl ?_; clear M; intro gm w1 M) | (go_at_call 79; go_must (refine (NC.out _ _ _ (M.ok 0 _ rfl)).mono ?_; rintro e w2 ⟨rfl, v1, U⟩; replace M := M.upd 0 rfl U; clear U; simp only [List.set_cons_zero] at M)) | (go_at_call 80; go_must ((first | (with_reducible refine (T1.out _ _ _ (M.ok 0 _ rfl)).mono ?_) | (with_reducible refine (T2.out _ _ _ (M.ok 0 _ rfl)).mono ?_)); rintro e w2 ⟨rfl, v2, U⟩; replace M := M.upd 0 rfl U; clear U; simp only [List.set_cons_zero] at M)) | (go_at_call 110; go_must (refine (KC.out _).mono ?_; rintro e w1 ⟨rfl, hb⟩; replace M := M.call hb; clear hb)) | (go_at_call 47; go_must (refine (TC.out _).mono ?_; rintro e w1 ⟨rfl, hb⟩; replace M := M.call hb; clear hb)) | (go_at_call 81; go_must (refine (Out_String_c _ _ _ _ (M.ok 1 _ rfl)).mono ?_; rintro e w1 ⟨rfl, rfl⟩)) | ((with_reducible show Code.wp _ (Code.region 6 _ _) _ _ _); go_must (have MR := M; refine region_lowc [(0, false), (1, false), (2, true), (3, true), (4, true)] [] [(1, _)] (IxOk MR [0]) 4 (by kernel_rfl) (by kernel_rfl) rfl (by kernel_rfl) (lows_cons (by first | exact stab_ix MR 0 0 rfl rfl (by decide) (by decide +kernel) rfl | exact stab_ixB MR 0 0 rfl rfl (by decide) (by decide +kernel) (by first | assumption | omega) | exact stab_ix32 MR 0 0 rfl rfl (by decide) (by decide +kernel) (by first | assumption | omega | (simp; omega)) | exact stab_ixH MR 0 rfl rfl (by decide) (by decide +kernel) (by first | assumption | exact lenI | exact lenS ‹_› | rfl) (by decide +kernel) | exact stab_ixW32 MR 0 rfl rfl (by decide) (by decide +kernel) (by first | assumption | exact lenI | exact lenS ‹_› | rfl) (by decide +kernel) | exact stab_ixR MR 0 rfl rfl (by decide) (by decide +kernel) (by kernel_rfl) | exact stab_ixW MR 0 rfl rfl (by decide) (by first | assumption | exact lenI | exact lenS ‹_› | rfl) (by decide) Tryz.underlying70 Tryz.underlying5 Tryz.underlying9 | exact stab_ixS MR 0 rfl rfl (by decide) (by first | rfl | simp | assumption) Tryz.underlying70 Tryz.underlying5 Tryz.underlying9) lows_nil) (ixOk_self MR _) ?_; replace M := M.drew; simp only [planC, opAt, List.getElem?_toArray, List.getElem?_cons_zero, List.getElem?_cons_succ, Option.getD_some])) | ((with_reducible refine tLoad ?_); refine w_at _ _ rfl (by exact ev_tmp rfl) ?_; intro hx; (first | refine w_loadE M _ _ _ rfl (by first | exact at2 | exact at3) hx rfl (by decide +kernel) (by decide +kernel) (by first | assumption | exact zeroT_len | exact macL_len _ _) ?_ | refine w_loadTag M _ _ _ rfl (by first | exact at2 | exact at3) hx rfl (by decide +kernel) (by decide +kernel) (by first | assumption | exact zeroT_len | exact macL_len _ _) ?_); clear hx) | ((with_reducible refine tStore ?_); refine w_at2 _ _ _ rfl (by first | exact ev_tmp rfl | exact ev_const) (by first | exact ev_tmp rfl | exact ev_const) ?_; intro hx hy; (first | refine w_storeE M _ _ _ _ rfl (by first | exact at2 | exact at3) hx rfl hy rfl (by decide +kernel) (by first | assumption | exact zeroT_len | exact macL_len _ _) (by first | assumption | exact zeroT_len | exact macL_len _ _) ?_ | refine w_storeE (k := 0) (b := 0) (n := 0) (d := []) (tg := zeroT) M _ _ _ _ rfl (by first | exact at2 | exact at3) hx rfl hy rfl (by decide +kernel) zeroT_len (by first | assumption | exact zeroT_len | exact macL_len _ _) ?_ | refine w_storeE (tg := zeroT) M _ _ _ _ rfl (by first | exact at2 | exact at3) hx rfl hy rfl (by decide +kernel) zeroT_len (by first | assumption | exact zeroT_len | exact macL_len _ _) ?_ | refine w_storeTag M _ _ _ _ rfl (by first | exact at2 | exact at3) hx rfl hy (by decide +kernel) (by first | assumption | exact zeroT_len | exact macL_len _ _) (by first | assumption | exact zeroT_len | exact macL_len _ _) ?_ | refine w_storeData M _ _ _ _ rfl (by first | exact at2 | exact at3) hx rfl hy (by decide +kernel) ?_ | refine w_storeNum M _ _ _ _ rfl (by first | exact at2 | exact at3) hx rfl hy (by decide +kernel) ?_); clear hx hy M; intro w1 M; (try simp only [setC] at M)) | ((with_reducible refine tConv _ 70 9 ?_); (first | refine w_stringTag M _ _ _ _ _ rfl rfl (by first | exact at2 | exact at3) rfl (by first | assumption | exact zeroT_len | exact macL_len _ _) Tryz.underlying70 Tryz.underlying5 Tryz.underlying9 ?_)) | ((with_reducible show Seg _ _ _ _); go_must (first | refine Seg.intro ⟨fun h => absurd rfl h, ?_⟩ | refine Seg.intro ⟨fun _ => (by repeat' (first | exact ixOk_nil M.kept | refine ixOk_cons rfl (by first | exact M.ok 0 _ rfl | exact M.ok 1 _ rfl | exact M.ok 2 _ rfl | exact M.ok 3 _ rfl | exact M.ok 4 _ rfl | exact M.ok 5 _ rfl | exact M.ok 6 _ rfl) ?_)), ?_⟩ | refine Seg.intro ⟨(by repeat' (first | (with_reducible exact needs_nil) | refine needs_at rfl (by first | (show Shape.ok Shape.nums _ = true; exact nums_bs _) | rfl) ?_)), (by repeat' (first | (with_reducible exact ats_nil) | refine ats_cons (by first | exact ev_tmp rfl | rfl) ?_)), ?_⟩)) | ((with_reducible show OnlyN _ _ _ _ _); refine OnlyN.intro (by kernel_rfl) ?_) | ((with_reducible refine tGuard ?_); first | refine w_strip rfl (by with_reducible rfl) ?_ | ((fail_if_success (refine w_lit false rfl (by with_reducible rfl) ?_)); (fail_if_success (refine w_lit true rfl (by with_reducible rfl) ?_)); refine w_case rfl ?_ ?_ <;> (intro hgd; rw [hgd]; try (exfalso; simp at hgd; omega)))) | ((with_reducible refine tConv _ 70 9 ?_); go_must (first | refine w_stringW M _ _ _ _ _ rfl rfl (by first | exact at0 | exact at1 | exact at2 | exact at3 | exact at4) rfl (by first | assumption | exact lenI | exact lenS ‹_› | rfl) (by decide) Tryz.underlying70 Tryz.underlying5 Tryz.underlying9 ?_ | refine w_string M _ _ _ _ _ rfl rfl (by first | exact at0 | exact at1 | exact at2 | exact at3 | exact at4) (by first | rfl | (simp; done) | assumption) rfl Tryz.underlying70 Tryz.underlying5 Tryz.underlying9 ?_)) | ((with_reducible refine tLoad ?_); go_must (refine w_at _ _ rfl (by exact ev_tmp rfl) ?_; intro hx; (first | refine w_load M _ _ _ rfl (by first | exact at0 | exact at1 | exact at2 | exact at3 | exact at4) hx rfl (by decide +kernel) (by exact rfl) ?_ | refine w_loadB M _ _ _ rfl (by first | exact at0 | exact at1 | exact at2 | exact at3 | exact at4) hx rfl (by decide +kernel) (by first | assumption | omega | (simp; omega)) ?_ | refine w_loadH M _ _ _ rfl (by first | exact at0 | exact at1 | exact at2 | exact at3 | exact at4) hx rfl (by decide +kernel) (by first | assumption | exact lenI | exact lenS ‹_› | rfl) (by decide +kernel) ?_ | refine w_loadR M _ _ _ rfl (by first | exact at0 | exact at1 | exact at2 | exact at3 | exact at4) hx rfl (by decide +kernel) (by kernel_rfl) ?_); clear hx)) | ((with_reducible refine tStore ?_); go_must (refine w_at2 _ _ _ rfl (by exact ev_tmp rfl) (by first | exact ev_tmp rfl | exact ev_const) ?_; intro hx hy; (first | refine w_storeB M _ _ _ _ rfl (by first | exact at0 | exact at1 | exact at2 | exact at3 | exact at4) hx rfl hy (by decide +kernel) (by first | assumption | omega | (simp; omega)) ?_ | refine w_storeH M _ _ _ _ rfl (by first | exact at0 | exact at1 | exact at2 | exact at3 | exact at4) hx rfl hy (by first | assumption | exact lenI | exact lenS ‹_› | rfl) (by decide +kernel) (by first | assumption | exact lenI | exact lenS ‹_› | rfl) ?_ | refine w_store M _ _ _ _ rfl (by first | exact at0 | exact at1 | exact at2 | exact at3 | exact at4) hx rfl hy rfl rfl (by decide +kernel) (by first | decide | simp | (simp; omega)) ?_ | refine w_storeR M _ _ _ _ rfl (by first | exact at0 | exact at1 | exact at2 | exact at3 | exact at4) hx rfl _ hy rfl (by kernel_rfl) (by simp [Value.oneCell']) (by first | rfl | assumption) ?_); clear hx hy M; intro w1 M; (try simp only [setC] at M))) | ((with_reducible refine tBox _ ?_); (refine w_box M _ _ rfl rfl _ rfl _ rfl ?_; clear M; intro g w1 M))) <;> (try conv => arg 5; simp only [Act.put, List.setIfInBounds_toArray, setC]))
  exact bodyPost_ret (results_row rfl _ _ gr 0 (bs r) _ rfl (M.ok 2 _ rfl).2.1 Tryz.underlying64 rfl (by rw [bs_length, hr]; kernel_rfl)) rfl ⟨congrArg (fun x => Ending.returned (.agg (bs x).toArray)) (ER.out ()).symm, M.below⟩
end Go.Proofs.YtidadhbaomieiaaGreat

/- Plain laws of the reference's reader (layer 12's In), and that it does what pack.In does. No program in this text. No conditions but those each lemma names. -/
namespace Go
namespace TL
/-- The reference's reader: what is left, the first fault. -/
structure RS where
  rest : List UInt8
  err : Nat
def RS.num (x : RS) (m : Nat) : Nat × RS :=
  if x.err = 0 then ((readN x.rest m).1, if (readN x.rest m).2.2 = 0 then ⟨x.rest.drop (readN x.rest m).2.1, 0⟩ else ⟨x.rest, (readN x.rest m).2.2⟩) else (0, x)
def RS.text (x : RS) (m : Nat) : List UInt8 × RS :=
  if (x.num m).2.err = 0 then
    if (x.num m).1 ≤ (x.num m).2.rest.length then ((x.num m).2.rest.take (x.num m).1, ⟨(x.num m).2.rest.drop (x.num m).1, 0⟩) else ([], ⟨(x.num m).2.rest, 7⟩)
  else ([], (x.num m).2)
/-- Both readers stand alike. -/
def Alike (x : InS) (y : RS) : Prop := x.err = y.err ∧ (x.err = 0 → x.rest = y.rest)
theorem Alike.most {x : InS} {y : RS} (h : Alike x y) (m : Nat) : (x.most m).1 = (y.num m).1 ∧ Alike (x.most m).2 (y.num m).2 := by
  obtain ⟨h1, h2⟩ := h
  unfold InS.most RS.num
  by_cases h0 : x.err = 0
  · rw [if_pos h0, if_pos (h1 ▸ h0), h2 h0]
    refine ⟨rfl, ?_⟩
    unfold InS.take
    by_cases e : (readN y.rest m).2.2 = 0
    · rw [if_pos e]; simp only [if_pos e]; exact ⟨rfl, fun _ => by rw [h2 h0]⟩
    · rw [if_neg e]; simp only [if_neg e]; exact ⟨rfl, fun h => absurd h e⟩
  · rw [if_neg h0, if_neg (h1 ▸ h0)]
    exact ⟨rfl, h1, fun h => absurd h h0⟩
theorem Alike.text {x : InS} {y : RS} (h : Alike x y) (m : Nat) : (x.text m).1 = (y.text m).1 ∧ Alike (x.text m).2 (y.text m).2 := by
  obtain ⟨h1, h2⟩ := h
  unfold InS.text RS.text RS.num
  by_cases h0 : x.err = 0
  · rw [if_pos h0]
    simp only [if_pos (h1 ▸ h0 : y.err = 0), h2 h0]
    unfold InS.take
    have hl := (read_le (s := y.rest) (most := m) rfl).1
    by_cases e : (readN y.rest m).2.2 = 0
    · simp only [if_pos e, if_true]
      rw [List.length_drop]
      by_cases g : (readN y.rest m).1 ≤ y.rest.length - (readN y.rest m).2.1
      · simp only [if_pos g]
        refine ⟨trivial, rfl, fun _ => ?_⟩
        simp only [List.drop_drop, h2 h0]
      · simp only [if_neg g]
        exact ⟨trivial, rfl, fun h => by simp at h⟩
    · simp only [if_neg e]
      exact ⟨trivial, rfl, fun h => absurd h e⟩
  · rw [if_neg h0]
    simp only [if_neg (h1 ▸ h0 : ¬ y.err = 0)]
    exact ⟨trivial, h1, fun h => absurd h h0⟩
theorem numV_snoc (l : List UInt8) (b : UInt8) : numV (l ++ [b]) = numV l + b.toNat % 128 * 128 ^ l.length := by
  induction l with
  | nil => simp [numV]
  | cons c l ih =>
    simp only [List.cons_append, numV, ih, List.length_cons, Nat.pow_succ]
    have e : 128 * (b.toNat % 128 * 128 ^ l.length) = b.toNat % 128 * (128 ^ l.length * 128) := by rw [Nat.mul_comm 128, Nat.mul_assoc]
    omega
theorem numV_take (s : List UInt8) (k : Nat) (h : k < s.length) : numV (s.take (k + 1)) = numV (s.take k) + (s.getD k 0).toNat % 128 * 128 ^ k := by
  rw [List.take_succ_eq_append_getElem h, numV_snoc, List.length_take, Nat.min_eq_left (by omega), List.getD_eq_getElem?_getD, List.getElem?_eq_getElem h]; rfl
theorem numV_take_lt (s : List UInt8) (k : Nat) (h : k ≤ s.length) : numV (s.take k) < 128 ^ k := by
  have := numV_lt (s.take k)
  rwa [List.length_take, Nat.min_eq_left h] at this
/-- The reference's round, its byte put on. -/
theorem or_shl (n b k : Nat) (hn : n < 128 ^ k) : n ||| b * 2 ^ (7 * k) = n + b * 128 ^ k := by
  have e : (128 : Nat) ^ k = 2 ^ (7 * k) := by rw [show (128 : Nat) = 2 ^ 7 from rfl, ← Nat.pow_mul]
  rw [e] at hn ⊢
  rw [Nat.or_comm, ← Nat.shiftLeft_eq, ← Nat.shiftLeft_add_eq_or_of_lt hn, Nat.add_comm]
end TL
end Go

/- Plain laws of pack's reader: it stays within its bounds; behind a fault nothing is read. No program in this text. No conditions but those each lemma names. -/
namespace Go
namespace TL
theorem readN_le (s : List UInt8) (m : Nat) : (readN s m).2.1 ≤ s.length ∧ (readN s m).2.1 ≤ 10 ∧ (readN s m).1 ≤ m := read_le (s := s) (most := m) rfl
def inStart (s : List UInt8) : InS := ⟨s, 0, 0⟩
/-! ### The reader stays within its bounds -/
theorem InS.take_fit {x : InS} {k e : Nat} (h : x.fit) (hk : k ≤ x.rest.length) : (x.take k e).fit := by
  unfold InS.take InS.fit at *
  split
  · simp only [List.length_drop]; omega
  · exact h
theorem InS.most_fit {x : InS} (h : x.fit) (m : Nat) : (x.most m).2.fit := by
  unfold InS.most
  split
  · exact InS.take_fit h (read_le (s := x.rest) (most := m) rfl).1
  · exact h
theorem InS.text_fit {x : InS} (h : x.fit) (m : Nat) : (x.text m).2.fit := by
  unfold InS.text
  split
  · split
    · split
      · have := (readN_le x.rest m).1
        exact InS.take_fit h (by omega)
      · exact InS.take_fit h (Nat.zero_le _)
    · exact InS.take_fit h (Nat.zero_le _)
  · exact h
theorem InS.byte_fit {x : InS} (h : x.fit) : x.byte.2.fit := by
  unfold InS.byte
  split
  · split
    · exact InS.take_fit h (Nat.zero_le _)
    · rename_i b l e; exact InS.take_fit h (by rw [e]; simp)
  · exact h
theorem InS.most_le (x : InS) (m : Nat) : (x.most m).1 ≤ m := by
  unfold InS.most
  split
  · exact (read_le (s := x.rest) (most := m) rfl).2.2
  · exact Nat.zero_le _
theorem InS.text_len (x : InS) (m : Nat) : (x.text m).1.length ≤ m := by
  unfold InS.text
  split
  · split
    · split
      · have := (readN_le x.rest m).2.2
        simp; omega
      · simp
    · simp
  · simp
/-- Behind a fault nothing is read. -/
theorem InS.text_err {x : InS} (h : x.err ≠ 0) (m : Nat) : x.text m = ([], x) := by unfold InS.text; rw [if_neg h]
theorem InS.most_err {x : InS} (h : x.err ≠ 0) (m : Nat) : x.most m = (0, x) := by unfold InS.most; rw [if_neg h]
theorem fin_err {x : InS} (h : x.err ≠ 0) : x.fin = x.err := by unfold InS.fin; rw [if_neg h]
end TL
end Go

/- Plain laws of pack's reader: numbers and texts, read back and cut. No program in this text. No conditions but those each lemma names. -/
namespace Go
namespace TL
/-! ### Numbers and texts, read back and cut -/
theorem most_num {m n k : Nat} {r : List UInt8} (h : n ≤ m) (h64 : n < 18446744073709551616) : InS.most ⟨numL n ++ r, k, 0⟩ m = (n, ⟨r, k + (numL n).length, 0⟩) := by
  unfold InS.most InS.take
  simp only [if_true]
  rw [read_num n m r h64, if_neg (by omega)]
  simp
theorem text_text {m k : Nat} {t r : List UInt8} (h : t.length ≤ m) (h64 : t.length < 18446744073709551616) : InS.text ⟨textL t ++ r, k, 0⟩ m = (t, ⟨r, k + (textL t).length, 0⟩) := by
  unfold InS.text InS.take textL
  have e := read_num t.length m (t ++ r) h64
  rw [if_neg (by omega)] at e
  simp only [if_true, List.append_assoc]
  rw [e]
  simp only [if_true]
  rw [if_pos (by simp)]
  simp [List.drop_append]
theorem most_cut {m n k j : Nat} {r : List UInt8} (h : n ≤ m) (h64 : n < 18446744073709551616) :
    InS.most ⟨(numL n ++ r).take j, k, 0⟩ m = if j < (numL n).length then (0, ⟨(numL n).take j, k, 7⟩) else (n, ⟨r.take (j - (numL n).length), k + (numL n).length, 0⟩) := by
  rw [List.take_append]
  by_cases hj : j < (numL n).length
  · rw [if_pos hj, show j - (numL n).length = 0 by omega, List.take_zero, List.append_nil]
    unfold InS.most InS.take
    simp only [if_true]
    rw [read_short n m j h64 hj]; simp
  · rw [if_neg hj, List.take_of_length_le (by omega : (numL n).length ≤ j)]
    exact most_num h h64
theorem text_cut {m k j : Nat} {t r : List UInt8} (h : t.length ≤ m) (h64 : t.length < 18446744073709551616) :
    if j < (textL t).length then (InS.text ⟨(textL t ++ r).take j, k, 0⟩ m).2.err = 7 else InS.text ⟨(textL t ++ r).take j, k, 0⟩ m = (t, ⟨r.take (j - (textL t).length), k + (textL t).length, 0⟩) := by
  by_cases hj : j < (textL t).length
  · rw [if_pos hj]
    rw [List.take_append, show j - (textL t).length = 0 by omega, List.take_zero, List.append_nil]
    unfold textL at hj ⊢
    rw [List.take_append]
    unfold InS.text InS.take
    simp only [if_true]
    by_cases h2 : j < (numL t.length).length
    · rw [show j - (numL t.length).length = 0 by omega, List.take_zero, List.append_nil, read_short t.length m j h64 h2]
      simp
    · have e := read_num t.length m (t.take (j - (numL t.length).length)) h64
      rw [if_neg (by omega)] at e
      rw [List.take_of_length_le (by omega : (numL t.length).length ≤ j), e]
      simp only [if_true]
      rw [List.length_append] at hj
      rw [if_neg (by rw [List.length_append, List.length_take]; omega)]
      rfl
  · rw [if_neg hj, List.take_append, List.take_of_length_le (by omega : (textL t).length ≤ j)]
    exact text_text h h64
theorem most_ok {x : InS} {m n : Nat} {y : InS} (h : x.most m = (n, y)) (hx : x.err = 0) (hy : y.err = 0) : x.rest = numL n ++ y.rest ∧ n ≤ m := by
  unfold InS.most InS.take at h
  rw [if_pos hx] at h
  obtain ⟨⟨a, b, c⟩, e⟩ : ∃ R, R = readN x.rest m := ⟨_, rfl⟩
  rw [← e] at h
  simp only [Prod.mk.injEq] at h
  obtain ⟨rfl, rfl⟩ := h
  by_cases hc : c = 0
  · subst hc
    obtain ⟨h1, h2, h3, _⟩ := read_ok e.symm
    simp only [if_true]
    exact ⟨h1, h3⟩
  · rw [if_neg hc] at hy; exact absurd hy hc
theorem text_ok {x : InS} {m : Nat} {t : List UInt8} {y : InS} (h : x.text m = (t, y)) (hx : x.err = 0) (hy : y.err = 0) : x.rest = textL t ++ y.rest ∧ t.length ≤ m := by
  have hlen := InS.text_len x m
  rw [h] at hlen
  refine ⟨?_, hlen⟩
  unfold InS.text InS.take at h
  rw [if_pos hx] at h
  obtain ⟨⟨a, b, c⟩, e⟩ : ∃ R, R = readN x.rest m := ⟨_, rfl⟩
  rw [← e] at h
  by_cases hc : c = 0
  · subst hc
    obtain ⟨h1, h2, h3, _⟩ := read_ok e.symm
    simp only [if_true] at h
    split at h
    · rename_i hl
      simp only [Prod.mk.injEq] at h
      obtain ⟨rfl, rfl⟩ := h
      have e2 : ((x.rest.drop b).take a).length = a := by simp; omega
      unfold textL
      rw [e2, List.append_assoc]
      simp only
      rw [← List.drop_drop, List.take_append_drop]
      exact h1
    · simp only [Prod.mk.injEq] at h
      obtain ⟨_, rfl⟩ := h
      simp at hy
  · simp only [if_neg hc, Prod.mk.injEq] at h
    obtain ⟨_, rfl⟩ := h
    exact absurd hy hc
theorem most_err0 {x : InS} {m : Nat} (h : (x.most m).2.err = 0) : x.err = 0 := by
  by_cases hx : x.err = 0
  · exact hx
  · rw [InS.most_err hx] at h; exact h
theorem text_err0 {x : InS} {m : Nat} (h : (x.text m).2.err = 0) : x.err = 0 := by
  by_cases hx : x.err = 0
  · exact hx
  · rw [InS.text_err hx] at h; exact h
end TL
end Go

/- Plain laws of an envelope's bytes: read back, cut, only. No program in this text. No conditions but those each lemma names. -/
namespace Go
namespace TL
structure Env where
  k : Nat
  b : UInt32
  n : UInt64
  d : List UInt8
  t : List UInt8
def zeroE : Env := ⟨0, 0, 0, [], List.replicate 32 0⟩
/-- An envelope's bytes. -/
def envB (x : Env) : List UInt8 := numL x.k ++ (numL x.b.toNat ++ (numL x.n.toNat ++ (textL x.d ++ x.t)))
def rightEnv (x : Env) : Prop := x.k ≤ 1048576 ∧ x.d.length ≤ 8192 ∧ x.t.length = 32
/-- A tag's bytes are read, one by one. -/
def tagS (x0 : InS) : Nat → InS × List UInt8
  | 0 => (x0, List.replicate 32 0)
  | n + 1 => ((tagS x0 n).1.byte.2, (tagS x0 n).2.set n (UInt8.ofNat (tagS x0 n).1.byte.1))
theorem tagS_succ (x0 : InS) (n : Nat) : tagS x0 (n + 1) = ((tagS x0 n).1.byte.2, (tagS x0 n).2.set n (UInt8.ofNat (tagS x0 n).1.byte.1)) := rfl
theorem tagS_len (x0 : InS) : ∀ n, (tagS x0 n).2.length = 32
  | 0 => List.length_replicate
  | n + 1 => by rw [tagS_succ, List.length_set]; exact tagS_len x0 n
theorem tagS_fit {x0 : InS} (h : x0.fit) : ∀ n, (tagS x0 n).1.fit
  | 0 => h
  | n + 1 => InS.byte_fit (tagS_fit h n)
structure Nums where
  k : Nat
  b : Nat
  n : Nat
  d : List UInt8
  x : InS
def numsS (s : List UInt8) : Nums :=
  let a := (InS.mk s 0 0).most 1048576
  let b := a.2.most 4294967295
  let c := b.2.most maxU
  let d := c.2.text 8192
  ⟨a.1, b.1, c.1, d.1, d.2⟩
/-- The envelope that bytes are, or the fault. -/
def readS (s : List UInt8) : Env × Nat :=
  let a := numsS s
  let e := tagS a.x 32
  if e.1.fin = 0 then (⟨a.k, UInt32.ofNat a.b, UInt64.ofNat a.n, a.d, e.2⟩, 0) else (zeroE, e.1.fin)
theorem readS_zero {s : List UInt8} (h : (readS s).2 ≠ 0) : readS s = (zeroE, (readS s).2) := by
  unfold readS at h ⊢
  simp only at h ⊢
  by_cases e : (tagS (numsS s).x 32).1.fin = 0
  · rw [if_pos e] at h; exact absurd rfl h
  · rw [if_neg e]
theorem byte_has (x : InS) : ∃ q : UInt8, x.byte.1 = q.toNat := by
  unfold InS.byte
  split
  · split
    · exact ⟨0, rfl⟩
    · rename_i b _ _; exact ⟨b, rfl⟩
  · exact ⟨0, rfl⟩
theorem byte_cons (b : UInt8) (r : List UInt8) (k : Nat) : (InS.mk (b :: r) k 0).byte = (b.toNat, ⟨r, k + 1, 0⟩) := rfl
theorem byte_nil (k : Nat) : (InS.mk [] k 0).byte = (0, ⟨[], k, 7⟩) := rfl
theorem byte_bad {x : InS} (h : x.err ≠ 0) : x.byte = (0, x) := by unfold InS.byte; rw [if_neg h]
theorem byte_ok {x : InS} (h : x.byte.2.err = 0) : x.err = 0 ∧ x.rest = UInt8.ofNat x.byte.1 :: x.byte.2.rest := by
  obtain ⟨rest, read, err⟩ := x
  by_cases e : err = 0
  · subst e
    cases rest with
    | nil => cases h
    | cons b r => rw [byte_cons]; exact ⟨rfl, by rw [UInt8.ofNat_toNat]⟩
  · rw [byte_bad e] at h; exact absurd h e
theorem set_take_succ (l : List UInt8) (j : Nat) (v : UInt8) (h : j < l.length) : (l.set j v).take (j + 1) = l.take j ++ [v] := by
  rw [List.take_succ_eq_append_getElem (by simpa using h), List.getElem_set_self, List.take_set_of_le (Nat.le_refl j)]
theorem tagS_back (t r : List UInt8) (k : Nat) (ht : t.length = 32) : ∀ n, n ≤ 32 → (tagS ⟨t ++ r, k, 0⟩ n).1 = ⟨t.drop n ++ r, k + n, 0⟩ ∧ (tagS ⟨t ++ r, k, 0⟩ n).2.take n = t.take n
  | 0, _ => ⟨rfl, rfl⟩
  | n + 1, h => by
    obtain ⟨h1, h2⟩ := tagS_back t r k ht n (by omega)
    have hd : t.drop n = t[n] :: t.drop (n + 1) := List.drop_eq_getElem_cons (by omega)
    have hl := tagS_len ⟨t ++ r, k, 0⟩ n
    rw [tagS_succ, h1, hd, List.cons_append, byte_cons]
    refine ⟨rfl, ?_⟩
    rw [set_take_succ _ _ _ (by omega), h2, UInt8.ofNat_toNat, List.take_succ_eq_append_getElem (by omega)]
theorem tagS_bad {x : InS} (h : x.err ≠ 0) : ∀ n, (tagS x n).1 = x
  | 0 => rfl
  | n + 1 => by rw [tagS_succ, tagS_bad h n, byte_bad h]
theorem tagS_only {x : InS} : ∀ n, n ≤ 32 → (tagS x n).1.err = 0 → x.err = 0 ∧ x.rest = (tagS x n).2.take n ++ (tagS x n).1.rest
  | 0, _, h => ⟨h, rfl⟩
  | n + 1, hn, h => by
    rw [tagS_succ] at h ⊢
    obtain ⟨e1, e2⟩ := byte_ok h
    obtain ⟨h1, h2⟩ := tagS_only n (by omega) e1
    have hl := tagS_len x n
    refine ⟨h1, ?_⟩
    rw [set_take_succ _ _ _ (by omega), h2, e2]
    simp
theorem nums_back (x : Env) (h : rightEnv x) (r : List UInt8) : ∃ k, numsS (numL x.k ++ (numL x.b.toNat ++ (numL x.n.toNat ++ (textL x.d ++ r)))) = ⟨x.k, x.b.toNat, x.n.toNat, x.d, ⟨r, k, 0⟩⟩ := by
  obtain ⟨h1, h2, _⟩ := h
  have hb := x.b.toNat_lt
  have hn := x.n.toNat_lt
  unfold numsS
  simp only
  rw [most_num h1 (by omega)]
  simp only
  rw [most_num (by omega) (by omega)]
  simp only
  rw [most_num (by unfold maxU; omega) (by omega)]
  simp only
  rw [text_text h2 (by omega)]
  exact ⟨_, rfl⟩
/-- An envelope's bytes, read, are it; nothing may be behind them. -/
theorem read_env (x : Env) (h : rightEnv x) (r : List UInt8) : readS (envB x ++ r) = if r = [] then (x, 0) else (zeroE, 8) := by
  have e : envB x ++ r = numL x.k ++ (numL x.b.toNat ++ (numL x.n.toNat ++ (textL x.d ++ (x.t ++ r)))) := by unfold envB; simp only [List.append_assoc]
  obtain ⟨k, hk⟩ := nums_back x h (x.t ++ r)
  obtain ⟨t1, t2⟩ := tagS_back x.t r k h.2.2 32 (Nat.le_refl _)
  have hl := tagS_len ⟨x.t ++ r, k, 0⟩ 32
  rw [List.take_of_length_le (by omega), List.take_of_length_le (by have := h.2.2; omega)] at t2
  rw [List.drop_eq_nil_of_le (by have := h.2.2; omega), List.nil_append] at t1
  unfold readS
  rw [e, hk]
  simp only
  rw [t1, t2]
  by_cases hr : r = []
  · subst hr
    have hf : (InS.mk [] (k + 32) 0).fin = 0 := rfl
    rw [if_pos rfl, if_pos hf, UInt32.ofNat_toNat, UInt64.ofNat_toNat]
  · have hf : (InS.mk r (k + 32) 0).fin = 8 := by unfold InS.fin; rw [if_pos rfl, if_neg (by simpa using hr)]
    rw [if_neg hr, hf, if_neg (by decide)]
/-- Without its last byte it ends too early. -/
theorem read_envless (x : Env) (h : rightEnv x) : readS ((envB x).take ((envB x).length - 1)) = (zeroE, 7) := by
  have h3 := h.2.2
  have hl : (envB x).length = (numL x.k ++ (numL x.b.toNat ++ (numL x.n.toNat ++ textL x.d))).length + 32 := by unfold envB; simp only [List.length_append, h3]; omega
  have e : (envB x).take ((envB x).length - 1) = numL x.k ++ (numL x.b.toNat ++ (numL x.n.toNat ++ (textL x.d ++ x.t.take 31))) := by
    have e1 : envB x = (numL x.k ++ (numL x.b.toNat ++ (numL x.n.toNat ++ textL x.d))) ++ x.t := by unfold envB; simp only [List.append_assoc]
    rw [hl, e1, show (numL x.k ++ (numL x.b.toNat ++ (numL x.n.toNat ++ textL x.d))).length + 32 - 1 = (numL x.k ++ (numL x.b.toNat ++ (numL x.n.toNat ++ textL x.d))).length + 31 by omega, List.take_append, List.take_of_length_le (by omega)]
    rw [Nat.add_sub_cancel_left]
    simp only [List.append_assoc]
  obtain ⟨k, hk⟩ := nums_back x h (x.t.take 31)
  have key : ∀ (t : List UInt8) (k : Nat), t.length = 31 → (tagS ⟨t, k, 0⟩ 32).1.fin = 7 := by
    intro t k ht
    have g : ∀ n, n ≤ 31 → (tagS ⟨t, k, 0⟩ n).1 = ⟨t.drop n, k + n, 0⟩ := by
      intro n
      induction n with
      | zero => intro _; rfl
      | succ n ih =>
        intro hn
        have hd : t.drop n = t[n] :: t.drop (n + 1) := List.drop_eq_getElem_cons (by omega)
        rw [tagS_succ, ih (by omega), hd, byte_cons]; rfl
    have g31 := g 31 (Nat.le_refl _)
    rw [List.drop_eq_nil_of_le (by omega)] at g31
    rw [show (32 : Nat) = 31 + 1 from rfl, tagS_succ, g31, byte_nil]; rfl
  have hf := key (x.t.take 31) k (by rw [List.length_take]; omega)
  unfold readS
  rw [e, hk]
  simp only
  rw [hf, if_neg (by decide)]
/-- What is read is right, and has just these bytes. -/
theorem read_envonly {s : List UInt8} (h : (readS s).2 = 0) : s = envB (readS s).1 ∧ rightEnv (readS s).1 := by
  obtain ⟨⟨a, x1⟩, e1⟩ : ∃ R, R = (InS.mk s 0 0).most 1048576 := ⟨_, rfl⟩
  obtain ⟨⟨b, x2⟩, e2⟩ : ∃ R, R = x1.most 4294967295 := ⟨_, rfl⟩
  obtain ⟨⟨c, x3⟩, e3⟩ : ∃ R, R = x2.most maxU := ⟨_, rfl⟩
  obtain ⟨⟨d, x4⟩, e4⟩ : ∃ R, R = x3.text 8192 := ⟨_, rfl⟩
  have en : numsS s = ⟨a, b, c, d, x4⟩ := by unfold numsS; simp only [← e1, ← e2, ← e3, ← e4]
  have g := fun h => tagS_only (x := x4) 32 (Nat.le_refl _) h
  have hl := tagS_len x4 32
  obtain ⟨⟨x5, t⟩, e5⟩ : ∃ R, R = tagS x4 32 := ⟨_, rfl⟩
  rw [← e5] at g hl
  simp only at g hl
  have er : readS s = if x5.fin = 0 then (⟨a, UInt32.ofNat b, UInt64.ofNat c, d, t⟩, 0) else (zeroE, x5.fin) := by unfold readS; simp only [en, ← e5]
  rw [er] at h ⊢
  by_cases e : x5.fin = 0
  · rw [if_pos e]
    simp only
    have he : x5.err = 0 ∧ x5.rest = [] := by
      unfold InS.fin at e
      by_cases q1 : x5.err = 0
      · rw [if_pos q1] at e
        refine ⟨q1, ?_⟩
        by_cases q2 : x5.rest.length = 0
        · simpa using q2
        · rw [if_neg q2] at e; cases e
      · rw [if_neg q1] at e; exact absurd e q1
    obtain ⟨g1, g2⟩ := g he.1
    rw [he.2, List.append_nil, List.take_of_length_le (by omega)] at g2
    have f3 : x3.err = 0 := text_err0 (m := 8192) (by rw [← e4]; exact g1)
    have f2 : x2.err = 0 := most_err0 (m := maxU) (by rw [← e3]; exact f3)
    have f1 : x1.err = 0 := most_err0 (m := 4294967295) (by rw [← e2]; exact f2)
    obtain ⟨a1, a2⟩ := most_ok e1.symm rfl f1
    obtain ⟨b1, b2⟩ := most_ok e2.symm f1 f2
    obtain ⟨c1, c2⟩ := most_ok e3.symm f2 f3
    obtain ⟨d1, d2⟩ := text_ok e4.symm f3 g1
    rw [maxU_eq] at c2
    refine ⟨?_, a2, d2, hl⟩
    unfold envB
    simp only
    rw [UInt32.toNat_ofNat', UInt64.toNat_ofNat', Nat.mod_eq_of_lt (by omega), Nat.mod_eq_of_lt (by omega), ← g2, ← d1, ← c1, ← b1]
    exact a1
  · rw [if_neg e] at h; exact absurd h e
end TL
end Go

/- Plain: what a ring computes: its keys, what it wraps and opens. No program in this text. Conditions: lengths. -/
namespace Go
namespace TL
def ringT : List UInt8 := [114, 105, 110, 103]
/-- A master's key of a number. -/
def ringU (m : List UInt8) (u : UInt64) : List UInt8 := macL m (ringT ++ bigB u 8)
def ringK (m : List UInt8) (k : Nat) : List UInt8 := ringU m (w64 (k : Int))
theorem ringK_len (m : List UInt8) (k : Nat) : (ringK m k).length = 32 := macL_length _ _
structure RingS where
  m : List UInt8
  c : Nat
  b : UInt32
  n : UInt64
/-- The envelope to which a text is sealed. -/
def RingS.env (R : RingS) (about text : List UInt8) : Env :=
  ⟨R.c, R.b, R.n, sealL (ringK R.m R.c) R.b R.n text, tagL (ringK R.m R.c) R.c R.b R.n about (sealL (ringK R.m R.c) R.b R.n text)⟩
/-- What an envelope's bytes are opened to, or what bars it. -/
def openL (m : List UInt8) (c : Nat) (s about : List UInt8) : List UInt8 × Nat :=
  if (readS s).2 ≠ 0 then ([], (readS s).2) else if c < (readS s).1.k then ([], 20) else
    if (readS s).1.t = tagL (ringK m (readS s).1.k) (readS s).1.k (readS s).1.b (readS s).1.n about (readS s).1.d then (sealL (ringK m (readS s).1.k) (readS s).1.b (readS s).1.n (readS s).1.d, 0) else ([], 13)
theorem RingS.env_right {R : RingS} (about text : List UInt8) (hc : R.c ≤ 1048576) (ht : text.length ≤ 8192) : rightEnv (R.env about text) :=
  ⟨hc, by show (sealL _ _ _ _).length ≤ 8192; unfold sealL; rw [streamL_len]; exact ht, macL_length _ _⟩
theorem RingS.env_bytes (R : RingS) (about text : List UInt8) :
    headL R.c R.b R.n ++ (textL (sealL (ringK R.m R.c) R.b R.n text) ++ tagL (ringK R.m R.c) R.c R.b R.n about (sealL (ringK R.m R.c) R.b R.n text)) = envB (R.env about text) := by
  unfold headL envB RingS.env; simp only [List.append_assoc]
theorem envB_length {x : Env} (h : rightEnv x) : (envB x).length ≤ 8600 := by
  obtain ⟨k, b, n, d, t⟩ := x
  obtain ⟨h1, h2, h3⟩ := h
  simp only at h1 h2 h3
  have e : envB ⟨k, b, n, d, t⟩ = headL k b n ++ (textL d ++ t) := by unfold headL envB; simp only [List.append_assoc]
  rw [e]
  have a1 := headL_len k b n (by omega)
  have a2 : (textL d).length ≤ 8210 := by unfold textL; have := numL_length_le d.length (by omega); simp; omega
  simp only [List.length_append]; omega
/-- What a ring's envelope's bytes are read as. -/
theorem RingS.read {R : RingS} (about text : List UInt8) (hc : R.c ≤ 1048576) (ht : text.length ≤ 8192) : readS (envB (R.env about text)) = (R.env about text, 0) := by
  have h := read_env (R.env about text) (RingS.env_right about text hc ht) []
  rw [List.append_nil, if_pos rfl] at h
  exact h
theorem openL_ok {R : RingS} (about text : List UInt8) (hc : R.c ≤ 1048576) (ht : text.length ≤ 8192) {c : Nat} (h : R.c ≤ c) : openL R.m c (envB (R.env about text)) about = (text, 0) := by
  unfold openL
  rw [RingS.read about text hc ht]
  simp only
  rw [if_neg (by simp), if_neg (by show ¬ c < R.c; omega)]
  have e : sealL (ringK R.m R.c) R.b R.n (sealL (ringK R.m R.c) R.b R.n text) = text := streamL_twice _ _ _
  show (if tagL (ringK R.m R.c) R.c R.b R.n about (sealL (ringK R.m R.c) R.b R.n text) = tagL (ringK R.m R.c) R.c R.b R.n about (sealL (ringK R.m R.c) R.b R.n text) then (sealL (ringK R.m R.c) R.b R.n (sealL (ringK R.m R.c) R.b R.n text), 0) else ([], 13)) = (text, 0)
  rw [if_pos rfl, e]
theorem openL_key {R : RingS} (m about about' text : List UInt8) (hc : R.c ≤ 1048576) (ht : text.length ≤ 8192) {c : Nat} (h : c < R.c) : openL m c (envB (R.env about text)) about' = ([], 20) := by
  unfold openL
  rw [RingS.read about text hc ht]
  simp only
  rw [if_neg (by simp)]
  exact if_pos h
theorem openL_bad {m : List UInt8} {c : Nat} {s about : List UInt8} (h : (readS s).2 ≠ 0) : openL m c s about = ([], (readS s).2) := by
  unfold openL; rw [if_pos h]
theorem openL_far {m : List UInt8} {c : Nat} {s about : List UInt8} (h : (readS s).2 = 0) (hk : c < (readS s).1.k) : openL m c s about = ([], 20) := by
  unfold openL; rw [if_neg (by simpa using h), if_pos hk]
theorem openL_mac {m : List UInt8} {c : Nat} {s about : List UInt8} (h : (readS s).2 = 0) (hk : ¬ c < (readS s).1.k) (ht : ¬ (readS s).1.t = tagL (ringK m (readS s).1.k) (readS s).1.k (readS s).1.b (readS s).1.n about (readS s).1.d) : openL m c s about = ([], 13) := by
  unfold openL; rw [if_neg (by simpa using h), if_neg hk, if_neg ht]
theorem openL_yes {m : List UInt8} {c : Nat} {s about : List UInt8} (h : (readS s).2 = 0) (hk : ¬ c < (readS s).1.k) (ht : (readS s).1.t = tagL (ringK m (readS s).1.k) (readS s).1.k (readS s).1.b (readS s).1.n about (readS s).1.d) : openL m c s about = (sealL (ringK m (readS s).1.k) (readS s).1.b (readS s).1.n (readS s).1.d, 0) := by
  unfold openL; rw [if_neg (by simpa using h), if_neg hk, if_pos ht]
/-- What is opened is no longer than what it was opened from may hold. -/
theorem openL_len (m : List UInt8) (c : Nat) (s about : List UInt8) : (openL m c s about).1.length ≤ 8192 := by
  unfold openL
  split
  · simp
  split
  · simp
  split
  · rename_i h _ _
    have hr := (read_envonly (s := s) (by simpa using h)).2.2.1
    show (sealL _ _ _ _).length ≤ 8192
    unfold sealL; rw [streamL_len]; exact hr
  · simp
end TL
end Go
