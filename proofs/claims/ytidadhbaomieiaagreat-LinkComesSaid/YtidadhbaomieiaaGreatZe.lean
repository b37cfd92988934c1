/- Texts of this seat, put together: BatL, Shelf, PackZ, Txt, PackI, PackR, PackT, Out, PackO, PackN, PackY0, Ref12, Ref12T, BatA0, RowF. Each begins with a remark that says what is proved in it, and under which conditions. -/
import Derived.Test.YtidadhbaomieiaaGreatY
import Derived.Shelf.Small.Strs
import Derived.Shelf.Strconv.Itoa0
import Derived.Shelf.Strings.Search1
import Derived.Shelf.Strings.Search2
import Derived.Shelf.Strings.Cut
import Derived.Shelf.LaysM
import Derived.Shelf.Strings.Shaped
import Derived.Shelf.Bits.Mul64
import Derived.Test.YtidadhbaomieiaaGreatProg
import Derived.OwnWalk
import Derived.IntWalk
import Derived.Test.YtidadhbaomieiaaGreatZd
set_option maxRecDepth 100000
set_option maxHeartbeats 16000000
namespace Go
namespace TL
open Go.RowKit
abbrev Opr : Type := UInt8 × List UInt8 × List UInt8
abbrev Mt : Type := List UInt8 × Bool
def opV (x : Opr) : List Value := [.int .u8 (I8 x.1), .string (mkS x.2.1), .string (mkS x.2.2)]
@[go_sem] theorem qBR (a : UInt8) (b c : List UInt8) : opV (a, b, c) = [.int .u8 (I8 a), .string (mkS b), .string (mkS c)] := rfl
theorem qCD (x : Opr) : (opV x).length = 3 := rfl
def mtV (x : Mt) : List Value := [.string (mkS x.1), .bool x.2]
@[go_sem] theorem mtV_eq (a : List UInt8) (b : Bool) : mtV (a, b) = [.string (mkS a), .bool b] := rfl
/-! ### Great ones -/
/-! ### Mounts -/
/-! ### Operations -/
def opE (f : List UInt8 → Nat) (x : Opr) : Nat :=
 if x.1 = 1 ∨ x.1 = 2 then
  if f x.2.1 = 0 then
   if x.2.2.length ≤ 32 then (if x.1 = 2 ∧ x.2.2 ≠ [] then 1 else 0) else 3
  else f x.2.1
 else 10
def eachE (f : List UInt8 → Nat) : List Opr → Nat
 | [] => 0
 | x :: l => if opE f x = 0 then eachE f l else opE f x
theorem each_at {f : List UInt8 → Nat} : ∀ {l : List Opr} {k : Nat} {x : Opr}, l[k]? = some x → (∀ (j : Nat) (y : Opr), j < k → l[j]? = some y → opE f y = 0) → opE f x ≠ 0 → eachE f l = opE f x
 | [], k, x, h, _, _ => by simp at h
 | y :: l, 0, x, h, _, hx => by
  have : y = x := by simpa using h
  subst this; rw [eachE, if_neg hx]
 | y :: l, k + 1, x, h, hb, hx => by
  rw [eachE, if_pos (hb 0 y yF rfl)]
  exact each_at (l := l) (k := k) yE1 (fun j z hj hz => hb (j + 1) z yF (by simpa using hz)) hx
theorem each_all {f : List UInt8 → Nat} : ∀ {l : List Opr}, (∀ (j : Nat) (y : Opr), l[j]? = some y → opE f y = 0) → eachE f l = 0
 | [], _ => rfl
 | y :: l, hb => by
  rw [eachE, if_pos (hb 0 y rfl)]
  exact each_all fun j z hz => hb (j + 1) z (by simpa using hz)
theorem each_ok {f : List UInt8 → Nat} : ∀ {l : List Opr}, eachE f l = 0 → ∀ x ∈ l, opE f x = 0
 | [], _, x, hx => by cases hx
 | y :: l, h, x, hx => by
  rw [eachE] at h
  split at h
  ·rename_i h0
   rcases List.mem_cons.1 hx with rfl | hx
   ·exact h0
   ·exact each_ok h x hx
  ·rename_i h0; exact absurd h h0
theorem op_kind {f : List UInt8 → Nat} {x : Opr} (h : ¬ (x.1 = 1 ∨ x.1 = 2)) : opE f x = 10 := if_neg h
theorem op_path {f : List UInt8 → Nat} {x : Opr} (h : x.1 = 1 ∨ x.1 = 2) (h2 : f x.2.1 ≠ 0) : opE f x = f x.2.1 := by unfold opE; rw [if_pos h, if_neg h2]
theorem op_long {f : List UInt8 → Nat} {x : Opr} (h : x.1 = 1 ∨ x.1 = 2) (h2 : f x.2.1 = 0) (h3 : 32 < x.2.2.length) : opE f x = 3 := by unfold opE; rw [if_pos h, if_pos h2, if_neg yF]
theorem op_arg {f : List UInt8 → Nat} {x : Opr} (h : x.1 = 2) (h2 : f x.2.1 = 0) (h3 : x.2.2.length ≤ 32) (h4 : x.2.2 ≠ []) : opE f x = 1 := by unfold opE; rw [if_pos (.inr h), if_pos h2, if_pos h3, if_pos ⟨h, h4⟩]
theorem op_good {f : List UInt8 → Nat} {x : Opr} (h : x.1 = 1 ∨ x.1 = 2) (h2 : f x.2.1 = 0) (h3 : x.2.2.length ≤ 32) (h4 : x.1 = 2 → x.2.2 = []) : opE f x = 0 := by
 unfold opE; rw [if_pos h, if_pos h2, if_pos h3, if_neg (fun h => h.2 (h4 h.1))]
theorem op_zero {f : List UInt8 → Nat} {x : Opr} (h : opE f x = 0) : (x.1 = 1 ∨ x.1 = 2) ∧ f x.2.1 = 0 ∧ x.2.2.length ≤ 32 ∧ (x.1 = 2 → x.2.2 = []) := by
 unfold opE at h
 split at h
 ·rename_i h1
  split at h
  ·rename_i h2
   split at h
   ·rename_i h3
    split at h
    ·cases h
    ·rename_i h4
     refine ⟨h1, h2, h3, fun e => ?_⟩
     by_cases hn : x.2.2 = []
     ·exact hn
     ·exact absurd ⟨e, hn⟩ h4
   ·cases h
  ·rename_i h2; exact absurd h h2
 ·cases h
def cutE (p : List UInt8) : Nat := if (cutL p).2.2 = true then 0 else 20
def rightB (i e : Int) (ops : List Opr) : Nat := if i < 1 ∨ 4611686018427387904 < i ∨ e < 1 then 1 else if 4 < ops.length then 3 else eachE cutE ops
theorem qDI {i e : Int} {ops : List Opr} (h : rightB i e ops = 0) : 1 ≤ i ∧ i ≤ 4611686018427387904 ∧ 1 ≤ e ∧ ops.length ≤ 4 ∧ eachE cutE ops = 0 := by
 unfold rightB at h
 split at h
 ·cases h
 ·rename_i h1
  split at h
  ·cases h
  ·rename_i h2; exact ⟨by omega, by omega, by omega, by omega, h⟩
def opB (x : Opr) : List UInt8 := x.1 :: (textL x.2.1 ++ if x.1 = 1 then textL x.2.2 else [])
def batB (i e : Nat) (ops : List Opr) : List UInt8 := numL i ++ (numL e ++ (numL ops.length ++ ops.flatMap opB))
def bytesB (i e : Int) (ops : List Opr) : List UInt8 × Nat := if rightB i e ops = 0 then (batB i.toNat e.toNat ops, 0) else ([], rightB i e ops)
def InS.bad (x : InS) (e : Nat) : InS := ⟨x.rest, x.read, e⟩
def rdOps : Nat → InS → List Opr × InS
 | 0, x => ([], x)
 | n + 1, x =>
  if x.byte.2.err = 0 then
   if x.byte.1 = 1 ∨ x.byte.1 = 2 then
    ((UInt8.ofNat x.byte.1, (x.byte.2.text 33).1, if x.byte.1 = 1 then ((x.byte.2.text 33).2.text 32).1 else []) :: (rdOps n (if x.byte.1 = 1 then ((x.byte.2.text 33).2.text 32).2 else (x.byte.2.text 33).2)).1,
     (rdOps n (if x.byte.1 = 1 then ((x.byte.2.text 33).2.text 32).2 else (x.byte.2.text 33).2)).2)
   else ([], x.byte.2.bad 10)
  else ([], x.byte.2)
def nums3 (s : List UInt8) : Nat × Nat × Nat × InS :=
 let a := (InS.mk s 0 0).most 4611686018427387904
 let b := a.2.most 9223372036854775807
 let c := b.2.most 4
 (a.1, b.1, c.1, c.2)
def readB (s : List UInt8) : (Nat × Nat × List Opr) × Nat :=
 let q := nums3 s
 let r := rdOps q.2.2.1 q.2.2.2
 if r.2.fin = 0 then
  if rightB q.1 q.2.1 r.1 = 0 then ((q.1, q.2.1, r.1), 0) else ((0, 0, []), rightB q.1 q.2.1 r.1)
 else ((0, 0, []), r.2.fin)
end TL
end Go

/-
 DERIVED: THE SHELF's CONTRACTS AT THIS DUMP, IN PLAIN WORDS (tools/lay-plain.mjs out of 'TryzShelf.lean', which tools/lay-shelf.mjs wrote): THE SAME DECLARATIONS UNDER THE SAME NAMES: 'import', 'namespace', 'open', 'def', 'theorem' AND NOTHING ELSE: no command of the shelf's: FOR A HAND-IN. Each laying: the table of numbers ('.._ren') and one theorem, a field a fact of the dump's own or the kernel's comparison; each contract: ONE APPLICATION.
-/
namespace Go.Proofs
open Go.Shelf
def Tryz.lays137_ren : Go.Shelf.Ren := ⟨fun | 137 => 215 | 217 => 217 | 266 => 221 | n => n, fun | 9 => 9 | 5 => 5 | 3 => 3 | n => n, fun | n => n⟩
theorem Tryz.lays137 : Go.Proofs.Lays.n137 Tryz.prog Tryz.lays137_ren := {
 mixed := by kernel_rfl
 f137 := Tryz.func215.trans (congrArg some yD)
 f217 := Tryz.func217.trans (congrArg some yD)
 f266 := Tryz.func221.trans (congrArg some yD)
 t3 := Tryz.underlying3
 a3 := Tryz.isAgg3
 z3 := Tryz.sizeOf3
 v3 := Tryz.zeroValue3
 t5 := Tryz.underlying5
 a5 := Tryz.isAgg5
 z5 := Tryz.sizeOf5
 v5 := Tryz.zeroValue5
 t9 := Tryz.underlying9
 a9 := Tryz.isAgg9
 z9 := Tryz.sizeOf9
 v9 := Tryz.zeroValue9 }
open Go.RowKit in
theorem Tryz.strings_IndexByte (s : ByteArray) (c : Int) (w : World) :
  Calls Tryz.prog 215 #[.string s, .int .u8 c] w fun e w' => e = .returned (.int .i64 (Lib.indexByte s.data.toList c.toNat.toUInt8)) ∧ w' = w := Any.strings_IndexByte Tryz.lays137 s c w
def Tryz.lays129_ren : Go.Shelf.Ren := ⟨fun | 129 => 170 | n => n, fun | 53 => 30 | 3 => 3 | 4 => 4 | 46 => 109 | 5 => 5 | 9 => 9 | n => n, fun | n => n⟩
theorem Tryz.lays129 : Go.Proofs.Lays.n129 Tryz.prog Tryz.lays129_ren := {
 mixed := by kernel_rfl
 f129 := Tryz.func170.trans (congrArg some yD)
 t3 := Tryz.underlying3
 a3 := Tryz.isAgg3
 z3 := Tryz.sizeOf3
 v3 := Tryz.zeroValue3
 t4 := Tryz.underlying4
 a4 := Tryz.isAgg4
 z4 := Tryz.sizeOf4
 v4 := Tryz.zeroValue4
 t5 := Tryz.underlying5
 a5 := Tryz.isAgg5
 z5 := Tryz.sizeOf5
 v5 := Tryz.zeroValue5
 t9 := Tryz.underlying9
 a9 := Tryz.isAgg9
 z9 := Tryz.sizeOf9
 v9 := Tryz.zeroValue9
 t46 := Tryz.underlying109
 a46 := Tryz.isAgg109
 z46 := Tryz.sizeOf109
 v46 := Tryz.zeroValue109
 t53 := Tryz.underlying30
 a53 := Tryz.isAgg30
 z53 := Tryz.sizeOf30
 v53 := Tryz.zeroValue30 }
theorem Tryz.bits_Len64 (x : Int) (w : World) (h0 : 0 ≤ x) (h1 : x ≤ 18446744073709551615) :
  Calls Tryz.prog 170 #[.int .u64 x] w fun e w' => e = .returned (.int .i64 (Lib.bitLen x.toNat)) ∧ w' = w := Any.bits_Len64 Tryz.lays129 x w h0 h1
def Tryz.lays219_ren : Go.Shelf.Ren := ⟨fun | 219 => 216 | 217 => 217 | 225 => 218 | 224 => 219 | 267 => 220 | 266 => 221 | 314 => 222 | n => n, fun | 9 => 9 | 3 => 3 | 4 => 4 | 5 => 5 | 46 => 109 | 146 => 289 | 51 => 22 | n => n, fun | 1 => 0 | n => n⟩
theorem Tryz.lays219 : Go.Proofs.Lays.n219 Tryz.prog Tryz.lays219_ren := {
 mixed := by kernel_rfl
 f217 := Tryz.func217.trans (congrArg some yD)
 f219 := Tryz.func216.trans (congrArg some yD)
 f224 := Tryz.func219.trans (congrArg some yD)
 f225 := Tryz.func218.trans (congrArg some yD)
 f266 := Tryz.func221.trans (congrArg some yD)
 f267 := Tryz.func220.trans (congrArg some yD)
 f314 := Tryz.func222.trans (congrArg some yD)
 t3 := Tryz.underlying3
 a3 := Tryz.isAgg3
 z3 := Tryz.sizeOf3
 v3 := Tryz.zeroValue3
 t4 := Tryz.underlying4
 a4 := Tryz.isAgg4
 z4 := Tryz.sizeOf4
 v4 := Tryz.zeroValue4
 t5 := Tryz.underlying5
 a5 := Tryz.isAgg5
 z5 := Tryz.sizeOf5
 v5 := Tryz.zeroValue5
 t9 := Tryz.underlying9
 a9 := Tryz.isAgg9
 z9 := Tryz.sizeOf9
 v9 := Tryz.zeroValue9
 t46 := Tryz.underlying109
 a46 := Tryz.isAgg109
 z46 := Tryz.sizeOf109
 v46 := Tryz.zeroValue109
 t51 := Tryz.underlying22
 a51 := Tryz.isAgg22
 z51 := Tryz.sizeOf22
 v51 := Tryz.zeroValue22
 t146 := Tryz.underlying289
 a146 := Tryz.isAgg289
 z146 := Tryz.sizeOf289
 v146 := Tryz.zeroValue289
 g1 := by kernel_rfl }
open Go.RowKit Go.Lib in
theorem Tryz.stringslite_Index_one (s : ByteArray) (c : UInt8) (w : World) :
  Calls Tryz.prog 216 #[.string s, .string ⟨#[c]⟩] w fun e w' => e = .returned (.int .i64 (Lib.indexByte s.data.toList c)) ∧ w' = w := Any.stringslite_Index_one Tryz.lays219 s c w
end Go.Proofs

namespace Go.Proofs.YtidadhbaomieiaaGreat
open Go.RowKit Go.TL
theorem or128 (m : Nat) : UInt8.ofNat m ||| 128 = UInt8.ofNat (m % 128 + 128) := by
 have h : ∀ n : Fin 256, UInt8.ofNat n.1 ||| 128 = UInt8.ofNat (n.1 % 128 + 128) := by decide +kernel
 have e : UInt8.ofNat m = UInt8.ofNat (m % 256) := by apply UInt8.toNat_inj.1; simp
 have := h ⟨m % 256, by omega⟩
 rw [e, this, show m % 256 % 128 = m % 128 by omega]
theorem Len64_c (n : Nat) (w : World) (h : n < 18446744073709551616) :
  Calls Tryz.prog 170 #[.int .u64 n] w fun e w' => e = .returned (.int .i64 (Lib.bitLen n)) ∧ w = w' :=
 (Go.Proofs.Tryz.bits_Len64 n w yF yF).mono fun _ _ ⟨a, b⟩ => ⟨a, b.symm⟩
theorem size_c (n : Nat) (w : World) (h : n < 18446744073709551616) :
  Calls Tryz.prog 137 #[.int .u64 n] w fun e w' => e = .returned (.int .i64 (numL n).length) ∧ w = w' := by
 have hs := size_eq n h
 have hl := qAG n h
 have hp := numL_pos n
 obtain ⟨k, ek⟩ : ∃ k, k = (numL n).length := ⟨_, rfl⟩
 obtain ⟨b, eb⟩ : ∃ b, b = Lib.bitLen n := ⟨_, rfl⟩
 rw [← ek, ← eb] at hs
 rw [← ek] at hl hp ⊢
 have hb : b ≤ 70 := by omega
 have L := Len64_c n w h
 rw [← eb] at L
 obtain ⟨q, eq⟩ : ∃ q, q = (b + 6) / 7 := ⟨_, rfl⟩
 have e1 : ((b : Int) + 7 - 1).tdiv 7 = (q : Int) := by rw [Int.tdiv_eq_ediv_of_nonneg yF]; omega
 rw [← eq] at hs
 by_cases h1 : 1 ≤ q
 all_goals
  go_enter Tryz.func137, Tryz.ntmps137
  go_wp2_with (first | (go_at_call 170; (refine (L).mono ?_; rintro e w1 ⟨rfl, rfl⟩)))
  go_ret
  exact ⟨by first | rfl | (congr; omega) | (simp; omega), rfl⟩
end Go.Proofs.YtidadhbaomieiaaGreat

namespace Go
namespace TL
open Go.RowKit
theorem lead_geI {s : List UInt8} {k : Nat} (h : k < lead s) : 128 ≤ I8 (bt s k) := by have := lead_ge s k h; rw [I8_bt]; omega
theorem lead_lastI {s : List UInt8} (h : lead s < s.length) : I8 (bt s (lead s)) < 128 := by have := qCT s h; rw [I8_bt]; omega
theorem shl_or (n : Nat) (b : UInt8) (h : n < 144115188075855872) : I64 (w64 (n : Int) <<< 7 ||| w64 ((I8 b).tmod 128)) = ((b.toNat % 128 + 128 * n : Nat) : Int) := by
 have hb := I8_bd b
 rw [Int.tmod_eq_emod_of_nonneg hb.1, I8_eq, show ((b.toNat : Int) % 128) = ((b.toNat % 128 : Nat) : Int) by omega, qBM, qBM, qBU, UInt64.toNat_or, UInt64.toNat_shiftLeft]
 have e1 : (UInt64.ofNat n).toNat = n := by rw [UInt64.toNat_ofNat']; omega
 have e2 : (UInt64.ofNat (b.toNat % 128)).toNat = b.toNat % 128 := by rw [UInt64.toNat_ofNat']; omega
 rw [e1, e2]
 have e3 : ((7 : UInt64).toNat % 64) = 7 := rfl
 rw [e3, Nat.mod_eq_of_lt (by rw [Nat.shiftLeft_eq]; omega), ← Nat.shiftLeft_add_eq_or_of_lt yF, Nat.shiftLeft_eq]
 omega
theorem qBG (n : Nat) (h : n < 18446744073709551616) : I64 (w64 (n : Int)) = (n : Int) := by
 rw [qBM, qBU, UInt64.toNat_ofNat']; omega
theorem SeesB.of_own {w : World} {v : Value} {n : Nat} {l : List UInt8} (h : (Chunk.sl 1 v n (bs l)).ok w) (hn : n = l.length) : SeesB w v l := by
 subst hn; exact Own.sees h
end TL
end Go

namespace Go.Proofs.YtidadhbaomieiaaGreat
open Go.RowKit Go.TL
theorem number_c (s : List UInt8) (w : World) (hs : s.length ≤ 1000000000) :
  Calls Tryz.prog 97 #[.string (mkS s)] w fun e w' => e = .returned (.tuple #[.int .u64 (readN s maxU).1, .int .i64 (readN s maxU).2.1, .int .i64 (readN s maxU).2.2]) ∧ w = w' := by
 obtain ⟨R, eR⟩ : ∃ R, R = readN s maxU := ⟨_, rfl⟩
 rw [← eR]
 have ER := Lib.hid eR; clear eR
 obtain ⟨L, eL⟩ : ∃ L, L = lead s := ⟨_, rfl⟩
 have hle : L ≤ s.length := by rw [eL]; exact lead_le s
 have EL := Lib.hid eL; clear eL
 go_enter Tryz.func97, Tryz.ntmps97
 go_wp2_with fail
 go_loop [3] (fun n => ∃ k : Nat, k ≤ L ∧ k ≤ 10 ∧ n = .int .i64 k) (fun n => s.length - (intOf n).toNat)
 case atStart => exact ⟨0, by omega, by omega, rfl⟩
 case round =>
  obtain ⟨k, hk, hk10, rfl⟩ := hrel
  by_cases hlt : k < L ∧ k < 10
  ·obtain ⟨h1, h2⟩ := hlt
   have hb : 128 ≤ I8 (bt s k) := lead_geI (by rw [← EL.out]; exact h1)
   have hm : (k : Int) < min (s.length : Int) 10 := by omega
   go_wp2_with fail
   go_round
   case rel => exact ⟨k + 1, by omega, by omega, by go_num⟩
   case measure => simp [intOf]; omega
  ·by_cases h10 : k = 10
   ·subst h10
    have e : R = (0, 0, 8) := by rw [ER.out]; exact qCQ s (by rw [← EL.out]; omega) _
    subst e
    go_wp2_with fail
    go_ret3
    exact ⟨rfl, rfl⟩
   ·have ek : L = k := by omega
    subst ek
    have h9 : L ≤ 9 := by omega
    by_cases hlen : L = s.length
    ·have e : R = (0, 0, 7) := by rw [ER.out]; exact qCA s (by rw [← EL.out]; omega) (by rw [← EL.out]; omega) _
     subst e
     have hm : ((L : Int) < min (s.length : Int) 10) = False := by simp; omega
     have hne : ((L : Int) == 10) = false := by simp; omega
     have heq : ((L : Int) == (s.length : Int)) = true := by simp; omega
     go_wp2_with fail
     go_ret3
     exact ⟨rfl, rfl⟩
    ·have hlt' : L < s.length := by omega
     have hb : I8 (bt s L) < 128 := by
      have h2 : lead s < s.length := by rw [← EL.out]; exact hlt'
      have h1 := lead_lastI h2
      rwa [← EL.out] at h1
     have hm : (L : Int) < min (s.length : Int) 10 := by omega
     have hne : ((L : Int) == 10) = false := by simp; omega
     have heq : ((L : Int) == (s.length : Int)) = false := by simp; omega
     by_cases ht : L = 9 ∧ 1 < (bt s 9).toNat
     ·obtain ⟨rfl, ht⟩ := ht
      have e : R = (0, 0, 8) := by rw [ER.out]; exact qCz s EL.out.symm (by rw [← EL.out]; omega) ht _
      subst e
      have hb2 : 1 < I8 (bt s 9) := by rw [I8_eq]; omega
      go_wp2_with fail
      go_ret3
      exact ⟨rfl, rfl⟩
     ·have hb2 : L = 9 → I8 (bt s L) ≤ 1 := fun h => by subst h; rw [I8_eq]; omega
      have HB2 := Lib.hid hb2; clear hb2
      clear ht hlt h10 hlen hk hk10
      by_cases hn9 : L = 9
      have hq : ((L : Int) == 9) = true := by simp; omega
      have hb3 := HB2.out hn9
      replace hn9 := Lib.hid hn9
      go_wp2_with fail
      clear hq hb3
      rotate_left
      have hq : ((L : Int) == 9) = false := by simp; omega
      replace hn9 := Lib.hid hn9
      go_wp2_with fail
      clear hq
      rotate_left
      all_goals
       clear hm hne heq hn9
       obtain ⟨T, eT⟩ : ∃ T, T = s.take (L + 1) := ⟨_, rfl⟩
       have lT : T.length = L + 1 := by rw [eT]; simp; omega
       have h2 : lead s < s.length := by rw [← EL.out]; exact hlt'
       have h4 : lead s = 9 → (s.getD 9 0).toNat ≤ 1 := fun h => by
        have h := HB2.out (EL.out.trans h)
        rw [I8_bt, EL.out, ‹lead s = 9›] at h
        omega
       have DR : Hid (∀ j, numV (T.drop j) = if j ≤ L then (bt s j).toNat % 128 + 128 * numV (T.drop (j + 1)) else 0) := Lib.hid fun j => by
        by_cases hj : j ≤ L
        ·have := qFc T j yF
         rw [if_pos hj, this, eT]; simp only [bt, List.getD_eq_getElem?_getD, List.getElem?_take]; rw [if_pos yF]
        ·rw [if_neg hj, List.drop_of_length_le yF]; rfl
       have LT : Hid (∀ j, numV (T.drop (j + 1)) < 144115188075855872) := Lib.hid fun j => by
        rw [eT, EL.out]; exact numV_drop_lt s h2 (by rw [← EL.out]; exact h9) h4 (j + 1) yF
       have RS := Lib.hid (qGL s (by rw [← EL.out]; exact h9) h2 h4)
       rw [← ER.out, ← EL.out, ← eT] at RS
       have VT := qFa h2 (by rw [← EL.out]; exact h9) h4
       rw [← EL.out, ← eT] at VT
       have lT := Lib.hid lT
       clear eT h2 h4
       go_loop [2, 5] (fun nv iv => ∃ j : Nat, j ≤ L + 1 ∧ iv = .int .i64 ((j : Int) - 1) ∧ nv = .int .u64 (numV (T.drop j))) (fun _ iv => (intOf iv + 1).toNat)
       case atStart => exact ⟨L + 1, by omega, by go_num, by rw [List.drop_of_length_le (by have := lT.out; omega)]; rfl⟩
       case round =>
        obtain ⟨j, hj, rfl, rfl⟩ := hrel
        cases j with
        | zero =>
         rw [List.drop_zero]
         obtain ⟨V, eV⟩ : ∃ V, V = numV T := ⟨_, rfl⟩
         rw [← eV] at RS VT ⊢
         obtain ⟨z, ez⟩ : ∃ z, z = (numL V).length := ⟨_, rfl⟩
         have SZ := Lib.hid (size_c V w VT)
         rw [← ez] at RS SZ
         clear eV ez
         by_cases hz : z = L + 1
         ·have e := RS.out
          rw [if_pos hz] at e
          have hzz : ((z : Int) == (L : Int) + 1) = true := by simp; omega
          have hzz' : ((z : Int) != (L : Int) + 1) = false := by simp; omega
          subst e
          go_wp2_with ((go_at_call 137; (refine (SZ.out).mono ?_; rintro e w1 ⟨rfl, rfl⟩)))
          go_ret3
          exact ⟨by congr, rfl⟩
         ·have e := RS.out
          rw [if_neg hz] at e
          have hzz : ((z : Int) == (L : Int) + 1) = false := by simp; omega
          have hzz' : ((z : Int) != (L : Int) + 1) = true := by simp; omega
          subst e
          go_wp2_with ((go_at_call 137; (refine (SZ.out).mono ?_; rintro e w1 ⟨rfl, rfl⟩)))
          go_ret3
          exact ⟨rfl, rfl⟩
        | succ j =>
         have l57 := LT.out j
         have hjL : j ≤ L := by omega
         have e : I64 (w64 ((numV (T.drop (j + 1)) : Nat) : Int) <<< 7 ||| w64 ((I8 (bt s j)).tmod 128)) = ((numV (T.drop j) : Nat) : Int) := by
          rw [shl_or _ _ l57, DR.out j, if_pos hjL]
         obtain ⟨X, eX⟩ : ∃ X, X = numV (T.drop (j + 1)) := ⟨_, rfl⟩
         rw [← eX] at e l57 ⊢
         have E := Lib.hid e
         clear e eX
         have hjs : j < s.length := by omega
         go_wp2_with fail
         go_round
         case rel => exact ⟨j, by omega, rfl, by rw [E.out]⟩
         case measure => simp [intOf]
end Go.Proofs.YtidadhbaomieiaaGreat

namespace Go
namespace TL
open Go.RowKit
def inV (x : InS) : List Value := [.string (mkS x.rest), .int .i64 x.read, .int .i64 x.err]
end TL
end Go
namespace Go.Proofs.YtidadhbaomieiaaGreat
open Go.RowKit Go.TL
theorem bounded_c (s : List UInt8) (m : Nat) (w : World) (hs : s.length ≤ 1000000000) (hm : m < 9223372036854775808) :
  Calls Tryz.prog 95 #[.string (mkS s), .int .i64 m] w fun e w' => e = .returned (.tuple #[.int .i64 (readN s m).1, .int .i64 (readN s m).2.1, .int .i64 (readN s m).2.2]) ∧ w = w' := by
 have hr := readN_max s m
 obtain ⟨⟨x, b, e⟩, eR⟩ : ∃ R, R = readN s maxU := ⟨_, rfl⟩
 have he := qCK s maxU
 have hlt : e = 0 → x < 18446744073709551616 := fun h => (qFX (eR.symm.trans (by rw [h]))).2.2.2
 have hle := qCh eR.symm
 have N := number_c s w hs
 rw [← eR] at hr he N
 rw [hr]
 simp only at N he ⊢
 clear eR hr
 have N := Lib.hid N
 have HE := Lib.hid he
 have HI := Lib.hid (qBG m yF)
 clear he
 by_cases h0 : e = 0
 ·subst h0
  replace hlt := hlt rfl
  by_cases hx : m < x
  ·rw [if_pos ⟨rfl, hx⟩]
   go_enter Tryz.func95, Tryz.ntmps95
   go_wp2_with ((go_at_call 97; (refine (N.out).mono ?_; rintro e w1 ⟨rfl, rfl⟩)))
   all_goals (first | (exfalso; have := HI.out; omega) | (go_ret3; exact ⟨rfl, rfl⟩))
  ·rw [if_neg (fun h => hx h.2)]
   go_enter Tryz.func95, Tryz.ntmps95
   go_wp2_with ((go_at_call 97; (refine (N.out).mono ?_; rintro e w1 ⟨rfl, rfl⟩)))
   all_goals (first | (exfalso; have := HI.out; omega) | (go_ret3; exact ⟨rfl, rfl⟩))
 ·rw [if_neg (fun h => h0 h.1)]
  have h0' : ((e : Int) == 0) = false := by simp; omega
  have h0'' : ((e : Int) != 0) = true := by simp; omega
  obtain ⟨rfl, rfl⟩ : x = 0 ∧ b = 0 := by
   have := HE.out; simp at this; omega
  go_enter Tryz.func95, Tryz.ntmps95
  go_wp2_with ((go_at_call 97; (refine (N.out).mono ?_; rintro e w1 ⟨rfl, rfl⟩)))
  go_ret3
  exact ⟨rfl, rfl⟩
section
variable (g : Nat) (x : InS) (w : World) (h : (Chunk.row g (inV x)).ok w)
include h
theorem qBi (he : x.err = 0) : Calls Tryz.prog 94 #[.pointer (some ⟨g, 0, none⟩)] w fun e w' => e = .returned (.bool true) ∧ w = w' := by
 obtain ⟨rest, read, err⟩ := x
 simp only at he; subst he
 have M := Mem.start1 (c := .row g [.string (mkS rest), .int .i64 (read : Nat), .int .i64 (0 : Nat)]) h
 go_enter Tryz.func94, Tryz.ntmps94
 go_wp2_with ((first | ((with_reducible refine tM rfl ?_); refine mB ?_; try (clear M; (first | intro g w1 M | intro w1 M); try simp only [setC] at M)) | ((with_reducible refine tGuard ?_); refine gdC ?_ ?_ <;> (intro hgd; rw [hgd]; try (exfalso; simp at hgd; omega)))) <;> (try conv => arg 5; simp only [apS, setC]))
 go_ret
 exact ⟨rfl, rfl⟩
theorem qDy (he : x.err ≠ 0) : Calls Tryz.prog 94 #[.pointer (some ⟨g, 0, none⟩)] w fun e w' => e = .returned (.bool false) ∧ w = w' := by
 obtain ⟨rest, read, err⟩ := x
 have M := Mem.start1 (c := .row g [.string (mkS rest), .int .i64 (read : Nat), .int .i64 (err : Nat)]) h
 have hz : ((err : Int) == 0) = false := by simp at he ⊢; exact he
 go_enter Tryz.func94, Tryz.ntmps94
 go_wp2_with ((first | ((with_reducible refine tM rfl ?_); refine mB ?_; try (clear M; (first | intro g w1 M | intro w1 M); try simp only [setC] at M)) | ((with_reducible refine tGuard ?_); refine gdC ?_ ?_ <;> (intro hgd; rw [hgd]; try (exfalso; simp at hgd; omega)))) <;> (try conv => arg 5; simp only [apS, setC]))
 go_ret
 exact ⟨rfl, rfl⟩
theorem qEr (hf : x.fit) (k : Nat) (hk : k ≤ x.rest.length) (a b : Int) (ha : a = (k : Int)) (hb : b = 0) :
  Calls Tryz.prog 96 #[.pointer (some ⟨g, 0, none⟩), .int .i64 a, .int .i64 b] w fun e w' => e = .returned (.bool true) ∧ Upd w (.row g (inV x)) w' (.row g (inV (x.take k 0))) := by
 subst ha; subst hb
 obtain ⟨rest, read, err⟩ := x
 unfold InS.fit at hf
 simp only at hk hf
 have M := Mem.start1 (c := .row g [.string (mkS rest), .int .i64 (read : Nat), .int .i64 (err : Nat)]) h
 go_enter Tryz.func96, Tryz.ntmps96
 go_wp2_with ((first | ((with_reducible refine tM rfl ?_); refine mB ?_; try (clear M; (first | intro g w1 M | intro w1 M); try simp only [setC] at M)) | ((with_reducible refine tGuard ?_); refine gdC ?_ ?_ <;> (intro hgd; rw [hgd]; try (exfalso; simp at hgd; omega)))) <;> (try conv => arg 5; simp only [apS, setC]))
 go_ret
 refine ⟨rfl, ?_⟩
 rw [show inV (InS.take ⟨rest, read, err⟩ k 0) = [.string (mkS (rest.drop k)), .int .i64 ((read : Int) + k), .int .i64 0] by simp [inV, InS.take]]
 exact M.upd1 0 rfl
theorem qEs (k : Nat) (er : Nat) (hn : er ≠ 0) (a b : Int) (hb : b = (er : Int)) :
  Calls Tryz.prog 96 #[.pointer (some ⟨g, 0, none⟩), .int .i64 a, .int .i64 b] w fun e w' => e = .returned (.bool false) ∧ Upd w (.row g (inV x)) w' (.row g (inV (x.take k er))) := by
 subst hb
 obtain ⟨rest, read, err⟩ := x
 have M := Mem.start1 (c := .row g [.string (mkS rest), .int .i64 (read : Nat), .int .i64 (err : Nat)]) h
 have hz : ((er : Int) == 0) = false := by simp; exact hn
 go_enter Tryz.func96, Tryz.ntmps96
 go_wp2_with ((first | ((with_reducible refine tM rfl ?_); refine mB ?_; try (clear M; (first | intro g w1 M | intro w1 M); try simp only [setC] at M)) | ((with_reducible refine tGuard ?_); refine gdC ?_ ?_ <;> (intro hgd; rw [hgd]; try (exfalso; simp at hgd; omega)))) <;> (try conv => arg 5; simp only [apS, setC]))
 go_ret
 refine ⟨rfl, ?_⟩
 rw [show inV (InS.take ⟨rest, read, err⟩ k er) = [.string (mkS rest), .int .i64 read, .int .i64 er] by simp [inV, InS.take, hn]]
 exact M.upd1 0 rfl
theorem Left_c (hf : x.fit) : Calls Tryz.prog 98 #[.pointer (some ⟨g, 0, none⟩)] w fun e w' => e = .returned (.int .i64 x.rest.length) ∧ w = w' := by
 obtain ⟨rest, read, err⟩ := x
 have M := Mem.start1 (c := .row g [.string (mkS rest), .int .i64 (read : Nat), .int .i64 (err : Nat)]) h
 go_enter Tryz.func98, Tryz.ntmps98
 go_wp2_with ((first | ((with_reducible refine tM rfl ?_); refine mB ?_; try (clear M; (first | intro g w1 M | intro w1 M); try simp only [setC] at M)) | ((with_reducible refine tGuard ?_); refine gdC ?_ ?_ <;> (intro hgd; rw [hgd]; try (exfalso; simp at hgd; omega)))) <;> (try conv => arg 5; simp only [apS, setC]))
 go_ret
 exact ⟨rfl, rfl⟩
theorem qFy (hf : x.fit) (m : Nat) (a : Int) (ha : a = (m : Int)) (hm : m < 9223372036854775808) :
  Calls Tryz.prog 58 #[.pointer (some ⟨g, 0, none⟩), .int .i64 a] w fun e w' => e = .returned (.int .i64 (x.most m).1) ∧ Upd w (.row g (inV x)) w' (.row g (inV (x.most m).2)) := by
 subst ha
 have M := Mem.start1 h
 have hl : x.rest.length ≤ 1000000000 := by unfold InS.fit at hf; omega
 by_cases h0 : x.err = 0
 ·have e1 : x.most m = ((readN x.rest m).1, x.take (readN x.rest m).2.1 (readN x.rest m).2.2) := by unfold InS.most; rw [if_pos h0]
  rw [e1]; clear e1
  obtain ⟨⟨n, b, er⟩, eR⟩ : ∃ R, R = readN x.rest m := ⟨_, rfl⟩
  have hb := (qCh eR.symm).1
  have hz := qCK x.rest m
  have B := bounded_c x.rest m w hl hm
  rw [← eR] at B hz ⊢
  have B := Lib.hid B
  have HZ := Lib.hid hz
  clear eR hz
  simp only
  have H0 := Lib.hid h0
  clear h0
  by_cases he : er = 0
  ·subst he
   go_enter Tryz.func58, Tryz.ntmps58
   go_wp2_with ((first | (go_at_call 94; (refine (qBi g x _ h H0.out).mono ?_; rintro e w1 ⟨rfl, rfl⟩)) | (go_at_call 95; (refine (B.out).mono ?_; rintro e w1 ⟨rfl, rfl⟩)) | (go_at_call 96; (refine (qEr g x _ (M.ok 0 _ rfl) hf b hb _ _ rfl rfl).mono ?_; rintro e w1 ⟨rfl, U⟩; replace M := M.upd 0 rfl U; clear U)) | ((with_reducible refine tM rfl ?_); refine mB ?_; try (clear M; (first | intro g w1 M | intro w1 M); try simp only [setC] at M)) | ((with_reducible refine tGuard ?_); refine gdC ?_ ?_ <;> (intro hgd; rw [hgd]; try (exfalso; simp at hgd; omega)))) <;> (try conv => arg 5; simp only [apS, setC]))
   go_ret
   exact ⟨rfl, M.upd1 0 rfl⟩
  ·obtain ⟨rfl, rfl⟩ : n = 0 ∧ b = 0 := by
    have := HZ.out; simp at this; omega
   go_enter Tryz.func58, Tryz.ntmps58
   go_wp2_with ((first | (go_at_call 94; (refine (qBi g x _ h H0.out).mono ?_; rintro e w1 ⟨rfl, rfl⟩)) | (go_at_call 95; (refine (B.out).mono ?_; rintro e w1 ⟨rfl, rfl⟩)) | (go_at_call 96; (refine (qEs g x _ (M.ok 0 _ rfl) 0 er he _ _ rfl).mono ?_; rintro e w1 ⟨rfl, U⟩; replace M := M.upd 0 rfl U; clear U)) | ((with_reducible refine tM rfl ?_); refine mB ?_; try (clear M; (first | intro g w1 M | intro w1 M); try simp only [setC] at M)) | ((with_reducible refine tGuard ?_); refine gdC ?_ ?_ <;> (intro hgd; rw [hgd]; try (exfalso; simp at hgd; omega)))) <;> (try conv => arg 5; simp only [apS, setC]))
   go_ret
   exact ⟨rfl, M.upd1 0 rfl⟩
 ·have e1 : x.most m = (0, x) := by unfold InS.most; rw [if_neg h0]
  rw [e1]; clear e1
  have H0 := Lib.hid h0
  clear h0
  go_enter Tryz.func58, Tryz.ntmps58
  go_wp2_with (first | (go_at_call 94; (refine (qDy g x _ h H0.out).mono ?_; rintro e w1 ⟨rfl, rfl⟩)))
  go_ret
  exact ⟨rfl, M.upd1 0 rfl⟩
end
end Go.Proofs.YtidadhbaomieiaaGreat

namespace Go.Proofs.YtidadhbaomieiaaGreat
open Go.RowKit Go.TL
section
variable (g : Nat) (x : InS) (w : World) (h : (Chunk.row g (inV x)).ok w)
include h
theorem qCY (hf : x.fit) (m : Nat) (a : Int) (ha : a = (m : Int)) (hm : m < 1000000000) :
  Calls Tryz.prog 60 #[.pointer (some ⟨g, 0, none⟩), .int .i64 a] w fun e w' => e = .returned (.string (mkS (x.text m).1)) ∧ Upd w (.row g (inV x)) w' (.row g (inV (x.text m).2)) := by
 subst ha
 have M := Mem.start1 h
 have hl : x.rest.length ≤ 1000000000 := by unfold InS.fit at hf; omega
 by_cases h0 : x.err = 0
 ·have e1 : x.text m = if (readN x.rest m).2.2 = 0 then if (readN x.rest m).1 ≤ x.rest.length - (readN x.rest m).2.1 then ((x.rest.drop (readN x.rest m).2.1).take (readN x.rest m).1, x.take ((readN x.rest m).2.1 + (readN x.rest m).1) 0) else ([], x.take 0 7) else ([], x.take 0 (readN x.rest m).2.2) := by unfold InS.text; rw [if_pos h0]
  rw [e1]; clear e1
  obtain ⟨⟨n, b, er⟩, eR⟩ : ∃ R, R = readN x.rest m := ⟨_, rfl⟩
  have hb := qCh eR.symm
  have hz := qCK x.rest m
  have B := bounded_c x.rest m w hl yF
  rw [← eR] at B hz ⊢
  have B := Lib.hid B
  have HZ := Lib.hid hz
  clear eR hz
  simp only
  have H0 := Lib.hid h0
  clear h0
  obtain ⟨hb1, hb2, hb3⟩ := hb
  by_cases he : er = 0
  ·subst he
   rw [if_pos rfl]
   by_cases hn : n ≤ x.rest.length - b
   ·rw [if_pos hn]
    have e2 : (x.rest.drop b).take n = (x.rest.take (b + n)).drop b := by rw [List.drop_take]; congr; omega
    simp only
    rw [e2]; clear e2
    have hn' : (n : Int) ≤ (x.rest.length : Int) - b := by omega
    go_enter Tryz.func60, Tryz.ntmps60
    go_wp2_with ((first | (go_at_call 94; (refine (qBi g x _ h H0.out).mono ?_; rintro e w1 ⟨rfl, rfl⟩)) | (go_at_call 95; (refine (B.out).mono ?_; rintro e w1 ⟨rfl, rfl⟩)) | (go_at_call 96; (refine (qEr g x _ (M.ok 0 _ rfl) hf (b + n) yF _ _ yB1 rfl).mono ?_; rintro e w1 ⟨rfl, U⟩; replace M := M.upd 0 rfl U; clear U)) | ((with_reducible refine tM rfl ?_); refine mB ?_; try (clear M; (first | intro g w1 M | intro w1 M); try simp only [setC] at M)) | ((with_reducible refine tGuard ?_); refine gdC ?_ ?_ <;> (intro hgd; rw [hgd]; try (exfalso; simp at hgd; omega)))) <;> (try conv => arg 5; simp only [apS, setC]))
    go_ret
    exact ⟨rfl, M.upd1 0 rfl⟩
   ·rw [if_neg hn]
    have hn' : (x.rest.length : Int) - b < (n : Int) := by omega
    go_enter Tryz.func60, Tryz.ntmps60
    go_wp2_with ((first | (go_at_call 94; (refine (qBi g x _ h H0.out).mono ?_; rintro e w1 ⟨rfl, rfl⟩)) | (go_at_call 95; (refine (B.out).mono ?_; rintro e w1 ⟨rfl, rfl⟩)) | (go_at_call 96; (refine (qEs g x _ (M.ok 0 _ rfl) 0 7 yN _ _ rfl).mono ?_; rintro e w1 ⟨rfl, U⟩; replace M := M.upd 0 rfl U; clear U)) | ((with_reducible refine tM rfl ?_); refine mB ?_; try (clear M; (first | intro g w1 M | intro w1 M); try simp only [setC] at M)) | ((with_reducible refine tGuard ?_); refine gdC ?_ ?_ <;> (intro hgd; rw [hgd]; try (exfalso; simp at hgd; omega)))) <;> (try conv => arg 5; simp only [apS, setC]))
    go_ret
    exact ⟨rfl, M.upd1 0 rfl⟩
  ·obtain ⟨rfl, rfl⟩ : n = 0 ∧ b = 0 := by
    have := HZ.out; simp at this; omega
   rw [if_neg he]
   have hz0 : ((er : Int) == 0) = false := by simp; exact he
   go_enter Tryz.func60, Tryz.ntmps60
   go_wp2_with ((first | (go_at_call 94; (refine (qBi g x _ h H0.out).mono ?_; rintro e w1 ⟨rfl, rfl⟩)) | (go_at_call 95; (refine (B.out).mono ?_; rintro e w1 ⟨rfl, rfl⟩)) | (go_at_call 96; (refine (qEs g x _ (M.ok 0 _ rfl) 0 er he _ _ rfl).mono ?_; rintro e w1 ⟨rfl, U⟩; replace M := M.upd 0 rfl U; clear U)) | ((with_reducible refine tM rfl ?_); refine mB ?_; try (clear M; (first | intro g w1 M | intro w1 M); try simp only [setC] at M)) | ((with_reducible refine tGuard ?_); refine gdC ?_ ?_ <;> (intro hgd; rw [hgd]; try (exfalso; simp at hgd; omega)))) <;> (try conv => arg 5; simp only [apS, setC]))
   go_ret
   exact ⟨rfl, M.upd1 0 rfl⟩
 ·have e1 : x.text m = ([], x) := by unfold InS.text; rw [if_neg h0]
  rw [e1]; clear e1
  have H0 := Lib.hid h0
  clear h0
  go_enter Tryz.func60, Tryz.ntmps60
  go_wp2_with (first | (go_at_call 94; (refine (qDy g x _ h H0.out).mono ?_; rintro e w1 ⟨rfl, rfl⟩)))
  go_ret
  exact ⟨rfl, M.upd1 0 rfl⟩
theorem qBj (he : x.err = 0) :
  Calls Tryz.prog 92 #[.pointer (some ⟨g, 0, none⟩)] w fun e w' => e = .returned (.tuple #[.int .i64 0, .int .i64 0]) ∧ w = w' := by
 have M := Mem.start1 h
 have H0 := Lib.hid he
 clear he
 go_enter Tryz.func92, Tryz.ntmps92
 go_wp2_with (first | (go_at_call 94; (refine (qBi g x _ h H0.out).mono ?_; rintro e w1 ⟨rfl, rfl⟩)))
 go_ret2
 exact ⟨rfl, rfl⟩
theorem qEQ (he : x.err ≠ 0) :
  Calls Tryz.prog 92 #[.pointer (some ⟨g, 0, none⟩)] w fun e w' => e = .returned (.tuple #[.int .i64 x.err, .int .i64 x.read]) ∧ Below w.heap.size w w' := by
 have M := Mem.start1 h
 have H0 := Lib.hid he
 clear he
 go_enter Tryz.func92, Tryz.ntmps92
 go_wp2_with ((first | (go_at_call 94; (refine (qDy g x _ h H0.out).mono ?_; rintro e w1 ⟨rfl, rfl⟩)) | ((with_reducible show Code.wp _ (Code.region 3 _ _) _ _ _); (refine qAF [(0, false), (1, false), (2, false), (4, false), (5, false), (6, false), (3, false), (8, false), (7, false), (9, false)] [(10, .ptr), (14, .ptr)] yD yD rfl yD ?_; replace M := M.drew; simp only [reord, opAt, List.map_cons, List.map_nil, gE])) | ((with_reducible refine tM rfl ?_); refine mB ?_; try (clear M; (first | intro g w1 M | intro w1 M); try simp only [setC] at M)) | ((with_reducible first | show Seg _ _ _ _ | show OnlyN _ _ _ _ _); refine rA ?_) | ((with_reducible refine tGuard ?_); refine gdC ?_ ?_ <;> (intro hgd; rw [hgd]; try (exfalso; simp at hgd; omega)))) <;> (try conv => arg 5; simp only [apS, setC]))
 go_ret2
 exact ⟨rfl, (Kept.refl [] w).drew.below⟩
theorem End_c (hf : x.fit) :
  Calls Tryz.prog 62 #[.pointer (some ⟨g, 0, none⟩)] w fun e w' => e = .returned (.int .i64 x.fin) ∧ Below w.heap.size w w' := by
 have M := (Mem.start [] w)
 have H := Lib.hid h
 by_cases he : x.err = 0
 ·have H0 := Lib.hid he
  by_cases hl : x.rest.length = 0
  ·have e : x.fin = 0 := by unfold InS.fin; rw [if_pos he, if_pos hl]
   have hl' : ¬ (0 : Int) < (x.rest.length : Int) := by omega
   rw [e]; clear e hl he
   go_enter Tryz.func62, Tryz.ntmps62
   go_wp2_with (first | (go_at_call 92; (refine (qBj g x _ H.out H0.out).mono ?_; rintro e w1 ⟨rfl, rfl⟩)) | (go_at_call 98; (refine (Left_c g x _ H.out hf).mono ?_; rintro e w1 ⟨rfl, rfl⟩)))
   go_ret
   exact ⟨rfl, M.below⟩
  ·have e : x.fin = 8 := by unfold InS.fin; rw [if_pos he, if_neg hl]
   have hl' : (0 : Int) < (x.rest.length : Int) := by omega
   rw [e]; clear e hl he
   go_enter Tryz.func62, Tryz.ntmps62
   go_wp2_with (first | (go_at_call 92; (refine (qBj g x _ H.out H0.out).mono ?_; rintro e w1 ⟨rfl, rfl⟩)) | (go_at_call 98; (refine (Left_c g x _ H.out hf).mono ?_; rintro e w1 ⟨rfl, rfl⟩)))
   go_ret
   exact ⟨rfl, M.below⟩
 ·have H0 := Lib.hid he
  have e : x.fin = x.err := by unfold InS.fin; rw [if_neg he]
  have hz0 : ((x.err : Int) == 0) = false := by simp; exact he
  rw [e]; clear e he
  go_enter Tryz.func62, Tryz.ntmps62
  go_wp2_with (first | (go_at_call 92; (refine (qEQ g x _ H.out H0.out).mono ?_; rintro e w1 ⟨rfl, hb⟩; replace M := M.call hb; clear hb)))
  go_ret
  exact ⟨rfl, M.below⟩
end
theorem qEC (s : List UInt8) (w : World) :
  Calls Tryz.prog 57 #[.string (mkS s)] w fun e w' => ∃ g, e = .returned (.pointer (some ⟨g, 0, none⟩)) ∧ Mem [] w w' [.row g (inV ⟨s, 0, 0⟩)] := by
 have M := Mem.start [] w
 go_enter Tryz.func57, Tryz.ntmps57
 go_wp2_with ((first | ((with_reducible refine tBox (some 5) ?_); refine w_box M _ _ rfl rfl _ rfl (inV ⟨s, 0, 0⟩) rfl ?_; clear M; intro g w1 M)) <;> (try conv => arg 5; simp only [apS, setC]))
 go_ret
 exact ⟨g, rfl, M⟩
end Go.Proofs.YtidadhbaomieiaaGreat

namespace Go
namespace TL
open Go.RowKit
theorem Mem.split {F : List Nat} {w0 w : World} {a b c : Chunk} {L : List Chunk} (M : Mem F w0 w (c :: L)) (ha : a.ok w) (hb : b.ok w) (fa : ∀ k ∈ a.fp, k ∈ c.fp) (fb : ∀ k ∈ b.fp, k ∈ c.fp) (hd : ∀ k ∈ a.fp, k ∉ b.fp) : Mem F w0 w (a :: b :: L) := by
 have own0 := M.own 0 c rfl
 have nd0 : ∀ (j : Nat) (d : Chunk), L[j]? = some d → ∀ k ∈ c.fp, k ∉ d.fp := fun j d hj => M.nd 0 (j + 1) c d yF rfl (by simpa using hj)
 refine ⟨M.kept, ?_, ?_, ?_⟩
 ·rintro (_ | _ | i) d hd'
  ·simp at hd'; subst hd'; exact ha
  ·simp at hd'; subst hd'; exact hb
  ·exact M.ok (i + 1) d (by simpa using hd')
 ·rintro (_ | _ | i) d hd' k hk
  ·simp at hd'; subst hd'; exact own0 k (fa k hk)
  ·simp at hd'; subst hd'; exact own0 k (fb k hk)
  ·exact M.own (i + 1) d (by simpa using hd') k hk
 ·rintro (_ | _ | i) (_ | _ | j) x y hij hx hy k hk hk2
  ·exact hij rfl
  ·simp at hx hy; subst hx; subst hy; exact hd k hk hk2
  ·simp at hx; subst hx; exact nd0 j y (by simpa using hy) k (fa k hk) hk2
  ·simp at hx hy; subst hx; subst hy; exact hd k hk2 hk
  ·exact hij rfl
  ·simp at hx; subst hx; exact nd0 j y (by simpa using hy) k (fb k hk) hk2
  ·simp at hy; subst hy; exact nd0 i x (by simpa using hx) k (fa k hk2) hk
  ·simp at hy; subst hy; exact nd0 i x (by simpa using hx) k (fb k hk2) hk
  ·exact M.nd (i + 1) (j + 1) x y yF (by simpa using hx) (by simpa using hy) k hk hk2
theorem Mem.fuse {F : List Nat} {w0 w : World} {a b c : Chunk} {L : List Chunk} (M : Mem F w0 w (a :: b :: L)) (hc : c.ok w) (hf : ∀ k ∈ c.fp, k ∈ a.fp ∨ k ∈ b.fp) : Mem F w0 w (c :: L) := by
 have nd0 : ∀ (j : Nat) (d : Chunk), L[j]? = some d → ∀ k ∈ c.fp, k ∉ d.fp := fun j d hj k hk => by
  rcases hf k hk with h | h
  ·exact M.nd 0 (j + 2) a d yF rfl (by simpa using hj) k h
  ·exact M.nd 1 (j + 2) b d yF rfl (by simpa using hj) k h
 refine ⟨M.kept, ?_, ?_, ?_⟩
 ·rintro (_ | i) d hd
  ·simp at hd; subst hd; exact hc
  ·exact M.ok (i + 2) d (by simpa using hd)
 ·rintro (_ | i) d hd k hk
  ·simp at hd; subst hd
   rcases hf k hk with h | h
   ·exact M.own 0 a rfl k h
   ·exact M.own 1 b rfl k h
  ·exact M.own (i + 2) d (by simpa using hd) k hk
 ·rintro (_ | i) (_ | j) x y hij hx hy k hk hk2
  ·exact hij rfl
  ·simp at hx; subst hx; exact nd0 j y (by simpa using hy) k hk hk2
  ·simp at hy; subst hy; exact nd0 i x (by simpa using hx) k hk2 hk
  ·exact M.nd (i + 2) (j + 2) x y yF (by simpa using hx) (by simpa using hy) k hk hk2
theorem qFS {w : World} {g : Nat} {b : UInt8} (h : (Chunk.row g (bs [b])).ok w) : SeesB w (.slice (some ⟨g, 0, none⟩) 1 1) [b] :=
 qDH h (off := 0) (n := 1) (cap := 1) yB1 yF yZ
def outC (g : Nat) (v : Value) (l : List UInt8) : Chunk :=
 .obj (g :: v.ownBlock.toList) fun w => (Chunk.row g [v]).ok w ∧ (Chunk.sl 1 v l.length (bs l)).ok w ∧ g ∉ v.ownBlock.toList
theorem outC_ok {w : World} {g : Nat} {v : Value} {l : List UInt8} (h1 : (Chunk.row g [v]).ok w) (h2 : (Chunk.sl 1 v l.length (bs l)).ok w) (h3 : g ∉ v.ownBlock.toList) : (outC g v l).ok w := by
 refine ⟨fun k hk => ?_, ⟨h1, h2, h3⟩, fun w' hs hb => ⟨h1.stay hs fun k hk => hb k ?_, h2.stay hs fun k hk => hb k ?_, h3⟩⟩
 ·rcases List.mem_cons.1 hk with rfl | hk
  ·exact h1.lt _ yG1
  ·exact h2.lt k hk
 ·simp [Chunk.fp] at hk; subst hk; simp
 ·exact List.mem_cons_of_mem _ hk
theorem Mem.outOpen {F : List Nat} {w0 w : World} {g : Nat} {v : Value} {l : List UInt8} {L : List Chunk} (M : Mem F w0 w (outC g v l :: L)) : Mem F w0 w (.row g [v] :: .sl 1 v l.length (bs l) :: L) := by
 obtain ⟨h1, h2, h3⟩ := (M.ok 0 _ rfl).2.1
 refine M.split h1 h2 (fun k hk => ?_) (fun k hk => List.mem_cons_of_mem _ hk) (fun k hk hk2 => ?_)
 ·simp [Chunk.fp] at hk; subst hk; exact List.mem_cons_self
 ·simp [Chunk.fp] at hk; subst hk; exact h3 hk2
theorem Mem.outShut {F : List Nat} {w0 w : World} {g : Nat} {v : Value} {l : List UInt8} {L : List Chunk} (M : Mem F w0 w (.row g [v] :: .sl 1 v l.length (bs l) :: L)) : Mem F w0 w (outC g v l :: L) := by
 refine M.fuse (outC_ok (M.ok 0 _ rfl) (M.ok 1 _ rfl) fun hk => M.nd 0 1 _ _ yF rfl rfl g yG1 hk) fun k hk => ?_
 rcases List.mem_cons.1 hk with rfl | hk
 ·exact .inl yG1
 ·exact .inr hk
end TL
end Go

namespace Go.Proofs.YtidadhbaomieiaaGreat
open Go.RowKit Go.TL
theorem put_c (g : Nat) (v x : Value) (l news : List UInt8) (w : World) (h : (outC g v l).ok w) (hx : SeesB w x news) (hn : l.length + news.length ≤ 100000000) :
  Calls Tryz.prog 114 #[.pointer (some ⟨g, 0, none⟩), x] w fun e w' => e = .returned (.tuple #[]) ∧ ∃ v', Upd w (outC g v l) w' (outC g v' (l ++ news)) := by
 have hsrc : Src Tryz.prog w 1 x news.length (bs news) := qBg hx (qEL _)
 have M := (Mem.start1 h).outOpen
 go_enter Tryz.func114, Tryz.ntmps114
 go_wp2_with ((first | ((with_reducible refine tM rfl ?_); refine mB ?_; try (clear M; (first | intro g w1 M | intro w1 M); try simp only [setC] at M)) | ((with_reducible refine tGuard ?_); refine gdC ?_ ?_ <;> (intro hgd; rw [hgd]; try (exfalso; simp at hgd; omega))) | (at_builtin; (refine qCb M 1 bytesT (.tmp 10) (.tmp 11) _ rfl uB rfl rfl rfl rfl _ _ hsrc yZ yF ?_; clear M; intro p cap w1 M))) <;> (try conv => arg 5; simp only [apS, setC]))
 rw [← qBa, ← List.length_append] at M
 exact bodyPost_end (results_none rfl _ _ _) rfl ⟨rfl, _, (M.outShut).upd1 0 rfl⟩
theorem qBT (g : Nat) (v : Value) (l : List UInt8) (w : World) (h : (outC g v l).ok w) :
  Calls Tryz.prog 81 #[.pointer (some ⟨g, 0, none⟩)] w fun e w' => e = .returned (.string (mkS l)) ∧ w = w' := by
 have M := (Mem.start1 h).outOpen
 go_enter Tryz.func81, Tryz.ntmps81
 go_wp2_with ((first | ((with_reducible refine tM rfl ?_); refine mB ?_; try (clear M; (first | intro g w1 M | intro w1 M); try simp only [setC] at M)) | ((with_reducible refine tGuard ?_); refine gdC ?_ ?_ <;> (intro hgd; rw [hgd]; try (exfalso; simp at hgd; omega)))) <;> (try conv => arg 5; simp only [apS, setC]))
 go_ret
 exact ⟨rfl, rfl⟩
end Go.Proofs.YtidadhbaomieiaaGreat

namespace Go.Proofs.YtidadhbaomieiaaGreat
open Go.RowKit Go.TL
theorem Num_c (g : Nat) (v : Value) (l : List UInt8) (n : Nat) (a : Int) (ha : a = (n : Int)) (w : World) (h : n < 18446744073709551616) (hl : l.length ≤ 10000000) (ho : (outC g v l).ok w) :
  Calls Tryz.prog 113 #[.pointer (some ⟨g, 0, none⟩), .int .u64 a] w fun e w' => e = .returned (.tuple #[]) ∧ ∃ v', Upd w (outC g v l) w' (outC g v' (l ++ numL n)) := by
 subst ha
 have M := Mem.start1 ho
 have hn10 := qAG n h
 go_enter Tryz.func113, Tryz.ntmps113
 go_wp2_with (first | (go_at_call 137; (refine (size_c n _ h).mono ?_; rintro e w1 ⟨rfl, rfl⟩)))
 go_loopw [1, 4] (fun nv lv wr => ∃ (m : Nat) (d : List UInt8) (v' : Value), m < 18446744073709551616 ∧ d ++ numL m = numL n ∧ nv = .int .u64 m ∧ lv = .int .i64 (numL m).length ∧ Mem (outC g v l).fp w wr [outC g v' (l ++ d)]) (fun _ lv _ => (intOf lv).toNat)
 case atStart => exact ⟨n, [], v, h, rfl, rfl, rfl, by simpa using M⟩
 case round =>
  clear M
  obtain ⟨m, d, v', hm, hd, rfl, rfl, M⟩ := hrel
  have hdl : d.length ≤ 10 := by have := congrArg List.length hd; simp at this; omega
  by_cases h128 : m < 128
  ·have e1 := qBE h128
   rw [e1] at hd ⊢
   rw [List.length_singleton]
   go_wp2_with ((first | ((with_reducible refine tU 70 ?_); refine mU ?_; clear M; intro g w1 M) | (go_at_call 114; (refine (put_c _ _ _ _ [_] _ (M.ok 1 _ rfl) (qFS (M.ok 0 _ rfl)) yC1).mono ?_; rintro e w2 ⟨rfl, v1, U⟩; replace M := (M.upd 1 rfl U).tail; clear U))) <;> (try conv => arg 5; simp only [apS, setC]))
   simp only [List.set_cons_zero] at M
   rw [qEj, List.append_assoc, hd] at M
   exact bodyPost_end (results_none rfl _ _ _) rfl ⟨rfl, _, M.upd1 0 rfl⟩
  ·have e1 := qBY (n := m) yF
   obtain ⟨k, ek⟩ : ∃ k, k = (numL (m / 128)).length := ⟨_, rfl⟩
   have hk : 0 < k := by rw [ek]; exact numL_pos _
   have e2 : (numL m).length = k + 1 := by rw [e1, ek]; rfl
   rw [e2]
   go_wp2_with ((first | ((with_reducible refine tU 70 ?_); refine mU ?_; clear M; intro g w1 M) | (go_at_call 114; (refine (put_c _ _ _ _ [_] _ (M.ok 1 _ rfl) (qFS (M.ok 0 _ rfl)) yC1).mono ?_; rintro e w2 ⟨rfl, v1, U⟩; replace M := (M.upd 1 rfl U).tail; clear U))) <;> (try conv => arg 5; simp only [apS, setC]))
   simp only [List.set_cons_zero] at M
   have eb : w8 (m : Int) ||| 128 = UInt8.ofNat (m % 128 + 128) := by
    rw [qEj]; exact or128 m
   rw [eb, List.append_assoc] at M
   have hk10 : k ≤ 10 := by have := qAG (m / 128) yF; omega
   refine ⟨⟨m / 128, d ++ [UInt8.ofNat (m % 128 + 128)], v1, by omega, by rw [← hd, e1]; simp, by go_num, by rw [← ek, IntWalk.wrap64_in _ yF], M⟩, ?_⟩
   rw [← ek, IntWalk.wrap64_in _ yF]
   simp only [intOf]; omega
theorem qBJ (g : Nat) (v : Value) (l t : List UInt8) (w : World) (ht : t.length ≤ 1000000) (hl : l.length ≤ 1000000) (ho : (outC g v l).ok w) :
  Calls Tryz.prog 80 #[.pointer (some ⟨g, 0, none⟩), .string (mkS t)] w fun e w' => e = .returned (.tuple #[]) ∧ ∃ v', Upd w (outC g v l) w' (outC g v' (l ++ textL t)) := by
 have M := Mem.start1 ho
 have hn := qAG t.length yF
 go_enter Tryz.func80, Tryz.ntmps80
 go_wp2_with ((first | ((with_reducible refine tConv (some 11) 9 70 ?_); (refine w_bytes M _ _ _ _ rfl rfl rfl Tryz.underlying9 Tryz.underlying70 Tryz.underlying5 yW ?_; clear M; intro gb capgb w1 hcapgb M)) | (go_at_call 113; (refine (Num_c _ _ _ t.length _ (qBG _ yF) _ yF yF (M.ok 0 _ rfl)).mono ?_; rintro e w2 ⟨rfl, v1, U⟩; replace M := M.upd 0 rfl U; clear U; simp only [List.set_cons_zero] at M)) | (go_at_call 114; (refine (put_c _ _ _ _ _ _ (M.ok 1 _ rfl) (SeesB.of_own (M.ok 0 _ rfl) rfl) yC1).mono ?_; rintro e w2 ⟨rfl, v1, U⟩; replace M := (M.upd 1 rfl U).tail; clear U))) <;> (try conv => arg 5; simp only [apS, setC]))
 simp only [List.set_cons_zero, List.append_assoc] at M
 exact bodyPost_end (results_none rfl _ _ _) rfl ⟨rfl, _, M.upd1 0 rfl⟩
end Go.Proofs.YtidadhbaomieiaaGreat

namespace Go.Proofs.YtidadhbaomieiaaGreat
open Go.RowKit Go.TL
section
variable (g : Nat) (x : InS) (w : World) (h : (Chunk.row g (inV x)).ok w)
include h
theorem qEO (hf : x.fit) :
  Calls Tryz.prog 61 #[.pointer (some ⟨g, 0, none⟩)] w fun e w' => e = .returned (.int .u8 x.byte.1) ∧ Upd w (.row g (inV x)) w' (.row g (inV x.byte.2)) := by
 obtain ⟨rest, read, err⟩ := x
 have M := Mem.start1 (c := .row g [.string (mkS rest), .int .i64 (read : Nat), .int .i64 (err : Nat)]) h
 by_cases h0 : err = 0
 ·subst h0
  cases rest with
  | nil =>
   go_enter Tryz.func61, Tryz.ntmps61
   go_wp2_with ((first | (go_at_call 94; (refine (qBi g _ _ h rfl).mono ?_; rintro e w1 ⟨rfl, rfl⟩)) | ((with_reducible refine tM rfl ?_); refine mB ?_; try (clear M; (first | intro g w1 M | intro w1 M); try simp only [setC] at M))) <;> (try conv => arg 5; simp only [apS, setC]))
   go_ret
   exact ⟨rfl, M.upd1 0 rfl⟩
  | cons b r =>
   have hb : ((b.toNat : Nat) : Int) = I8 b := (I8_eq b).symm
   have e : InS.byte ⟨b :: r, read, 0⟩ = (b.toNat, InS.take ⟨b :: r, read, 0⟩ 1 0) := rfl
   rw [e]; simp only [hb]; clear e hb
   go_enter Tryz.func61, Tryz.ntmps61
   go_wp2_with ((first | (go_at_call 94; (refine (qBi g _ _ h rfl).mono ?_; rintro e w1 ⟨rfl, rfl⟩)) | (go_at_call 96; (refine (qEr g _ _ (M.ok 0 _ rfl) hf 1 yB1 _ _ rfl rfl).mono ?_; rintro e w1 ⟨rfl, U⟩; replace M := M.upd 0 rfl U; clear U)) | ((with_reducible refine tM rfl ?_); refine mB ?_; try (clear M; (first | intro g w1 M | intro w1 M); try simp only [setC] at M))) <;> (try conv => arg 5; simp only [apS, setC]))
   go_ret
   exact ⟨rfl, M.upd1 0 rfl⟩
 ·have e1 : InS.byte ⟨rest, read, err⟩ = (0, ⟨rest, read, err⟩) := by unfold InS.byte; rw [if_neg h0]
  rw [e1]; clear e1
  have H0 := Lib.hid h0
  clear h0
  go_enter Tryz.func61, Tryz.ntmps61
  go_wp2_with (first | (go_at_call 94; (refine (qDy g _ _ h H0.out).mono ?_; rintro e w1 ⟨rfl, rfl⟩)))
  go_ret
  exact ⟨rfl, M.upd1 0 rfl⟩
end
section
variable (g : Nat) (x : InS) (w : World) (h : (Chunk.row g (inV x)).ok w)
include h
theorem In_Num_c (hf : x.fit) :
  Calls Tryz.prog 59 #[.pointer (some ⟨g, 0, none⟩)] w fun e w' => e = .returned (.int .u64 (x.most maxU).1) ∧ Upd w (.row g (inV x)) w' (.row g (inV (x.most maxU).2)) := by
 have M := Mem.start1 h
 have hl : x.rest.length ≤ 1000000000 := by unfold InS.fit at hf; omega
 by_cases h0 : x.err = 0
 ·have e1 : x.most maxU = ((readN x.rest maxU).1, x.take (readN x.rest maxU).2.1 (readN x.rest maxU).2.2) := by unfold InS.most; rw [if_pos h0]
  rw [e1]; clear e1
  obtain ⟨⟨n, b, er⟩, eR⟩ : ∃ R, R = readN x.rest maxU := ⟨_, rfl⟩
  have hb := (qCh eR.symm).1
  have hz := qCK x.rest maxU
  have B := number_c x.rest w hl
  rw [← eR] at B hz ⊢
  have B := Lib.hid B
  have HZ := Lib.hid hz
  clear eR hz
  simp only
  have H0 := Lib.hid h0
  clear h0
  by_cases he : er = 0
  ·subst he
   go_enter Tryz.func59, Tryz.ntmps59
   go_wp2_with ((first | (go_at_call 94; (refine (qBi g x _ h H0.out).mono ?_; rintro e w1 ⟨rfl, rfl⟩)) | (go_at_call 97; (refine (B.out).mono ?_; rintro e w1 ⟨rfl, rfl⟩)) | (go_at_call 96; (refine (qEr g x _ (M.ok 0 _ rfl) hf b hb _ _ rfl rfl).mono ?_; rintro e w1 ⟨rfl, U⟩; replace M := M.upd 0 rfl U; clear U)) | ((with_reducible refine tM rfl ?_); refine mB ?_; try (clear M; (first | intro g w1 M | intro w1 M); try simp only [setC] at M)) | ((with_reducible refine tGuard ?_); refine gdC ?_ ?_ <;> (intro hgd; rw [hgd]; try (exfalso; simp at hgd; omega)))) <;> (try conv => arg 5; simp only [apS, setC]))
   go_ret
   exact ⟨rfl, M.upd1 0 rfl⟩
  ·obtain ⟨rfl, rfl⟩ : n = 0 ∧ b = 0 := by
    have := HZ.out; simp at this; omega
   go_enter Tryz.func59, Tryz.ntmps59
   go_wp2_with ((first | (go_at_call 94; (refine (qBi g x _ h H0.out).mono ?_; rintro e w1 ⟨rfl, rfl⟩)) | (go_at_call 97; (refine (B.out).mono ?_; rintro e w1 ⟨rfl, rfl⟩)) | (go_at_call 96; (refine (qEs g x _ (M.ok 0 _ rfl) 0 er he _ _ rfl).mono ?_; rintro e w1 ⟨rfl, U⟩; replace M := M.upd 0 rfl U; clear U)) | ((with_reducible refine tM rfl ?_); refine mB ?_; try (clear M; (first | intro g w1 M | intro w1 M); try simp only [setC] at M)) | ((with_reducible refine tGuard ?_); refine gdC ?_ ?_ <;> (intro hgd; rw [hgd]; try (exfalso; simp at hgd; omega)))) <;> (try conv => arg 5; simp only [apS, setC]))
   go_ret
   exact ⟨rfl, M.upd1 0 rfl⟩
 ·have e1 : x.most maxU = (0, x) := by unfold InS.most; rw [if_neg h0]
  rw [e1]; clear e1
  have H0 := Lib.hid h0
  clear h0
  go_enter Tryz.func59, Tryz.ntmps59
  go_wp2_with (first | (go_at_call 94; (refine (qDy g x _ h H0.out).mono ?_; rintro e w1 ⟨rfl, rfl⟩)))
  go_ret
  exact ⟨rfl, M.upd1 0 rfl⟩
end
end Go.Proofs.YtidadhbaomieiaaGreat

namespace Go
namespace TL
open Go.RowKit
def irV (x : RS) : List Value := [.string (mkS x.rest), .int .i64 x.err]
theorem or12 (n k : Nat) (b : UInt8) (hn : n < 128 ^ k) (h : n + b.toNat % 128 * 128 ^ k < 18446744073709551616) :
  I64 (w64 (n : Int) ||| w64 (I64 (w64 (I8 b % 128)) * 2 ^ (7 * k))) = ((n + b.toNat % 128 * 128 ^ k : Nat) : Int) := by
 have hb := b.toNat_lt
 rw [I8_eq, show ((b.toNat : Int) % 128) = ((b.toNat % 128 : Nat) : Int) by omega, qBG _ yF]
 have e : (128 : Nat) ^ k = 2 ^ (7 * k) := by rw [show (128 : Nat) = 2 ^ 7 from rfl, ← Nat.pow_mul]
 have e2 : (((b.toNat % 128 : Nat) : Int) * 2 ^ (7 * k)) = ((b.toNat % 128 * 2 ^ (7 * k) : Nat) : Int) := by simp
 rw [e2, qBM, qBM, qBU, UInt64.toNat_or, UInt64.toNat_ofNat', UInt64.toNat_ofNat', ← or_shl n _ k hn]
 rw [e] at h
 rw [Nat.mod_eq_of_lt yF, Nat.mod_eq_of_lt yF]
end TL
end Go
namespace Go.Proofs.YtidadhbaomieiaaGreat
open Go.RowKit Go.TL
section
variable (g : Nat) (x : RS) (w : World) (h : (Chunk.row g (irV x)).ok w)
include h
theorem qEP (m : Nat) (a : Int) (ha : a = (m : Int)) (hx : x.rest.length ≤ 1000000000) :
    Calls Tryz.prog 138 #[.pointer (some ⟨g, 0, none⟩), .int .u64 a] w fun e w' => e = .returned (.int .u64 (x.num m).1) ∧ Upd w (.row g (irV x)) w' (.row g (irV (x.num m).2)) := by
  subst ha
  obtain ⟨s, er⟩ := x
  simp only at hx
  have M := Mem.start1 (c := .row g [.string (mkS s), .int .i64 (er : Nat)]) h
  by_cases h0 : er = 0
  · subst h0
    obtain ⟨N, eN⟩ : ∃ N, N = RS.num ⟨s, 0⟩ m := ⟨_, rfl⟩
    rw [← eN]
    have EN := Lib.hid eN; clear eN
    obtain ⟨L, eL⟩ : ∃ L, L = lead s := ⟨_, rfl⟩
    have hle : L ≤ s.length := by rw [eL]; exact lead_le s
    have EL := Lib.hid eL; clear eL
    go_enter Tryz.func138, Tryz.ntmps138
    go_wp2_with ((first | ((with_reducible refine tM rfl ?_); refine mB ?_; try (clear M; (first | intro g w1 M | intro w1 M); try simp only [setC] at M)) | ((with_reducible refine tGuard ?_); refine gdC ?_ ?_ <;> (intro hgd; rw [hgd]; try (exfalso; simp at hgd; omega)))) <;> (try conv => arg 5; simp only [apS, setC]))
    go_loopw [5, 6] (fun nv iv wr => ∃ k : Nat, k ≤ L ∧ k ≤ 9 ∧ iv = .int .i64 k ∧ nv = .int .u64 (numV (s.take k)) ∧ Mem (Chunk.row g [.string (mkS s), .int .i64 ((0 : Nat) : Int)]).fp w wr [.row g [.string (mkS s), .int .i64 ((0 : Nat) : Int)]]) (fun _ iv _ => 10 - (intOf iv).toNat)
    case atStart => exact ⟨0, by omega, by omega, rfl, rfl, M⟩
    case round =>
      clear M
      obtain ⟨k, hk, hk9, rfl, rfl, M⟩ := hrel
      have hk10 : (k : Int) < 10 := by omega
      by_cases hl : k = s.length
      · have e : N = (0, ⟨s, 7⟩) := by
          rw [EN.out]; unfold RS.num
          rw [qCA s (by rw [← EL.out]; omega) (by rw [← EL.out]; omega)]; rfl
        subst e
        have hq : ((k : Int) == (s.length : Int)) = true := by simp; omega
        go_wp2_with ((first | ((with_reducible refine tM rfl ?_); refine mB ?_; try (clear M; (first | intro g w1 M | intro w1 M); try simp only [setC] at M)) | ((with_reducible refine tGuard ?_); refine gdC ?_ ?_ <;> (intro hgd; rw [hgd]; try (exfalso; simp at hgd; omega)))) <;> (try conv => arg 5; simp only [apS, setC]))
        go_ret
        exact ⟨rfl, M.upd1 0 rfl⟩
      · have hlt : k < s.length := by omega
        have hq : ((k : Int) == (s.length : Int)) = false := by simp; omega
        by_cases h9 : k = 9 ∧ 1 < (bt s k).toNat
        · obtain ⟨rfl, h9⟩ := h9
          have e : N = (0, ⟨s, 8⟩) := by
            rw [EN.out]; unfold RS.num
            have : readN s m = (0, 0, 8) := by
              by_cases hL : 10 ≤ lead s
              · exact qCQ s hL m
              · exact qCz s (by rw [← EL.out] at hL ⊢; omega) (by rw [← EL.out]; rw [← EL.out] at hL; omega) h9 m
            rw [this]; rfl
          subst e
          have hc : 1 < I8 (bt s 9) := by rw [I8_eq]; omega
          clear hk hk9
          go_wp2_with ((first | ((with_reducible refine tM rfl ?_); refine mB ?_; try (clear M; (first | intro g w1 M | intro w1 M); try simp only [setC] at M)) | ((with_reducible refine tGuard ?_); refine gdC ?_ ?_ <;> (intro hgd; rw [hgd]; try (exfalso; simp at hgd; omega)))) <;> (try conv => arg 5; simp only [apS, setC]))
          go_ret
          exact ⟨rfl, M.upd1 0 rfl⟩
        · have hk57 : numV (s.take k) + (bt s k).toNat % 128 * 128 ^ k < 18446744073709551616 := by
            have h1 := qEo s k yF
            by_cases e9 : k = 9
            · subst e9
              have : (bt s 9).toNat % 128 * 128 ^ 9 ≤ 1 * 128 ^ 9 := Nat.mul_le_mul_right _ yF
              omega
            · have h8 : 128 ^ k ≤ 128 ^ 8 := Nat.pow_le_pow_right yF yF
              have : (bt s k).toNat % 128 * 128 ^ k ≤ 127 * 128 ^ 8 := Nat.mul_le_mul yF h8
              omega
          have h0b : 0 ≤ I8 (bt s k) := (I8_bd _).1
          have eV := numV_take s k hlt
          have E := or12 (numV (s.take k)) k (bt s k) (qEo s k yF) hk57
          rw [show (bt s k).toNat = (s.getD k 0).toNat from rfl, ← eV] at E
          obtain ⟨A, eA⟩ : ∃ A, A = numV (s.take k) := ⟨_, rfl⟩
          obtain ⟨V, eV2⟩ : ∃ V, V = numV (s.take (k + 1)) := ⟨_, rfl⟩
          have hV : V < 18446744073709551616 := by rw [eV2, eV]; exact hk57
          rw [← eA, ← eV2] at E
          rw [← eA]
          have EV := Lib.hid eV2
          clear eA eV eV2 hk57
          by_cases h128 : (bt s k).toNat < 128
          · have hc : I8 (bt s k) < 128 := by rw [I8_eq]; omega
            have eL : lead s = k := lead_stop s k (by rw [← EL.out]; exact hk) h128
            have hc9 : k = 9 → (s.getD 9 0).toNat ≤ 1 := fun e => by
              subst e
              have : ¬ 1 < (bt s 9).toNat := fun h => h9 ⟨rfl, h⟩
              unfold bt at this; omega
            have HC9 : Hid (((k : Int) == 9) = true → I8 (bt s k) ≤ 1) := Lib.hid fun e => by
              have e9 : k = 9 := by have : (k : Int) = 9 := by simpa using e
                                    omega
              have := hc9 e9
              rw [I8_bt, e9]; omega
            have RZ : Hid (0 < k → (bt s k).toNat = 0 → N = (0, ⟨s, 8⟩)) := Lib.hid fun h1 h2 => by
              rw [EN.out]; unfold RS.num
              rw [qDJ s yF yF yF (by rw [eL]; exact h2)]; rfl
            have RV : Hid (¬ (0 < k ∧ (bt s k).toNat = 0) → N = if m < V then (0, ⟨s, 8⟩) else (V, ⟨s.drop (k + 1), 0⟩)) := Lib.hid fun h1 => by
              rw [EN.out]; unfold RS.num
              rw [qDz s yF yF (by rw [eL]; exact hc9) (by rw [eL]; exact h1), eL, ← EV.out]
              by_cases hmV : m < V
              · rw [if_pos hmV, if_pos hmV]; rfl
              · rw [if_neg hmV, if_neg hmV]; rfl
            clear eL hc9 h9 EN EV EL hk hle
            by_cases hq9 : ((k : Int) == 9) = true
            have hc1 := HC9.out hq9
            rotate_left
            rw [Bool.not_eq_true] at hq9
            have hc1 : I8 (bt s k) < 128 := hc
            rotate_left
            all_goals
              clear HC9
              by_cases hz : 0 < k ∧ (bt s k).toNat = 0
              · obtain ⟨hz1, hz2⟩ := hz
                have e := RZ.out hz1 hz2
                have hz3 : (I8 (bt s k) == 0) = true := by rw [I8_eq, hz2]; rfl
                have hz1' : (0 : Int) < (k : Int) := by omega
                subst e
                clear RV RZ
                go_wp2_with ((first | ((with_reducible refine tM rfl ?_); refine mB ?_; try (clear M; (first | intro g w1 M | intro w1 M); try simp only [setC] at M)) | ((with_reducible refine tGuard ?_); refine gdC ?_ ?_ <;> (intro hgd; rw [hgd]; try (exfalso; simp at hgd; omega)))) <;> (try conv => arg 5; simp only [apS, setC]))
                go_ret
                exact ⟨rfl, M.upd1 0 rfl⟩
              · have e := RV.out hz
                have hz3 : ((I8 (bt s k) == 0) && decide ((0 : Int) < (k : Int))) = false := by
                  rw [Bool.and_eq_false_iff]
                  by_cases hk0 : 0 < k
                  · left; rw [beq_eq_false_iff_ne, I8_eq]; omega
                  · right; simp; omega
                by_cases hmV : m < V
                · rw [if_pos hmV] at e
                  subst e
                  have hmV' : (m : Int) < (V : Int) := by omega
                  clear RV RZ
                  by_cases hb0 : (I8 (bt s k) == 0) = true
                  all_goals
                    go_wp2_with ((first | ((with_reducible refine tM rfl ?_); refine mB ?_; try (clear M; (first | intro g w1 M | intro w1 M); try simp only [setC] at M)) | ((with_reducible refine tGuard ?_); refine gdC ?_ ?_ <;> (intro hgd; rw [hgd]; try (exfalso; simp at hgd; omega)))) <;> (try conv => arg 5; simp only [apS, setC]))
                    all_goals
                      go_ret
                      exact ⟨rfl, M.upd1 0 rfl⟩
                · rw [if_neg hmV] at e
                  subst e
                  have hmV' : (V : Int) ≤ (m : Int) := by omega
                  clear RV RZ
                  by_cases hb0 : (I8 (bt s k) == 0) = true
                  · have hkk : decide (0 < k) = false := by
                      rw [decide_eq_false_iff_not]
                      intro hk0
                      have h1 : I8 (bt s k) = 0 := by simpa using hb0
                      rw [I8_eq] at h1
                      exact hz ⟨hk0, by omega⟩
                    clear hz3
                    go_wp2_with ((first | ((with_reducible refine tM rfl ?_); refine mB ?_; try (clear M; (first | intro g w1 M | intro w1 M); try simp only [setC] at M)) | ((with_reducible refine tGuard ?_); refine gdC ?_ ?_ <;> (intro hgd; rw [hgd]; try (exfalso; simp at hgd; omega)))) <;> (try conv => arg 5; simp only [apS, setC]))
                    go_ret
                    refine ⟨rfl, ?_⟩
                    have U := M.upd1 0 rfl
                    simpa [irV] using U
                  · rw [Bool.not_eq_true] at hb0
                    clear hz3
                    go_wp2_with ((first | ((with_reducible refine tM rfl ?_); refine mB ?_; try (clear M; (first | intro g w1 M | intro w1 M); try simp only [setC] at M)) | ((with_reducible refine tGuard ?_); refine gdC ?_ ?_ <;> (intro hgd; rw [hgd]; try (exfalso; simp at hgd; omega)))) <;> (try conv => arg 5; simp only [apS, setC]))
                    go_ret
                    refine ⟨rfl, ?_⟩
                    have U := M.upd1 0 rfl
                    simpa [irV] using U
          · have hk8 : k ≠ 9 := fun e => h9 ⟨e, by omega⟩
            have hq9 : ((k : Int) == 9) = false := by simp; omega
            have hc : 128 ≤ I8 (bt s k) := by rw [I8_eq]; omega
            have hkL : k < L := by
              have hne : lead s ≠ k := fun e => by
                have := qCT s (by rw [e]; exact hlt)
                rw [e] at this
                exact h128 this
              rw [← EL.out] at hne
              omega
            go_wp2_with ((first | ((with_reducible refine tM rfl ?_); refine mB ?_; try (clear M; (first | intro g w1 M | intro w1 M); try simp only [setC] at M)) | ((with_reducible refine tGuard ?_); refine gdC ?_ ?_ <;> (intro hgd; rw [hgd]; try (exfalso; simp at hgd; omega)))) <;> (try conv => arg 5; simp only [apS, setC]))
            go_roundw
            case rel => exact ⟨k + 1, by omega, by omega, by go_num, by rw [← EV.out], M⟩
            case measure => simp [intOf]; omega
  · have e : RS.num ⟨s, er⟩ m = (0, ⟨s, er⟩) := by unfold RS.num; rw [if_neg h0]
    rw [e]
    have hz : ((er : Int) == 0) = false := by simp; exact h0
    have hz' : ((er : Int) != 0) = true := by simp; exact h0
    clear e
    go_enter Tryz.func138, Tryz.ntmps138
    go_wp2_with ((first | ((with_reducible refine tM rfl ?_); refine mB ?_; try (clear M; (first | intro g w1 M | intro w1 M); try simp only [setC] at M)) | ((with_reducible refine tGuard ?_); refine gdC ?_ ?_ <;> (intro hgd; rw [hgd]; try (exfalso; simp at hgd; omega)))) <;> (try conv => arg 5; simp only [apS, setC]))
    go_ret
    exact ⟨rfl, M.upd1 0 rfl⟩
end
end Go.Proofs.YtidadhbaomieiaaGreat

namespace Go
namespace TL
theorem RS.num_len (x : RS) (m : Nat) : (x.num m).2.rest.length ≤ x.rest.length := by
 unfold RS.num
 split
 ·simp only; split
  ·simp
  ·exact Nat.le_refl _
 ·exact Nat.le_refl _
theorem RS.num_le (x : RS) (m : Nat) : (x.num m).1 ≤ m := by
 unfold RS.num
 split
 ·exact (qCh (s := x.rest) (most := m) rfl).2.2
 ·exact Nat.zero_le _
end TL
end Go
namespace Go.Proofs.YtidadhbaomieiaaGreat
open Go.RowKit Go.TL
section
variable (g : Nat) (x : RS) (w : World) (h : (Chunk.row g (irV x)).ok w)
include h
theorem qDW (m : Nat) (a : Int) (ha : a = (m : Int)) (hx : x.rest.length ≤ 1000000000) :
  Calls Tryz.prog 140 #[.pointer (some ⟨g, 0, none⟩), .int .u64 a] w fun e w' => e = .returned (.string (mkS (x.text m).1)) ∧ Upd w (.row g (irV x)) w' (.row g (irV (x.text m).2)) := by
 subst ha
 have M := Mem.start1 h
 have N := qEP g x w h m _ rfl hx
 have hn := RS.num_le x m
 have hl := RS.num_len x m
 unfold RS.text
 obtain ⟨⟨n, y⟩, eN⟩ : ∃ N, N = x.num m := ⟨_, rfl⟩
 rw [← eN] at N hn hl ⊢
 simp only at N hn hl ⊢
 have N := Lib.hid N
 clear eN
 obtain ⟨s, er⟩ := y
 simp only at hl ⊢
 by_cases h0 : er = 0
 ·subst h0
  rw [if_pos rfl]
  have EL := Lib.hid (qBG s.length yF)
  by_cases hq : n ≤ s.length
  ·rw [if_pos hq]
   have hq' : (n : Int) ≤ (s.length : Int) := by omega
   go_enter Tryz.func140, Tryz.ntmps140
   go_wp2_with ((first | (go_at_call 138; (refine (N.out).mono ?_; rintro e w1 ⟨rfl, U⟩; replace M := M.upd 0 rfl U; clear U; simp only [List.set_cons_zero, irV] at M)) | ((with_reducible refine tM rfl ?_); refine mB ?_; try (clear M; (first | intro g w1 M | intro w1 M); try simp only [setC] at M)) | ((with_reducible refine tGuard ?_); refine gdC ?_ ?_ <;> (intro hgd; rw [hgd]; try (exfalso; simp at hgd; omega)))) <;> (try conv => arg 5; simp only [apS, setC]))
   all_goals (first | (exfalso; have := EL.out; omega) | (go_ret; exact ⟨rfl, M.upd1 0 rfl⟩))
  ·rw [if_neg hq]
   have hq' : (s.length : Int) < (n : Int) := by omega
   go_enter Tryz.func140, Tryz.ntmps140
   go_wp2_with ((first | (go_at_call 138; (refine (N.out).mono ?_; rintro e w1 ⟨rfl, U⟩; replace M := M.upd 0 rfl U; clear U; simp only [List.set_cons_zero, irV] at M)) | ((with_reducible refine tM rfl ?_); refine mB ?_; try (clear M; (first | intro g w1 M | intro w1 M); try simp only [setC] at M)) | ((with_reducible refine tGuard ?_); refine gdC ?_ ?_ <;> (intro hgd; rw [hgd]; try (exfalso; simp at hgd; omega)))) <;> (try conv => arg 5; simp only [apS, setC]))
   all_goals (first | (exfalso; have := EL.out; omega) | (go_ret; exact ⟨rfl, M.upd1 0 rfl⟩))
 ·rw [if_neg h0]
  have hz : ((er : Int) == 0) = false := by simp; exact h0
  have hz' : ((er : Int) != 0) = true := by simp; exact h0
  go_enter Tryz.func140, Tryz.ntmps140
  go_wp2_with ((first | (go_at_call 138; (refine (N.out).mono ?_; rintro e w1 ⟨rfl, U⟩; replace M := M.upd 0 rfl U; clear U; simp only [List.set_cons_zero, irV] at M)) | ((with_reducible refine tM rfl ?_); refine mB ?_; try (clear M; (first | intro g w1 M | intro w1 M); try simp only [setC] at M)) | ((with_reducible refine tGuard ?_); refine gdC ?_ ?_ <;> (intro hgd; rw [hgd]; try (exfalso; simp at hgd; omega)))) <;> (try conv => arg 5; simp only [apS, setC]))
  go_ret
  exact ⟨rfl, M.upd1 0 rfl⟩
end
end Go.Proofs.YtidadhbaomieiaaGreat

namespace Go
namespace TL
def RS.byte (x : RS) : Nat × RS := if x.err = 0 then (match x.rest with | [] => (0, ⟨[], 7⟩) | b :: r => (b.toNat, ⟨r, 0⟩)) else (0, x)
theorem Alike.byte {x : InS} {y : RS} (h : Alike x y) : x.byte.1 = y.byte.1 ∧ Alike x.byte.2 y.byte.2 := by
 obtain ⟨h1, h2⟩ := h
 unfold InS.byte RS.byte
 by_cases h0 : x.err = 0
 ·rw [if_pos h0, if_pos (h1 ▸ h0), h2 h0]
  cases e : y.rest with
  | nil => simp only []; unfold InS.take; rw [if_neg yN]; exact ⟨trivial, rfl, fun h => by cases h⟩
  | cons b r => simp only []; unfold InS.take; rw [if_pos rfl]; exact ⟨trivial, rfl, fun _ => by simp only [h2 h0, e]; rfl⟩
 ·rw [if_neg h0, if_neg (h1 ▸ h0)]
  exact ⟨rfl, h1, fun h => absurd h h0⟩
end TL
end Go
namespace Go.Proofs.YtidadhbaomieiaaGreat
open Go.RowKit Go.TL
theorem qDU (g : Nat) (v : Value) (l : List UInt8) (b : UInt8) (w : World) (hl : l.length ≤ 1000000) (ho : (outC g v l).ok w) :
  Calls Tryz.prog 91 #[.pointer (some ⟨g, 0, none⟩), .int .u8 (I8 b)] w fun e w' => e = .returned (.tuple #[]) ∧ ∃ v', Upd w (outC g v l) w' (outC g v' (l ++ [b])) := by
 have M := Mem.start1 ho
 go_enter Tryz.func91, Tryz.ntmps91
 go_wp2_with ((first | ((with_reducible refine tU 70 ?_); refine mU ?_; clear M; intro g w1 M) | (go_at_call 114; (refine (put_c _ _ _ _ [_] _ (M.ok 1 _ rfl) (qFS (M.ok 0 _ rfl)) yC1).mono ?_; rintro e w2 ⟨rfl, v1, U⟩; replace M := (M.upd 1 rfl U).tail; clear U))) <;> (try conv => arg 5; simp only [apS, setC]))
 simp only [List.set_cons_zero] at M
 exact bodyPost_end (results_none rfl _ _ _) rfl ⟨rfl, _, M.upd1 0 rfl⟩
section
variable (g : Nat) (x : RS) (w : World) (h : (Chunk.row g (irV x)).ok w)
include h
theorem InByte12_c (hf : x.rest.length ≤ 1000000000) :
  Calls Tryz.prog 139 #[.pointer (some ⟨g, 0, none⟩)] w fun e w' => e = .returned (.int .u8 x.byte.1) ∧ Upd w (.row g (irV x)) w' (.row g (irV x.byte.2)) := by
 obtain ⟨rest, err⟩ := x
 have M := Mem.start1 (c := .row g [.string (mkS rest), .int .i64 (err : Nat)]) h
 by_cases h0 : err = 0
 ·subst h0
  cases rest with
  | nil =>
   go_enter Tryz.func139, Tryz.ntmps139
   go_wp2_with ((first | ((with_reducible refine tM rfl ?_); refine mB ?_; try (clear M; (first | intro g w1 M | intro w1 M); try simp only [setC] at M))) <;> (try conv => arg 5; simp only [apS, setC]))
   go_ret
   exact ⟨rfl, M.upd1 0 rfl⟩
  | cons b r =>
   have hb : ((b.toNat : Nat) : Int) = I8 b := (I8_eq b).symm
   have e : RS.byte ⟨b :: r, 0⟩ = (b.toNat, ⟨r, 0⟩) := rfl
   rw [e]; simp only [hb]; clear e hb
   simp only [List.length_cons] at hf
   go_enter Tryz.func139, Tryz.ntmps139
   go_wp2_with ((first | ((with_reducible refine tM rfl ?_); refine mB ?_; try (clear M; (first | intro g w1 M | intro w1 M); try simp only [setC] at M))) <;> (try conv => arg 5; simp only [apS, setC]))
   go_ret
   exact ⟨rfl, M.upd1 0 rfl⟩
 ·have e1 : RS.byte ⟨rest, err⟩ = (0, ⟨rest, err⟩) := by unfold RS.byte; rw [if_neg h0]
  have hz : ((err : Int) == 0) = false := by simp; exact h0
  have hz' : ((err : Int) != 0) = true := by simp; exact h0
  rw [e1]; clear e1 h0
  go_enter Tryz.func139, Tryz.ntmps139
  go_wp2_with ((first | ((with_reducible refine tM rfl ?_); refine mB ?_; try (clear M; (first | intro g w1 M | intro w1 M); try simp only [setC] at M))) <;> (try conv => arg 5; simp only [apS, setC]))
  go_ret
  exact ⟨rfl, M.upd1 0 rfl⟩
end
end Go.Proofs.YtidadhbaomieiaaGreat

namespace Go
namespace TL
open Go.RowKit
section
variable {P : Program} {ops : Array Oper} {rest : List Oper} {o : Oper} {a : Act} {w w0 : World} {Q : Exit → Act → World → Prop} {F : List Nat} {L : List Chunk} {g : Nat}
theorem Mem.staysF {c : Chunk} (M : Mem F w0 w L) (R : c.ok w0) (hF : ∀ k ∈ c.fp, k ∉ F) : c.ok w := R.stay M.kept.size fun k hk => M.kept.block k (R.lt k hk) (hF k hk)
theorem qBk {cs : List Value} (M : Mem F w0 w L) (R : (Chunk.row g cs).ok w0) (hF : g ∉ F) (t : TypeId) (x : Operand) (ho : o.op = .load t x) {off : Nat} (hx : a.eval x = .pointer (some ⟨g, off, none⟩)) (hw : Region.wanted o (yielded ops a.tmps) = true)
  (ht : scalarT P t = true) {v : Value} (hv : cs[off]? = some v) (h : wpList P ops Q rest (a.put o.dst v) w) : wpList P ops Q (o :: rest) a w := by
 have R' := M.staysF R (by intro k hk; simp only [Chunk.fp, List.mem_singleton] at hk; subst hk; exact hF)
 exact wpW hw fun _ hK => by
  unfold Oper.wp execOp
  simp only [ho, hx, Instr.loadAt, Instr.sureAddr, Sem.run_bind, Sem.run_pure, Result.andThen_ok, qAX ht w g _ _ (rowCell R' hv)]
  exact hK _ _ h
theorem w_rowFA {cs : List Value} (M : Mem F w0 w L) (R : (Chunk.row g cs).ok w0) (hF : g ∉ F) (t : TypeId) (x : Operand) (ho : o.op = .load t x) {off : Nat} (hx : a.eval x = .pointer (some ⟨g, off, none⟩)) (hw : Region.wanted o (yielded ops a.tmps) = true)
  (ht : rowT P t = true) (pre mid post : List Value) (hcs : cs = pre ++ (mid ++ post)) (hpre : pre.length = off) (hn : (P.info? t).map (·.size) = some mid.length) (h : wpList P ops Q rest (a.put o.dst (.agg mid.toArray)) w) : wpList P ops Q (o :: rest) a w := by
 have R' := M.staysF R (by intro k hk; simp only [Chunk.fp, List.mem_singleton] at hk; subst hk; exact hF)
 exact wpW hw fun _ hK => by
  unfold rowT at ht
  cases hu : P.underlying t with
  | none => simp [hu] at ht
  | some d =>
   simp only [hu] at ht
   refine wp_load_mid t x ho g off hx mid d ?_ hu ht hn (hK _ _ h)
   intro j v hv
   have hj : j < mid.length := (List.getElem?_eq_some_iff.1 hv).1
   refine rowCell R' ?_
   rw [hcs, ← hpre, List.getElem?_append_right yF, Nat.add_sub_cancel_left, List.getElem?_append_left hj]; exact hv
theorem qCO {cs : List Value} (M : Mem F w0 w L) {is : List Nat} (R0 : (Chunk.row g cs).ok w0) (hF : g ∉ F) (off : Nat) {v : Value} {t : TypeId} {x : Operand} (ho : o.op = .load t x) (ht : scalarT P t = true) (hv : cs[off]? = some v) : Stab P (IxOk M is) o (.pointer (some ⟨g, off, none⟩)) := by
 unfold Stab; rw [ho]
 have R' : ∀ w' : World, Kept F w0 w' → (Chunk.row g cs).ok w' := fun w' k => R0.stay k.size fun j hj => k.block j (R0.lt j hj) (by simp only [Chunk.fp, List.mem_singleton] at hj; subst hj; exact hF)
 refine ⟨v, fun w' hw => ?_⟩
 simp only [Instr.loadAt, Instr.sureAddr, Sem.run_bind, Sem.run_pure, Result.andThen_ok, qAX ht w' g off _ (rowCell (R' w' hw.1) hv)]
end
end TL
end Go
