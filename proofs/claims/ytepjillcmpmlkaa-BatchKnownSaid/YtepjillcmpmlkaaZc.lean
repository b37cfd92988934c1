/- Texts of this seat, put together: Shelf, PackZ, Txt, PackI, PackR, PackT, Out, PackO, PackN, PackYB, Ref12, Ref12T, BatA0, PathN, Path, Ref11N, Ref11, BatP0, BatE0, Gives. Each begins with a remark that says what is proved in it, and under which conditions. -/
import Derived.Shelf.Strings.Builder1
import Derived.Shelf.Strings.Builder2
import Derived.Shelf.Small.Strs
import Derived.Shelf.Strings.BuilderF
import Derived.Shelf.Strings.BuilderK
import Derived.Shelf.Strings.Builder2Cap
import Derived.Shelf.Strconv.Itoa0
import Derived.Shelf.Strings.Search1
import Derived.Shelf.Strings.Search2
import Derived.Shelf.Strings.Cut
import Derived.Shelf.LaysM
import Derived.Shelf.Strings.Shaped
import Derived.Shelf.Strings.Prefix
import Derived.Shelf.Bits.Mul64
import Derived.Shelf.Strings.Repeat
import Derived.Test.YtepjillcmpmlkaaProg
import Derived.OwnWalk
import Derived.IntWalk
import Derived.Test.YtepjillcmpmlkaaZa
import Derived.Test.YtepjillcmpmlkaaZb
/-
  DERIVED: THE SHELF's CONTRACTS AT THIS DUMP, IN PLAIN WORDS (tools/lay-plain.mjs out of 'TryShelf.lean', which tools/lay-shelf.mjs wrote): THE SAME DECLARATIONS UNDER THE SAME NAMES: 'import', 'namespace', 'open', 'def', 'theorem' AND NOTHING ELSE: no command of the shelf's: FOR A HAND-IN. Each laying: the table of numbers ('.._ren') and one theorem, a field a fact of the dump's own or the kernel's comparison; each contract: ONE APPLICATION.
-/
namespace Go.Proofs
open Go.Shelf
def Try.lays137_ren : Go.Shelf.Ren := ⟨fun | 137 => 82 | 217 => 86 | 266 => 90 | n => n, fun | 9 => 9 | 5 => 5 | 3 => 3 | n => n, fun | n => n⟩
theorem Try.lays137 : Go.Proofs.Lays.n137 Try.prog Try.lays137_ren := {
  mixed := by kernel_rfl
  f137 := Try.func82.trans (congrArg some (by kernel_rfl))
  f217 := Try.func86.trans (congrArg some (by kernel_rfl))
  f266 := Try.func90.trans (congrArg some (by kernel_rfl))
  t3 := Try.underlying3
  a3 := Try.isAgg3
  z3 := Try.sizeOf3
  v3 := Try.zeroValue3
  t5 := Try.underlying5
  a5 := Try.isAgg5
  z5 := Try.sizeOf5
  v5 := Try.zeroValue5
  t9 := Try.underlying9
  a9 := Try.isAgg9
  z9 := Try.sizeOf9
  v9 := Try.zeroValue9 }
open Go.RowKit in
theorem Try.strings_IndexByte (s : ByteArray) (c : Int) (w : World) :
    Calls Try.prog 82 #[.string s, .int .u8 c] w fun e w' => e = .returned (.int .i64 (Lib.indexByte s.data.toList c.toNat.toUInt8)) ∧ w' = w := Any.strings_IndexByte Try.lays137 s c w
def Try.lays129_ren : Go.Shelf.Ren := ⟨fun | 129 => 80 | n => n, fun | 53 => 72 | 3 => 3 | 4 => 4 | 46 => 87 | 5 => 5 | 9 => 9 | n => n, fun | n => n⟩
theorem Try.lays129 : Go.Proofs.Lays.n129 Try.prog Try.lays129_ren := {
  mixed := by kernel_rfl
  f129 := Try.func80.trans (congrArg some (by kernel_rfl))
  t3 := Try.underlying3
  a3 := Try.isAgg3
  z3 := Try.sizeOf3
  v3 := Try.zeroValue3
  t4 := Try.underlying4
  a4 := Try.isAgg4
  z4 := Try.sizeOf4
  v4 := Try.zeroValue4
  t5 := Try.underlying5
  a5 := Try.isAgg5
  z5 := Try.sizeOf5
  v5 := Try.zeroValue5
  t9 := Try.underlying9
  a9 := Try.isAgg9
  z9 := Try.sizeOf9
  v9 := Try.zeroValue9
  t46 := Try.underlying87
  a46 := Try.isAgg87
  z46 := Try.sizeOf87
  v46 := Try.zeroValue87
  t53 := Try.underlying72
  a53 := Try.isAgg72
  z53 := Try.sizeOf72
  v53 := Try.zeroValue72 }
theorem Try.bits_Len64 (x : Int) (w : World) (h0 : 0 ≤ x) (h1 : x ≤ 18446744073709551615) :
    Calls Try.prog 80 #[.int .u64 x] w fun e w' => e = .returned (.int .i64 (Lib.bitLen x.toNat)) ∧ w' = w := Any.bits_Len64 Try.lays129 x w h0 h1
def Try.lays219_ren : Go.Shelf.Ren := ⟨fun | 219 => 85 | 217 => 86 | 225 => 87 | 224 => 88 | 267 => 89 | 266 => 90 | 314 => 91 | n => n, fun | 9 => 9 | 3 => 3 | 4 => 4 | 5 => 5 | 46 => 87 | 146 => 111 | 51 => 110 | n => n, fun | 1 => 0 | n => n⟩
theorem Try.lays219 : Go.Proofs.Lays.n219 Try.prog Try.lays219_ren := {
  mixed := by kernel_rfl
  f217 := Try.func86.trans (congrArg some (by kernel_rfl))
  f219 := Try.func85.trans (congrArg some (by kernel_rfl))
  f224 := Try.func88.trans (congrArg some (by kernel_rfl))
  f225 := Try.func87.trans (congrArg some (by kernel_rfl))
  f266 := Try.func90.trans (congrArg some (by kernel_rfl))
  f267 := Try.func89.trans (congrArg some (by kernel_rfl))
  f314 := Try.func91.trans (congrArg some (by kernel_rfl))
  t3 := Try.underlying3
  a3 := Try.isAgg3
  z3 := Try.sizeOf3
  v3 := Try.zeroValue3
  t4 := Try.underlying4
  a4 := Try.isAgg4
  z4 := Try.sizeOf4
  v4 := Try.zeroValue4
  t5 := Try.underlying5
  a5 := Try.isAgg5
  z5 := Try.sizeOf5
  v5 := Try.zeroValue5
  t9 := Try.underlying9
  a9 := Try.isAgg9
  z9 := Try.sizeOf9
  v9 := Try.zeroValue9
  t46 := Try.underlying87
  a46 := Try.isAgg87
  z46 := Try.sizeOf87
  v46 := Try.zeroValue87
  t51 := Try.underlying110
  a51 := Try.isAgg110
  z51 := Try.sizeOf110
  v51 := Try.zeroValue110
  t146 := Try.underlying111
  a146 := Try.isAgg111
  z146 := Try.sizeOf111
  v146 := Try.zeroValue111
  g1 := by kernel_rfl }
open Go.RowKit Go.Lib in
theorem Try.stringslite_Index_one (s : ByteArray) (c : UInt8) (w : World) :
    Calls Try.prog 85 #[.string s, .string ⟨#[c]⟩] w fun e w' => e = .returned (.int .i64 (Lib.indexByte s.data.toList c)) ∧ w' = w := Any.stringslite_Index_one Try.lays219 s c w
def Try.lays105_ren : Go.Shelf.Ren := ⟨fun | 105 => 26 | 212 => 54 | 99 => 55 | 165 => 56 | 166 => 57 | 170 => 58 | 169 => 59 | 263 => 72 | 264 => 73 | 206 => 74 | 240 => 75 | 241 => 76 | 276 => 83 | 277 => 84 | n => n, fun | 9 => 9 | 3 => 3 | 4 => 4 | 20 => 20 | 0 => 0 | 46 => 87 | 109 => 88 | 5 => 5 | 72 => 93 | 76 => 97 | 51 => 110 | 146 => 111 | 53 => 72 | 148 => 113 | 70 => 91 | 37 => 76 | 75 => 96 | 127 => 115 | 164 => 119 | 80 => 82 | n => n, fun | n => n⟩
theorem Try.lays105 : Go.Proofs.Lays.n105 Try.prog Try.lays105_ren := {
  mixed := by kernel_rfl
  f99 := Try.func55.trans (congrArg some (by kernel_rfl))
  f105 := Try.func26.trans (congrArg some (by kernel_rfl))
  f165 := Try.func56.trans (congrArg some (by kernel_rfl))
  f166 := Try.func57.trans (congrArg some (by kernel_rfl))
  f169 := Try.func59.trans (congrArg some (by kernel_rfl))
  f170 := Try.func58.trans (congrArg some (by kernel_rfl))
  f206 := Try.func74.trans (congrArg some (by kernel_rfl))
  f212 := Try.func54.trans (congrArg some (by kernel_rfl))
  f240 := Try.func75.trans (congrArg some (by kernel_rfl))
  f241 := Try.func76.trans (congrArg some (by kernel_rfl))
  f263 := Try.func72.trans (congrArg some (by kernel_rfl))
  f264 := Try.func73.trans (congrArg some (by kernel_rfl))
  f276 := Try.func83.trans (congrArg some (by kernel_rfl))
  f277 := Try.func84.trans (congrArg some (by kernel_rfl))
  t0 := Try.underlying0
  a0 := Try.isAgg0
  z0 := Try.sizeOf0
  v0 := Try.zeroValue0
  t3 := Try.underlying3
  a3 := Try.isAgg3
  z3 := Try.sizeOf3
  v3 := Try.zeroValue3
  t4 := Try.underlying4
  a4 := Try.isAgg4
  z4 := Try.sizeOf4
  v4 := Try.zeroValue4
  t5 := Try.underlying5
  a5 := Try.isAgg5
  z5 := Try.sizeOf5
  v5 := Try.zeroValue5
  t9 := Try.underlying9
  a9 := Try.isAgg9
  z9 := Try.sizeOf9
  v9 := Try.zeroValue9
  t20 := Try.underlying20
  a20 := Try.isAgg20
  z20 := Try.sizeOf20
  v20 := Try.zeroValue20
  t37 := Try.underlying76
  a37 := Try.isAgg76
  z37 := Try.sizeOf76
  v37 := Try.zeroValue76
  t46 := Try.underlying87
  a46 := Try.isAgg87
  z46 := Try.sizeOf87
  v46 := Try.zeroValue87
  t51 := Try.underlying110
  a51 := Try.isAgg110
  z51 := Try.sizeOf110
  v51 := Try.zeroValue110
  t53 := Try.underlying72
  a53 := Try.isAgg72
  z53 := Try.sizeOf72
  v53 := Try.zeroValue72
  t70 := Try.underlying91
  a70 := Try.isAgg91
  z70 := Try.sizeOf91
  v70 := Try.zeroValue91
  t72 := Try.underlying93
  a72 := Try.isAgg93
  z72 := Try.sizeOf93
  v72 := Try.zeroValue93
  t75 := Try.underlying96
  a75 := Try.isAgg96
  z75 := Try.sizeOf96
  v75 := Try.zeroValue96
  t76 := Try.underlying97
  a76 := Try.isAgg97
  z76 := Try.sizeOf97
  v76 := Try.zeroValue97
  t109 := Try.underlying88
  a109 := Try.isAgg88
  z109 := Try.sizeOf88
  v109 := Try.zeroValue88
  t127 := Try.underlying115
  a127 := Try.isAgg115
  z127 := Try.sizeOf115
  v127 := Try.zeroValue115
  t146 := Try.underlying111
  a146 := Try.isAgg111
  z146 := Try.sizeOf111
  v146 := Try.zeroValue111
  t148 := Try.underlying113
  a148 := Try.isAgg113
  z148 := Try.sizeOf113
  v148 := Try.zeroValue113
  t164 := Try.underlying119
  a164 := Try.isAgg119
  z164 := Try.sizeOf119
  v164 := Try.zeroValue119 }
theorem Try.Builder_Extra_105 : Builder.Extra Try.prog Try.lays105_ren := {
  sizeBuilder := by kernel_rfl
  liesBuilder := by kernel_rfl
  t5 := Try.underlying5
  a5 := Try.isAgg5
  z5 := Try.sizeOf5
  v5 := Try.zeroValue5
  infoByte := by kernel_rfl
  cellsByte := by kernel_rfl
  sizeByte := by kernel_rfl
  neB5 := by decide }
open Go.RowKit Go.Lib in
theorem Try.strings_Repeat (s : ByteArray) (c : Nat) (w : World) (hc : c ≤ 9223372036854775807) (hlen : s.size * c ≤ 140737488355328) :
    Calls Try.prog 26 #[.string s, .int .i64 c] w fun e w' => e = .returned (.string ⟨(Lib.repeatL s.data.toList c).toArray⟩) ∧ Below w.heap.size w w' := Any.strings_Repeat Try.lays105 Try.Builder_Extra_105 s c w hc hlen
end Go.Proofs

/- The walk of pack.size. Conditions: numbers below 2^64. -/
namespace Go.Proofs.Ytepjillcmpmlkaa
open Go.RowKit Go.TL
theorem or128 (m : Nat) : UInt8.ofNat m ||| 128 = UInt8.ofNat (m % 128 + 128) := by
  have h : ∀ n : Fin 256, UInt8.ofNat n.1 ||| 128 = UInt8.ofNat (n.1 % 128 + 128) := by decide +kernel
  have e : UInt8.ofNat m = UInt8.ofNat (m % 256) := by apply UInt8.toNat_inj.1; simp
  have := h ⟨m % 256, by omega⟩
  rw [e, this, show m % 256 % 128 = m % 128 by omega]
theorem Len64_c (n : Nat) (w : World) (h : n < 18446744073709551616) :
    Calls Try.prog 80 #[.int .u64 n] w fun e w' => e = .returned (.int .i64 (Lib.bitLen n)) ∧ w = w' :=
  (Go.Proofs.Try.bits_Len64 n w (by omega) (by omega)).mono fun _ _ ⟨a, b⟩ => ⟨a, b.symm⟩
set_option maxHeartbeats 1000000 in
theorem size_c (n : Nat) (w : World) (h : n < 18446744073709551616) :
    Calls Try.prog 67 #[.int .u64 n] w fun e w' => e = .returned (.int .i64 (numL n).length) ∧ w = w' := by
  have hs := size_eq n h
  have hl := numL_length_le n h
  have hp := numL_pos n
  obtain ⟨k, ek⟩ : ∃ k, k = (numL n).length := ⟨_, rfl⟩
  obtain ⟨b, eb⟩ : ∃ b, b = Lib.bitLen n := ⟨_, rfl⟩
  rw [← ek, ← eb] at hs
  rw [← ek] at hl hp ⊢
  have hb : b ≤ 70 := by omega
  have L := Len64_c n w h
  rw [← eb] at L
  obtain ⟨q, eq⟩ : ∃ q, q = (b + 6) / 7 := ⟨_, rfl⟩
  have e1 : ((b : Int) + 7 - 1).tdiv 7 = (q : Int) := by rw [Int.tdiv_eq_ediv_of_nonneg (by omega)]; omega
  rw [← eq] at hs
  by_cases h1 : 1 ≤ q
  all_goals
    go_enter Try.func67, Try.ntmps67
    go_wp2_with (first | (go_at_call 80; go_must (refine (L).mono ?_; rintro e w1 ⟨rfl, rfl⟩)))
    go_ret
    exact ⟨by first | rfl | (congr; omega) | (simp; omega), rfl⟩
end Go.Proofs.Ytepjillcmpmlkaa

/- Bytes of texts, in a word that is closed to the walk. No conditions but those each law names. -/
namespace Go
namespace TL
open Go.RowKit
theorem lead_geI {s : List UInt8} {k : Nat} (h : k < lead s) : 128 ≤ I8 (bt s k) := by have := lead_ge s k h; rw [I8_bt]; omega
theorem lead_lastI {s : List UInt8} (h : lead s < s.length) : I8 (bt s (lead s)) < 128 := by have := lead_last s h; rw [I8_bt]; omega
theorem shl_or (n : Nat) (b : UInt8) (h : n < 144115188075855872) : I64 (w64 (n : Int) <<< 7 ||| w64 ((I8 b).tmod 128)) = ((b.toNat % 128 + 128 * n : Nat) : Int) := by
  have hb := I8_bd b
  rw [Int.tmod_eq_emod_of_nonneg hb.1, I8_eq, show ((b.toNat : Int) % 128) = ((b.toNat % 128 : Nat) : Int) by omega, w64_nat, w64_nat, I64_eq, UInt64.toNat_or, UInt64.toNat_shiftLeft]
  have e1 : (UInt64.ofNat n).toNat = n := by rw [UInt64.toNat_ofNat']; omega
  have e2 : (UInt64.ofNat (b.toNat % 128)).toNat = b.toNat % 128 := by rw [UInt64.toNat_ofNat']; omega
  rw [e1, e2]
  have e3 : ((7 : UInt64).toNat % 64) = 7 := rfl
  rw [e3, Nat.mod_eq_of_lt (by rw [Nat.shiftLeft_eq]; omega), ← Nat.shiftLeft_add_eq_or_of_lt (by omega), Nat.shiftLeft_eq]
  omega
theorem I64_nat (n : Nat) (h : n < 18446744073709551616) : I64 (w64 (n : Int)) = (n : Int) := by
  rw [w64_nat, I64_eq, UInt64.toNat_ofNat']; omega
theorem SeesB.of_own {w : World} {v : Value} {n : Nat} {l : List UInt8} (h : (Chunk.sl 1 v n (bs l)).ok w) (hn : n = l.length) : SeesB w v l := by
  subst hn; exact Own.sees h
end TL
end Go

/- The walks of pack.number and pack.bounded. Conditions: lengths. -/
namespace Go.Proofs.Ytepjillcmpmlkaa
open Go.RowKit Go.TL
set_option maxRecDepth 100000 in
set_option maxHeartbeats 2000000 in
theorem number_c (s : List UInt8) (w : World) (hs : s.length ≤ 1000000000) :
    Calls Try.prog 79 #[.string (mkS s)] w fun e w' => e = .returned (.tuple #[.int .u64 (readN s maxU).1, .int .i64 (readN s maxU).2.1, .int .i64 (readN s maxU).2.2]) ∧ w = w' := by
  obtain ⟨R, eR⟩ : ∃ R, R = readN s maxU := ⟨_, rfl⟩
  rw [← eR]
  have ER := Lib.hid eR; clear eR
  obtain ⟨L, eL⟩ : ∃ L, L = lead s := ⟨_, rfl⟩
  have hle : L ≤ s.length := by rw [eL]; exact lead_le s
  have EL := Lib.hid eL; clear eL
  go_enter Try.func79, Try.ntmps79
  go_wp2_with fail
  go_loop [3] (fun n => ∃ k : Nat, k ≤ L ∧ k ≤ 10 ∧ n = .int .i64 k) (fun n => s.length - (intOf n).toNat)
  case atStart => exact ⟨0, by omega, by omega, rfl⟩
  case round =>
    obtain ⟨k, hk, hk10, rfl⟩ := hrel
    by_cases hlt : k < L ∧ k < 10
    · obtain ⟨h1, h2⟩ := hlt
      have hb : 128 ≤ I8 (bt s k) := lead_geI (by rw [← EL.out]; exact h1)
      have hm : (k : Int) < min (s.length : Int) 10 := by omega
      go_wp2_with fail
      go_round
      case rel => exact ⟨k + 1, by omega, by omega, by go_num⟩
      case measure => simp [intOf]; omega
    · by_cases h10 : k = 10
      · subst h10
        have e : R = (0, 0, 8) := by rw [ER.out]; exact readN_form s (by rw [← EL.out]; omega) _
        subst e
        go_wp2_with fail
        go_ret3
        exact ⟨rfl, rfl⟩
      · have ek : L = k := by omega
        subst ek
        have h9 : L ≤ 9 := by omega
        by_cases hlen : L = s.length
        · have e : R = (0, 0, 7) := by rw [ER.out]; exact readN_short s (by rw [← EL.out]; omega) (by rw [← EL.out]; omega) _
          subst e
          have hm : ((L : Int) < min (s.length : Int) 10) = False := by simp; omega
          have hne : ((L : Int) == 10) = false := by simp; omega
          have heq : ((L : Int) == (s.length : Int)) = true := by simp; omega
          go_wp2_with fail
          go_ret3
          exact ⟨rfl, rfl⟩
        · have hlt' : L < s.length := by omega
          have hb : I8 (bt s L) < 128 := by
            have h2 : lead s < s.length := by rw [← EL.out]; exact hlt'
            have h1 := lead_lastI h2
            rwa [← EL.out] at h1
          have hm : (L : Int) < min (s.length : Int) 10 := by omega
          have hne : ((L : Int) == 10) = false := by simp; omega
          have heq : ((L : Int) == (s.length : Int)) = false := by simp; omega
          by_cases ht : L = 9 ∧ 1 < (bt s 9).toNat
          · obtain ⟨rfl, ht⟩ := ht
            have e : R = (0, 0, 8) := by rw [ER.out]; exact readN_ten s EL.out.symm (by rw [← EL.out]; omega) ht _
            subst e
            have hb2 : 1 < I8 (bt s 9) := by rw [I8_eq]; omega
            go_wp2_with fail
            go_ret3
            exact ⟨rfl, rfl⟩
          · have hb2 : L = 9 → I8 (bt s L) ≤ 1 := fun h => by subst h; rw [I8_eq]; omega
            have HB2 := Lib.hid hb2; clear hb2
            clear ht hlt h10 hlen hk hk10
            by_cases hn9 : L = 9
            have hq : ((L : Int) == 9) = true := by simp; omega
            have hb3 := HB2.out hn9
            replace hn9 := Lib.hid hn9
            go_wp2_with fail
            clear hq hb3
            rotate_left
            have hq : ((L : Int) == 9) = false := by simp; omega
            replace hn9 := Lib.hid hn9
            go_wp2_with fail
            clear hq
            rotate_left
            all_goals
              clear hm hne heq hn9
              obtain ⟨T, eT⟩ : ∃ T, T = s.take (L + 1) := ⟨_, rfl⟩
              have lT : T.length = L + 1 := by rw [eT]; simp; omega
              have h2 : lead s < s.length := by rw [← EL.out]; exact hlt'
              have h4 : lead s = 9 → (s.getD 9 0).toNat ≤ 1 := fun h => by
                have h := HB2.out (EL.out.trans h)
                rw [I8_bt, EL.out, ‹lead s = 9›] at h
                omega
              have DR : Hid (∀ j, numV (T.drop j) = if j ≤ L then (bt s j).toNat % 128 + 128 * numV (T.drop (j + 1)) else 0) := Lib.hid fun j => by
                by_cases hj : j ≤ L
                · have := numV_drop T j (by omega)
                  rw [if_pos hj, this, eT]; simp only [bt, List.getD_eq_getElem?_getD, List.getElem?_take]; rw [if_pos (by omega)]
                · rw [if_neg hj, List.drop_of_length_le (by omega)]; rfl
              have LT : Hid (∀ j, numV (T.drop (j + 1)) < 144115188075855872) := Lib.hid fun j => by
                rw [eT, EL.out]; exact numV_drop_lt s h2 (by rw [← EL.out]; exact h9) h4 (j + 1) (by omega)
              have RS := Lib.hid (readN_size s (by rw [← EL.out]; exact h9) h2 h4)
              rw [← ER.out, ← EL.out, ← eT] at RS
              have VT := numV_lt64 h2 (by rw [← EL.out]; exact h9) h4
              rw [← EL.out, ← eT] at VT
              have lT := Lib.hid lT
              clear eT h2 h4
              go_loop [2, 5] (fun nv iv => ∃ j : Nat, j ≤ L + 1 ∧ iv = .int .i64 ((j : Int) - 1) ∧ nv = .int .u64 (numV (T.drop j))) (fun _ iv => (intOf iv + 1).toNat)
              case atStart => exact ⟨L + 1, by omega, by go_num, by rw [List.drop_of_length_le (by have := lT.out; omega)]; rfl⟩
              case round =>
                obtain ⟨j, hj, rfl, rfl⟩ := hrel
                cases j with
                | zero =>
                  rw [List.drop_zero]
                  obtain ⟨V, eV⟩ : ∃ V, V = numV T := ⟨_, rfl⟩
                  rw [← eV] at RS VT ⊢
                  obtain ⟨z, ez⟩ : ∃ z, z = (numL V).length := ⟨_, rfl⟩
                  have SZ := Lib.hid (size_c V w VT)
                  rw [← ez] at RS SZ
                  clear eV ez
                  by_cases hz : z = L + 1
                  · have e := RS.out
                    rw [if_pos hz] at e
                    have hzz : ((z : Int) == (L : Int) + 1) = true := by simp; omega
                    have hzz' : ((z : Int) != (L : Int) + 1) = false := by simp; omega
                    subst e
                    go_wp2_with ((go_at_call 67; go_must (refine (SZ.out).mono ?_; rintro e w1 ⟨rfl, rfl⟩)))
                    go_ret3
                    exact ⟨by congr, rfl⟩
                  · have e := RS.out
                    rw [if_neg hz] at e
                    have hzz : ((z : Int) == (L : Int) + 1) = false := by simp; omega
                    have hzz' : ((z : Int) != (L : Int) + 1) = true := by simp; omega
                    subst e
                    go_wp2_with ((go_at_call 67; go_must (refine (SZ.out).mono ?_; rintro e w1 ⟨rfl, rfl⟩)))
                    go_ret3
                    exact ⟨rfl, rfl⟩
                | succ j =>
                  have l57 := LT.out j
                  have hjL : j ≤ L := by omega
                  have e : I64 (w64 ((numV (T.drop (j + 1)) : Nat) : Int) <<< 7 ||| w64 ((I8 (bt s j)).tmod 128)) = ((numV (T.drop j) : Nat) : Int) := by
                    rw [shl_or _ _ l57, DR.out j, if_pos hjL]
                  obtain ⟨X, eX⟩ : ∃ X, X = numV (T.drop (j + 1)) := ⟨_, rfl⟩
                  rw [← eX] at e l57 ⊢
                  have E := Lib.hid e
                  clear e eX
                  have hjs : j < s.length := by omega
                  go_wp2_with fail
                  go_round
                  case rel => exact ⟨j, by omega, rfl, by rw [E.out]⟩
                  case measure => simp [intOf]
end Go.Proofs.Ytepjillcmpmlkaa

/- The walks of pack.In's methods: the reader's state turns as its plain law says. Conditions: lengths. -/
namespace Go
namespace TL
open Go.RowKit
def inV (x : InS) : List Value := [.string (mkS x.rest), .int .i64 x.read, .int .i64 x.err]
end TL
end Go
namespace Go.Proofs.Ytepjillcmpmlkaa
open Go.RowKit Go.TL
set_option maxRecDepth 100000 in
set_option maxHeartbeats 2000000 in
theorem bounded_c (s : List UInt8) (m : Nat) (w : World) (hs : s.length ≤ 1000000000) (hm : m < 9223372036854775808) :
    Calls Try.prog 64 #[.string (mkS s), .int .i64 m] w fun e w' => e = .returned (.tuple #[.int .i64 (readN s m).1, .int .i64 (readN s m).2.1, .int .i64 (readN s m).2.2]) ∧ w = w' := by
  have hr := readN_max s m
  obtain ⟨⟨x, b, e⟩, eR⟩ : ∃ R, R = readN s maxU := ⟨_, rfl⟩
  have he := read_err s maxU
  have hlt : e = 0 → x < 18446744073709551616 := fun h => (read_ok (eR.symm.trans (by rw [h]))).2.2.2
  have hle := read_le eR.symm
  have N := number_c s w hs
  rw [← eR] at hr he N
  rw [hr]
  simp only at N he ⊢
  clear eR hr
  have N := Lib.hid N
  have HE := Lib.hid he
  have HI := Lib.hid (I64_nat m (by omega))
  clear he
  by_cases h0 : e = 0
  · subst h0
    replace hlt := hlt rfl
    by_cases hx : m < x
    · rw [if_pos ⟨rfl, hx⟩]
      go_enter Try.func64, Try.ntmps64
      go_wp2_with ((go_at_call 79; go_must (refine (N.out).mono ?_; rintro e w1 ⟨rfl, rfl⟩)))
      all_goals (first | (exfalso; have := HI.out; omega) | (go_ret3; exact ⟨rfl, rfl⟩))
    · rw [if_neg (fun h => hx h.2)]
      go_enter Try.func64, Try.ntmps64
      go_wp2_with ((go_at_call 79; go_must (refine (N.out).mono ?_; rintro e w1 ⟨rfl, rfl⟩)))
      all_goals (first | (exfalso; have := HI.out; omega) | (go_ret3; exact ⟨rfl, rfl⟩))
  · rw [if_neg (fun h => h0 h.1)]
    have h0' : ((e : Int) == 0) = false := by simp; omega
    have h0'' : ((e : Int) != 0) = true := by simp; omega
    obtain ⟨rfl, rfl⟩ : x = 0 ∧ b = 0 := by
      have := HE.out; simp at this; omega
    go_enter Try.func64, Try.ntmps64
    go_wp2_with ((go_at_call 79; go_must (refine (N.out).mono ?_; rintro e w1 ⟨rfl, rfl⟩)))
    go_ret3
    exact ⟨rfl, rfl⟩
section
variable (g : Nat) (x : InS) (w : World) (h : (Chunk.row g (inV x)).ok w)
include h
set_option maxHeartbeats 1000000 in
theorem reads_ok (he : x.err = 0) : Calls Try.prog 63 #[.pointer (some ⟨g, 0, none⟩)] w fun e w' => e = .returned (.bool true) ∧ w = w' := by
  obtain ⟨rest, read, err⟩ := x
  simp only at he; subst he
  have M := Mem.start1 (c := .row g [.string (mkS rest), .int .i64 (read : Nat), .int .i64 (0 : Nat)]) h
  go_enter Try.func63, Try.ntmps63
  go_wp2_with ((first | ((with_reducible refine tM rfl ?_); refine mB ?_; try (clear M; (first | intro g w1 M | intro w1 M); try simp only [setC] at M)) | ((with_reducible refine tGuard ?_); refine gdC ?_ ?_ <;> (intro hgd; rw [hgd]; try (exfalso; simp at hgd; omega)))) <;> (try conv => arg 5; simp only [apS, setC]))
  go_ret
  exact ⟨rfl, rfl⟩
set_option maxHeartbeats 1000000 in
theorem reads_no (he : x.err ≠ 0) : Calls Try.prog 63 #[.pointer (some ⟨g, 0, none⟩)] w fun e w' => e = .returned (.bool false) ∧ w = w' := by
  obtain ⟨rest, read, err⟩ := x
  have M := Mem.start1 (c := .row g [.string (mkS rest), .int .i64 (read : Nat), .int .i64 (err : Nat)]) h
  have hz : ((err : Int) == 0) = false := by simp at he ⊢; exact he
  go_enter Try.func63, Try.ntmps63
  go_wp2_with ((first | ((with_reducible refine tM rfl ?_); refine mB ?_; try (clear M; (first | intro g w1 M | intro w1 M); try simp only [setC] at M)) | ((with_reducible refine tGuard ?_); refine gdC ?_ ?_ <;> (intro hgd; rw [hgd]; try (exfalso; simp at hgd; omega)))) <;> (try conv => arg 5; simp only [apS, setC]))
  go_ret
  exact ⟨rfl, rfl⟩
set_option maxHeartbeats 1000000 in
theorem takes_ok (hf : x.fit) (k : Nat) (hk : k ≤ x.rest.length) (a b : Int) (ha : a = (k : Int)) (hb : b = 0) :
    Calls Try.prog 65 #[.pointer (some ⟨g, 0, none⟩), .int .i64 a, .int .i64 b] w fun e w' => e = .returned (.bool true) ∧ Upd w (.row g (inV x)) w' (.row g (inV (x.take k 0))) := by
  subst ha; subst hb
  obtain ⟨rest, read, err⟩ := x
  unfold InS.fit at hf
  simp only at hk hf
  have M := Mem.start1 (c := .row g [.string (mkS rest), .int .i64 (read : Nat), .int .i64 (err : Nat)]) h
  go_enter Try.func65, Try.ntmps65
  go_wp2_with ((first | ((with_reducible refine tM rfl ?_); refine mB ?_; try (clear M; (first | intro g w1 M | intro w1 M); try simp only [setC] at M)) | ((with_reducible refine tGuard ?_); refine gdC ?_ ?_ <;> (intro hgd; rw [hgd]; try (exfalso; simp at hgd; omega)))) <;> (try conv => arg 5; simp only [apS, setC]))
  go_ret
  refine ⟨rfl, ?_⟩
  rw [show inV (InS.take ⟨rest, read, err⟩ k 0) = [.string (mkS (rest.drop k)), .int .i64 ((read : Int) + k), .int .i64 0] by simp [inV, InS.take]]
  exact M.upd1 0 rfl
set_option maxHeartbeats 1000000 in
theorem takes_no (k : Nat) (er : Nat) (hn : er ≠ 0) (a b : Int) (hb : b = (er : Int)) :
    Calls Try.prog 65 #[.pointer (some ⟨g, 0, none⟩), .int .i64 a, .int .i64 b] w fun e w' => e = .returned (.bool false) ∧ Upd w (.row g (inV x)) w' (.row g (inV (x.take k er))) := by
  subst hb
  obtain ⟨rest, read, err⟩ := x
  have M := Mem.start1 (c := .row g [.string (mkS rest), .int .i64 (read : Nat), .int .i64 (err : Nat)]) h
  have hz : ((er : Int) == 0) = false := by simp; exact hn
  go_enter Try.func65, Try.ntmps65
  go_wp2_with ((first | ((with_reducible refine tM rfl ?_); refine mB ?_; try (clear M; (first | intro g w1 M | intro w1 M); try simp only [setC] at M)) | ((with_reducible refine tGuard ?_); refine gdC ?_ ?_ <;> (intro hgd; rw [hgd]; try (exfalso; simp at hgd; omega)))) <;> (try conv => arg 5; simp only [apS, setC]))
  go_ret
  refine ⟨rfl, ?_⟩
  rw [show inV (InS.take ⟨rest, read, err⟩ k er) = [.string (mkS rest), .int .i64 read, .int .i64 er] by simp [inV, InS.take, hn]]
  exact M.upd1 0 rfl
set_option maxHeartbeats 1000000 in
theorem Left_c (hf : x.fit) : Calls Try.prog 66 #[.pointer (some ⟨g, 0, none⟩)] w fun e w' => e = .returned (.int .i64 x.rest.length) ∧ w = w' := by
  obtain ⟨rest, read, err⟩ := x
  have M := Mem.start1 (c := .row g [.string (mkS rest), .int .i64 (read : Nat), .int .i64 (err : Nat)]) h
  go_enter Try.func66, Try.ntmps66
  go_wp2_with ((first | ((with_reducible refine tM rfl ?_); refine mB ?_; try (clear M; (first | intro g w1 M | intro w1 M); try simp only [setC] at M)) | ((with_reducible refine tGuard ?_); refine gdC ?_ ?_ <;> (intro hgd; rw [hgd]; try (exfalso; simp at hgd; omega)))) <;> (try conv => arg 5; simp only [apS, setC]))
  go_ret
  exact ⟨rfl, rfl⟩
set_option maxHeartbeats 2000000 in
theorem Most_c (hf : x.fit) (m : Nat) (a : Int) (ha : a = (m : Int)) (hm : m < 9223372036854775808) :
    Calls Try.prog 35 #[.pointer (some ⟨g, 0, none⟩), .int .i64 a] w fun e w' => e = .returned (.int .i64 (x.most m).1) ∧ Upd w (.row g (inV x)) w' (.row g (inV (x.most m).2)) := by
  subst ha
  have M := Mem.start1 h
  have hl : x.rest.length ≤ 1000000000 := by unfold InS.fit at hf; omega
  by_cases h0 : x.err = 0
  · have e1 : x.most m = ((readN x.rest m).1, x.take (readN x.rest m).2.1 (readN x.rest m).2.2) := by unfold InS.most; rw [if_pos h0]
    rw [e1]; clear e1
    obtain ⟨⟨n, b, er⟩, eR⟩ : ∃ R, R = readN x.rest m := ⟨_, rfl⟩
    have hb := (read_le eR.symm).1
    have hz := read_err x.rest m
    have B := bounded_c x.rest m w hl hm
    rw [← eR] at B hz ⊢
    have B := Lib.hid B
    have HZ := Lib.hid hz
    clear eR hz
    simp only
    have H0 := Lib.hid h0
    clear h0
    by_cases he : er = 0
    · subst he
      go_enter Try.func35, Try.ntmps35
      go_wp2_with ((first | (go_at_call 63; go_must (refine (reads_ok g x _ h H0.out).mono ?_; rintro e w1 ⟨rfl, rfl⟩)) | (go_at_call 64; go_must (refine (B.out).mono ?_; rintro e w1 ⟨rfl, rfl⟩)) | (go_at_call 65; go_must (refine (takes_ok g x _ (M.ok 0 _ rfl) hf b hb _ _ rfl rfl).mono ?_; rintro e w1 ⟨rfl, U⟩; replace M := M.upd 0 rfl U; clear U)) | ((with_reducible refine tM rfl ?_); refine mB ?_; try (clear M; (first | intro g w1 M | intro w1 M); try simp only [setC] at M)) | ((with_reducible refine tGuard ?_); refine gdC ?_ ?_ <;> (intro hgd; rw [hgd]; try (exfalso; simp at hgd; omega)))) <;> (try conv => arg 5; simp only [apS, setC]))
      go_ret
      exact ⟨rfl, M.upd1 0 rfl⟩
    · obtain ⟨rfl, rfl⟩ : n = 0 ∧ b = 0 := by
        have := HZ.out; simp at this; omega
      go_enter Try.func35, Try.ntmps35
      go_wp2_with ((first | (go_at_call 63; go_must (refine (reads_ok g x _ h H0.out).mono ?_; rintro e w1 ⟨rfl, rfl⟩)) | (go_at_call 64; go_must (refine (B.out).mono ?_; rintro e w1 ⟨rfl, rfl⟩)) | (go_at_call 65; go_must (refine (takes_no g x _ (M.ok 0 _ rfl) 0 er he _ _ rfl).mono ?_; rintro e w1 ⟨rfl, U⟩; replace M := M.upd 0 rfl U; clear U)) | ((with_reducible refine tM rfl ?_); refine mB ?_; try (clear M; (first | intro g w1 M | intro w1 M); try simp only [setC] at M)) | ((with_reducible refine tGuard ?_); refine gdC ?_ ?_ <;> (intro hgd; rw [hgd]; try (exfalso; simp at hgd; omega)))) <;> (try conv => arg 5; simp only [apS, setC]))
      go_ret
      exact ⟨rfl, M.upd1 0 rfl⟩
  · have e1 : x.most m = (0, x) := by unfold InS.most; rw [if_neg h0]
    rw [e1]; clear e1
    have H0 := Lib.hid h0
    clear h0
    go_enter Try.func35, Try.ntmps35
    go_wp2_with (first | (go_at_call 63; go_must (refine (reads_no g x _ h H0.out).mono ?_; rintro e w1 ⟨rfl, rfl⟩)))
    go_ret
    exact ⟨rfl, M.upd1 0 rfl⟩
end
end Go.Proofs.Ytepjillcmpmlkaa

/- The walks of pack.In's Text, Fault and End, and of pack.Of. Conditions: lengths. -/
namespace Go.Proofs.Ytepjillcmpmlkaa
open Go.RowKit Go.TL
section
variable (g : Nat) (x : InS) (w : World) (h : (Chunk.row g (inV x)).ok w)
include h
set_option maxRecDepth 100000 in
set_option maxHeartbeats 2000000 in
theorem In_Text_c (hf : x.fit) (m : Nat) (a : Int) (ha : a = (m : Int)) (hm : m < 1000000000) :
    Calls Try.prog 38 #[.pointer (some ⟨g, 0, none⟩), .int .i64 a] w fun e w' => e = .returned (.string (mkS (x.text m).1)) ∧ Upd w (.row g (inV x)) w' (.row g (inV (x.text m).2)) := by
  subst ha
  have M := Mem.start1 h
  have hl : x.rest.length ≤ 1000000000 := by unfold InS.fit at hf; omega
  by_cases h0 : x.err = 0
  · have e1 : x.text m = if (readN x.rest m).2.2 = 0 then if (readN x.rest m).1 ≤ x.rest.length - (readN x.rest m).2.1 then ((x.rest.drop (readN x.rest m).2.1).take (readN x.rest m).1, x.take ((readN x.rest m).2.1 + (readN x.rest m).1) 0) else ([], x.take 0 7) else ([], x.take 0 (readN x.rest m).2.2) := by unfold InS.text; rw [if_pos h0]
    rw [e1]; clear e1
    obtain ⟨⟨n, b, er⟩, eR⟩ : ∃ R, R = readN x.rest m := ⟨_, rfl⟩
    have hb := read_le eR.symm
    have hz := read_err x.rest m
    have B := bounded_c x.rest m w hl (by omega)
    rw [← eR] at B hz ⊢
    have B := Lib.hid B
    have HZ := Lib.hid hz
    clear eR hz
    simp only
    have H0 := Lib.hid h0
    clear h0
    obtain ⟨hb1, hb2, hb3⟩ := hb
    by_cases he : er = 0
    · subst he
      rw [if_pos rfl]
      by_cases hn : n ≤ x.rest.length - b
      · rw [if_pos hn]
        have e2 : (x.rest.drop b).take n = (x.rest.take (b + n)).drop b := by rw [List.drop_take]; congr; omega
        simp only
        rw [e2]; clear e2
        have hn' : (n : Int) ≤ (x.rest.length : Int) - b := by omega
        go_enter Try.func38, Try.ntmps38
        go_wp2_with ((first | (go_at_call 63; go_must (refine (reads_ok g x _ h H0.out).mono ?_; rintro e w1 ⟨rfl, rfl⟩)) | (go_at_call 64; go_must (refine (B.out).mono ?_; rintro e w1 ⟨rfl, rfl⟩)) | (go_at_call 65; go_must (refine (takes_ok g x _ (M.ok 0 _ rfl) hf (b + n) (by omega) _ _ (by simp) rfl).mono ?_; rintro e w1 ⟨rfl, U⟩; replace M := M.upd 0 rfl U; clear U)) | ((with_reducible refine tM rfl ?_); refine mB ?_; try (clear M; (first | intro g w1 M | intro w1 M); try simp only [setC] at M)) | ((with_reducible refine tGuard ?_); refine gdC ?_ ?_ <;> (intro hgd; rw [hgd]; try (exfalso; simp at hgd; omega)))) <;> (try conv => arg 5; simp only [apS, setC]))
        go_ret
        exact ⟨rfl, M.upd1 0 rfl⟩
      · rw [if_neg hn]
        have hn' : (x.rest.length : Int) - b < (n : Int) := by omega
        go_enter Try.func38, Try.ntmps38
        go_wp2_with ((first | (go_at_call 63; go_must (refine (reads_ok g x _ h H0.out).mono ?_; rintro e w1 ⟨rfl, rfl⟩)) | (go_at_call 64; go_must (refine (B.out).mono ?_; rintro e w1 ⟨rfl, rfl⟩)) | (go_at_call 65; go_must (refine (takes_no g x _ (M.ok 0 _ rfl) 0 7 (by decide) _ _ rfl).mono ?_; rintro e w1 ⟨rfl, U⟩; replace M := M.upd 0 rfl U; clear U)) | ((with_reducible refine tM rfl ?_); refine mB ?_; try (clear M; (first | intro g w1 M | intro w1 M); try simp only [setC] at M)) | ((with_reducible refine tGuard ?_); refine gdC ?_ ?_ <;> (intro hgd; rw [hgd]; try (exfalso; simp at hgd; omega)))) <;> (try conv => arg 5; simp only [apS, setC]))
        go_ret
        exact ⟨rfl, M.upd1 0 rfl⟩
    · obtain ⟨rfl, rfl⟩ : n = 0 ∧ b = 0 := by
        have := HZ.out; simp at this; omega
      rw [if_neg he]
      have hz0 : ((er : Int) == 0) = false := by simp; exact he
      go_enter Try.func38, Try.ntmps38
      go_wp2_with ((first | (go_at_call 63; go_must (refine (reads_ok g x _ h H0.out).mono ?_; rintro e w1 ⟨rfl, rfl⟩)) | (go_at_call 64; go_must (refine (B.out).mono ?_; rintro e w1 ⟨rfl, rfl⟩)) | (go_at_call 65; go_must (refine (takes_no g x _ (M.ok 0 _ rfl) 0 er he _ _ rfl).mono ?_; rintro e w1 ⟨rfl, U⟩; replace M := M.upd 0 rfl U; clear U)) | ((with_reducible refine tM rfl ?_); refine mB ?_; try (clear M; (first | intro g w1 M | intro w1 M); try simp only [setC] at M)) | ((with_reducible refine tGuard ?_); refine gdC ?_ ?_ <;> (intro hgd; rw [hgd]; try (exfalso; simp at hgd; omega)))) <;> (try conv => arg 5; simp only [apS, setC]))
      go_ret
      exact ⟨rfl, M.upd1 0 rfl⟩
  · have e1 : x.text m = ([], x) := by unfold InS.text; rw [if_neg h0]
    rw [e1]; clear e1
    have H0 := Lib.hid h0
    clear h0
    go_enter Try.func38, Try.ntmps38
    go_wp2_with (first | (go_at_call 63; go_must (refine (reads_no g x _ h H0.out).mono ?_; rintro e w1 ⟨rfl, rfl⟩)))
    go_ret
    exact ⟨rfl, M.upd1 0 rfl⟩
set_option maxHeartbeats 2000000 in
theorem Fault_ok (he : x.err = 0) :
    Calls Try.prog 37 #[.pointer (some ⟨g, 0, none⟩)] w fun e w' => e = .returned (.tuple #[.int .i64 0, .int .i64 0]) ∧ w = w' := by
  have M := Mem.start1 h
  have H0 := Lib.hid he
  clear he
  go_enter Try.func37, Try.ntmps37
  go_wp2_with (first | (go_at_call 63; go_must (refine (reads_ok g x _ h H0.out).mono ?_; rintro e w1 ⟨rfl, rfl⟩)))
  go_ret2
  exact ⟨rfl, rfl⟩
set_option maxHeartbeats 2000000 in
theorem Fault_no (he : x.err ≠ 0) :
    Calls Try.prog 37 #[.pointer (some ⟨g, 0, none⟩)] w fun e w' => e = .returned (.tuple #[.int .i64 x.err, .int .i64 x.read]) ∧ Below w.heap.size w w' := by
  have M := Mem.start1 h
  have H0 := Lib.hid he
  clear he
  go_enter Try.func37, Try.ntmps37
  go_wp2_with ((first | (go_at_call 63; go_must (refine (reads_no g x _ h H0.out).mono ?_; rintro e w1 ⟨rfl, rfl⟩)) | ((with_reducible show Code.wp _ (Code.region 3 _ _) _ _ _); go_must (refine region_det [(0, false), (1, false), (2, false), (4, false), (5, false), (6, false), (3, false), (8, false), (7, false), (9, false)] [(10, .ptr), (14, .ptr)] (by kernel_rfl) (by kernel_rfl) rfl (by kernel_rfl) ?_; replace M := M.drew; simp only [reord, opAt, List.map_cons, List.map_nil, List.getElem?_toArray, List.getElem?_cons_zero, List.getElem?_cons_succ, Option.getD_some])) | ((with_reducible refine tM rfl ?_); refine mB ?_; try (clear M; (first | intro g w1 M | intro w1 M); try simp only [setC] at M)) | ((with_reducible first | show Seg _ _ _ _ | show OnlyN _ _ _ _ _); refine rA ?_) | ((with_reducible refine tGuard ?_); refine gdC ?_ ?_ <;> (intro hgd; rw [hgd]; try (exfalso; simp at hgd; omega)))) <;> (try conv => arg 5; simp only [apS, setC]))
  go_ret2
  exact ⟨rfl, (Kept.refl [] w).drew.below⟩
set_option maxHeartbeats 2000000 in
theorem End_c (hf : x.fit) :
    Calls Try.prog 39 #[.pointer (some ⟨g, 0, none⟩)] w fun e w' => e = .returned (.int .i64 x.fin) ∧ Below w.heap.size w w' := by
  have M := (Mem.start [] w)
  have H := Lib.hid h
  by_cases he : x.err = 0
  · have H0 := Lib.hid he
    by_cases hl : x.rest.length = 0
    · have e : x.fin = 0 := by unfold InS.fin; rw [if_pos he, if_pos hl]
      have hl' : ¬ (0 : Int) < (x.rest.length : Int) := by omega
      rw [e]; clear e hl he
      go_enter Try.func39, Try.ntmps39
      go_wp2_with (first | (go_at_call 37; go_must (refine (Fault_ok g x _ H.out H0.out).mono ?_; rintro e w1 ⟨rfl, rfl⟩)) | (go_at_call 66; go_must (refine (Left_c g x _ H.out hf).mono ?_; rintro e w1 ⟨rfl, rfl⟩)))
      go_ret
      exact ⟨rfl, M.below⟩
    · have e : x.fin = 8 := by unfold InS.fin; rw [if_pos he, if_neg hl]
      have hl' : (0 : Int) < (x.rest.length : Int) := by omega
      rw [e]; clear e hl he
      go_enter Try.func39, Try.ntmps39
      go_wp2_with (first | (go_at_call 37; go_must (refine (Fault_ok g x _ H.out H0.out).mono ?_; rintro e w1 ⟨rfl, rfl⟩)) | (go_at_call 66; go_must (refine (Left_c g x _ H.out hf).mono ?_; rintro e w1 ⟨rfl, rfl⟩)))
      go_ret
      exact ⟨rfl, M.below⟩
  · have H0 := Lib.hid he
    have e : x.fin = x.err := by unfold InS.fin; rw [if_neg he]
    have hz0 : ((x.err : Int) == 0) = false := by simp; exact he
    rw [e]; clear e he
    go_enter Try.func39, Try.ntmps39
    go_wp2_with (first | (go_at_call 37; go_must (refine (Fault_no g x _ H.out H0.out).mono ?_; rintro e w1 ⟨rfl, hb⟩; replace M := M.call hb; clear hb)))
    go_ret
    exact ⟨rfl, M.below⟩
end
set_option maxHeartbeats 1000000 in
theorem packOf_c (s : List UInt8) (w : World) :
    Calls Try.prog 34 #[.string (mkS s)] w fun e w' => ∃ g, e = .returned (.pointer (some ⟨g, 0, none⟩)) ∧ Mem [] w w' [.row g (inV ⟨s, 0, 0⟩)] := by
  have M := Mem.start [] w
  go_enter Try.func34, Try.ntmps34
  go_wp2_with ((first | ((with_reducible refine tBox (some 5) ?_); refine w_box M _ _ rfl rfl _ rfl (inV ⟨s, 0, 0⟩) rfl ?_; clear M; intro g w1 M)) <;> (try conv => arg 5; simp only [apS, setC]))
  go_ret
  exact ⟨g, rfl, M⟩
end Go.Proofs.Ytepjillcmpmlkaa

/- A writer's object (pack.Out): its row, and the slice that it owns; pieces split and put together. No conditions. -/
namespace Go
namespace TL
open Go.RowKit
theorem Mem.split {F : List Nat} {w0 w : World} {a b c : Chunk} {L : List Chunk} (M : Mem F w0 w (c :: L)) (ha : a.ok w) (hb : b.ok w) (fa : ∀ k ∈ a.fp, k ∈ c.fp) (fb : ∀ k ∈ b.fp, k ∈ c.fp) (hd : ∀ k ∈ a.fp, k ∉ b.fp) : Mem F w0 w (a :: b :: L) := by
  have own0 := M.own 0 c rfl
  have nd0 : ∀ (j : Nat) (d : Chunk), L[j]? = some d → ∀ k ∈ c.fp, k ∉ d.fp := fun j d hj => M.nd 0 (j + 1) c d (by omega) rfl (by simpa using hj)
  refine ⟨M.kept, ?_, ?_, ?_⟩
  · rintro (_ | _ | i) d hd'
    · simp at hd'; subst hd'; exact ha
    · simp at hd'; subst hd'; exact hb
    · exact M.ok (i + 1) d (by simpa using hd')
  · rintro (_ | _ | i) d hd' k hk
    · simp at hd'; subst hd'; exact own0 k (fa k hk)
    · simp at hd'; subst hd'; exact own0 k (fb k hk)
    · exact M.own (i + 1) d (by simpa using hd') k hk
  · rintro (_ | _ | i) (_ | _ | j) x y hij hx hy k hk hk2
    · exact hij rfl
    · simp at hx hy; subst hx; subst hy; exact hd k hk hk2
    · simp at hx; subst hx; exact nd0 j y (by simpa using hy) k (fa k hk) hk2
    · simp at hx hy; subst hx; subst hy; exact hd k hk2 hk
    · exact hij rfl
    · simp at hx; subst hx; exact nd0 j y (by simpa using hy) k (fb k hk) hk2
    · simp at hy; subst hy; exact nd0 i x (by simpa using hx) k (fa k hk2) hk
    · simp at hy; subst hy; exact nd0 i x (by simpa using hx) k (fb k hk2) hk
    · exact M.nd (i + 1) (j + 1) x y (by omega) (by simpa using hx) (by simpa using hy) k hk hk2
theorem Mem.fuse {F : List Nat} {w0 w : World} {a b c : Chunk} {L : List Chunk} (M : Mem F w0 w (a :: b :: L)) (hc : c.ok w) (hf : ∀ k ∈ c.fp, k ∈ a.fp ∨ k ∈ b.fp) : Mem F w0 w (c :: L) := by
  have nd0 : ∀ (j : Nat) (d : Chunk), L[j]? = some d → ∀ k ∈ c.fp, k ∉ d.fp := fun j d hj k hk => by
    rcases hf k hk with h | h
    · exact M.nd 0 (j + 2) a d (by omega) rfl (by simpa using hj) k h
    · exact M.nd 1 (j + 2) b d (by omega) rfl (by simpa using hj) k h
  refine ⟨M.kept, ?_, ?_, ?_⟩
  · rintro (_ | i) d hd
    · simp at hd; subst hd; exact hc
    · exact M.ok (i + 2) d (by simpa using hd)
  · rintro (_ | i) d hd k hk
    · simp at hd; subst hd
      rcases hf k hk with h | h
      · exact M.own 0 a rfl k h
      · exact M.own 1 b rfl k h
    · exact M.own (i + 2) d (by simpa using hd) k hk
  · rintro (_ | i) (_ | j) x y hij hx hy k hk hk2
    · exact hij rfl
    · simp at hx; subst hx; exact nd0 j y (by simpa using hy) k hk hk2
    · simp at hy; subst hy; exact nd0 i x (by simpa using hx) k hk2 hk
    · exact M.nd (i + 2) (j + 2) x y (by omega) (by simpa using hx) (by simpa using hy) k hk hk2
theorem row_sees1 {w : World} {g : Nat} {b : UInt8} (h : (Chunk.row g (bs [b])).ok w) : SeesB w (.slice (some ⟨g, 0, none⟩) 1 1) [b] :=
  row_sees h (off := 0) (n := 1) (cap := 1) (by simp) (by omega) (by simp only [maxLen]; omega)
def outC (g : Nat) (v : Value) (l : List UInt8) : Chunk :=
  .obj (g :: v.ownBlock.toList) fun w => (Chunk.row g [v]).ok w ∧ (Chunk.sl 1 v l.length (bs l)).ok w ∧ g ∉ v.ownBlock.toList
theorem outC_ok {w : World} {g : Nat} {v : Value} {l : List UInt8} (h1 : (Chunk.row g [v]).ok w) (h2 : (Chunk.sl 1 v l.length (bs l)).ok w) (h3 : g ∉ v.ownBlock.toList) : (outC g v l).ok w := by
  refine ⟨fun k hk => ?_, ⟨h1, h2, h3⟩, fun w' hs hb => ⟨h1.stay hs fun k hk => hb k ?_, h2.stay hs fun k hk => hb k ?_, h3⟩⟩
  · rcases List.mem_cons.1 hk with rfl | hk
    · exact h1.lt _ (by simp [Chunk.fp])
    · exact h2.lt k hk
  · simp [Chunk.fp] at hk; subst hk; simp
  · exact List.mem_cons_of_mem _ hk
theorem Mem.outOpen {F : List Nat} {w0 w : World} {g : Nat} {v : Value} {l : List UInt8} {L : List Chunk} (M : Mem F w0 w (outC g v l :: L)) : Mem F w0 w (.row g [v] :: .sl 1 v l.length (bs l) :: L) := by
  obtain ⟨h1, h2, h3⟩ := (M.ok 0 _ rfl).2.1
  refine M.split h1 h2 (fun k hk => ?_) (fun k hk => List.mem_cons_of_mem _ hk) (fun k hk hk2 => ?_)
  · simp [Chunk.fp] at hk; subst hk; exact List.mem_cons_self
  · simp [Chunk.fp] at hk; subst hk; exact h3 hk2
theorem Mem.outShut {F : List Nat} {w0 w : World} {g : Nat} {v : Value} {l : List UInt8} {L : List Chunk} (M : Mem F w0 w (.row g [v] :: .sl 1 v l.length (bs l) :: L)) : Mem F w0 w (outC g v l :: L) := by
  refine M.fuse (outC_ok (M.ok 0 _ rfl) (M.ok 1 _ rfl) fun hk => M.nd 0 1 _ _ (by omega) rfl rfl g (by simp [Chunk.fp]) hk) fun k hk => ?_
  rcases List.mem_cons.1 hk with rfl | hk
  · exact .inl (by simp [Chunk.fp])
  · exact .inr hk
end TL
end Go

/- The walks of pack.Out's methods: what is written is behind what was. Conditions: lengths. -/
namespace Go.Proofs.Ytepjillcmpmlkaa
open Go.RowKit Go.TL
set_option maxRecDepth 100000 in
set_option maxHeartbeats 1000000 in
theorem put_c (g : Nat) (v x : Value) (l news : List UInt8) (w : World) (h : (outC g v l).ok w) (hx : SeesB w x news) (hn : l.length + news.length ≤ 100000000) :
    Calls Try.prog 68 #[.pointer (some ⟨g, 0, none⟩), x] w fun e w' => e = .returned (.tuple #[]) ∧ ∃ v', Upd w (outC g v l) w' (outC g v' (l ++ news)) := by
  have hsrc : Src Try.prog w 1 x news.length (bs news) := Src_of_sees hx (bs_one _)
  have M := (Mem.start1 h).outOpen
  go_enter Try.func68, Try.ntmps68
  go_wp2_with ((first | ((with_reducible refine tM rfl ?_); refine mB ?_; try (clear M; (first | intro g w1 M | intro w1 M); try simp only [setC] at M)) | ((with_reducible refine tGuard ?_); refine gdC ?_ ?_ <;> (intro hgd; rw [hgd]; try (exfalso; simp at hgd; omega))) | (at_builtin; go_must (refine w_append M 1 bytesT (.tmp 10) (.tmp 11) _ rfl uB rfl rfl rfl rfl _ _ hsrc (by simp only [maxLen]; omega) (by omega) ?_; clear M; intro p cap w1 M))) <;> (try conv => arg 5; simp only [apS, setC]))
  rw [← bs_append, ← List.length_append] at M
  exact bodyPost_end (results_none rfl _ _ _) rfl ⟨rfl, _, (M.outShut).upd1 0 rfl⟩
set_option maxRecDepth 100000 in
set_option maxHeartbeats 1000000 in
theorem Out_String_c (g : Nat) (v : Value) (l : List UInt8) (w : World) (h : (outC g v l).ok w) :
    Calls Try.prog 47 #[.pointer (some ⟨g, 0, none⟩)] w fun e w' => e = .returned (.string (mkS l)) ∧ w = w' := by
  have M := (Mem.start1 h).outOpen
  go_enter Try.func47, Try.ntmps47
  go_wp2_with ((first | ((with_reducible refine tM rfl ?_); refine mB ?_; try (clear M; (first | intro g w1 M | intro w1 M); try simp only [setC] at M)) | ((with_reducible refine tGuard ?_); refine gdC ?_ ?_ <;> (intro hgd; rw [hgd]; try (exfalso; simp at hgd; omega)))) <;> (try conv => arg 5; simp only [apS, setC]))
  go_ret
  exact ⟨rfl, rfl⟩
end Go.Proofs.Ytepjillcmpmlkaa

/- The walks of pack.Out's Num, Text and Byte. Conditions: lengths. -/
namespace Go.Proofs.Ytepjillcmpmlkaa
open Go.RowKit Go.TL
set_option maxHeartbeats 2000000 in
theorem Num_c (g : Nat) (v : Value) (l : List UInt8) (n : Nat) (a : Int) (ha : a = (n : Int)) (w : World) (h : n < 18446744073709551616) (hl : l.length ≤ 10000000) (ho : (outC g v l).ok w) :
    Calls Try.prog 44 #[.pointer (some ⟨g, 0, none⟩), .int .u64 a] w fun e w' => e = .returned (.tuple #[]) ∧ ∃ v', Upd w (outC g v l) w' (outC g v' (l ++ numL n)) := by
  subst ha
  have M := Mem.start1 ho
  have hn10 := numL_length_le n h
  go_enter Try.func44, Try.ntmps44
  go_wp2_with (first | (go_at_call 67; go_must (refine (size_c n _ h).mono ?_; rintro e w1 ⟨rfl, rfl⟩)))
  go_loopw [1, 4] (fun nv lv wr => ∃ (m : Nat) (d : List UInt8) (v' : Value), m < 18446744073709551616 ∧ d ++ numL m = numL n ∧ nv = .int .u64 m ∧ lv = .int .i64 (numL m).length ∧ Mem (outC g v l).fp w wr [outC g v' (l ++ d)]) (fun _ lv _ => (intOf lv).toNat)
  case atStart => exact ⟨n, [], v, h, rfl, rfl, rfl, by simpa using M⟩
  case round =>
    clear M
    obtain ⟨m, d, v', hm, hd, rfl, rfl, M⟩ := hrel
    have hdl : d.length ≤ 10 := by have := congrArg List.length hd; simp at this; omega
    by_cases h128 : m < 128
    · have e1 := numL_small h128
      rw [e1] at hd ⊢
      rw [List.length_singleton]
      go_wp2_with ((first | ((with_reducible refine tU 76 ?_); refine mU ?_; clear M; intro g w1 M) | (go_at_call 68; go_must (refine (put_c _ _ _ _ [_] _ (M.ok 1 _ rfl) (row_sees1 (M.ok 0 _ rfl)) (by simp; omega)).mono ?_; rintro e w2 ⟨rfl, v1, U⟩; replace M := (M.upd 1 rfl U).tail; clear U))) <;> (try conv => arg 5; simp only [apS, setC]))
      simp only [List.set_cons_zero] at M
      rw [w8_nat, List.append_assoc, hd] at M
      exact bodyPost_end (results_none rfl _ _ _) rfl ⟨rfl, _, M.upd1 0 rfl⟩
    · have e1 := numL_big (n := m) (by omega)
      obtain ⟨k, ek⟩ : ∃ k, k = (numL (m / 128)).length := ⟨_, rfl⟩
      have hk : 0 < k := by rw [ek]; exact numL_pos _
      have e2 : (numL m).length = k + 1 := by rw [e1, ek]; rfl
      rw [e2]
      go_wp2_with ((first | ((with_reducible refine tU 76 ?_); refine mU ?_; clear M; intro g w1 M) | (go_at_call 68; go_must (refine (put_c _ _ _ _ [_] _ (M.ok 1 _ rfl) (row_sees1 (M.ok 0 _ rfl)) (by simp; omega)).mono ?_; rintro e w2 ⟨rfl, v1, U⟩; replace M := (M.upd 1 rfl U).tail; clear U))) <;> (try conv => arg 5; simp only [apS, setC]))
      simp only [List.set_cons_zero] at M
      have eb : w8 (m : Int) ||| 128 = UInt8.ofNat (m % 128 + 128) := by
        rw [w8_nat]; exact or128 m
      rw [eb, List.append_assoc] at M
      have hk10 : k ≤ 10 := by have := numL_length_le (m / 128) (by omega); omega
      refine ⟨⟨m / 128, d ++ [UInt8.ofNat (m % 128 + 128)], v1, by omega, by rw [← hd, e1]; simp, by go_num, by rw [← ek, IntWalk.wrap64_in _ (by omega)], M⟩, ?_⟩
      rw [← ek, IntWalk.wrap64_in _ (by omega)]
      simp only [intOf]; omega
set_option maxHeartbeats 1000000 in
theorem Out_Text_c (g : Nat) (v : Value) (l t : List UInt8) (w : World) (ht : t.length ≤ 1000000) (hl : l.length ≤ 1000000) (ho : (outC g v l).ok w) :
    Calls Try.prog 46 #[.pointer (some ⟨g, 0, none⟩), .string (mkS t)] w fun e w' => e = .returned (.tuple #[]) ∧ ∃ v', Upd w (outC g v l) w' (outC g v' (l ++ textL t)) := by
  have M := Mem.start1 ho
  have hn := numL_length_le t.length (by omega)
  go_enter Try.func46, Try.ntmps46
  go_wp2_with ((first | ((with_reducible refine tConv (some 11) 9 76 ?_); go_must (refine w_bytes M _ _ _ _ rfl rfl rfl Try.underlying9 Try.underlying76 Try.underlying5 (by first | omega | (simp; omega)) ?_; clear M; intro gb capgb w1 hcapgb M)) | (go_at_call 44; go_must (refine (Num_c _ _ _ t.length _ (I64_nat _ (by omega)) _ (by omega) (by omega) (M.ok 0 _ rfl)).mono ?_; rintro e w2 ⟨rfl, v1, U⟩; replace M := M.upd 0 rfl U; clear U; simp only [List.set_cons_zero] at M)) | (go_at_call 68; go_must (refine (put_c _ _ _ _ _ _ (M.ok 1 _ rfl) (SeesB.of_own (M.ok 0 _ rfl) rfl) (by simp; omega)).mono ?_; rintro e w2 ⟨rfl, v1, U⟩; replace M := (M.upd 1 rfl U).tail; clear U))) <;> (try conv => arg 5; simp only [apS, setC]))
  simp only [List.set_cons_zero, List.append_assoc] at M
  exact bodyPost_end (results_none rfl _ _ _) rfl ⟨rfl, _, M.upd1 0 rfl⟩
end Go.Proofs.Ytepjillcmpmlkaa

/- The walk of pack.In.Byte. Conditions: lengths. -/
namespace Go.Proofs.Ytepjillcmpmlkaa
open Go.RowKit Go.TL
section
variable (g : Nat) (x : InS) (w : World) (h : (Chunk.row g (inV x)).ok w)
include h
set_option maxRecDepth 100000 in
set_option maxHeartbeats 2000000 in
theorem In_Byte_c (hf : x.fit) :
    Calls Try.prog 36 #[.pointer (some ⟨g, 0, none⟩)] w fun e w' => e = .returned (.int .u8 x.byte.1) ∧ Upd w (.row g (inV x)) w' (.row g (inV x.byte.2)) := by
  obtain ⟨rest, read, err⟩ := x
  have M := Mem.start1 (c := .row g [.string (mkS rest), .int .i64 (read : Nat), .int .i64 (err : Nat)]) h
  by_cases h0 : err = 0
  · subst h0
    cases rest with
    | nil =>
      go_enter Try.func36, Try.ntmps36
      go_wp2_with ((first | (go_at_call 63; go_must (refine (reads_ok g _ _ h rfl).mono ?_; rintro e w1 ⟨rfl, rfl⟩)) | ((with_reducible refine tM rfl ?_); refine mB ?_; try (clear M; (first | intro g w1 M | intro w1 M); try simp only [setC] at M))) <;> (try conv => arg 5; simp only [apS, setC]))
      go_ret
      exact ⟨rfl, M.upd1 0 rfl⟩
    | cons b r =>
      have hb : ((b.toNat : Nat) : Int) = I8 b := (I8_eq b).symm
      have e : InS.byte ⟨b :: r, read, 0⟩ = (b.toNat, InS.take ⟨b :: r, read, 0⟩ 1 0) := rfl
      rw [e]; simp only [hb]; clear e hb
      go_enter Try.func36, Try.ntmps36
      go_wp2_with ((first | (go_at_call 63; go_must (refine (reads_ok g _ _ h rfl).mono ?_; rintro e w1 ⟨rfl, rfl⟩)) | (go_at_call 65; go_must (refine (takes_ok g _ _ (M.ok 0 _ rfl) hf 1 (by simp) _ _ rfl rfl).mono ?_; rintro e w1 ⟨rfl, U⟩; replace M := M.upd 0 rfl U; clear U)) | ((with_reducible refine tM rfl ?_); refine mB ?_; try (clear M; (first | intro g w1 M | intro w1 M); try simp only [setC] at M))) <;> (try conv => arg 5; simp only [apS, setC]))
      go_ret
      exact ⟨rfl, M.upd1 0 rfl⟩
  · have e1 : InS.byte ⟨rest, read, err⟩ = (0, ⟨rest, read, err⟩) := by unfold InS.byte; rw [if_neg h0]
    rw [e1]; clear e1
    have H0 := Lib.hid h0
    clear h0
    go_enter Try.func36, Try.ntmps36
    go_wp2_with (first | (go_at_call 63; go_must (refine (reads_no g _ _ h H0.out).mono ?_; rintro e w1 ⟨rfl, rfl⟩)))
    go_ret
    exact ⟨rfl, M.upd1 0 rfl⟩
end
end Go.Proofs.Ytepjillcmpmlkaa

/- The walks of the reference's layer 12: a number's and a text's bytes, and how they are read. Conditions: lengths. -/
namespace Go
namespace TL
open Go.RowKit
def irV (x : RS) : List Value := [.string (mkS x.rest), .int .i64 x.err]
end TL
end Go
namespace Go.Proofs.Ytepjillcmpmlkaa
open Go.RowKit Go.TL
section
variable (g : Nat) (x : RS) (w : World) (h : (Chunk.row g (irV x)).ok w)
include h
end
end Go.Proofs.Ytepjillcmpmlkaa

/- The walk of the reference's reader of texts (layer 12). Conditions: lengths. -/
namespace Go
namespace TL
end TL
end Go
namespace Go.Proofs.Ytepjillcmpmlkaa
open Go.RowKit Go.TL
section
variable (g : Nat) (x : RS) (w : World) (h : (Chunk.row g (irV x)).ok w)
include h
end
end Go.Proofs.Ytepjillcmpmlkaa

/- The walks of pack.In.Byte, pack.Out.Byte and the reference's In.Byte. Conditions: lengths. -/
namespace Go
namespace TL
def RS.byte (x : RS) : Nat × RS := if x.err = 0 then (match x.rest with | [] => (0, ⟨[], 7⟩) | b :: r => (b.toNat, ⟨r, 0⟩)) else (0, x)
theorem Alike.byte {x : InS} {y : RS} (h : Alike x y) : x.byte.1 = y.byte.1 ∧ Alike x.byte.2 y.byte.2 := by
  obtain ⟨h1, h2⟩ := h
  unfold InS.byte RS.byte
  by_cases h0 : x.err = 0
  · rw [if_pos h0, if_pos (h1 ▸ h0), h2 h0]
    cases e : y.rest with
    | nil => simp only []; unfold InS.take; rw [if_neg (by decide)]; exact ⟨trivial, rfl, fun h => by cases h⟩
    | cons b r => simp only []; unfold InS.take; rw [if_pos rfl]; exact ⟨trivial, rfl, fun _ => by simp only [h2 h0, e]; rfl⟩
  · rw [if_neg h0, if_neg (h1 ▸ h0)]
    exact ⟨rfl, h1, fun h => absurd h h0⟩
end TL
end Go
namespace Go.Proofs.Ytepjillcmpmlkaa
open Go.RowKit Go.TL
set_option maxRecDepth 100000 in
set_option maxHeartbeats 1000000 in
theorem Out_Byte_c (g : Nat) (v : Value) (l : List UInt8) (b : UInt8) (w : World) (hl : l.length ≤ 1000000) (ho : (outC g v l).ok w) :
    Calls Try.prog 45 #[.pointer (some ⟨g, 0, none⟩), .int .u8 (I8 b)] w fun e w' => e = .returned (.tuple #[]) ∧ ∃ v', Upd w (outC g v l) w' (outC g v' (l ++ [b])) := by
  have M := Mem.start1 ho
  go_enter Try.func45, Try.ntmps45
  go_wp2_with ((first | ((with_reducible refine tU 76 ?_); refine mU ?_; clear M; intro g w1 M) | (go_at_call 68; go_must (refine (put_c _ _ _ _ [_] _ (M.ok 1 _ rfl) (row_sees1 (M.ok 0 _ rfl)) (by simp; omega)).mono ?_; rintro e w2 ⟨rfl, v1, U⟩; replace M := (M.upd 1 rfl U).tail; clear U))) <;> (try conv => arg 5; simp only [apS, setC]))
  simp only [List.set_cons_zero] at M
  exact bodyPost_end (results_none rfl _ _ _) rfl ⟨rfl, _, M.upd1 0 rfl⟩
section
variable (g : Nat) (x : RS) (w : World) (h : (Chunk.row g (irV x)).ok w)
include h
end
end Go.Proofs.Ytepjillcmpmlkaa

/- The walk of path.named. Conditions: lengths. -/
namespace Go
namespace TL
theorem goodN_of {b : UInt8} (h1 : ¬ I8 b < 97) (h2 : ¬ 122 < I8 b) : goodN b = true := by rw [I8_eq] at h1 h2; simp [goodN]; omega
theorem badN_lo {b : UInt8} (h1 : I8 b < 97) : goodN b = false := by rw [I8_eq] at h1; simp [goodN]; omega
theorem badN_hi {b : UInt8} (h1 : 122 < I8 b) : goodN b = false := by rw [I8_eq] at h1; simp [goodN]; omega
end TL
end Go
namespace Go.Proofs.Ytepjillcmpmlkaa
open Go.RowKit Go.TL
set_option maxRecDepth 100000 in
set_option maxHeartbeats 2000000 in
theorem named_c (s : List UInt8) (w : World) (hs : s.length ≤ 1000000000) :
    Calls Try.prog 70 #[.string (mkS s)] w fun e w' => e = .returned (.bool (namedL s)) ∧ w = w' := by
  have hbad : ∀ k, k < s.length → goodN (s.getD k 0) = false → namedL s = false := fun k h hb => named_bad h hb
  have hgood : (∀ k, k < s.length → goodN (s.getD k 0) = true) → namedL s = decide (1 ≤ s.length ∧ s.length ≤ 8) := named_good
  obtain ⟨N, eN⟩ : ∃ N, N = namedL s := ⟨_, rfl⟩
  rw [← eN] at hbad hgood ⊢
  have HB := Lib.hid hbad
  have HG := Lib.hid hgood
  clear eN hbad hgood
  go_enter Try.func70, Try.ntmps70
  go_wp2_with fail
  go_loop [6] (fun iv => ∃ k : Nat, k ≤ s.length ∧ iv = .int .i64 k ∧ Hid (∀ j, j < k → goodN (s.getD j 0) = true)) (fun iv => s.length - (intOf iv).toNat)
  case atStart => exact ⟨0, by omega, rfl, Lib.hid (by omega)⟩
  case round =>
    obtain ⟨k, hk, rfl, HK⟩ := hrel
    by_cases hlt : k < s.length
    · by_cases h1 : I8 (bt s k) < 97
      · have e : N = false := HB.out k hlt (badN_lo h1)
        subst e
        go_wp2_with fail
        go_ret
        exact ⟨rfl, rfl⟩
      · by_cases h2 : 122 < I8 (bt s k)
        · have e : N = false := HB.out k hlt (badN_hi h2)
          subst e
          replace h1 : 97 ≤ I8 (bt s k) := by omega
          go_wp2_with fail
          go_ret
          exact ⟨rfl, rfl⟩
        · have hg := Lib.hid (goodN_of h1 h2)
          replace h1 : 97 ≤ I8 (bt s k) := by omega
          replace h2 : I8 (bt s k) ≤ 122 := by omega
          go_wp2_with fail
          go_round
          case rel => exact ⟨k + 1, by omega, by go_num, Lib.hid fun j hj => by
            rcases Nat.lt_succ_iff_lt_or_eq.1 hj with hj | rfl
            · exact HK.out j hj
            · exact hg.out⟩
          case measure => simp [intOf]; omega
    · obtain rfl : k = s.length := by omega
      have e : N = decide (1 ≤ s.length ∧ s.length ≤ 8) := HG.out HK.out
      by_cases hl : 1 ≤ s.length ∧ s.length ≤ 8
      · rw [decide_eq_true hl] at e
        subst e
        obtain ⟨hl1, hl2⟩ := hl
        go_wp2_with fail
        go_ret
        exact ⟨by first | rfl | (simp <;> omega), rfl⟩
      · rw [decide_eq_false hl] at e
        subst e
        go_wp2_with fail
        all_goals
          go_ret
          exact ⟨by first | rfl | (simp <;> omega), rfl⟩
end Go.Proofs.Ytepjillcmpmlkaa

/- The walks of package path's named, key and Cut, and of the reference's. Conditions: lengths. -/
namespace Go.Proofs.Ytepjillcmpmlkaa
open Go.RowKit Go.TL
set_option maxRecDepth 100000 in
set_option maxHeartbeats 2000000 in
theorem key_c (s : List UInt8) (w : World) (hs : s.length ≤ 1000000000) :
    Calls Try.prog 71 #[.string (mkS s)] w fun e w' => e = .returned (.bool (pkeyL s)) ∧ w = w' := by
  have C : ∀ c : UInt8, Calls Try.prog 82 #[.string (mkS s), .int .u8 (c.toNat : Int)] w fun e w' => e = .returned (.int .i64 (Lib.indexByte s c)) ∧ w = w' := fun c =>
    (Go.Proofs.Try.strings_IndexByte (mkS s) c.toNat w).mono fun _ _ ⟨a, b⟩ => ⟨by rw [a, mkS_data]; simp, b.symm⟩
  have C0 := Lib.hid (C 0)
  have C47 := Lib.hid (C 47)
  clear C
  by_cases hl : 1 ≤ s.length ∧ s.length ≤ 24
  · rw [pkey_index s hl]
    obtain ⟨i0, e0⟩ : ∃ i, i = Lib.indexByte s 0 := ⟨_, rfl⟩
    obtain ⟨i4, e4⟩ : ∃ i, i = Lib.indexByte s 47 := ⟨_, rfl⟩
    rw [← e0] at C0 ⊢
    rw [← e4] at C47 ⊢
    clear e0 e4
    obtain ⟨hl1, hl2⟩ := hl
    by_cases h0 : i0 < 0
    all_goals
      go_enter Try.func71, Try.ntmps71
      go_wp2_with ((go_at_call 82; go_must ((first | refine (C0.out).mono ?_ | refine (C47.out).mono ?_); rintro e w1 ⟨rfl, rfl⟩)))
      go_ret
      exact ⟨by first | rfl | (simp [h0]; done) | (simp <;> omega), rfl⟩
  · rw [pkey_len hl]
    go_enter Try.func71, Try.ntmps71
    go_wp2_with fail
    all_goals
      go_ret
      exact ⟨rfl, rfl⟩
set_option maxRecDepth 100000 in
set_option maxHeartbeats 2000000 in
theorem sliteCut_c (p : List UInt8) (w : World) (hp : p.length ≤ 1000000000) :
    Calls Try.prog 81 #[.string (mkS p), .string (mkS [47])] w fun e w' => e = .returned (.tuple #[.string (mkS (scutL p).1), .string (mkS (scutL p).2.1), .bool (scutL p).2.2]) ∧ Below w.heap.size w w' := by
  have I : Calls Try.prog 85 #[.string (mkS p), .string (mkS [47])] w fun e w' => e = .returned (.int .i64 (if slash p < p.length then (slash p : Int) else -1)) ∧ w = w' :=
    (Go.Proofs.Try.stringslite_Index_one (mkS p) 47 w).mono fun _ _ ⟨a, b⟩ => ⟨by rw [a, mkS_data, indexByte_slash], b.symm⟩
  have M := Mem.start [] w
  have hsl := slash_le p
  obtain ⟨C, eC⟩ : ∃ C, C = scutL p := ⟨_, rfl⟩
  rw [← eC]
  by_cases h : slash p < p.length
  · rw [if_pos h] at I
    rw [scut_yes h] at eC
    have I := Lib.hid I
    subst eC
    go_enter Try.func81, Try.ntmps81
    go_wp2_with ((first | (go_at_call 85; go_must (refine (I.out).mono ?_; rintro e w1 ⟨rfl, rfl⟩)) | ((with_reducible show Code.wp _ (Code.region 3 _ _) _ _ _); go_must (refine region_det [(0, false), (1, false), (2, false), (3, false), (4, false), (5, false), (6, false), (7, false), (8, false), (9, false), (10, false), (11, false)] [(17, .int), (19, .int)] (by kernel_rfl) (by kernel_rfl) rfl (by kernel_rfl) ?_; replace M := M.drew; simp only [reord, opAt, List.map_cons, List.map_nil, List.getElem?_toArray, List.getElem?_cons_zero, List.getElem?_cons_succ, Option.getD_some])) | ((with_reducible refine tM rfl ?_); refine mB ?_; try (clear M; (first | intro g w1 M | intro w1 M); try simp only [setC] at M)) | ((with_reducible first | show Seg _ _ _ _ | show OnlyN _ _ _ _ _); refine rA ?_) | ((with_reducible refine tGuard ?_); refine gdC ?_ ?_ <;> (intro hgd; rw [hgd]; try (exfalso; simp at hgd; omega)))) <;> (try conv => arg 5; simp only [apS, setC]))
    go_ret3
    exact ⟨rfl, M.below⟩
  · rw [if_neg h] at I
    rw [scut_no h] at eC
    have I := Lib.hid I
    subst eC
    go_enter Try.func81, Try.ntmps81
    go_wp2_with (first | (go_at_call 85; go_must (refine (I.out).mono ?_; rintro e w1 ⟨rfl, rfl⟩)))
    go_ret3
    exact ⟨rfl, M.below⟩
set_option maxRecDepth 100000 in
set_option maxHeartbeats 2000000 in
theorem strCut_c (p : List UInt8) (w : World) (hp : p.length ≤ 1000000000) :
    Calls Try.prog 69 #[.string (mkS p), .string (mkS [47])] w fun e w' => e = .returned (.tuple #[.string (mkS (scutL p).1), .string (mkS (scutL p).2.1), .bool (scutL p).2.2]) ∧ Below w.heap.size w w' := by
  have M := Mem.start [] w
  go_enter Try.func69, Try.ntmps69
  go_wp2_with ((go_at_call 81; go_must (refine (sliteCut_c p _ hp).mono ?_; rintro e w1 ⟨rfl, hb⟩; replace M := M.call hb; clear hb)))
  go_ret3
  exact ⟨rfl, M.below⟩
set_option maxRecDepth 100000 in
set_option maxHeartbeats 2000000 in
theorem Cut_c (p : List UInt8) (w : World) (hp : p.length ≤ 1000000000) :
    Calls Try.prog 50 #[.string (mkS p)] w fun e w' => e = .returned (.tuple #[.string (mkS (cutL p).1), .string (mkS (cutL p).2.1), .bool (cutL p).2.2]) ∧ Below w.heap.size w w' := by
  have M := Mem.start [] w
  have hsl := slash_le p
  obtain ⟨C, eC⟩ : ∃ C, C = cutL p := ⟨_, rfl⟩
  rw [← eC]
  unfold cutL at eC
  have S : Calls Try.prog 69 #[.string (mkS p), .string (mkS [47])] w fun e w' => e = .returned (.tuple #[.string (mkS (scutL p).1), .string (mkS (scutL p).2.1), .bool (scutL p).2.2]) ∧ Below w.heap.size w w' := strCut_c p w hp
  by_cases h : slash p < p.length
  · rw [scut_yes h] at S
    have S := Lib.hid S
    obtain ⟨a, ea⟩ : ∃ a, a = p.take (slash p) := ⟨_, rfl⟩
    obtain ⟨b, eb⟩ : ∃ b, b = p.drop (slash p + 1) := ⟨_, rfl⟩
    have la : a.length ≤ 1000000000 := by rw [ea]; simp; omega
    have lb : b.length ≤ 1000000000 := by rw [eb]; simp; omega
    rw [← ea, ← eb] at S eC
    clear ea eb
    have N : ∀ w, Calls Try.prog 70 #[.string (mkS a)] w fun e w' => e = .returned (.bool (namedL a)) ∧ w = w' := fun w => named_c a w la
    have K : ∀ w, Calls Try.prog 71 #[.string (mkS b)] w fun e w' => e = .returned (.bool (pkeyL b)) ∧ w = w' := fun w => key_c b w lb
    by_cases hn : namedL a = true
    · by_cases hk : pkeyL b = true
      · rw [if_pos ⟨h, hn, hk⟩] at eC
        rw [hn] at N; rw [hk] at K
        have N := Lib.hid N; have K := Lib.hid K
        subst eC
        go_enter Try.func50, Try.ntmps50
        go_wp2_with (first | (go_at_call 69; go_must (refine (S.out).mono ?_; rintro e w1 ⟨rfl, hb⟩; replace M := M.call hb; clear hb)) | (go_at_call 70; go_must (refine (N.out _).mono ?_; rintro e w1 ⟨rfl, rfl⟩)) | (go_at_call 71; go_must (refine (K.out _).mono ?_; rintro e w1 ⟨rfl, rfl⟩)))
        go_ret3
        exact ⟨rfl, M.below⟩
      · rw [if_neg (fun x => hk x.2.2)] at eC
        rw [hn] at N; rw [Bool.not_eq_true] at hk; rw [hk] at K
        have N := Lib.hid N; have K := Lib.hid K
        subst eC
        go_enter Try.func50, Try.ntmps50
        go_wp2_with (first | (go_at_call 69; go_must (refine (S.out).mono ?_; rintro e w1 ⟨rfl, hb⟩; replace M := M.call hb; clear hb)) | (go_at_call 70; go_must (refine (N.out _).mono ?_; rintro e w1 ⟨rfl, rfl⟩)) | (go_at_call 71; go_must (refine (K.out _).mono ?_; rintro e w1 ⟨rfl, rfl⟩)))
        go_ret3
        exact ⟨rfl, M.below⟩
    · rw [if_neg (fun x => hn x.2.1)] at eC
      rw [Bool.not_eq_true] at hn; rw [hn] at N
      have N := Lib.hid N
      subst eC
      go_enter Try.func50, Try.ntmps50
      go_wp2_with (first | (go_at_call 69; go_must (refine (S.out).mono ?_; rintro e w1 ⟨rfl, hb⟩; replace M := M.call hb; clear hb)) | (go_at_call 70; go_must (refine (N.out _).mono ?_; rintro e w1 ⟨rfl, rfl⟩)))
      go_ret3
      exact ⟨rfl, M.below⟩
  · rw [scut_no h] at S
    have S := Lib.hid S
    rw [if_neg (fun x => h x.1)] at eC
    subst eC
    go_enter Try.func50, Try.ntmps50
    go_wp2_with (first | (go_at_call 69; go_must (refine (S.out).mono ?_; rintro e w1 ⟨rfl, hb⟩; replace M := M.call hb; clear hb)))
    go_ret3
    exact ⟨rfl, M.below⟩
end Go.Proofs.Ytepjillcmpmlkaa

/- The walk of the reference's layer 11 (path): Named. Conditions: lengths. -/
namespace Go.Proofs.Ytepjillcmpmlkaa
open Go.RowKit Go.TL
end Go.Proofs.Ytepjillcmpmlkaa

/- The walks of the reference's layer 11 (path): Named, Key, Cut and Less. Conditions: lengths. -/
namespace Go.Proofs.Ytepjillcmpmlkaa
open Go.RowKit Go.TL
end Go.Proofs.Ytepjillcmpmlkaa

/- Plain laws of walks: a variable's one cell; a result of two, the first in memory. No conditions. -/
namespace Go
namespace TL
open Go.RowKit
def cellV (v : Value) : List Value := [v]
theorem SeesL.row1 {w : World} {g : Nat} {c : Value} (h : (Chunk.row g [c]).ok w) : SeesL w 1 cellV (.slice (some ⟨g, 0, none⟩) 1 1) [c] :=
  ⟨⟨rfl, .inr ⟨g, 0, 1, rfl, h.1, Nat.le_refl _, by simp only [maxLen]; omega, h.2.1⟩⟩, fun _ => rfl⟩
theorem results_row2 {P : Program} {fn : Func} {p q : Tmp} {ty : TypeId} (h : fn.results = #[.cell p ty, .tmp q]) (tmps : Array Value) (w : World) (b o : Nat) (cs : List Value) (d : TypeDesc) (z : Value)
    (hp : tmps.getD p undef = .pointer (some ⟨b, o, none⟩)) (hz : tmps.getD q undef = z) (hc : w.rangeAt b o cs) (hu : P.underlying ty = some d) (hd : d.isRow = true) (hi : (P.info? ty).map (·.size) = some cs.length) :
    (results fn tmps).run P w = .ok (.tuple #[.agg cs.toArray, z]) w := by
  have hp' : tmps[p]?.getD undef = .pointer (some ⟨b, o, none⟩) := by simpa using hp
  have hz' : tmps[q]?.getD undef = z := by simpa using hz
  simp [results, h, hp', hz', asAddr, run_loadVar_mid w b o ty cs d hc hu hd hi]
end TL
end Go

/- The walks of batch.Right's closure, and of batch.each under it. Conditions: lengths. -/
namespace Go
namespace TL
theorem I8_ne {q c : UInt8} (h : q ≠ c) : (I8 q == I8 c) = false ∧ (I8 q != I8 c) = true := by
  have : I8 q ≠ I8 c := fun e => h (by rw [I8_eq, I8_eq] at e; exact UInt8.toNat_inj.1 (by omega))
  exact ⟨by simpa using this, by simpa using this⟩
theorem each_bad {f : List UInt8 → Nat} {l : List Opr} {k : Nat} {x : Opr} {r : Nat} (h : l[k]? = some x) (hb : ∀ (j : Nat) (y : Opr), j < k → l[j]? = some y → opE f y = 0) (hx : opE f x = r) (hr : r ≠ 0) : eachE f l = r := by
  rw [each_at h hb (by rw [hx]; exact hr), hx]
end TL
end Go
namespace Go.Proofs.Ytepjillcmpmlkaa
open Go.RowKit Go.TL
set_option maxRecDepth 100000 in
set_option maxHeartbeats 2000000 in
theorem Right1_c (p : List UInt8) (w : World) (hp : p.length ≤ 1000000000) :
    Calls Try.prog 49 #[.string (mkS p)] w fun e w' => e = .returned (.int .i64 (cutE p)) ∧ Below w.heap.size w w' := by
  have M := Mem.start [] w
  have C := fun w => Cut_c p w hp
  unfold cutE
  obtain ⟨⟨m, k, ok⟩, ec⟩ : ∃ c, c = cutL p := ⟨_, rfl⟩
  rw [← ec] at C ⊢
  clear ec
  simp only at C ⊢
  replace C := Lib.hid C
  cases ok with
  | true =>
    simp only [if_true]
    go_enter Try.func49, Try.ntmps49
    go_wp2_with (first | (go_at_call 50; go_must (refine (C.out _).mono ?_; rintro e w1 ⟨rfl, hb⟩; replace M := M.call hb; clear hb)))
    go_ret
    exact ⟨rfl, M.below⟩
  | false =>
    go_enter Try.func49, Try.ntmps49
    go_wp2_with (first | (go_at_call 50; go_must (refine (C.out _).mono ?_; rintro e w1 ⟨rfl, hb⟩; replace M := M.call hb; clear hb)))
    go_ret
    exact ⟨rfl, M.below⟩
set_option maxRecDepth 100000 in
set_option maxHeartbeats 8000000 in
theorem EachR_c (ops : List Opr) (v : Value) (w : World) (S : SeesL w 3 opV v ops) (hl : ops.length ≤ 1000000) (hm : ∀ x ∈ ops, x.2.1.length ≤ 100000000 ∧ x.2.2.length ≤ 100000000) :
    Calls Try.prog 29 #[v, .func (.func 49) #[] #[]] w fun e w' => e = .returned (.int .i64 (eachE cutE ops)) ∧ Below w.heap.size w w' := by
  obtain ⟨q, cap, rfl, hc⟩ := S.form
  have M := Mem.start [] w
  have HB := fun k x r => @each_bad cutE ops k x r
  have HG := @each_all cutE ops
  obtain ⟨R, eR⟩ : ∃ R, R = eachE cutE ops := ⟨_, rfl⟩
  rw [← eR] at HB HG ⊢
  replace HB := Lib.hid HB
  replace HG := Lib.hid HG
  clear eR
  go_enter Try.func29, Try.ntmps29
  go_wp2_with fail
  go_loopw [10] (fun iv wr => ∃ k : Nat, k ≤ ops.length ∧ iv = .int .i64 k ∧ Hid (∀ (j : Nat) (y : Opr), j < k → ops[j]? = some y → opE cutE y = 0) ∧ Mem [] w wr []) (fun iv _ => ops.length - (intOf iv).toNat)
  case atStart => exact ⟨0, by omega, rfl, Lib.hid (by omega), M⟩
  case round =>
    clear M
    obtain ⟨k, hk, rfl, HK, M⟩ := hrel
    by_cases hlt : k < ops.length
    · obtain ⟨g, so, rfl⟩ := S.addr (by omega)
      obtain ⟨⟨q, a, b⟩, hx⟩ : ∃ x, ops[k]? = some x := ⟨_, List.getElem?_eq_getElem hlt⟩
      obtain ⟨ha, hb⟩ := hm (q, a, b) (List.mem_of_getElem? hx)
      simp only at ha hb
      have C := fun w => Right1_c a w (by omega)
      have HX := Lib.hid hx
      clear hx
      by_cases hq : q = 1 ∨ q = 2
      · have HQ := Lib.hid hq
        have HI : I8 q = 1 ∨ I8 q = 2 := by rcases hq with rfl | rfl; exact .inl rfl; exact .inr rfl
        obtain ⟨n, en⟩ : ∃ n, n = cutE a := ⟨_, rfl⟩
        have EN := Lib.hid en
        try simp only at en
        rw [← en] at C
        replace C := Lib.hid C
        clear en hq
        by_cases hn : n = 0
        · subst hn
          by_cases hb32 : 32 < b.length
          · have e : R = 3 := HB.out k _ _ HX.out HK.out (op_long HQ.out EN.out.symm hb32) (by decide)
            subst e
            have hb33 : (32 : Int) < (b.length : Int) := by omega
            rcases HI with HI | HI
            all_goals
              go_wp2_with ((first | ((with_reducible refine tLoad ?_); refine w_at _ _ rfl (by exact ev_tmp rfl) ?_; intro hx; first | (refine w_seeA M S HX.out _ _ rfl hx rfl (by decide +kernel) (by first | (with_reducible rfl) | omega) (by kernel_rfl) ?_; clear hx; (try conv => arg 5; simp only [Act.put, List.setIfInBounds_toArray, setC, opV_eq])) | (refine w_see M S HX.out _ _ rfl hx rfl (by decide +kernel) 0 (by first | (with_reducible rfl) | omega) rfl ?_; clear hx) | (refine w_see M S HX.out _ _ rfl hx rfl (by decide +kernel) 1 (by first | (with_reducible rfl) | omega) rfl ?_; clear hx) | (refine w_see M S HX.out _ _ rfl hx rfl (by decide +kernel) 2 (by first | (with_reducible rfl) | omega) rfl ?_; clear hx)) | ((with_reducible refine tAlloc (some 6) 44 ?_); refine w_alloc M _ rfl rfl (.agg #[.int .u8 0, .string (mkS []), .string (mkS [])]) (opV (0, [], [])) (by kernel_rfl) rfl ?_; clear M; intro gx w1 M) | (go_at_call 49; go_must (refine (C.out _).mono ?_; rintro e w1 ⟨rfl, hb⟩; replace M := M.call hb; clear hb)) | ((with_reducible refine tM rfl ?_); refine mS ?_; try (clear M; (first | intro g w1 M | intro w1 M); try simp only [setC] at M))) <;> (try conv => arg 5; simp only [apS, setC]))
              go_ret
              exact ⟨rfl, M.below⟩
          · have hb33 : (b.length : Int) ≤ 32 := by omega
            rcases HI with HI | HI
            · have hq1 : q = 1 := by
                rcases HQ.out with h | h
                · exact h
                · subst h; exact absurd HI (by decide)
              have HZ := Lib.hid (op_good (f := cutE) (x := (q, a, b)) HQ.out EN.out.symm (by simp only; omega) (fun h => by simp only at h; rw [hq1] at h; exact absurd h (by decide)))
              clear hq1
              go_wp2_with ((first | ((with_reducible refine tLoad ?_); refine w_at _ _ rfl (by exact ev_tmp rfl) ?_; intro hx; first | (refine w_seeA M S HX.out _ _ rfl hx rfl (by decide +kernel) (by first | (with_reducible rfl) | omega) (by kernel_rfl) ?_; clear hx; (try conv => arg 5; simp only [Act.put, List.setIfInBounds_toArray, setC, opV_eq])) | (refine w_see M S HX.out _ _ rfl hx rfl (by decide +kernel) 0 (by first | (with_reducible rfl) | omega) rfl ?_; clear hx) | (refine w_see M S HX.out _ _ rfl hx rfl (by decide +kernel) 1 (by first | (with_reducible rfl) | omega) rfl ?_; clear hx) | (refine w_see M S HX.out _ _ rfl hx rfl (by decide +kernel) 2 (by first | (with_reducible rfl) | omega) rfl ?_; clear hx)) | ((with_reducible refine tAlloc (some 6) 44 ?_); refine w_alloc M _ rfl rfl (.agg #[.int .u8 0, .string (mkS []), .string (mkS [])]) (opV (0, [], [])) (by kernel_rfl) rfl ?_; clear M; intro gx w1 M) | (go_at_call 49; go_must (refine (C.out _).mono ?_; rintro e w1 ⟨rfl, hb⟩; replace M := M.call hb; clear hb)) | ((with_reducible refine tM rfl ?_); refine mS ?_; try (clear M; (first | intro g w1 M | intro w1 M); try simp only [setC] at M))) <;> (try conv => arg 5; simp only [apS, setC]))
              go_roundw
              case rel => exact ⟨k + 1, by omega, by go_num, Lib.hid fun j y hj hy => by
                rcases Nat.lt_succ_iff_lt_or_eq.1 hj with hj | rfl
                · exact HK.out j y hj hy
                · have := HX.out; rw [hy] at this; cases this; exact HZ.out, M.tail⟩
              case measure => simp [intOf]; omega
            · have hq2 : q = 2 := by
                rcases HQ.out with h | h
                · subst h; exact absurd HI (by decide)
                · exact h
              by_cases hbe : b = []
              · subst hbe
                have HZ := Lib.hid (op_good (f := cutE) (x := (q, a, [])) HQ.out EN.out.symm (by simp) (fun h => rfl))
                clear hq2
                go_wp2_with ((first | ((with_reducible refine tLoad ?_); refine w_at _ _ rfl (by exact ev_tmp rfl) ?_; intro hx; first | (refine w_seeA M S HX.out _ _ rfl hx rfl (by decide +kernel) (by first | (with_reducible rfl) | omega) (by kernel_rfl) ?_; clear hx; (try conv => arg 5; simp only [Act.put, List.setIfInBounds_toArray, setC, opV_eq])) | (refine w_see M S HX.out _ _ rfl hx rfl (by decide +kernel) 0 (by first | (with_reducible rfl) | omega) rfl ?_; clear hx) | (refine w_see M S HX.out _ _ rfl hx rfl (by decide +kernel) 1 (by first | (with_reducible rfl) | omega) rfl ?_; clear hx) | (refine w_see M S HX.out _ _ rfl hx rfl (by decide +kernel) 2 (by first | (with_reducible rfl) | omega) rfl ?_; clear hx)) | ((with_reducible refine tAlloc (some 6) 44 ?_); refine w_alloc M _ rfl rfl (.agg #[.int .u8 0, .string (mkS []), .string (mkS [])]) (opV (0, [], [])) (by kernel_rfl) rfl ?_; clear M; intro gx w1 M) | (go_at_call 49; go_must (refine (C.out _).mono ?_; rintro e w1 ⟨rfl, hb⟩; replace M := M.call hb; clear hb)) | ((with_reducible refine tM rfl ?_); refine mS ?_; try (clear M; (first | intro g w1 M | intro w1 M); try simp only [setC] at M))) <;> (try conv => arg 5; simp only [apS, setC]))
                go_roundw
                case rel => exact ⟨k + 1, by omega, by go_num, Lib.hid fun j y hj hy => by
                  rcases Nat.lt_succ_iff_lt_or_eq.1 hj with hj | rfl
                  · exact HK.out j y hj hy
                  · have := HX.out; rw [hy] at this; cases this; exact HZ.out, M.tail⟩
                case measure => simp [intOf]; omega
              · have e : R = 1 := HB.out k _ _ HX.out HK.out (op_arg hq2 EN.out.symm (by simp only; omega) hbe) (by decide)
                subst e
                have hbe' : b.isEmpty = false := by simpa using hbe
                clear hq2 hbe
                go_wp2_with ((first | ((with_reducible refine tLoad ?_); refine w_at _ _ rfl (by exact ev_tmp rfl) ?_; intro hx; first | (refine w_seeA M S HX.out _ _ rfl hx rfl (by decide +kernel) (by first | (with_reducible rfl) | omega) (by kernel_rfl) ?_; clear hx; (try conv => arg 5; simp only [Act.put, List.setIfInBounds_toArray, setC, opV_eq])) | (refine w_see M S HX.out _ _ rfl hx rfl (by decide +kernel) 0 (by first | (with_reducible rfl) | omega) rfl ?_; clear hx) | (refine w_see M S HX.out _ _ rfl hx rfl (by decide +kernel) 1 (by first | (with_reducible rfl) | omega) rfl ?_; clear hx) | (refine w_see M S HX.out _ _ rfl hx rfl (by decide +kernel) 2 (by first | (with_reducible rfl) | omega) rfl ?_; clear hx)) | ((with_reducible refine tAlloc (some 6) 44 ?_); refine w_alloc M _ rfl rfl (.agg #[.int .u8 0, .string (mkS []), .string (mkS [])]) (opV (0, [], [])) (by kernel_rfl) rfl ?_; clear M; intro gx w1 M) | (go_at_call 49; go_must (refine (C.out _).mono ?_; rintro e w1 ⟨rfl, hb⟩; replace M := M.call hb; clear hb)) | ((with_reducible refine tM rfl ?_); refine mS ?_; try (clear M; (first | intro g w1 M | intro w1 M); try simp only [setC] at M))) <;> (try conv => arg 5; simp only [apS, setC]))
                go_ret
                exact ⟨rfl, M.below⟩
        · have e : R = n := HB.out k _ _ HX.out HK.out ((op_path HQ.out (fun h0 => hn (EN.out.trans h0))).trans EN.out.symm) hn
          subst e
          have hz : ((R : Int) == 0) = false := by simp; exact hn
          have hz' : ((R : Int) != 0) = true := by simp; exact hn
          clear hn
          rcases HI with HI | HI
          all_goals
            go_wp2_with ((first | ((with_reducible refine tLoad ?_); refine w_at _ _ rfl (by exact ev_tmp rfl) ?_; intro hx; first | (refine w_seeA M S HX.out _ _ rfl hx rfl (by decide +kernel) (by first | (with_reducible rfl) | omega) (by kernel_rfl) ?_; clear hx; (try conv => arg 5; simp only [Act.put, List.setIfInBounds_toArray, setC, opV_eq])) | (refine w_see M S HX.out _ _ rfl hx rfl (by decide +kernel) 0 (by first | (with_reducible rfl) | omega) rfl ?_; clear hx) | (refine w_see M S HX.out _ _ rfl hx rfl (by decide +kernel) 1 (by first | (with_reducible rfl) | omega) rfl ?_; clear hx) | (refine w_see M S HX.out _ _ rfl hx rfl (by decide +kernel) 2 (by first | (with_reducible rfl) | omega) rfl ?_; clear hx)) | ((with_reducible refine tAlloc (some 6) 44 ?_); refine w_alloc M _ rfl rfl (.agg #[.int .u8 0, .string (mkS []), .string (mkS [])]) (opV (0, [], [])) (by kernel_rfl) rfl ?_; clear M; intro gx w1 M) | (go_at_call 49; go_must (refine (C.out _).mono ?_; rintro e w1 ⟨rfl, hb⟩; replace M := M.call hb; clear hb)) | ((with_reducible refine tM rfl ?_); refine mS ?_; try (clear M; (first | intro g w1 M | intro w1 M); try simp only [setC] at M))) <;> (try conv => arg 5; simp only [apS, setC]))
            go_ret
            exact ⟨rfl, M.below⟩
      · have e : R = 10 := HB.out k _ _ HX.out HK.out (op_kind hq) (by decide)
        subst e
        obtain ⟨h1, h1'⟩ := I8_ne (q := q) (c := 1) (fun h => hq (.inl h))
        obtain ⟨h2, h2'⟩ := I8_ne (q := q) (c := 2) (fun h => hq (.inr h))
        rw [show I8 1 = 1 from rfl] at h1 h1'
        rw [show I8 2 = 2 from rfl] at h2 h2'
        clear hq C
        go_wp2_with ((first | ((with_reducible refine tLoad ?_); refine w_at _ _ rfl (by exact ev_tmp rfl) ?_; intro hx; first | (refine w_seeA M S HX.out _ _ rfl hx rfl (by decide +kernel) (by first | (with_reducible rfl) | omega) (by kernel_rfl) ?_; clear hx; (try conv => arg 5; simp only [Act.put, List.setIfInBounds_toArray, setC, opV_eq])) | (refine w_see M S HX.out _ _ rfl hx rfl (by decide +kernel) 0 (by first | (with_reducible rfl) | omega) rfl ?_; clear hx) | (refine w_see M S HX.out _ _ rfl hx rfl (by decide +kernel) 1 (by first | (with_reducible rfl) | omega) rfl ?_; clear hx) | (refine w_see M S HX.out _ _ rfl hx rfl (by decide +kernel) 2 (by first | (with_reducible rfl) | omega) rfl ?_; clear hx)) | ((with_reducible refine tAlloc (some 6) 44 ?_); refine w_alloc M _ rfl rfl (.agg #[.int .u8 0, .string (mkS []), .string (mkS [])]) (opV (0, [], [])) (by kernel_rfl) rfl ?_; clear M; intro gx w1 M) | ((with_reducible refine tM rfl ?_); refine mS ?_; try (clear M; (first | intro g w1 M | intro w1 M); try simp only [setC] at M))) <;> (try conv => arg 5; simp only [apS, setC]))
        go_ret
        exact ⟨rfl, M.below⟩
    · obtain rfl : k = ops.length := by omega
      obtain rfl : R = 0 := HG.out fun j x hx => HK.out j x (List.getElem?_eq_some_iff.1 hx).1 hx
      go_wp2_with fail
      go_ret
      exact ⟨rfl, M.below⟩
end Go.Proofs.Ytepjillcmpmlkaa

/- A call that hands a new slice on. No conditions. -/
namespace Go
namespace TL
open Go.RowKit
theorem w_stripE {P : Program} {ops : Array Oper} {rest : List Oper} {a : Act} {w : World} {Q : Exit → Act → World → Prop} {dst : Option Tmp} {op : Op} {ty : TypeId} {pos : String} {after : Array Edge} {j : Nat} {want : Bool} (hb : ∃ b, yielded ops a.tmps j = some b ∧ b = want)
    (h : wpList P ops Q (Oper.mk dst op ty pos after none :: rest) a w) : wpList P ops Q (Oper.mk dst op ty pos after (some (j, want)) :: rest) a w :=
  let ⟨_, h1, h2⟩ := hb
  w_strip h1 h2 h
theorem w_skip1 {P : Program} {ops : Array Oper} {rest : List Oper} {a : Act} {w : World} {Q : Exit → Act → World → Prop} {dst : Option Tmp} {op : Op} {ty : TypeId} {pos : String} {after : Array Edge} {j : Nat} (hb : ∃ b, yielded ops a.tmps j = some b ∧ b = false)
    (h : wpList P ops Q rest (a.put dst undef) w) : wpList P ops Q (Oper.mk dst op ty pos after (some (j, true)) :: rest) a w :=
  let ⟨_, h1, h2⟩ := hb
  w_guard h1 (fun e => by subst h2; cases e) (fun _ => h)
theorem w_skip0 {P : Program} {ops : Array Oper} {rest : List Oper} {a : Act} {w : World} {Q : Exit → Act → World → Prop} {dst : Option Tmp} {op : Op} {ty : TypeId} {pos : String} {after : Array Edge} {j : Nat} (hb : ∃ b, yielded ops a.tmps j = some b ∧ b = true)
    (h : wpList P ops Q rest (a.put dst undef) w) : wpList P ops Q (Oper.mk dst op ty pos after (some (j, false)) :: rest) a w :=
  let ⟨_, h1, h2⟩ := hb
  w_guard h1 (fun e => by subst h2; cases e) (fun _ => h)
theorem Mem.join {F : List Nat} {w0 w w' : World} {L K : List Chunk} (M : Mem F w0 w L) (N : Mem [] w w' K) : Mem F w0 w' (K ++ L) := by
  have M' := M.call N.below
  have key : ∀ (i : Nat) (c : Chunk), K[i]? = some c → ∀ k ∈ c.fp, w.heap.size ≤ k := fun i c hc k hk => (N.own i c hc k hk).resolve_left (by simp)
  refine ⟨M'.kept, fun i c hc => ?_, fun i c hc k hk => ?_, fun i j c d hij hi hj k hk hk2 => ?_⟩
  · rw [List.getElem?_append] at hc; split at hc
    · exact N.ok i c hc
    · exact M'.ok _ c hc
  · rw [List.getElem?_append] at hc; split at hc
    · exact .inr (Nat.le_trans M.kept.size (key i c hc k hk))
    · exact M'.own _ c hc k hk
  · rw [List.getElem?_append] at hi hj; split at hi <;> split at hj
    · exact N.nd i j c d hij hi hj k hk hk2
    · have := key i c hi k hk; have := (M.ok _ d hj).lt k hk2; omega
    · have := key j d hj k hk2; have := (M.ok _ c hi).lt k hk; omega
    · exact M.nd _ _ c d (by omega) hi hj k hk hk2
def Gives {α : Type} (size : Nat) (f : α → List Value) (l : List α) (r : Value → Value) (w : World) (e : Ending) (w' : World) : Prop := ∃ p cap, e = .returned (r (.slice p l.length cap)) ∧ Mem [] w w' [.sl size (.slice p l.length cap) l.length (l.flatMap f)]
theorem Gives.intro {α : Type} {size : Nat} {f : α → List Value} {l : List α} {r : Value → Value} {w w' : World} {p : Option Addr} {cap : Nat} {L : List Chunk} (M : Mem [] w w' (.sl size (.slice p l.length cap) l.length (l.flatMap f) :: L)) : Gives size f l r w (.returned (r (.slice p l.length cap))) w' :=
  ⟨p, cap, rfl, M.pick _ id (fun _ _ _ _ h => h) (fun i c h => by cases i with | zero => exact h | succ i => simp at h)⟩
theorem Gives.below {α : Type} {size : Nat} {f : α → List Value} {l : List α} {r : Value → Value} {w w' : World} {e : Ending} (h : Gives size f l r w e w') : Below w.heap.size w w' := by
  obtain ⟨p, cap, _, M⟩ := h; exact M.below
theorem Gives.at {α : Type} {size : Nat} {f : α → List Value} {l : List α} {r : Value → Value} {w w' : World} {p : Option Addr} {cap : Nat} {L : List Chunk} (M : Mem [] w w' L) (i : Nat) (hi : L[i]? = some (.sl size (.slice p l.length cap) l.length (l.flatMap f))) : Gives size f l r w (.returned (r (.slice p l.length cap))) w' :=
  ⟨p, cap, rfl, M.pick _ (fun j => i + j) (fun _ _ _ _ h => by omega) (fun j c h => by cases j with | zero => simp at h; subst h; exact hi | succ j => simp at h)⟩
end TL
end Go
