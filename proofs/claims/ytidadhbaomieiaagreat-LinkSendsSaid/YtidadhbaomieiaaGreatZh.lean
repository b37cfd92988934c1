/- Texts of this seat, put together: Path, Ref11N, Ref11, BatP0, BatE0, BatM0, BatQ. Each begins with a remark that says what is proved in it, and under which conditions. -/
import Derived.Test.YtidadhbaomieiaaGreatY
import Derived.OwnWalk
import Derived.Test.YtidadhbaomieiaaGreatZe
import Derived.Test.YtidadhbaomieiaaGreatZf
import Derived.Test.YtidadhbaomieiaaGreatZg
set_option maxRecDepth 100000
set_option maxHeartbeats 16000000
namespace Go.Proofs.YtidadhbaomieiaaGreat
open Go.RowKit Go.TL
theorem key_c (s : List UInt8) (w : World) (hs : s.length ≤ 1000000000) :
  Calls Tryz.prog 213 #[.string (mkS s)] w fun e w' => e = .returned (.bool (pkeyL s)) ∧ w = w' := by
 have C : ∀ c : UInt8, Calls Tryz.prog 215 #[.string (mkS s), .int .u8 (c.toNat : Int)] w fun e w' => e = .returned (.int .i64 (Lib.indexByte s c)) ∧ w = w' := fun c =>
  (Go.Proofs.Tryz.strings_IndexByte (mkS s) c.toNat w).mono fun _ _ ⟨a, b⟩ => ⟨by rw [a, mkS_data]; simp, b.symm⟩
 have C0 := Lib.hid (C 0)
 have C47 := Lib.hid (C 47)
 clear C
 by_cases hl : 1 ≤ s.length ∧ s.length ≤ 24
 ·rw [pkey_index s hl]
  obtain ⟨i0, e0⟩ : ∃ i, i = Lib.indexByte s 0 := ⟨_, rfl⟩
  obtain ⟨i4, e4⟩ : ∃ i, i = Lib.indexByte s 47 := ⟨_, rfl⟩
  rw [← e0] at C0 ⊢
  rw [← e4] at C47 ⊢
  clear e0 e4
  obtain ⟨hl1, hl2⟩ := hl
  by_cases h0 : i0 < 0
  all_goals
   go_enter Tryz.func213, Tryz.ntmps213
   go_wp2_with ((go_at_call 215; ((first | refine (C0.out).mono ?_ | refine (C47.out).mono ?_); rintro e w1 ⟨rfl, rfl⟩)))
   go_ret
   exact ⟨by first | rfl | (simp [h0]; done) | (simp <;> omega), rfl⟩
 ·rw [pkey_len hl]
  go_enter Tryz.func213, Tryz.ntmps213
  go_wp2_with fail
  all_goals
   go_ret
   exact ⟨rfl, rfl⟩
theorem sliteCut_c (p : List UInt8) (w : World) (hp : p.length ≤ 1000000000) :
  Calls Tryz.prog 214 #[.string (mkS p), .string (mkS [47])] w fun e w' => e = .returned (.tuple #[.string (mkS (scutL p).1), .string (mkS (scutL p).2.1), .bool (scutL p).2.2]) ∧ Below w.heap.size w w' := by
 have I : Calls Tryz.prog 216 #[.string (mkS p), .string (mkS [47])] w fun e w' => e = .returned (.int .i64 (if slash p < p.length then (slash p : Int) else -1)) ∧ w = w' :=
  (Go.Proofs.Tryz.stringslite_Index_one (mkS p) 47 w).mono fun _ _ ⟨a, b⟩ => ⟨by rw [a, mkS_data, indexByte_slash], b.symm⟩
 have M := Mem.start [] w
 have hsl := slash_le p
 obtain ⟨C, eC⟩ : ∃ C, C = scutL p := ⟨_, rfl⟩
 rw [← eC]
 by_cases h : slash p < p.length
 ·rw [if_pos h] at I
  rw [scut_yes h] at eC
  have I := Lib.hid I
  subst eC
  go_enter Tryz.func214, Tryz.ntmps214
  go_wp2_with ((first | (go_at_call 216; (refine (I.out).mono ?_; rintro e w1 ⟨rfl, rfl⟩)) | ((with_reducible show Code.wp _ (Code.region 3 _ _) _ _ _); (refine region_det [(0, false), (1, false), (2, false), (3, false), (4, false), (5, false), (6, false), (7, false), (8, false), (9, false), (10, false), (11, false)] [(17, .int), (19, .int)] yC yC rfl yC ?_; replace M := M.drew; simp only [reord, opAt, List.map_cons, List.map_nil, List.getElem?_toArray, List.getElem?_cons_zero, List.getElem?_cons_succ, Option.getD_some])) | ((with_reducible refine tM rfl ?_); refine mB ?_; try (clear M; (first | intro g w1 M | intro w1 M); try simp only [setC] at M)) | ((with_reducible first | show Seg _ _ _ _ | show OnlyN _ _ _ _ _); refine rA ?_) | ((with_reducible refine tGuard ?_); refine gdC ?_ ?_ <;> (intro hgd; rw [hgd]; try (exfalso; simp at hgd; omega)))) <;> (try conv => arg 5; simp only [apS, setC]))
  go_ret3
  exact ⟨rfl, M.below⟩
 ·rw [if_neg h] at I
  rw [scut_no h] at eC
  have I := Lib.hid I
  subst eC
  go_enter Tryz.func214, Tryz.ntmps214
  go_wp2_with (first | (go_at_call 216; (refine (I.out).mono ?_; rintro e w1 ⟨rfl, rfl⟩)))
  go_ret3
  exact ⟨rfl, M.below⟩
theorem strCut_c (p : List UInt8) (w : World) (hp : p.length ≤ 1000000000) :
  Calls Tryz.prog 211 #[.string (mkS p), .string (mkS [47])] w fun e w' => e = .returned (.tuple #[.string (mkS (scutL p).1), .string (mkS (scutL p).2.1), .bool (scutL p).2.2]) ∧ Below w.heap.size w w' := by
 have M := Mem.start [] w
 go_enter Tryz.func211, Tryz.ntmps211
 go_wp2_with ((go_at_call 214; (refine (sliteCut_c p _ hp).mono ?_; rintro e w1 ⟨rfl, hb⟩; replace M := M.call hb; clear hb)))
 go_ret3
 exact ⟨rfl, M.below⟩
theorem Cut_c (p : List UInt8) (w : World) (hp : p.length ≤ 1000000000) :
  Calls Tryz.prog 203 #[.string (mkS p)] w fun e w' => e = .returned (.tuple #[.string (mkS (cutL p).1), .string (mkS (cutL p).2.1), .bool (cutL p).2.2]) ∧ Below w.heap.size w w' := by
 have M := Mem.start [] w
 have hsl := slash_le p
 obtain ⟨C, eC⟩ : ∃ C, C = cutL p := ⟨_, rfl⟩
 rw [← eC]
 unfold cutL at eC
 have S : Calls Tryz.prog 211 #[.string (mkS p), .string (mkS [47])] w fun e w' => e = .returned (.tuple #[.string (mkS (scutL p).1), .string (mkS (scutL p).2.1), .bool (scutL p).2.2]) ∧ Below w.heap.size w w' := strCut_c p w hp
 by_cases h : slash p < p.length
 ·rw [scut_yes h] at S
  have S := Lib.hid S
  obtain ⟨a, ea⟩ : ∃ a, a = p.take (slash p) := ⟨_, rfl⟩
  obtain ⟨b, eb⟩ : ∃ b, b = p.drop (slash p + 1) := ⟨_, rfl⟩
  have la : a.length ≤ 1000000000 := by rw [ea]; simp; omega
  have lb : b.length ≤ 1000000000 := by rw [eb]; simp; omega
  rw [← ea, ← eb] at S eC
  clear ea eb
  have N : ∀ w, Calls Tryz.prog 212 #[.string (mkS a)] w fun e w' => e = .returned (.bool (namedL a)) ∧ w = w' := fun w => named_c a w la
  have K : ∀ w, Calls Tryz.prog 213 #[.string (mkS b)] w fun e w' => e = .returned (.bool (pkeyL b)) ∧ w = w' := fun w => key_c b w lb
  by_cases hn : namedL a = true
  ·by_cases hk : pkeyL b = true
   ·rw [if_pos ⟨h, hn, hk⟩] at eC
    rw [hn] at N; rw [hk] at K
    have N := Lib.hid N; have K := Lib.hid K
    subst eC
    go_enter Tryz.func203, Tryz.ntmps203
    go_wp2_with (first | (go_at_call 211; (refine (S.out).mono ?_; rintro e w1 ⟨rfl, hb⟩; replace M := M.call hb; clear hb)) | (go_at_call 212; (refine (N.out _).mono ?_; rintro e w1 ⟨rfl, rfl⟩)) | (go_at_call 213; (refine (K.out _).mono ?_; rintro e w1 ⟨rfl, rfl⟩)))
    go_ret3
    exact ⟨rfl, M.below⟩
   ·rw [if_neg (fun x => hk x.2.2)] at eC
    rw [hn] at N; rw [Bool.not_eq_true] at hk; rw [hk] at K
    have N := Lib.hid N; have K := Lib.hid K
    subst eC
    go_enter Tryz.func203, Tryz.ntmps203
    go_wp2_with (first | (go_at_call 211; (refine (S.out).mono ?_; rintro e w1 ⟨rfl, hb⟩; replace M := M.call hb; clear hb)) | (go_at_call 212; (refine (N.out _).mono ?_; rintro e w1 ⟨rfl, rfl⟩)) | (go_at_call 213; (refine (K.out _).mono ?_; rintro e w1 ⟨rfl, rfl⟩)))
    go_ret3
    exact ⟨rfl, M.below⟩
  ·rw [if_neg (fun x => hn x.2.1)] at eC
   rw [Bool.not_eq_true] at hn; rw [hn] at N
   have N := Lib.hid N
   subst eC
   go_enter Tryz.func203, Tryz.ntmps203
   go_wp2_with (first | (go_at_call 211; (refine (S.out).mono ?_; rintro e w1 ⟨rfl, hb⟩; replace M := M.call hb; clear hb)) | (go_at_call 212; (refine (N.out _).mono ?_; rintro e w1 ⟨rfl, rfl⟩)))
   go_ret3
   exact ⟨rfl, M.below⟩
 ·rw [scut_no h] at S
  have S := Lib.hid S
  rw [if_neg (fun x => h x.1)] at eC
  subst eC
  go_enter Tryz.func203, Tryz.ntmps203
  go_wp2_with (first | (go_at_call 211; (refine (S.out).mono ?_; rintro e w1 ⟨rfl, hb⟩; replace M := M.call hb; clear hb)))
  go_ret3
  exact ⟨rfl, M.below⟩
end Go.Proofs.YtidadhbaomieiaaGreat

namespace Go.Proofs.YtidadhbaomieiaaGreat
open Go.RowKit Go.TL
theorem Named_c (s : List UInt8) (w : World) (hs : s.length ≤ 1000000000) :
  Calls Tryz.prog 188 #[.string (mkS s)] w fun e w' => e = .returned (.bool (namedL s)) ∧ w = w' := by
 by_cases hl : 1 ≤ s.length ∧ s.length ≤ 8
 ·have hbad : ∀ k, k < s.length → goodN (s.getD k 0) = false → namedL s = false := fun k h hb => named_bad h hb
  have hgood : (∀ k, k < s.length → goodN (s.getD k 0) = true) → namedL s = true := fun h => by rw [named_good h, decide_eq_true hl]
  obtain ⟨N, eN⟩ : ∃ N, N = namedL s := ⟨_, rfl⟩
  rw [← eN] at hbad hgood ⊢
  have HB := Lib.hid hbad
  have HG := Lib.hid hgood
  clear eN hbad hgood
  obtain ⟨hl1, hl2⟩ := hl
  go_enter Tryz.func188, Tryz.ntmps188
  go_wp2_with fail
  go_loop [3] (fun iv => ∃ k : Nat, k ≤ s.length ∧ iv = .int .i64 k ∧ Hid (∀ j, j < k → goodN (s.getD j 0) = true)) (fun iv => s.length - (intOf iv).toNat)
  case atStart => exact ⟨0, by omega, rfl, Lib.hid yE⟩
  case round =>
   obtain ⟨k, hk, rfl, HK⟩ := hrel
   by_cases hlt : k < s.length
   ·by_cases h1 : I8 (bt s k) < 97
    ·have e : N = false := HB.out k hlt (badN_lo h1)
     subst e
     go_wp2_with fail
     go_ret
     exact ⟨rfl, rfl⟩
    ·by_cases h2 : 122 < I8 (bt s k)
     ·have e : N = false := HB.out k hlt (badN_hi h2)
      subst e
      replace h1 : 97 ≤ I8 (bt s k) := by omega
      go_wp2_with fail
      go_ret
      exact ⟨rfl, rfl⟩
     ·have hg := Lib.hid (goodN_of h1 h2)
      replace h1 : 97 ≤ I8 (bt s k) := by omega
      replace h2 : I8 (bt s k) ≤ 122 := by omega
      go_wp2_with fail
      go_round
      case rel => exact ⟨k + 1, by omega, by go_num, Lib.hid fun j hj => by
       rcases Nat.lt_succ_iff_lt_or_eq.1 hj with hj | rfl
       ·exact HK.out j hj
       ·exact hg.out⟩
      case measure => simp [intOf]; omega
   ·obtain rfl : k = s.length := by omega
    have e : N = true := HG.out HK.out
    subst e
    go_wp2_with fail
    go_ret
    exact ⟨rfl, rfl⟩
 ·rw [named_len hl]
  go_enter Tryz.func188, Tryz.ntmps188
  go_wp2_with fail
  all_goals
   go_ret
   exact ⟨rfl, rfl⟩
end Go.Proofs.YtidadhbaomieiaaGreat

namespace Go.Proofs.YtidadhbaomieiaaGreat
open Go.RowKit Go.TL
theorem Key11_c (s : List UInt8) (w : World) (hs : s.length ≤ 1000000000) :
  Calls Tryz.prog 189 #[.string (mkS s)] w fun e w' => e = .returned (.bool (pkeyL s)) ∧ w = w' := by
 by_cases hl : 1 ≤ s.length ∧ s.length ≤ 24
 ·have hbad : ∀ k, k < s.length → goodK (s.getD k 0) = false → pkeyL s = false := fun k h hb => pkey_bad h hb
  have hgood : (∀ k, k < s.length → goodK (s.getD k 0) = true) → pkeyL s = true := fun h => by rw [pkey_good h, decide_eq_true hl]
  obtain ⟨N, eN⟩ : ∃ N, N = pkeyL s := ⟨_, rfl⟩
  rw [← eN] at hbad hgood ⊢
  have HB := Lib.hid hbad
  have HG := Lib.hid hgood
  clear eN hbad hgood
  obtain ⟨hl1, hl2⟩ := hl
  go_enter Tryz.func189, Tryz.ntmps189
  go_wp2_with fail
  go_loop [3] (fun iv => ∃ k : Nat, k ≤ s.length ∧ iv = .int .i64 k ∧ Hid (∀ j, j < k → goodK (s.getD j 0) = true)) (fun iv => s.length - (intOf iv).toNat)
  case atStart => exact ⟨0, by omega, rfl, Lib.hid yE⟩
  case round =>
   obtain ⟨k, hk, rfl, HK⟩ := hrel
   by_cases hlt : k < s.length
   ·by_cases h1 : I8 (bt s k) = 0
    ·have e : N = false := HB.out k hlt (badK_0 h1)
     subst e
     go_wp2_with fail
     go_ret
     exact ⟨rfl, rfl⟩
    ·by_cases h2 : I8 (bt s k) = 47
     ·have e : N = false := HB.out k hlt (badK_47 h2)
      subst e
      go_wp2_with fail
      go_ret
      exact ⟨rfl, rfl⟩
     ·have hg := Lib.hid (goodK_of h1 h2)
      replace h1 : (I8 (bt s k) == 0) = false := by simp; exact h1
      replace h2 : (I8 (bt s k) == 47) = false := by simp; exact h2
      go_wp2_with fail
      go_round
      case rel => exact ⟨k + 1, by omega, by go_num, Lib.hid fun j hj => by
       rcases Nat.lt_succ_iff_lt_or_eq.1 hj with hj | rfl
       ·exact HK.out j hj
       ·exact hg.out⟩
      case measure => simp [intOf]; omega
   ·obtain rfl : k = s.length := by omega
    have e : N = true := HG.out HK.out
    subst e
    go_wp2_with fail
    go_ret
    exact ⟨rfl, rfl⟩
 ·rw [pkey_len hl]
  go_enter Tryz.func189, Tryz.ntmps189
  go_wp2_with fail
  all_goals
   go_ret
   exact ⟨rfl, rfl⟩
theorem Cut11_c (p : List UInt8) (w : World) (hp : p.length ≤ 1000000000) :
  Calls Tryz.prog 171 #[.string (mkS p)] w fun e w' => e = .returned (.tuple #[.string (mkS (cutL p).1), .string (mkS (cutL p).2.1), .bool (cutL p).2.2]) ∧ Below w.heap.size w w' := by
 have M := Mem.start [] w
 have hsl := slash_le p
 have hno := slash_before p
 have hat := slash_at p
 obtain ⟨C, eC⟩ : ∃ C, C = cutL p := ⟨_, rfl⟩
 rw [← eC]
 unfold cutL at eC
 obtain ⟨S, eS⟩ : ∃ S, S = slash p := ⟨_, rfl⟩
 rw [← eS] at hsl hno hat eC
 have HN := Lib.hid hno
 have HT := Lib.hid hat
 have EC := Lib.hid eC
 clear eS hno hat eC
 go_enter Tryz.func171, Tryz.ntmps171
 go_wp2_with fail
 go_loopw [5] (fun iv wr => ∃ k : Nat, k ≤ S ∧ iv = .int .i64 k ∧ Mem [] w wr []) (fun iv _ => p.length - (intOf iv).toNat)
 case atStart => exact ⟨0, by omega, rfl, M⟩
 case round =>
  clear M
  obtain ⟨k, hk, rfl, M⟩ := hrel
  by_cases hlt : k < S
  ·have hb : (I8 (bt p k) == 47) = false := by
    have := HN.out k hlt
    rw [beq_eq_false_iff_ne, I8_bt]; omega
   have hkl : k < p.length := by omega
   go_wp2_with fail
   go_roundw
   case rel => exact ⟨k + 1, by omega, by go_num, M⟩
   case measure => simp [intOf]; omega
  ·obtain rfl : k = S := by omega
   by_cases hl : k < p.length
   ·have hb : (I8 (bt p k) == 47) = true := by
     have := HT.out hl
     rw [I8_bt, this]; rfl
    have hb' : I8 (bt p k) = 47 := by simpa using hb
    have HB' := Lib.hid hb'
    clear hb'
    obtain ⟨a, ea⟩ : ∃ a, a = p.take k := ⟨_, rfl⟩
    obtain ⟨b, eb⟩ : ∃ b, b = p.drop (k + 1) := ⟨_, rfl⟩
    have la : a.length ≤ 1000000000 := by rw [ea]; simp; omega
    have lb : b.length ≤ 1000000000 := by rw [eb]; simp; omega
    have eC := EC.out
    rw [← ea, ← eb] at eC
    have N : ∀ w, Calls Tryz.prog 188 #[.string (mkS a)] w fun e w' => e = .returned (.bool (namedL a)) ∧ w = w' := fun w => Named_c a w la
    have K : ∀ w, Calls Tryz.prog 189 #[.string (mkS b)] w fun e w' => e = .returned (.bool (pkeyL b)) ∧ w = w' := fun w => Key11_c b w lb
    have EA := Lib.hid ea; have EB := Lib.hid eb
    clear ea eb
    by_cases hn : namedL a = true
    ·by_cases hkk : pkeyL b = true
     ·rw [if_pos ⟨hl, hn, hkk⟩] at eC
      rw [hn] at N; rw [hkk] at K
      rw [EA.out] at N eC; rw [EB.out] at K eC
      have N := Lib.hid N; have K := Lib.hid K
      subst eC
      go_wp2_with ((first | (go_at_call 188; (refine (N.out _).mono ?_; rintro e w1 ⟨rfl, rfl⟩)) | (go_at_call 189; (refine (K.out _).mono ?_; rintro e w1 ⟨rfl, rfl⟩)) | ((with_reducible show Code.wp _ (Code.region 6 _ _) _ _ _); (refine region_det [(0, false), (1, false), (2, false), (3, false), (4, false), (5, false), (6, false), (7, false), (8, false), (9, false)] [(31, .int)] yC yC rfl yC ?_; replace M := M.drew; simp only [reord, opAt, List.map_cons, List.map_nil, List.getElem?_toArray, List.getElem?_cons_zero, List.getElem?_cons_succ, Option.getD_some])) | ((with_reducible refine tM rfl ?_); refine mB ?_; try (clear M; (first | intro g w1 M | intro w1 M); try simp only [setC] at M)) | ((with_reducible first | show Seg _ _ _ _ | show OnlyN _ _ _ _ _); refine rA ?_) | ((with_reducible refine tGuard ?_); refine gdC ?_ ?_ <;> (intro hgd; rw [hgd]; try (exfalso; simp at hgd; omega)))) <;> (try conv => arg 5; simp only [apS, setC]))
      go_ret3
      exact ⟨rfl, M.below⟩
     ·rw [if_neg (fun x => hkk x.2.2)] at eC
      rw [hn] at N; rw [Bool.not_eq_true] at hkk; rw [hkk] at K
      rw [EA.out] at N; rw [EB.out] at K
      have N := Lib.hid N; have K := Lib.hid K
      subst eC
      go_wp2_with (first | (go_at_call 188; (refine (N.out _).mono ?_; rintro e w1 ⟨rfl, rfl⟩)) | (go_at_call 189; (refine (K.out _).mono ?_; rintro e w1 ⟨rfl, rfl⟩)))
      go_ret3
      exact ⟨rfl, M.below⟩
    ·rw [if_neg (fun x => hn x.2.1)] at eC
     rw [Bool.not_eq_true] at hn; rw [hn] at N
     rw [EA.out] at N
     have N := Lib.hid N
     subst eC
     go_wp2_with (first | (go_at_call 188; (refine (N.out _).mono ?_; rintro e w1 ⟨rfl, rfl⟩)))
     go_ret3
     exact ⟨rfl, M.below⟩
   ·have eC := EC.out
    rw [if_neg (fun x => hl x.1)] at eC
    subst eC
    go_wp2_with fail
    go_ret3
    exact ⟨rfl, M.below⟩
end Go.Proofs.YtidadhbaomieiaaGreat

namespace Go
namespace TL
open Go.RowKit
theorem results_row2 {P : Program} {fn : Func} {p q : Tmp} {ty : TypeId} (h : fn.results = #[.cell p ty, .tmp q]) (tmps : Array Value) (w : World) (b o : Nat) (cs : List Value) (d : TypeDesc) (z : Value)
  (hp : tmps.getD p undef = .pointer (some ⟨b, o, none⟩)) (hz : tmps.getD q undef = z) (hc : w.rangeAt b o cs) (hu : P.underlying ty = some d) (hd : d.isRow = true) (hi : (P.info? ty).map (·.size) = some cs.length) :
  (results fn tmps).run P w = .ok (.tuple #[.agg cs.toArray, z]) w := by
 have hp' : tmps[p]?.getD undef = .pointer (some ⟨b, o, none⟩) := by simpa using hp
 have hz' : tmps[q]?.getD undef = z := by simpa using hz
 simp [results, h, hp', hz', asAddr, run_loadVar_mid w b o ty cs d hc hu hd hi]
end TL
end Go

namespace Go
namespace TL
theorem I8_ne {q c : UInt8} (h : q ≠ c) : (I8 q == I8 c) = false ∧ (I8 q != I8 c) = true := by
 have : I8 q ≠ I8 c := fun e => h (by rw [I8_eq, I8_eq] at e; exact UInt8.toNat_inj.1 yE)
 exact ⟨by simpa using this, by simpa using this⟩
theorem each_bad {f : List UInt8 → Nat} {l : List Opr} {k : Nat} {x : Opr} {r : Nat} (h : l[k]? = some x) (hb : ∀ (j : Nat) (y : Opr), j < k → l[j]? = some y → opE f y = 0) (hx : opE f x = r) (hr : r ≠ 0) : eachE f l = r := by
 rw [each_at h hb (by rw [hx]; exact hr), hx]
end TL
end Go
namespace Go.Proofs.YtidadhbaomieiaaGreat
open Go.RowKit Go.TL
theorem Right1_c (p : List UInt8) (w : World) (hp : p.length ≤ 1000000000) :
  Calls Tryz.prog 202 #[.string (mkS p)] w fun e w' => e = .returned (.int .i64 (cutE p)) ∧ Below w.heap.size w w' := by
 have M := Mem.start [] w
 have C := fun w => Cut_c p w hp
 unfold cutE
 obtain ⟨⟨m, k, ok⟩, ec⟩ : ∃ c, c = cutL p := ⟨_, rfl⟩
 rw [← ec] at C ⊢
 clear ec
 simp only at C ⊢
 replace C := Lib.hid C
 cases ok with
 | true =>
  simp only [if_true]
  go_enter Tryz.func202, Tryz.ntmps202
  go_wp2_with (first | (go_at_call 203; (refine (C.out _).mono ?_; rintro e w1 ⟨rfl, hb⟩; replace M := M.call hb; clear hb)))
  go_ret
  exact ⟨rfl, M.below⟩
 | false =>
  go_enter Tryz.func202, Tryz.ntmps202
  go_wp2_with (first | (go_at_call 203; (refine (C.out _).mono ?_; rintro e w1 ⟨rfl, hb⟩; replace M := M.call hb; clear hb)))
  go_ret
  exact ⟨rfl, M.below⟩
theorem EachR_c (ops : List Opr) (v : Value) (w : World) (S : SeesL w 3 opV v ops) (hl : ops.length ≤ 1000000) (hm : ∀ x ∈ ops, x.2.1.length ≤ 100000000 ∧ x.2.2.length ≤ 100000000) :
  Calls Tryz.prog 201 #[v, .func (.func 202) #[] #[]] w fun e w' => e = .returned (.int .i64 (eachE cutE ops)) ∧ Below w.heap.size w w' := by
 obtain ⟨q, cap, rfl, hc⟩ := S.form
 have M := Mem.start [] w
 have HB := fun k x r => @each_bad cutE ops k x r
 have HG := @each_all cutE ops
 obtain ⟨R, eR⟩ : ∃ R, R = eachE cutE ops := ⟨_, rfl⟩
 rw [← eR] at HB HG ⊢
 replace HB := Lib.hid HB
 replace HG := Lib.hid HG
 clear eR
 go_enter Tryz.func201, Tryz.ntmps201
 go_wp2_with fail
 go_loopw [10] (fun iv wr => ∃ k : Nat, k ≤ ops.length ∧ iv = .int .i64 k ∧ Hid (∀ (j : Nat) (y : Opr), j < k → ops[j]? = some y → opE cutE y = 0) ∧ Mem [] w wr []) (fun iv _ => ops.length - (intOf iv).toNat)
 case atStart => exact ⟨0, by omega, rfl, Lib.hid yE, M⟩
 case round =>
  clear M
  obtain ⟨k, hk, rfl, HK, M⟩ := hrel
  by_cases hlt : k < ops.length
  ·obtain ⟨g, so, rfl⟩ := S.addr yE
   obtain ⟨⟨q, a, b⟩, hx⟩ : ∃ x, ops[k]? = some x := ⟨_, List.getElem?_eq_getElem hlt⟩
   obtain ⟨ha, hb⟩ := hm (q, a, b) (List.mem_of_getElem? hx)
   simp only at ha hb
   have C := fun w => Right1_c a w yE
   have HX := Lib.hid hx
   clear hx
   by_cases hq : q = 1 ∨ q = 2
   ·have HQ := Lib.hid hq
    have HI : I8 q = 1 ∨ I8 q = 2 := by rcases hq with rfl | rfl; exact .inl rfl; exact .inr rfl
    obtain ⟨n, en⟩ : ∃ n, n = cutE a := ⟨_, rfl⟩
    have EN := Lib.hid en
    try simp only at en
    rw [← en] at C
    replace C := Lib.hid C
    clear en hq
    by_cases hn : n = 0
    ·subst hn
     by_cases hb32 : 32 < b.length
     ·have e : R = 3 := HB.out k _ _ HX.out HK.out (op_long HQ.out EN.out.symm hb32) yN
      subst e
      have hb33 : (32 : Int) < (b.length : Int) := by omega
      rcases HI with HI | HI
      all_goals
       go_wp2_with ((first | ((with_reducible refine tLoad ?_); refine w_at _ _ rfl yI ?_; intro hx; first | (refine w_seeA M S HX.out _ _ rfl hx rfl yA yD yC ?_; clear hx; (try conv => arg 5; simp only [Act.put, List.setIfInBounds_toArray, setC, opV_eq])) | (refine w_see M S HX.out _ _ rfl hx rfl yA 0 yD rfl ?_; clear hx) | (refine w_see M S HX.out _ _ rfl hx rfl yA 1 yD rfl ?_; clear hx) | (refine w_see M S HX.out _ _ rfl hx rfl yA 2 yD rfl ?_; clear hx)) | ((with_reducible refine tAlloc (some 6) 181 ?_); refine w_alloc M _ rfl rfl (.agg #[.int .u8 0, .string (mkS []), .string (mkS [])]) (opV (0, [], [])) yC rfl ?_; clear M; intro gx w1 M) | (go_at_call 202; (refine (C.out _).mono ?_; rintro e w1 ⟨rfl, hb⟩; replace M := M.call hb; clear hb)) | ((with_reducible refine tM rfl ?_); refine mS ?_; try (clear M; (first | intro g w1 M | intro w1 M); try simp only [setC] at M))) <;> (try conv => arg 5; simp only [apS, setC]))
       go_ret
       exact ⟨rfl, M.below⟩
     ·have hb33 : (b.length : Int) ≤ 32 := by omega
      rcases HI with HI | HI
      ·have hq1 : q = 1 := by
        rcases HQ.out with h | h
        ·exact h
        ·subst h; exact absurd HI yN
       have HZ := Lib.hid (op_good (f := cutE) (x := (q, a, b)) HQ.out EN.out.symm (by simp only; omega) (fun h => by simp only at h; rw [hq1] at h; exact absurd h yN))
       clear hq1
       go_wp2_with ((first | ((with_reducible refine tLoad ?_); refine w_at _ _ rfl yI ?_; intro hx; first | (refine w_seeA M S HX.out _ _ rfl hx rfl yA yD yC ?_; clear hx; (try conv => arg 5; simp only [Act.put, List.setIfInBounds_toArray, setC, opV_eq])) | (refine w_see M S HX.out _ _ rfl hx rfl yA 0 yD rfl ?_; clear hx) | (refine w_see M S HX.out _ _ rfl hx rfl yA 1 yD rfl ?_; clear hx) | (refine w_see M S HX.out _ _ rfl hx rfl yA 2 yD rfl ?_; clear hx)) | ((with_reducible refine tAlloc (some 6) 181 ?_); refine w_alloc M _ rfl rfl (.agg #[.int .u8 0, .string (mkS []), .string (mkS [])]) (opV (0, [], [])) yC rfl ?_; clear M; intro gx w1 M) | (go_at_call 202; (refine (C.out _).mono ?_; rintro e w1 ⟨rfl, hb⟩; replace M := M.call hb; clear hb)) | ((with_reducible refine tM rfl ?_); refine mS ?_; try (clear M; (first | intro g w1 M | intro w1 M); try simp only [setC] at M))) <;> (try conv => arg 5; simp only [apS, setC]))
       go_roundw
       case rel => exact ⟨k + 1, by omega, by go_num, Lib.hid fun j y hj hy => by
        rcases Nat.lt_succ_iff_lt_or_eq.1 hj with hj | rfl
        ·exact HK.out j y hj hy
        ·have := HX.out; rw [hy] at this; cases this; exact HZ.out, M.tail⟩
       case measure => simp [intOf]; omega
      ·have hq2 : q = 2 := by
        rcases HQ.out with h | h
        ·subst h; exact absurd HI yN
        ·exact h
       by_cases hbe : b = []
       ·subst hbe
        have HZ := Lib.hid (op_good (f := cutE) (x := (q, a, [])) HQ.out EN.out.symm (by simp) (fun h => rfl))
        clear hq2
        go_wp2_with ((first | ((with_reducible refine tLoad ?_); refine w_at _ _ rfl yI ?_; intro hx; first | (refine w_seeA M S HX.out _ _ rfl hx rfl yA yD yC ?_; clear hx; (try conv => arg 5; simp only [Act.put, List.setIfInBounds_toArray, setC, opV_eq])) | (refine w_see M S HX.out _ _ rfl hx rfl yA 0 yD rfl ?_; clear hx) | (refine w_see M S HX.out _ _ rfl hx rfl yA 1 yD rfl ?_; clear hx) | (refine w_see M S HX.out _ _ rfl hx rfl yA 2 yD rfl ?_; clear hx)) | ((with_reducible refine tAlloc (some 6) 181 ?_); refine w_alloc M _ rfl rfl (.agg #[.int .u8 0, .string (mkS []), .string (mkS [])]) (opV (0, [], [])) yC rfl ?_; clear M; intro gx w1 M) | (go_at_call 202; (refine (C.out _).mono ?_; rintro e w1 ⟨rfl, hb⟩; replace M := M.call hb; clear hb)) | ((with_reducible refine tM rfl ?_); refine mS ?_; try (clear M; (first | intro g w1 M | intro w1 M); try simp only [setC] at M))) <;> (try conv => arg 5; simp only [apS, setC]))
        go_roundw
        case rel => exact ⟨k + 1, by omega, by go_num, Lib.hid fun j y hj hy => by
         rcases Nat.lt_succ_iff_lt_or_eq.1 hj with hj | rfl
         ·exact HK.out j y hj hy
         ·have := HX.out; rw [hy] at this; cases this; exact HZ.out, M.tail⟩
        case measure => simp [intOf]; omega
       ·have e : R = 1 := HB.out k _ _ HX.out HK.out (op_arg hq2 EN.out.symm (by simp only; omega) hbe) yN
        subst e
        have hbe' : b.isEmpty = false := by simpa using hbe
        clear hq2 hbe
        go_wp2_with ((first | ((with_reducible refine tLoad ?_); refine w_at _ _ rfl yI ?_; intro hx; first | (refine w_seeA M S HX.out _ _ rfl hx rfl yA yD yC ?_; clear hx; (try conv => arg 5; simp only [Act.put, List.setIfInBounds_toArray, setC, opV_eq])) | (refine w_see M S HX.out _ _ rfl hx rfl yA 0 yD rfl ?_; clear hx) | (refine w_see M S HX.out _ _ rfl hx rfl yA 1 yD rfl ?_; clear hx) | (refine w_see M S HX.out _ _ rfl hx rfl yA 2 yD rfl ?_; clear hx)) | ((with_reducible refine tAlloc (some 6) 181 ?_); refine w_alloc M _ rfl rfl (.agg #[.int .u8 0, .string (mkS []), .string (mkS [])]) (opV (0, [], [])) yC rfl ?_; clear M; intro gx w1 M) | (go_at_call 202; (refine (C.out _).mono ?_; rintro e w1 ⟨rfl, hb⟩; replace M := M.call hb; clear hb)) | ((with_reducible refine tM rfl ?_); refine mS ?_; try (clear M; (first | intro g w1 M | intro w1 M); try simp only [setC] at M))) <;> (try conv => arg 5; simp only [apS, setC]))
        go_ret
        exact ⟨rfl, M.below⟩
    ·have e : R = n := HB.out k _ _ HX.out HK.out ((op_path HQ.out (fun h0 => hn (EN.out.trans h0))).trans EN.out.symm) hn
     subst e
     have hz : ((R : Int) == 0) = false := by simp; exact hn
     have hz' : ((R : Int) != 0) = true := by simp; exact hn
     clear hn
     rcases HI with HI | HI
     all_goals
      go_wp2_with ((first | ((with_reducible refine tLoad ?_); refine w_at _ _ rfl yI ?_; intro hx; first | (refine w_seeA M S HX.out _ _ rfl hx rfl yA yD yC ?_; clear hx; (try conv => arg 5; simp only [Act.put, List.setIfInBounds_toArray, setC, opV_eq])) | (refine w_see M S HX.out _ _ rfl hx rfl yA 0 yD rfl ?_; clear hx) | (refine w_see M S HX.out _ _ rfl hx rfl yA 1 yD rfl ?_; clear hx) | (refine w_see M S HX.out _ _ rfl hx rfl yA 2 yD rfl ?_; clear hx)) | ((with_reducible refine tAlloc (some 6) 181 ?_); refine w_alloc M _ rfl rfl (.agg #[.int .u8 0, .string (mkS []), .string (mkS [])]) (opV (0, [], [])) yC rfl ?_; clear M; intro gx w1 M) | (go_at_call 202; (refine (C.out _).mono ?_; rintro e w1 ⟨rfl, hb⟩; replace M := M.call hb; clear hb)) | ((with_reducible refine tM rfl ?_); refine mS ?_; try (clear M; (first | intro g w1 M | intro w1 M); try simp only [setC] at M))) <;> (try conv => arg 5; simp only [apS, setC]))
      go_ret
      exact ⟨rfl, M.below⟩
   ·have e : R = 10 := HB.out k _ _ HX.out HK.out (op_kind hq) yN
    subst e
    obtain ⟨h1, h1'⟩ := I8_ne (q := q) (c := 1) (fun h => hq (.inl h))
    obtain ⟨h2, h2'⟩ := I8_ne (q := q) (c := 2) (fun h => hq (.inr h))
    rw [show I8 1 = 1 from rfl] at h1 h1'
    rw [show I8 2 = 2 from rfl] at h2 h2'
    clear hq C
    go_wp2_with ((first | ((with_reducible refine tLoad ?_); refine w_at _ _ rfl yI ?_; intro hx; first | (refine w_seeA M S HX.out _ _ rfl hx rfl yA yD yC ?_; clear hx; (try conv => arg 5; simp only [Act.put, List.setIfInBounds_toArray, setC, opV_eq])) | (refine w_see M S HX.out _ _ rfl hx rfl yA 0 yD rfl ?_; clear hx) | (refine w_see M S HX.out _ _ rfl hx rfl yA 1 yD rfl ?_; clear hx) | (refine w_see M S HX.out _ _ rfl hx rfl yA 2 yD rfl ?_; clear hx)) | ((with_reducible refine tAlloc (some 6) 181 ?_); refine w_alloc M _ rfl rfl (.agg #[.int .u8 0, .string (mkS []), .string (mkS [])]) (opV (0, [], [])) yC rfl ?_; clear M; intro gx w1 M) | ((with_reducible refine tM rfl ?_); refine mS ?_; try (clear M; (first | intro g w1 M | intro w1 M); try simp only [setC] at M))) <;> (try conv => arg 5; simp only [apS, setC]))
    go_ret
    exact ⟨rfl, M.below⟩
  ·obtain rfl : k = ops.length := by omega
   obtain rfl : R = 0 := HG.out fun j x hx => HK.out j x (List.getElem?_eq_some_iff.1 hx).1 hx
   go_wp2_with fail
   go_ret
   exact ⟨rfl, M.below⟩
end Go.Proofs.YtidadhbaomieiaaGreat

namespace Go
namespace TL
open Go.RowKit
def valE (q : UInt8) (b : List UInt8) : Nat := if 32 < b.length then 3 else if q = 2 ∧ b ≠ [] then 1 else 0
theorem op_val {f : List UInt8 → Nat} {q : UInt8} {a b : List UInt8} (h : q = 1 ∨ q = 2) (h2 : f a = 0) : opE f (q, a, b) = valE q b := by
 unfold opE valE
 rw [if_pos h, if_pos h2]
 by_cases h3 : 32 < b.length
 ·rw [if_pos h3, if_neg (by simp only; omega)]
 ·rw [if_neg h3, if_pos (by simp only; omega)]
theorem right_n {i e : Int} {ops : List Opr} (h : i < 1 ∨ 4611686018427387904 < i ∨ e < 1) : rightB i e ops = 1 := if_pos h
theorem right_4 {i e : Int} {ops : List Opr} (h : ¬ (i < 1 ∨ 4611686018427387904 < i ∨ e < 1)) (h4 : 4 < ops.length) : rightB i e ops = 3 := by unfold rightB; rw [if_neg h, if_pos h4]
theorem right_e {i e : Int} {ops : List Opr} (h : ¬ (i < 1 ∨ 4611686018427387904 < i ∨ e < 1)) (h4 : ops.length ≤ 4) : rightB i e ops = eachE cutE ops := by unfold rightB; rw [if_neg h, if_neg yE]
end TL
end Go
namespace Go.Proofs.YtidadhbaomieiaaGreat
open Go.RowKit Go.TL
theorem value12_c (q : UInt8) (a b : List UInt8) (w : World) (hb : b.length ≤ 100000000) :
  Calls Tryz.prog 172 #[.agg #[.int .u8 (I8 q), .string (mkS a), .string (mkS b)]] w fun e w' => e = .returned (.int .i64 (valE q b)) ∧ Below w.heap.size w w' := by
 have M := Mem.start [] w
 unfold valE
 by_cases h1 : 32 < b.length
 ·rw [if_pos h1]
  have h2 : (32 : Int) < (b.length : Int) := by omega
  go_enter Tryz.func172, Tryz.ntmps172
  go_wp2_with ((first | ((with_reducible refine tBox (some 1) ?_); refine w_box M _ _ rfl rfl _ rfl ([.int .u8 (I8 q), .string (mkS a), .string (mkS b)]) rfl ?_; clear M; intro gx w1 M) | ((with_reducible refine tM rfl ?_); refine mS ?_; try (clear M; (first | intro g w1 M | intro w1 M); try simp only [setC] at M))) <;> (try conv => arg 5; simp only [apS, setC]))
  go_ret
  exact ⟨rfl, M.below⟩
 ·rw [if_neg h1]
  have h2 : (b.length : Int) ≤ 32 := by omega
  by_cases hq : q = 2
  ·have HI : I8 q = 2 := by rw [hq]; rfl
   by_cases hbe : b = []
   ·subst hbe
    rw [if_neg (by simp)]
    clear hq
    go_enter Tryz.func172, Tryz.ntmps172
    go_wp2_with ((first | ((with_reducible refine tBox (some 1) ?_); refine w_box M _ _ rfl rfl _ rfl ([.int .u8 (I8 q), .string (mkS []), .string (mkS [])]) rfl ?_; clear M; intro gx w1 M) | ((with_reducible refine tM rfl ?_); refine mS ?_; try (clear M; (first | intro g w1 M | intro w1 M); try simp only [setC] at M))) <;> (try conv => arg 5; simp only [apS, setC]))
    go_ret
    exact ⟨rfl, M.below⟩
   ·rw [if_pos ⟨hq, hbe⟩]
    have hbe' : b.isEmpty = false := by simpa using hbe
    clear hq hbe
    go_enter Tryz.func172, Tryz.ntmps172
    go_wp2_with ((first | ((with_reducible refine tBox (some 1) ?_); refine w_box M _ _ rfl rfl _ rfl ([.int .u8 (I8 q), .string (mkS a), .string (mkS b)]) rfl ?_; clear M; intro gx w1 M) | ((with_reducible refine tM rfl ?_); refine mS ?_; try (clear M; (first | intro g w1 M | intro w1 M); try simp only [setC] at M))) <;> (try conv => arg 5; simp only [apS, setC]))
    go_ret
    exact ⟨rfl, M.below⟩
  ·rw [if_neg (fun h => hq h.1)]
   obtain ⟨h3, h3'⟩ := I8_ne (q := q) (c := 2) hq
   rw [show I8 2 = 2 from rfl] at h3 h3'
   clear hq
   go_enter Tryz.func172, Tryz.ntmps172
   go_wp2_with ((first | ((with_reducible refine tBox (some 1) ?_); refine w_box M _ _ rfl rfl _ rfl ([.int .u8 (I8 q), .string (mkS a), .string (mkS b)]) rfl ?_; clear M; intro gx w1 M) | ((with_reducible refine tM rfl ?_); refine mS ?_; try (clear M; (first | intro g w1 M | intro w1 M); try simp only [setC] at M))) <;> (try conv => arg 5; simp only [apS, setC]))
   go_ret
   exact ⟨rfl, M.below⟩
theorem bRight_c (i e : Int) (ops : List Opr) (v : Value) (w : World) (S : SeesL w 3 opV v ops) (hl : ops.length ≤ 1000000) (hm : ∀ x ∈ ops, x.2.1.length ≤ 100000000 ∧ x.2.2.length ≤ 100000000) :
  Calls Tryz.prog 187 #[.agg #[.int .i64 i, .int .i64 e, v]] w fun e' w' => e' = .returned (.int .i64 (rightB i e ops)) ∧ Below w.heap.size w w' := by
 have M := Mem.start [] w
 have E := fun w S => EachR_c ops v w S hl hm
 obtain ⟨q, cap, rfl, hc⟩ := S.form
 by_cases h : i < 1 ∨ 4611686018427387904 < i ∨ e < 1
 ·rw [right_n h]
  replace E := Lib.hid E
  rcases h with h | h
  ·go_enter Tryz.func187, Tryz.ntmps187
   go_wp2_with ((first | ((with_reducible refine tBox (some 1) ?_); refine w_box M _ _ rfl rfl _ rfl ([.int .i64 i, .int .i64 e, .slice q ops.length cap]) rfl ?_; clear M; intro gx w1 M) | ((with_reducible refine tGuard ?_); first | ((with_reducible refine w_stripE ?_ ?_); exact dcd) | ((with_reducible refine w_skip1 ?_ ?_); exact dcd) | ((with_reducible refine w_skip0 ?_ ?_); exact dcd)) | ((with_reducible refine tM rfl ?_); refine mS ?_; try (clear M; (first | intro g w1 M | intro w1 M); try simp only [setC] at M)) | ((with_reducible refine tGuard ?_); refine gdC ?_ ?_ <;> (intro hgd; rw [hgd]; try (exfalso; simp at hgd; omega)))) <;> (try conv => arg 5; simp only [apS, setC]))
   go_ret
   exact ⟨rfl, M.below⟩
  ·by_cases h1 : i < 1
   ·clear h
    go_enter Tryz.func187, Tryz.ntmps187
    go_wp2_with ((first | ((with_reducible refine tBox (some 1) ?_); refine w_box M _ _ rfl rfl _ rfl ([.int .i64 i, .int .i64 e, .slice q ops.length cap]) rfl ?_; clear M; intro gx w1 M) | ((with_reducible refine tGuard ?_); first | ((with_reducible refine w_stripE ?_ ?_); exact dcd) | ((with_reducible refine w_skip1 ?_ ?_); exact dcd) | ((with_reducible refine w_skip0 ?_ ?_); exact dcd)) | ((with_reducible refine tM rfl ?_); refine mS ?_; try (clear M; (first | intro g w1 M | intro w1 M); try simp only [setC] at M)) | ((with_reducible refine tGuard ?_); refine gdC ?_ ?_ <;> (intro hgd; rw [hgd]; try (exfalso; simp at hgd; omega)))) <;> (try conv => arg 5; simp only [apS, setC]))
    go_ret
    exact ⟨rfl, M.below⟩
   ·have h1' : 1 ≤ i := by omega
    rcases h with h | h
    ·go_enter Tryz.func187, Tryz.ntmps187
     go_wp2_with ((first | ((with_reducible refine tBox (some 1) ?_); refine w_box M _ _ rfl rfl _ rfl ([.int .i64 i, .int .i64 e, .slice q ops.length cap]) rfl ?_; clear M; intro gx w1 M) | ((with_reducible refine tGuard ?_); first | ((with_reducible refine w_stripE ?_ ?_); exact dcd) | ((with_reducible refine w_skip1 ?_ ?_); exact dcd) | ((with_reducible refine w_skip0 ?_ ?_); exact dcd)) | ((with_reducible refine tM rfl ?_); refine mS ?_; try (clear M; (first | intro g w1 M | intro w1 M); try simp only [setC] at M)) | ((with_reducible refine tGuard ?_); refine gdC ?_ ?_ <;> (intro hgd; rw [hgd]; try (exfalso; simp at hgd; omega)))) <;> (try conv => arg 5; simp only [apS, setC]))
     go_ret
     exact ⟨rfl, M.below⟩
    ·by_cases h2 : 4611686018427387904 < i
     ·clear h
      go_enter Tryz.func187, Tryz.ntmps187
      go_wp2_with ((first | ((with_reducible refine tBox (some 1) ?_); refine w_box M _ _ rfl rfl _ rfl ([.int .i64 i, .int .i64 e, .slice q ops.length cap]) rfl ?_; clear M; intro gx w1 M) | ((with_reducible refine tGuard ?_); first | ((with_reducible refine w_stripE ?_ ?_); exact dcd) | ((with_reducible refine w_skip1 ?_ ?_); exact dcd) | ((with_reducible refine w_skip0 ?_ ?_); exact dcd)) | ((with_reducible refine tM rfl ?_); refine mS ?_; try (clear M; (first | intro g w1 M | intro w1 M); try simp only [setC] at M)) | ((with_reducible refine tGuard ?_); refine gdC ?_ ?_ <;> (intro hgd; rw [hgd]; try (exfalso; simp at hgd; omega)))) <;> (try conv => arg 5; simp only [apS, setC]))
      go_ret
      exact ⟨rfl, M.below⟩
     ·have h2' : i ≤ 4611686018427387904 := by omega
      go_enter Tryz.func187, Tryz.ntmps187
      go_wp2_with ((first | ((with_reducible refine tBox (some 1) ?_); refine w_box M _ _ rfl rfl _ rfl ([.int .i64 i, .int .i64 e, .slice q ops.length cap]) rfl ?_; clear M; intro gx w1 M) | ((with_reducible refine tGuard ?_); first | ((with_reducible refine w_stripE ?_ ?_); exact dcd) | ((with_reducible refine w_skip1 ?_ ?_); exact dcd) | ((with_reducible refine w_skip0 ?_ ?_); exact dcd)) | ((with_reducible refine tM rfl ?_); refine mS ?_; try (clear M; (first | intro g w1 M | intro w1 M); try simp only [setC] at M)) | ((with_reducible refine tGuard ?_); refine gdC ?_ ?_ <;> (intro hgd; rw [hgd]; try (exfalso; simp at hgd; omega)))) <;> (try conv => arg 5; simp only [apS, setC]))
      go_ret
      exact ⟨rfl, M.below⟩
 ·obtain ⟨h1, h2, h3⟩ : 1 ≤ i ∧ i ≤ 4611686018427387904 ∧ 1 ≤ e := by omega
  by_cases h4 : 4 < ops.length
  ·rw [right_4 h h4]
   have h4' : (4 : Int) < (ops.length : Int) := by omega
   replace E := Lib.hid E
   clear h
   go_enter Tryz.func187, Tryz.ntmps187
   go_wp2_with ((first | ((with_reducible refine tBox (some 1) ?_); refine w_box M _ _ rfl rfl _ rfl ([.int .i64 i, .int .i64 e, .slice q ops.length cap]) rfl ?_; clear M; intro gx w1 M) | ((with_reducible refine tGuard ?_); first | ((with_reducible refine w_stripE ?_ ?_); exact dcd) | ((with_reducible refine w_skip1 ?_ ?_); exact dcd) | ((with_reducible refine w_skip0 ?_ ?_); exact dcd)) | ((with_reducible refine tM rfl ?_); refine mS ?_; try (clear M; (first | intro g w1 M | intro w1 M); try simp only [setC] at M)) | ((with_reducible refine tGuard ?_); refine gdC ?_ ?_ <;> (intro hgd; rw [hgd]; try (exfalso; simp at hgd; omega)))) <;> (try conv => arg 5; simp only [apS, setC]))
   go_ret
   exact ⟨rfl, M.below⟩
  ·rw [right_e h yE]
   have h4' : (ops.length : Int) ≤ 4 := by omega
   obtain ⟨R, eR⟩ : ∃ R, R = eachE cutE ops := ⟨_, rfl⟩
   rw [← eR] at E ⊢
   replace E := Lib.hid E
   clear h eR
   go_enter Tryz.func187, Tryz.ntmps187
   go_wp2_with ((first | ((with_reducible refine tBox (some 1) ?_); refine w_box M _ _ rfl rfl _ rfl ([.int .i64 i, .int .i64 e, .slice q ops.length cap]) rfl ?_; clear M; intro gx w1 M) | ((with_reducible refine tGuard ?_); first | ((with_reducible refine w_stripE ?_ ?_); exact dcd) | ((with_reducible refine w_skip1 ?_ ?_); exact dcd) | ((with_reducible refine w_skip0 ?_ ?_); exact dcd)) | (go_at_call 201; (refine (E.out _ (S.now M)).mono ?_; rintro e w1 ⟨rfl, hb⟩; replace M := M.call hb; clear hb)) | ((with_reducible refine tM rfl ?_); refine mS ?_; try (clear M; (first | intro g w1 M | intro w1 M); try simp only [setC] at M)) | ((with_reducible refine tGuard ?_); refine gdC ?_ ?_ <;> (intro hgd; rw [hgd]; try (exfalso; simp at hgd; omega)))) <;> (try conv => arg 5; simp only [apS, setC]))
   go_ret
   exact ⟨rfl, M.below⟩
end Go.Proofs.YtidadhbaomieiaaGreat

namespace Go
namespace TL
def sameB (i e j f : Int) (l m : List Opr) : Bool := i == j && (e == f && l == m)
theorem sameB_i {i e j f : Int} {l m : List Opr} (h : i ≠ j) : sameB i e j f l m = false := by unfold sameB; rw [beq_eq_false_iff_ne.2 h]; rfl
theorem sameB_e {i e j f : Int} {l m : List Opr} (h : e ≠ f) : sameB i e j f l m = false := by unfold sameB; rw [beq_eq_false_iff_ne.2 h, Bool.false_and, Bool.and_false]
theorem sameB_l {i e : Int} {l m : List Opr} : sameB i e i e l m = (l == m) := by unfold sameB; rw [beq_self_eq_true, beq_self_eq_true, Bool.true_and, Bool.true_and]
theorem eqO_ne {l m : List Opr} (k : Nat) (x y : Opr) (h1 : l[k]? = some x) (h2 : m[k]? = some y) (h : x ≠ y) : (l == m) = false := by
 rw [beq_eq_false_iff_ne]; rintro rfl; rw [h1] at h2; cases h2; exact h rfl
theorem eqO_eq {l m : List Opr} (h0 : l.length = m.length) (h : ∀ (k : Nat), k < l.length → l[k]? = m[k]?) : (l == m) = true := by
 rw [beq_iff_eq]
 apply List.ext_getElem?
 intro k
 by_cases hk : k < l.length
 ·exact h k hk
 ·rw [List.getElem?_eq_none yE, List.getElem?_eq_none yE]
theorem eqO_len {l m : List Opr} (h : l.length ≠ m.length) : (l == m) = false := by
 rw [beq_eq_false_iff_ne]; rintro rfl; exact h rfl
theorem opV_ne {q q' : UInt8} {a b c d : List UInt8} (h : (q, a, b) ≠ (q', c, d)) : ¬ (I8 q = I8 q' ∧ a = c ∧ b = d) := by
 rintro ⟨h1, rfl, rfl⟩
 rw [I8_eq, I8_eq] at h1
 have : q = q' := UInt8.toNat_inj.1 yE
 subst this; exact h rfl
end TL
end Go
namespace Go.Proofs.YtidadhbaomieiaaGreat
open Go.RowKit Go.TL
theorem EqualO_c (l m : List Opr) (v u : Value) (w : World) (S : SeesL w 3 opV v l) (T : SeesL w 3 opV u m) (hl : l.length ≤ 1000000) (_hm : m.length ≤ 1000000) :
  Calls Tryz.prog 93 #[v, u] w fun e w' => e = .returned (.bool (l == m)) ∧ Below w.heap.size w w' := by
 obtain ⟨p, cap, rfl, hc⟩ := S.form
 obtain ⟨q, cap', rfl, hc'⟩ := T.form
 have hne := @eqO_ne l m
 have heq := @eqO_eq l m
 have hln := @eqO_len l m
 obtain ⟨R, eR⟩ : ∃ R, R = (l == m) := ⟨_, rfl⟩
 rw [← eR] at hne heq hln ⊢
 replace hne := Lib.hid hne
 replace heq := Lib.hid heq
 replace hln := Lib.hid hln
 clear eR
 have M := Mem.start [] w
 by_cases hn : l.length = m.length
 ·have hq : ((l.length : Int) != (m.length : Int)) = false := by simp; omega
  go_enter Tryz.func93, Tryz.ntmps93
  replace hn := Lib.hid hn
  go_wp2_with fail
  go_loopw [13] (fun iv wr => ∃ k : Nat, k ≤ l.length ∧ iv = .int .i64 k ∧ Hid (∀ (j : Nat), j < k → l[j]? = m[j]?) ∧ Mem [] w wr []) (fun iv _ => l.length - (intOf iv).toNat)
  case atStart => exact ⟨0, by omega, rfl, Lib.hid yE, M⟩
  case round =>
   clear M
   obtain ⟨k, hk, rfl, HK, M⟩ := hrel
   by_cases hlt : k < l.length
   ·obtain ⟨g, so, rfl⟩ := S.addr yE
    obtain ⟨g', so', rfl⟩ := T.addr (by have := hn.out; omega)
    have hkm : k < m.length := by have := hn.out; omega
    obtain ⟨⟨qa, a, b⟩, hx⟩ : ∃ x, l[k]? = some x := ⟨_, List.getElem?_eq_getElem hlt⟩
    obtain ⟨⟨qc, c, d⟩, hy⟩ : ∃ x, m[k]? = some x := ⟨_, List.getElem?_eq_getElem hkm⟩
    have HX := Lib.hid hx; clear hx
    have HY := Lib.hid hy; clear hy
    by_cases hab : (qa, a, b) = (qc, c, d)
    ·simp only [Prod.mk.injEq] at hab
     obtain ⟨rfl, rfl, rfl⟩ := hab
     go_wp2_with ((first | ((with_reducible refine tLoad ?_); refine w_at _ _ rfl yI ?_; intro hx; first | (refine w_seeA M S HX.out _ _ rfl hx rfl yA yD yC ?_; clear hx; (try conv => arg 5; simp only [Act.put, List.setIfInBounds_toArray, setC, opV_eq])) | (refine w_see M S HX.out _ _ rfl hx rfl yA 0 yD rfl ?_; clear hx) | (refine w_see M S HX.out _ _ rfl hx rfl yA 1 yD rfl ?_; clear hx) | (refine w_see M S HX.out _ _ rfl hx rfl yA 2 yD rfl ?_; clear hx) | (refine w_seeA M T HY.out _ _ rfl hx rfl yA yD yC ?_; clear hx; (try conv => arg 5; simp only [Act.put, List.setIfInBounds_toArray, setC, opV_eq])) | (refine w_see M T HY.out _ _ rfl hx rfl yA 0 yD rfl ?_; clear hx) | (refine w_see M T HY.out _ _ rfl hx rfl yA 1 yD rfl ?_; clear hx) | (refine w_see M T HY.out _ _ rfl hx rfl yA 2 yD rfl ?_; clear hx)) | ((with_reducible show Code.wp _ (Code.region 6 _ _) _ _ _); (refine region_det [(0, false), (1, false), (2, false), (4, false), (5, false), (6, false), (3, false), (7, false), (8, false)] [(19, .cells), (23, .cells)] yC yC rfl yC ?_; replace M := M.drew; simp only [reord, opAt, List.map_cons, List.map_nil, List.getElem?_toArray, List.getElem?_cons_zero, List.getElem?_cons_succ, Option.getD_some])) | ((with_reducible refine tM rfl ?_); refine mS ?_; try (clear M; (first | intro g w1 M | intro w1 M); try simp only [setC] at M)) | ((with_reducible first | show Seg _ _ _ _ | show OnlyN _ _ _ _ _); refine rA ?_)) <;> (try conv => arg 5; simp only [apS, setC]))
     go_roundw
     case rel => exact ⟨k + 1, by omega, by go_num, Lib.hid fun j hj => by
      rcases Nat.lt_succ_iff_lt_or_eq.1 hj with hj | rfl
      ·exact HK.out j hj
      ·exact HX.out.trans HY.out.symm, M⟩
     case measure => simp [intOf]; omega
    ·have e0 : R = false := hne.out k _ _ HX.out HY.out hab
     subst e0
     have hab := Lib.hid (opV_ne hab)
     go_wp2_with ((first | ((with_reducible refine tLoad ?_); refine w_at _ _ rfl yI ?_; intro hx; first | (refine w_seeA M S HX.out _ _ rfl hx rfl yA yD yC ?_; clear hx; (try conv => arg 5; simp only [Act.put, List.setIfInBounds_toArray, setC, opV_eq])) | (refine w_see M S HX.out _ _ rfl hx rfl yA 0 yD rfl ?_; clear hx) | (refine w_see M S HX.out _ _ rfl hx rfl yA 1 yD rfl ?_; clear hx) | (refine w_see M S HX.out _ _ rfl hx rfl yA 2 yD rfl ?_; clear hx) | (refine w_seeA M T HY.out _ _ rfl hx rfl yA yD yC ?_; clear hx; (try conv => arg 5; simp only [Act.put, List.setIfInBounds_toArray, setC, opV_eq])) | (refine w_see M T HY.out _ _ rfl hx rfl yA 0 yD rfl ?_; clear hx) | (refine w_see M T HY.out _ _ rfl hx rfl yA 1 yD rfl ?_; clear hx) | (refine w_see M T HY.out _ _ rfl hx rfl yA 2 yD rfl ?_; clear hx)) | ((with_reducible show Code.wp _ (Code.region 6 _ _) _ _ _); (refine region_det [(0, false), (1, false), (2, false), (4, false), (5, false), (6, false), (3, false), (7, false), (8, false)] [(19, .cells), (23, .cells)] yC yC rfl yC ?_; replace M := M.drew; simp only [reord, opAt, List.map_cons, List.map_nil, List.getElem?_toArray, List.getElem?_cons_zero, List.getElem?_cons_succ, Option.getD_some])) | ((with_reducible refine tM rfl ?_); refine mS ?_; try (clear M; (first | intro g w1 M | intro w1 M); try simp only [setC] at M)) | ((with_reducible first | show Seg _ _ _ _ | show OnlyN _ _ _ _ _); refine rA ?_)) <;> (try conv => arg 5; simp only [apS, setC]))
     all_goals (first | exact absurd ⟨‹I8 qa = I8 qc›, ‹a = c›, ‹b = d›⟩ hab.out | (go_ret; exact ⟨rfl, M.below⟩))
   ·obtain rfl : k = l.length := by omega
    have e0 : R = true := heq.out hn.out HK.out
    subst e0
    have hkm : ¬ l.length < m.length := by have := hn.out; omega
    go_wp2_with ((first | ((with_reducible refine tM rfl ?_); refine mS ?_; try (clear M; (first | intro g w1 M | intro w1 M); try simp only [setC] at M))) <;> (try conv => arg 5; simp only [apS, setC]))
    go_ret
    exact ⟨rfl, M.below⟩
 ·have e0 : R = false := hln.out hn
  subst e0
  have hq : ((l.length : Int) != (m.length : Int)) = true := by simp; omega
  go_enter Tryz.func93, Tryz.ntmps93
  go_wp2_with fail
  go_ret
  exact ⟨rfl, M.below⟩
theorem bSame_c (i e j f : Int) (l m : List Opr) (v u : Value) (w : World) (S : SeesL w 3 opV v l) (T : SeesL w 3 opV u m) (hl : l.length ≤ 1000000) (_hm : m.length ≤ 1000000) :
  Calls Tryz.prog 54 #[.agg #[.int .i64 i, .int .i64 e, v], .agg #[.int .i64 j, .int .i64 f, u]] w fun r w' => r = .returned (.bool (sameB i e j f l m)) ∧ Below w.heap.size w w' := by
 obtain ⟨p, cap, rfl, hc⟩ := S.form
 obtain ⟨q, cap', rfl, hc'⟩ := T.form
 have M := Mem.start [] w
 by_cases hij : i = j
 ·subst hij
  by_cases hef : e = f
  ·subst hef
   rw [sameB_l]
   have E := fun w S T => EqualO_c l m (.slice p l.length cap) (.slice q m.length cap') w S T hl _hm
   obtain ⟨R, eR⟩ : ∃ R, R = (l == m) := ⟨_, rfl⟩
   rw [← eR] at E ⊢
   replace E := Lib.hid E
   clear eR
   go_enter Tryz.func54, Tryz.ntmps54
   go_wp2_with ((first | ((with_reducible refine tBox (some 2) ?_); refine w_box M _ _ rfl rfl _ rfl ([.int .i64 i, .int .i64 e, .slice p l.length cap]) rfl ?_; clear M; intro ga w1 M) | ((with_reducible refine tBox (some 3) ?_); refine w_box M _ _ rfl rfl _ rfl ([.int .i64 i, .int .i64 e, .slice q m.length cap']) rfl ?_; clear M; intro gb w1 M) | ((with_reducible refine tGuard ?_); first | ((with_reducible refine w_stripE ?_ ?_); exact dcd) | ((with_reducible refine w_skip1 ?_ ?_); exact dcd) | ((with_reducible refine w_skip0 ?_ ?_); exact dcd)) | (go_at_call 93; (refine (E.out _ (S.now M) (T.now M)).mono ?_; rintro e w1 ⟨rfl, hb⟩; replace M := M.call hb; clear hb)) | ((with_reducible refine tM rfl ?_); refine mS ?_; try (clear M; (first | intro g w1 M | intro w1 M); try simp only [setC] at M))) <;> (try conv => arg 5; simp only [apS, setC]))
   go_ret
   exact ⟨rfl, M.below⟩
  ·rw [sameB_e hef]
   have h1 : (e == f) = false := beq_eq_false_iff_ne.2 hef
   have h2 : (e != f) = true := by simpa using hef
   clear hef
   go_enter Tryz.func54, Tryz.ntmps54
   go_wp2_with ((first | ((with_reducible refine tBox (some 2) ?_); refine w_box M _ _ rfl rfl _ rfl ([.int .i64 i, .int .i64 e, .slice p l.length cap]) rfl ?_; clear M; intro ga w1 M) | ((with_reducible refine tBox (some 3) ?_); refine w_box M _ _ rfl rfl _ rfl ([.int .i64 i, .int .i64 f, .slice q m.length cap']) rfl ?_; clear M; intro gb w1 M) | ((with_reducible refine tGuard ?_); first | ((with_reducible refine w_stripE ?_ ?_); exact dcd) | ((with_reducible refine w_skip1 ?_ ?_); exact dcd) | ((with_reducible refine w_skip0 ?_ ?_); exact dcd)) | ((with_reducible refine tM rfl ?_); refine mS ?_; try (clear M; (first | intro g w1 M | intro w1 M); try simp only [setC] at M))) <;> (try conv => arg 5; simp only [apS, setC]))
   go_ret
   exact ⟨rfl, M.below⟩
 ·rw [sameB_i hij]
  have h1 : (i == j) = false := beq_eq_false_iff_ne.2 hij
  have h2 : (i != j) = true := by simpa using hij
  clear hij
  go_enter Tryz.func54, Tryz.ntmps54
  go_wp2_with ((first | ((with_reducible refine tBox (some 2) ?_); refine w_box M _ _ rfl rfl _ rfl ([.int .i64 i, .int .i64 e, .slice p l.length cap]) rfl ?_; clear M; intro ga w1 M) | ((with_reducible refine tBox (some 3) ?_); refine w_box M _ _ rfl rfl _ rfl ([.int .i64 j, .int .i64 f, .slice q m.length cap']) rfl ?_; clear M; intro gb w1 M) | ((with_reducible refine tGuard ?_); first | ((with_reducible refine w_stripE ?_ ?_); exact dcd) | ((with_reducible refine w_skip1 ?_ ?_); exact dcd) | ((with_reducible refine w_skip0 ?_ ?_); exact dcd)) | ((with_reducible refine tM rfl ?_); refine mS ?_; try (clear M; (first | intro g w1 M | intro w1 M); try simp only [setC] at M))) <;> (try conv => arg 5; simp only [apS, setC]))
  go_ret
  exact ⟨rfl, M.below⟩
theorem rSame_c (i e j f : Int) (l m : List Opr) (v u : Value) (w : World) (S : SeesL w 3 opV v l) (T : SeesL w 3 opV u m) (hl : l.length ≤ 1000000) (_hm : m.length ≤ 1000000) :
  Calls Tryz.prog 66 #[.agg #[.int .i64 i, .int .i64 e, v], .agg #[.int .i64 j, .int .i64 f, u]] w fun r w' => r = .returned (.bool (sameB i e j f l m)) ∧ Below w.heap.size w w' := by
 obtain ⟨p, cap, rfl, hc⟩ := S.form
 obtain ⟨q, cap', rfl, hc'⟩ := T.form
 have M := Mem.start [] w
 by_cases hij : i = j
 ·subst hij
  by_cases hef : e = f
  ·subst hef
   rw [sameB_l]
   have hne := @eqO_ne l m
   have heq := @eqO_eq l m
   have hln := @eqO_len l m
   obtain ⟨R, eR⟩ : ∃ R, R = (l == m) := ⟨_, rfl⟩
   rw [← eR] at hne heq hln ⊢
   replace hne := Lib.hid hne
   replace heq := Lib.hid heq
   replace hln := Lib.hid hln
   clear eR
   by_cases hn : l.length = m.length
   ·have hq : ((l.length : Int) != (m.length : Int)) = false := by simp; omega
    go_enter Tryz.func66, Tryz.ntmps66
    replace hn := Lib.hid hn
    go_wp2_with ((first | ((with_reducible refine tBox (some 2) ?_); refine w_box M _ _ rfl rfl _ rfl ([.int .i64 i, .int .i64 e, .slice p l.length cap]) rfl ?_; clear M; intro ga w1 M) | ((with_reducible refine tBox (some 3) ?_); refine w_box M _ _ rfl rfl _ rfl ([.int .i64 i, .int .i64 e, .slice q m.length cap']) rfl ?_; clear M; intro gb w1 M) | ((with_reducible refine tGuard ?_); first | ((with_reducible refine w_stripE ?_ ?_); exact dcd) | ((with_reducible refine w_skip1 ?_ ?_); exact dcd) | ((with_reducible refine w_skip0 ?_ ?_); exact dcd)) | ((with_reducible refine tM rfl ?_); refine mS ?_; try (clear M; (first | intro g w1 M | intro w1 M); try simp only [setC] at M))) <;> (try conv => arg 5; simp only [apS, setC]))
    go_loopw [5] (fun iv wr => ∃ k : Nat, k ≤ l.length ∧ iv = .int .i64 k ∧ Hid (∀ (j : Nat), j < k → l[j]? = m[j]?) ∧ Mem [] w wr [.row gb [.int .i64 i, .int .i64 e, .slice q m.length cap'], .row ga [.int .i64 i, .int .i64 e, .slice p l.length cap]]) (fun iv _ => l.length - (intOf iv).toNat)
    case atStart => exact ⟨0, by omega, rfl, Lib.hid yE, M⟩
    case round =>
     clear M
     obtain ⟨k, hk, rfl, HK, M⟩ := hrel
     by_cases hlt : k < l.length
     ·obtain ⟨g, so, rfl⟩ := S.addr yE
      obtain ⟨g', so', rfl⟩ := T.addr (by have := hn.out; omega)
      have hkm : k < m.length := by have := hn.out; omega
      obtain ⟨⟨qa, a, b⟩, hx⟩ : ∃ x, l[k]? = some x := ⟨_, List.getElem?_eq_getElem hlt⟩
      obtain ⟨⟨qc, c, d⟩, hy⟩ : ∃ x, m[k]? = some x := ⟨_, List.getElem?_eq_getElem hkm⟩
      have HX := Lib.hid hx; clear hx
      have HY := Lib.hid hy; clear hy
      by_cases hab : (qa, a, b) = (qc, c, d)
      ·simp only [Prod.mk.injEq] at hab
       obtain ⟨rfl, rfl, rfl⟩ := hab
       go_wp2_with ((first | ((with_reducible refine tLoad ?_); refine w_at _ _ rfl yI ?_; intro hx; first | (refine w_seeA M S HX.out _ _ rfl hx rfl yA yD yC ?_; clear hx; (try conv => arg 5; simp only [Act.put, List.setIfInBounds_toArray, setC, opV_eq])) | (refine w_see M S HX.out _ _ rfl hx rfl yA 0 yD rfl ?_; clear hx) | (refine w_see M S HX.out _ _ rfl hx rfl yA 1 yD rfl ?_; clear hx) | (refine w_see M S HX.out _ _ rfl hx rfl yA 2 yD rfl ?_; clear hx) | (refine w_seeA M T HY.out _ _ rfl hx rfl yA yD yC ?_; clear hx; (try conv => arg 5; simp only [Act.put, List.setIfInBounds_toArray, setC, opV_eq])) | (refine w_see M T HY.out _ _ rfl hx rfl yA 0 yD rfl ?_; clear hx) | (refine w_see M T HY.out _ _ rfl hx rfl yA 1 yD rfl ?_; clear hx) | (refine w_see M T HY.out _ _ rfl hx rfl yA 2 yD rfl ?_; clear hx)) | ((with_reducible show Code.wp _ (Code.region 6 _ _) _ _ _); (refine region_det [(0, false), (2, false), (5, false), (7, false), (1, false), (3, false), (4, false), (6, false), (8, false), (9, false), (10, false)] [(38, .cells), (43, .cells)] yC yC rfl yC ?_; replace M := M.drew; simp only [reord, opAt, List.map_cons, List.map_nil, List.getElem?_toArray, List.getElem?_cons_zero, List.getElem?_cons_succ, Option.getD_some])) | ((with_reducible refine tM rfl ?_); refine mS ?_; try (clear M; (first | intro g w1 M | intro w1 M); try simp only [setC] at M)) | ((with_reducible first | show Seg _ _ _ _ | show OnlyN _ _ _ _ _); refine rA ?_)) <;> (try conv => arg 5; simp only [apS, setC]))
       go_roundw
       case rel => exact ⟨k + 1, by omega, by go_num, Lib.hid fun j hj => by
        rcases Nat.lt_succ_iff_lt_or_eq.1 hj with hj | rfl
        ·exact HK.out j hj
        ·exact HX.out.trans HY.out.symm, M⟩
       case measure => simp [intOf]; omega
      ·have e0 : R = false := hne.out k _ _ HX.out HY.out hab
       subst e0
       have hab := Lib.hid (opV_ne hab)
       go_wp2_with ((first | ((with_reducible refine tLoad ?_); refine w_at _ _ rfl yI ?_; intro hx; first | (refine w_seeA M S HX.out _ _ rfl hx rfl yA yD yC ?_; clear hx; (try conv => arg 5; simp only [Act.put, List.setIfInBounds_toArray, setC, opV_eq])) | (refine w_see M S HX.out _ _ rfl hx rfl yA 0 yD rfl ?_; clear hx) | (refine w_see M S HX.out _ _ rfl hx rfl yA 1 yD rfl ?_; clear hx) | (refine w_see M S HX.out _ _ rfl hx rfl yA 2 yD rfl ?_; clear hx) | (refine w_seeA M T HY.out _ _ rfl hx rfl yA yD yC ?_; clear hx; (try conv => arg 5; simp only [Act.put, List.setIfInBounds_toArray, setC, opV_eq])) | (refine w_see M T HY.out _ _ rfl hx rfl yA 0 yD rfl ?_; clear hx) | (refine w_see M T HY.out _ _ rfl hx rfl yA 1 yD rfl ?_; clear hx) | (refine w_see M T HY.out _ _ rfl hx rfl yA 2 yD rfl ?_; clear hx)) | ((with_reducible show Code.wp _ (Code.region 6 _ _) _ _ _); (refine region_det [(0, false), (2, false), (5, false), (7, false), (1, false), (3, false), (4, false), (6, false), (8, false), (9, false), (10, false)] [(38, .cells), (43, .cells)] yC yC rfl yC ?_; replace M := M.drew; simp only [reord, opAt, List.map_cons, List.map_nil, List.getElem?_toArray, List.getElem?_cons_zero, List.getElem?_cons_succ, Option.getD_some])) | ((with_reducible refine tM rfl ?_); refine mS ?_; try (clear M; (first | intro g w1 M | intro w1 M); try simp only [setC] at M)) | ((with_reducible first | show Seg _ _ _ _ | show OnlyN _ _ _ _ _); refine rA ?_)) <;> (try conv => arg 5; simp only [apS, setC]))
       all_goals (first | exact absurd ⟨‹I8 qa = I8 qc›, ‹a = c›, ‹b = d›⟩ hab.out | (go_ret; exact ⟨rfl, M.below⟩))
     ·obtain rfl : k = l.length := by omega
      have e0 : R = true := heq.out hn.out HK.out
      subst e0
      have hkm : ¬ l.length < m.length := by have := hn.out; omega
      go_wp2_with ((first | ((with_reducible refine tM rfl ?_); refine mS ?_; try (clear M; (first | intro g w1 M | intro w1 M); try simp only [setC] at M))) <;> (try conv => arg 5; simp only [apS, setC]))
      go_ret
      exact ⟨rfl, M.below⟩
   ·have e0 : R = false := hln.out hn
    subst e0
    have hq : ((l.length : Int) != (m.length : Int)) = true := by simp; omega
    go_enter Tryz.func66, Tryz.ntmps66
    go_wp2_with ((first | ((with_reducible refine tBox (some 2) ?_); refine w_box M _ _ rfl rfl _ rfl ([.int .i64 i, .int .i64 e, .slice p l.length cap]) rfl ?_; clear M; intro ga w1 M) | ((with_reducible refine tBox (some 3) ?_); refine w_box M _ _ rfl rfl _ rfl ([.int .i64 i, .int .i64 e, .slice q m.length cap']) rfl ?_; clear M; intro gb w1 M) | ((with_reducible refine tGuard ?_); first | ((with_reducible refine w_stripE ?_ ?_); exact dcd) | ((with_reducible refine w_skip1 ?_ ?_); exact dcd) | ((with_reducible refine w_skip0 ?_ ?_); exact dcd)) | ((with_reducible refine tM rfl ?_); refine mS ?_; try (clear M; (first | intro g w1 M | intro w1 M); try simp only [setC] at M))) <;> (try conv => arg 5; simp only [apS, setC]))
    go_ret
    exact ⟨rfl, M.below⟩
  ·rw [sameB_e hef]
   have h1 : (e == f) = false := beq_eq_false_iff_ne.2 hef
   have h2 : (e != f) = true := by simpa using hef
   clear hef
   go_enter Tryz.func66, Tryz.ntmps66
   go_wp2_with ((first | ((with_reducible refine tBox (some 2) ?_); refine w_box M _ _ rfl rfl _ rfl ([.int .i64 i, .int .i64 e, .slice p l.length cap]) rfl ?_; clear M; intro ga w1 M) | ((with_reducible refine tBox (some 3) ?_); refine w_box M _ _ rfl rfl _ rfl ([.int .i64 i, .int .i64 f, .slice q m.length cap']) rfl ?_; clear M; intro gb w1 M) | ((with_reducible refine tGuard ?_); first | ((with_reducible refine w_stripE ?_ ?_); exact dcd) | ((with_reducible refine w_skip1 ?_ ?_); exact dcd) | ((with_reducible refine w_skip0 ?_ ?_); exact dcd)) | ((with_reducible refine tM rfl ?_); refine mS ?_; try (clear M; (first | intro g w1 M | intro w1 M); try simp only [setC] at M))) <;> (try conv => arg 5; simp only [apS, setC]))
   go_ret
   exact ⟨rfl, M.below⟩
 ·rw [sameB_i hij]
  have h1 : (i == j) = false := beq_eq_false_iff_ne.2 hij
  have h2 : (i != j) = true := by simpa using hij
  clear hij
  go_enter Tryz.func66, Tryz.ntmps66
  go_wp2_with ((first | ((with_reducible refine tBox (some 2) ?_); refine w_box M _ _ rfl rfl _ rfl ([.int .i64 i, .int .i64 e, .slice p l.length cap]) rfl ?_; clear M; intro ga w1 M) | ((with_reducible refine tBox (some 3) ?_); refine w_box M _ _ rfl rfl _ rfl ([.int .i64 j, .int .i64 f, .slice q m.length cap']) rfl ?_; clear M; intro gb w1 M) | ((with_reducible refine tGuard ?_); first | ((with_reducible refine w_stripE ?_ ?_); exact dcd) | ((with_reducible refine w_skip1 ?_ ?_); exact dcd) | ((with_reducible refine w_skip0 ?_ ?_); exact dcd)) | ((with_reducible refine tM rfl ?_); refine mS ?_; try (clear M; (first | intro g w1 M | intro w1 M); try simp only [setC] at M))) <;> (try conv => arg 5; simp only [apS, setC]))
  go_ret
  exact ⟨rfl, M.below⟩
end Go.Proofs.YtidadhbaomieiaaGreat
