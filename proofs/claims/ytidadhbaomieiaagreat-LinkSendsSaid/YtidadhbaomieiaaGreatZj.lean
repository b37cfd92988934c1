/- Texts of this seat, put together: RefS, MacPL, RefMO, AesL, AesA. Each begins with a remark that says what is proved in it, and under which conditions. -/
import Derived.Test.YtidadhbaomieiaaGreatY
import Derived.Test.YtidadhbaomieiaaGreatZa
import Derived.Test.YtidadhbaomieiaaGreatZc
import Derived.Test.YtidadhbaomieiaaGreatZd
import Derived.Test.YtidadhbaomieiaaGreatZe
import Derived.Test.YtidadhbaomieiaaGreatZi
set_option maxRecDepth 100000
set_option maxHeartbeats 16000000
namespace Go
namespace TL
open Go.RowKit
theorem snoc128 (l : List UInt8) : bs l ++ [.int .u8 128] = bs (l ++ [128]) := by rw [bs_append]; rfl
theorem snoc0 (l : List UInt8) : bs l ++ [.int .u8 0] = bs (l ++ [0]) := by rw [bs_append]; rfl
theorem snocB (l : List UInt8) (b : UInt8) : bs l ++ [.int .u8 (I8 b)] = bs (l ++ [b]) := by rw [bs_append]; rfl
theorem I64_nat2 (i : Nat) (h : i < 1000) : I64 (w64 (i : Int)) = (i : Int) := by
 rw [w64_nat, I64_eq, UInt64.toNat_ofNat']; omega
theorem P64_root (k : Nat) (hk : k < 64) : behindW (P64.getD k 0) true = K64.getD k 0 := by
 have h := roots3
 have h1 : K64.getD k 0 = (P64.map (behindW · true)).getD k 0 := by rw [h]
 rw [h1, List.getD_eq_getElem?_getD, List.getD_eq_getElem?_getD, List.getElem?_map, List.getElem?_eq_getElem (by rw [P64_length]; exact hk)]; rfl
theorem P64_root2 (k : Nat) (hk : k < 8) : behindW (P64.getD k 0) false = H0.words.getD k 0 := by
 have h1 : H0.words.getD k 0 = ((P64.take 8).map (behindW · false)).getD k 0 := by rw [roots2]
 rw [h1, List.getD_eq_getElem?_getD, List.getD_eq_getElem?_getD, List.getElem?_map, List.getElem?_take, if_pos hk, List.getElem?_eq_getElem (by rw [P64_length]; omega)]; rfl
end TL
end Go
namespace Go.Proofs.YtidadhbaomieiaaGreat
open Go.RowKit Go.TL
theorem refturn_l (h : St) (K : List UInt32) (s : List UInt8) (hK : K.length = 64) (hs : s.length = 64) (v : Value) (w : World) (S : Sees w 1 v 64 (bs s)) :
  Calls Tryz.prog 121 #[.agg (ws h.words).toArray, .agg (ws K).toArray, v] w fun e w' => ∃ h', Hid (h' = turnS h h K s) ∧ e = .returned (.agg (ws h'.words).toArray) ∧ Below w.heap.size w w' :=
 (refturn_c h K s hK hs v w S).mono fun _ _ ⟨h1, h2⟩ => ⟨_, Lib.hid rfl, h1, h2⟩
theorem refSum_c (l : List UInt8) (w : World) (hl : l.length ≤ 100000000000) :
  Calls Tryz.prog 89 #[.string (mkS l)] w fun e w' => e = .returned (.agg (bs (shaL l)).toArray) ∧ Below w.heap.size w w' := by
 obtain ⟨PP, eP⟩ : ∃ PP, PP = P64 := ⟨_, rfl⟩
 obtain ⟨KK, eK⟩ : ∃ KK, KK = K64 := ⟨_, rfl⟩
 obtain ⟨HH, eH⟩ : ∃ HH, HH = H0 := ⟨_, rfl⟩
 have lP : PP.length = 64 := by rw [eP]; exact P64_length
 have lK : KK.length = 64 := by rw [eK]; exact K64_length
 have lH := words_len HH
 have EP := Lib.hid eP; clear eP
 have EK := Lib.hid eK; clear eK
 have EH := Lib.hid eH; clear eH
 have M := Mem.start [] w
 go_enter Tryz.func89, Tryz.ntmps89
 go_wp2_with ((first | ((with_reducible refine tAlloc (some 2) 49 ?_); refine w_alloc M _ rfl rfl (.agg (Array.replicate 32 (.int .u8 0))) (bs (List.replicate 32 (0 : UInt8))) yC rfl ?_; clear M; intro go w1 M) | (go_at_call 119; (refine (primes_c _).mono ?_; rintro e w1 ⟨q, capP, rfl, MP⟩; replace M := M.join MP; (try simp only [List.cons_append, List.nil_append] at M); rw [← EP.out] at M; clear MP)) | ((with_reducible refine tAlloc (some 4) 212 ?_); refine w_alloc M _ rfl rfl (.agg (Array.replicate 64 (.int .u32 0))) (ws (List.replicate 64 (0 : UInt32))) yC rfl ?_; clear M; intro gk w1 M) | ((with_reducible refine tAlloc (some 5) 213 ?_); refine w_alloc M _ rfl rfl (.agg (Array.replicate 8 (.int .u32 0))) (ws (List.replicate 8 (0 : UInt32))) yC rfl ?_; clear M; intro gh w1 M)) <;> (try conv => arg 5; simp only [apS, setC]))
 obtain ⟨gp, op, rfl⟩ := M.slAddr 2 rfl yE
 go_loopw [6] (fun iv wr => ∃ k : Nat, k ≤ 64 ∧ iv = .int .i64 k ∧ Mem [] w wr [.row gh (ws (HH.words.take k ++ List.replicate (8 - k) 0)), .row gk (ws (KK.take k ++ List.replicate (64 - k) 0)), .sl 1 (.slice (some ⟨gp, op, none⟩) 64 capP) 64 (us PP), .row go (bs (List.replicate 32 0))]) (fun iv _ => 64 - (intOf iv).toNat)
 case atStart => exact ⟨0, by omega, rfl, M⟩
 case round =>
  clear M
  obtain ⟨k, hk, rfl, M⟩ := hrel
  by_cases hlt : k < 64
  ·obtain ⟨p, ep⟩ : ∃ p, p = PP.getD k 0 := ⟨_, rfl⟩
   have hp := Lib.hid (us_get (l := PP) (i := k) yE)
   rw [← ep] at hp
   have e1 : behindW p true = KK.getD k 0 := by rw [ep, EP.out, EK.out]; exact P64_root k hlt
   have E1 := Lib.hid e1; clear e1
   have E2 : Hid (k < 8 → behindW p false = HH.words.getD k 0) := Lib.hid (fun h => by rw [ep, EP.out, EH.out]; exact P64_root2 k h)
   clear ep
   obtain ⟨r3, er3⟩ : ∃ r, r = behindW p true := ⟨_, rfl⟩
   obtain ⟨r2, er2⟩ : ∃ r, r = behindW p false := ⟨_, rfl⟩
   rw [← er3] at E1
   rw [← er2] at E2
   have ER3 := Lib.hid er3; clear er3
   have ER2 := Lib.hid er2; clear er2
   by_cases h8 : k < 8
   ·go_wp2_with ((first | ((with_reducible show wpList _ _ _ (Oper.mk _ (Op.load 30 _) _ _ _ _ :: _) _ _); (refine w_loadS M 2 _ _ rfl rfl rfl rfl yA k rfl hp.out ?_)) | (go_at_call 120; (refine (behind_c p _ _).mono ?_; rintro e w1 ⟨rfl, rfl⟩; first | rw [← ER3.out] | rw [← ER2.out])) | ((with_reducible refine tM rfl ?_); refine mW ?_; try (clear M; (first | intro g w1 M | intro w1 M); try simp only [setC] at M)) | ((with_reducible refine tGuard ?_); refine gdC ?_ ?_ <;> (intro hgd; rw [hgd]; try (exfalso; simp at hgd; omega)))) <;> (try conv => arg 5; simp only [apS, setC]))
    go_roundw
    case rel => exact ⟨k + 1, by omega, by go_num, by rw [← setTake32 KK 64 k lK hlt _ E1.out, ← setTake32 HH.words 8 k lH h8 _ (E2.out h8)]; exact M⟩
    case measure => simp [intOf]; omega
   ·go_wp2_with ((first | ((with_reducible show wpList _ _ _ (Oper.mk _ (Op.load 30 _) _ _ _ _ :: _) _ _); (refine w_loadS M 2 _ _ rfl rfl rfl rfl yA k rfl hp.out ?_)) | (go_at_call 120; (refine (behind_c p _ _).mono ?_; rintro e w1 ⟨rfl, rfl⟩; first | rw [← ER3.out] | rw [← ER2.out])) | ((with_reducible refine tM rfl ?_); refine mW ?_; try (clear M; (first | intro g w1 M | intro w1 M); try simp only [setC] at M)) | ((with_reducible refine tGuard ?_); refine gdC ?_ ?_ <;> (intro hgd; rw [hgd]; try (exfalso; simp at hgd; omega)))) <;> (try conv => arg 5; simp only [apS, setC]))
    go_roundw
    case rel => exact ⟨k + 1, by omega, by go_num, by
     rw [← setTake32 KK 64 k lK hlt _ E1.out, List.take_of_length_le (by omega : HH.words.length ≤ k + 1), show 8 - (k + 1) = 0 by omega]
     rw [List.take_of_length_le yE, show 8 - k = 0 by omega] at M
     exact M⟩
    case measure => simp [intOf]; omega
  ·obtain rfl : k = 64 := by omega
   rw [show ((64 : Nat) : Int) = 64 from rfl]
   rw [List.take_of_length_le yE, List.take_of_length_le yE, show 8 - 64 = 0 from rfl, List.replicate_zero, List.append_nil, List.append_nil] at M
   go_wp2_with ((first | ((with_reducible refine tConv (some 35) 9 70 ?_); (refine w_bytes M _ _ _ _ rfl rfl rfl Tryz.underlying9 Tryz.underlying70 Tryz.underlying5 (by first | omega | (simp; omega)) ?_; clear M; intro gb capgb w1 hcapgb M)) | ((with_reducible show wpList _ _ _ (Oper.mk _ (Op.buildSlice _ 1 _) _ _ _ _ :: _) _ _); (refine w_buildSlice1 M bytesT yN _ rfl rfl yF _ rfl rfl ?_; clear M; intro g w1 M)) | ((with_reducible refine tApp ?_); (refine w_append_new M 0 bytesT _ _ rfl rfl rfl rfl rfl rfl yM yN (by first | (simp only [maxLen]; omega) | (simp [maxLen]; omega)) (by first | omega | (simp; omega)) ?_; clear M; intro q cap w1 M; (try simp only [setC] at M)))) <;> (try conv => arg 5; simp only [apS, setC]))
   rw [snoc128] at M
   go_loopw [7] (fun v wr => ∃ (k : Nat) (q : Option Addr) (c : Nat), k ≤ zpad l.length ∧ v = .slice q (l.length + 1 + k) c ∧ Mem [] w wr [.sl 1 (.slice q (l.length + 1 + k) c) (l.length + 1 + k) (bs (l ++ [128] ++ List.replicate k 0)), .row gh (ws HH.words), .row gk (ws KK), .sl 1 (.slice (some ⟨gp, op, none⟩) 64 capP) 64 (us PP), .row go (bs (List.replicate 32 0))]) (fun v _ => l.length + 1 + zpad l.length - lenV v)
   case atStart => exact ⟨0, _, _, by omega, rfl, by simpa using M⟩
   case round =>
    clear M
    obtain ⟨k, q, c, hk, rfl, M⟩ := hrel
    by_cases hlt : k < zpad l.length
    ·have hd : ((l.length : Int) + 1 + k) % 64 ≠ 56 := by unfold zpad at hlt; omega
     have hz : zpad l.length ≤ 63 := by unfold zpad; omega
     go_wp2_with ((first | ((with_reducible show wpList _ _ _ (Oper.mk _ (Op.buildSlice _ 1 _) _ _ _ _ :: _) _ _); (refine w_buildSlice1 M bytesT yN _ rfl rfl yF _ rfl rfl ?_; clear M; intro g w1 M)) | ((with_reducible refine tApp ?_); (refine w_append_new M 0 bytesT _ _ rfl rfl rfl rfl rfl rfl yM yN (by first | (simp only [maxLen]; omega) | (simp [maxLen]; omega)) (by first | omega | (simp; omega)) ?_; clear M; intro q cap w1 M; (try simp only [setC] at M)))) <;> (try conv => arg 5; simp only [apS, setC]))
     rw [snoc0] at M
     go_roundw
     case rel => exact ⟨k + 1, _, _, by omega, rfl, by rw [List.replicate_succ', ← List.append_assoc]; exact M⟩
     case measure => simp only [lenV]; omega
    ·have ek : k = zpad l.length := by omega
     have hd : ((l.length : Int) + 1 + k) % 64 = 56 := by unfold zpad at ek; omega
     have hz : zpad l.length ≤ 63 := by unfold zpad; omega
     go_wp2_with fail
     subst ek
     have hbf : (((l.length : Int) + 1 + (zpad l.length : Nat)) % 64 != 56) = false := by rw [hd]; rfl
     simp only [hbf]
     clear hd
     obtain ⟨base, eb⟩ : ∃ base, base = l ++ [128] ++ List.replicate (zpad l.length) 0 := ⟨_, rfl⟩
     have lb : base.length = l.length + 1 + zpad l.length := by rw [eb]; simp; omega
     rw [← eb, ← lb] at M
     rw [← lb]
     have LB := Lib.hid lb; clear lb
     have EBs := Lib.hid eb; clear eb
     obtain ⟨N, eN⟩ : ∃ N, N = w64 (l.length : Int) * 8 := ⟨_, rfl⟩
     rw [← eN]
     have EN := Lib.hid eN; clear eN
     go_loopw [7, 9] (fun v iv wr => ∃ (j : Nat) (done : List UInt8) (q : Option Addr) (c : Nat), j ≤ 8 ∧ iv = .int .i64 ((j : Int) - 1) ∧ done ++ bigB N j = bigB N 8 ∧ done.length ≤ 8 ∧ v = .slice q (base ++ done).length c ∧ Mem [] w wr [.sl 1 (.slice q (base ++ done).length c) (base ++ done).length (bs (base ++ done)), .row gh (ws HH.words), .row gk (ws KK), .sl 1 (.slice (some ⟨gp, op, none⟩) 64 capP) 64 (us PP), .row go (bs (List.replicate 32 0))]) (fun _ iv _ => (intOf iv + 1).toNat)
     case atStart => exact ⟨8, [], q, c, by omega, rfl, rfl, by simp, by simp, by simpa using M⟩
     case round =>
      clear M
      obtain ⟨j, done, q, c, hj, rfl, hd8, hdl, rfl, M⟩ := hrel
      have HD := Lib.hid hd8; clear hd8
      cases j with
      | zero =>
       have ed : done = bigB N 8 := by have := HD.out; simpa [bigB] using this
       subst ed
       rw [show ((0 : Nat) : Int) - 1 = -1 from rfl]
       obtain ⟨T, eT⟩ : ∃ T, T = base ++ bigB N 8 := ⟨_, rfl⟩
       rw [← eT] at M
       rw [← eT]
       have hT : T = padT l := by
        rw [eT, EBs.out, EN.out, w64_nat]; rfl
       have hT64 : T.length % 64 = 0 := by rw [hT]; exact padT_length l
       have hTl : T.length ≤ 100000001000 := by rw [eT, List.length_append, bigB_length, LB.out]; omega
       have HT := Lib.hid hT; clear hT eT
       obtain ⟨n64, en64⟩ : ∃ n, T.length = 64 * n := ⟨T.length / 64, by omega⟩
       rw [en64] at hTl
       have EN64 := Lib.hid en64; clear en64 hT64
       go_wp2_with fail
       go_loopw [10] (fun iv wr => ∃ (j : Nat), j ≤ n64 ∧ iv = .int .i64 (64 * j) ∧ Mem [] w wr [.sl 1 (.slice q T.length c) T.length (bs T), .row gh (ws (absorb j HH T).words), .row gk (ws KK), .sl 1 (.slice (some ⟨gp, op, none⟩) 64 capP) 64 (us PP), .row go (bs (List.replicate 32 0))]) (fun iv _ => (64 * n64 - intOf iv).toNat)
       case atStart => exact ⟨0, by omega, rfl, M⟩
       case round =>
        clear M
        obtain ⟨j, hj, rfl, M⟩ := hrel
        obtain ⟨hj', ehj⟩ : ∃ x, x = absorb j HH T := ⟨_, rfl⟩
        rw [← ehj] at M
        have EJ := Lib.hid ehj; clear ehj
        have lj := words_len hj'
        by_cases hlt : j < n64
        ·obtain ⟨gT, oT, rfl⟩ := M.slAddr 0 rfl (by rw [EN64.out]; omega)
         have hcc := (M.slCap 0 rfl).2.1
         have hcm := (M.slCap 0 rfl).2.2.1
         have tlen : (T.length : Int) = 64 * n64 := by have := EN64.out; omega
         have hc1 : (64 * (j : Int) + 64) ≤ c := by have := EN64.out; omega
         have hc2 : ¬ ((c : Int) = 64 * j) := by omega
         have ht64 : ((T.drop (64 * j)).take 64).length = 64 := by have := EN64.out; simp; omega
         have SV := M.part 0 rfl (64 * j) 64 (by have := EN64.out; omega) rfl (c - 64 * j) yE yE
         obtain ⟨blk, eblk⟩ : ∃ b, b = (T.drop (64 * j)).take 64 := ⟨_, rfl⟩
         rw [← eblk] at SV ht64
         have EBK := Lib.hid eblk; clear eblk
         have HSV := Lib.hid SV; clear SV
         go_wp2_with ((first | ((with_reducible show Code.wp _ (Code.region 21 _ _) _ _ _); (have MR := M; refine region_lowc [(2, false), (3, false), (4, false), (5, false), (6, false), (0, false), (1, false), (7, true), (8, true)] [(72, .int)] [(0, _), (1, _)] (IxOk MR [1, 2]) 8 yC yC rfl yC (lowA MR 1 0 (lowA MR 2 0 lows_nil)) (ixOk_self MR _) ?_; replace M := M.drew; simp only [planC, opAt, List.getElem?_toArray, List.getElem?_cons_zero, List.getElem?_cons_succ, Option.getD_some])) | (go_at_call 121; (refine (refturn_l hj' KK blk lK ht64 _ _ (Sees.drew HSV.out)).mono ?_; rintro e w1 ⟨hn, EHN, rfl, hb⟩; have lhn := words_len hn; replace M := M.call hb; clear hb)) | ((with_reducible refine tM rfl ?_); refine mW ?_; try (clear M; (first | intro g w1 M | intro w1 M); try simp only [setC] at M)) | ((with_reducible first | show Seg _ _ _ _ | show OnlyN _ _ _ _ _); refine rA ?_) | ((with_reducible refine tGuard ?_); refine gdC ?_ ?_ <;> (intro hgd; rw [hgd]; try (exfalso; simp at hgd; omega)))) <;> (try conv => arg 5; simp only [apS, setC]))
         go_roundw
         case rel => exact ⟨j + 1, by omega, by rw [show (64 : Int) * ((j + 1 : Nat) : Int) = 64 * j + 64 by omega], by
          have e : absorb (j + 1) HH T = hn := by rw [absorb_step, EHN.out, ← EJ.out, EK.out, EBK.out]
          rw [e]; exact M⟩
         case measure => simp [intOf]; omega
        ·have ej : j = n64 := by omega
         subst ej
         have tlen : (T.length : Int) = 64 * j := by have := EN64.out; omega
         obtain ⟨OB, eOB⟩ : ∃ OB, OB = outB hj' := ⟨_, rfl⟩
         have lOB : OB.length = 32 := by rw [eOB]; exact outB_length _
         have EOB := Lib.hid eOB; clear eOB
         go_wp2_with ((first | ((with_reducible refine tAlloc (some 11) 49 ?_); refine w_alloc M _ rfl rfl (.agg (Array.replicate 32 (.int .u8 0))) (bs (List.replicate 32 (0 : UInt8))) yC rfl ?_; clear M; intro gout w1 M)) <;> (try conv => arg 5; simp only [apS, setC]))
         go_loopw [12] (fun iv wr => ∃ i : Nat, i ≤ 32 ∧ iv = .int .i64 i ∧ Mem [] w wr [.row gout (bs (OB.take i ++ List.replicate (32 - i) 0)), .sl 1 (.slice q T.length c) T.length (bs T), .row gh (ws hj'.words), .row gk (ws KK), .sl 1 (.slice (some ⟨gp, op, none⟩) 64 capP) 64 (us PP), .row go (bs (List.replicate 32 0))]) (fun iv _ => 32 - (intOf iv).toNat)
         case atStart => exact ⟨0, by omega, rfl, M⟩
         case round =>
          clear M
          obtain ⟨i, hi, rfl, M⟩ := hrel
          by_cases hlt : i < 32
          ·have ho := outB_get hj' i hlt
           rw [← EOB.out] at ho
           have HO := Lib.hid ho; clear ho
           have hI : I64 (w64 (24 - 8 * ((i : Int) % 4))) = 24 - 8 * ((i : Int) % 4) := by have := I64_nat2 (24 - 8 * (i % 4)) yE; rw [show ((24 - 8 * (i % 4) : Nat) : Int) = 24 - 8 * ((i : Int) % 4) by omega] at this; exact this
           have b1 : 24 - 8 * ((i : Int) % 4) ≤ 31 := by omega
           have b0 : 0 ≤ 24 - 8 * ((i : Int) % 4) := by omega
           go_wp2_with ((first | ((with_reducible refine tM rfl ?_); refine mW ?_; try (clear M; (first | intro g w1 M | intro w1 M); try simp only [setC] at M)) | ((with_reducible refine tGuard ?_); refine gdC ?_ ?_ <;> (intro hgd; rw [hgd]; try (exfalso; simp at hgd; omega)))) <;> (try conv => arg 5; simp only [apS, setC]))
           rw [I32_shr _ _ yE, w8_I32, ← List.getD_eq_getElem?_getD, ← HO.out, setTake OB 32 i lOB hlt] at M
           go_roundw
           case rel => exact ⟨i + 1, by omega, by go_num, M⟩
           case measure => simp [intOf]; omega
          ·obtain rfl : i = 32 := by omega
           rw [List.take_of_length_le yE, Nat.sub_self, List.replicate_zero, List.append_nil] at M
           go_wp2_with ((first | ((with_reducible refine tM rfl ?_); refine mW ?_; try (clear M; (first | intro g w1 M | intro w1 M); try simp only [setC] at M)) | ((with_reducible refine tGuard ?_); refine gdC ?_ ?_ <;> (intro hgd; rw [hgd]; try (exfalso; simp at hgd; omega)))) <;> (try conv => arg 5; simp only [apS, setC]))
           have hres : OB = shaL l := by rw [EOB.out, EJ.out, shaL_whole, ← HT.out, EN64.out, EH.out, Nat.mul_div_cancel_left _ (by decide : 0 < 64)]
           refine bodyPost_ret (results_row rfl _ _ go 0 (bs OB) _ rfl (M.ok 5 _ rfl).2.1 Tryz.underlying49 rfl (by rw [bs_length, lOB]; kernel_rfl)) rfl ⟨by rw [hres], M.below⟩
      | succ i =>
       have e : ((i + 1 : Nat) : Int) - 1 = i := by omega
       rw [e]; clear e
       have b1 : 8 * (i : Int) ≤ 63 := by omega
       have b0 : 0 ≤ 8 * (i : Int) := by omega
       have hI : I64 (w64 (8 * (i : Int))) = 8 * (i : Int) := by have := I64_nat2 (8 * i) yE; simpa using this
       have ll : (base ++ done).length ≤ 100000000200 := by rw [List.length_append, LB.out]; omega
       obtain ⟨B, eB⟩ : ∃ B, B = base ++ done := ⟨_, rfl⟩
       rw [← eB] at M ll
       rw [← eB]
       have EB := Lib.hid eB; clear eB
       go_wp2_with ((first | ((with_reducible show wpList _ _ _ (Oper.mk _ (Op.buildSlice _ 1 _) _ _ _ _ :: _) _ _); (refine w_buildSlice1 M bytesT yN _ rfl rfl yF _ rfl rfl ?_; clear M; intro g w1 M)) | ((with_reducible refine tApp ?_); (refine w_append_new M 0 bytesT _ _ rfl rfl rfl rfl rfl rfl yM yN (by first | (simp only [maxLen]; omega) | (simp [maxLen]; omega)) (by first | omega | (simp; omega)) ?_; clear M; intro q cap w1 M; (try simp only [setC] at M)))) <;> (try conv => arg 5; simp only [apS, setC]))
       rw [snocB] at M
       have HB : Hid ((base ++ (done ++ [(N >>> (8 * UInt64.ofNat i)).toUInt8])) = B ++ [(N >>> (8 * UInt64.ofNat i)).toUInt8]) := Lib.hid (by rw [EB.out, List.append_assoc])
       have hd9 : done.length + (i + 1) = 8 := by have := bigB_length N 8; rw [← HD.out, List.length_append, bigB_length] at this; exact this
       go_roundw
       case rel => exact ⟨i, done ++ [(N >>> (8 * UInt64.ofNat i)).toUInt8], _, _, by omega, by go_num, by rw [← HD.out]; simp [bigB], by simp; omega, by rw [HB.out, List.length_append]; rfl, by rw [HB.out, List.length_append]; exact M⟩
       case measure => simp [intOf]
end Go.Proofs.YtidadhbaomieiaaGreat

namespace Go
namespace TL
theorem macPad_getD (k' : List UInt8) (x : UInt8) (hk : k'.length ≤ 64) (k : Nat) (h : k < 64) : (macPad k' x).getD k 0 = (if k < k'.length then k'.getD k 0 else 0) ^^^ x := by
 have e : keyL k' = k' := by unfold keyL; rw [if_neg yE]
 have hl : k < (macPad k' x).length := by rw [macPad_length]; exact h
 rw [List.getD_eq_getElem?_getD, List.getElem?_eq_getElem hl, Option.getD_some]
 simp only [macPad, keyB, e, List.getElem_map, List.getElem_append]
 split
 ·rename_i h2; rw [List.getD_eq_getElem?_getD, List.getElem?_eq_getElem h2]; rfl
 ·simp
end TL
end Go

namespace Go
namespace TL
open Go.RowKit
theorem macPad_keyL (key : List UInt8) (x : UInt8) : macPad (keyL key) x = macPad key x := by
 have e : keyL (keyL key) = keyL key := by
  have := keyL_length key
  rw [keyL, if_neg yE]
 simp only [macPad, keyB, e]
theorem take_getD (l : List UInt8) (k : Nat) (h : k < l.length) (x : UInt8) (hx : x = l.getD k 0) : l.take k ++ [x] = l.take (k + 1) := by
 subst hx
 rw [List.take_succ_eq_append_getElem h, List.getD_eq_getElem?_getD, List.getElem?_eq_getElem h]; rfl
end TL
end Go
namespace Go.Proofs.YtidadhbaomieiaaGreat
open Go.RowKit Go.TL
theorem refTag_c (key text : List UInt8) (w : World) (hk : key.length ≤ 10000000000) (ht : text.length ≤ 10000000000) :
  Calls Tryz.prog 48 #[.string (mkS key), .string (mkS text)] w fun e w' => e = .returned (.agg (bs (macL key text)).toArray) ∧ Below w.heap.size w w' := by
 have M := Mem.start [] w
 by_cases h64 : 64 < key.length
 all_goals
  go_enter Tryz.func48, Tryz.ntmps48
  go_wp2_with ((first | ((with_reducible refine tM rfl ?_); refine mB ?_; try (clear M; (first | intro g w1 M | intro w1 M); try simp only [setC] at M)) | ((with_reducible refine tGuard ?_); refine gdC ?_ ?_ <;> (intro hgd; rw [hgd]; try (exfalso; simp at hgd; omega))) | ((with_reducible refine tAlloc (some 4) 49 ?_); refine w_alloc M _ rfl rfl (.agg (Array.replicate 32 (.int .u8 0))) (bs (List.replicate 32 (0 : UInt8))) yC rfl ?_; clear M; intro gr w1 M) | ((with_reducible refine tAlloc _ 49 ?_); refine w_alloc M _ rfl rfl (.agg (Array.replicate 32 (.int .u8 0))) (bs (List.replicate 32 (0 : UInt8))) yC rfl ?_; clear M; intro g w1 M) | (go_at_call 89; (refine (refSum_c _ _ yE).mono ?_; rintro e w1 ⟨rfl, hb⟩; replace M := M.call hb; clear hb))) <;> (try conv => arg 5; simp only [apS, setC]))
 obtain ⟨k', ek⟩ : ∃ k', k' = keyL key := ⟨_, rfl⟩
 have ek2 : shaL key = k' := by rw [ek, keyL, if_pos h64]
 rw [ek2]
 replace M := M.tail
 clear ek2
 rotate_left
 obtain ⟨k', ek⟩ : ∃ k', k' = keyL key := ⟨_, rfl⟩
 have ek2 : key = k' := by rw [ek, keyL, if_neg h64]
 rw [ek2]
 clear ek2
 rotate_left
 all_goals
  have hk' : k'.length ≤ 64 := by rw [ek]; exact keyL_length key
  obtain ⟨P1, e1⟩ : ∃ P, P = macPad k' 54 := ⟨_, rfl⟩
  obtain ⟨P2, e2⟩ : ∃ P, P = macPad k' 92 := ⟨_, rfl⟩
  have l1 : P1.length = 64 := by rw [e1]; exact macPad_length _ _
  have l2 : P2.length = 64 := by rw [e2]; exact macPad_length _ _
  have E1 := Lib.hid e1; clear e1
  have E2 := Lib.hid e2; clear e2
  have EKK := Lib.hid ek; clear ek
  have eE : Value.string ⟨#[]⟩ = .string (mkS []) := rfl
  rw [eE]
  go_loopw [6, 7, 8] (fun a b iv wr => ∃ k : Nat, k ≤ 64 ∧ iv = .int .i64 k ∧ a = .string (mkS (P1.take k)) ∧ b = .string (mkS (P2.take k)) ∧ Mem [] w wr [.row gr (bs (List.replicate 32 0))]) (fun _ _ iv _ => 64 - (intOf iv).toNat)
  case atStart => exact ⟨0, by omega, rfl, rfl, rfl, M⟩
  case round =>
   clear M
   obtain ⟨k, hk64, rfl, rfl, rfl, M⟩ := hrel
   by_cases hlt : k < 64
   ·have hp1 := Lib.hid (macPad_getD k' 54 hk' k hlt)
    have hp2 := Lib.hid (macPad_getD k' 92 hk' k hlt)
    rw [← E1.out] at hp1
    rw [← E2.out] at hp2
    have hle1 : (P1.take k).length ≤ 64 := by rw [List.length_take]; omega
    have hle2 : (P2.take k).length ≤ 64 := by rw [List.length_take]; omega
    by_cases hkl : k < k'.length
    all_goals
     go_wp2_with ((first | ((with_reducible refine tU 70 ?_); refine mU ?_; clear M; intro g w1 M) | ((with_reducible refine tM rfl ?_); refine mB ?_; try (clear M; (first | intro g w1 M | intro w1 M); try simp only [setC] at M)) | ((with_reducible refine tGuard ?_); refine gdC ?_ ?_ <;> (intro hgd; rw [hgd]; try (exfalso; simp at hgd; omega)))) <;> (try conv => arg 5; simp only [apS, setC]))
     replace M := M.tail.tail
     go_roundw
     case rel => exact ⟨k + 1, by omega, by go_num, by
      rw [← take_getD P1 k yE _ hp1.out.symm]; first | rw [if_pos hkl] | rw [if_neg hkl]
      (first | rfl | (simp [hkl]; done)), by
      rw [← take_getD P2 k yE _ hp2.out.symm]; first | rw [if_pos hkl] | rw [if_neg hkl]
      (first | rfl | (simp [hkl]; done)), M⟩
     case measure => simp [intOf]; omega
   ·obtain rfl : k = 64 := by omega
    rw [List.take_of_length_le yE, List.take_of_length_le yE]
    go_wp2_with ((first | ((with_reducible refine tM rfl ?_); refine mB ?_; try (clear M; (first | intro g w1 M | intro w1 M); try simp only [setC] at M)) | ((with_reducible refine tGuard ?_); refine gdC ?_ ?_ <;> (intro hgd; rw [hgd]; try (exfalso; simp at hgd; omega))) | ((with_reducible refine tAlloc (some 10) 49 ?_); refine w_alloc M _ rfl rfl (.agg (Array.replicate 32 (.int .u8 0))) (bs (List.replicate 32 (0 : UInt8))) yC rfl ?_; clear M; intro gh w1 M) | (go_at_call 89; (refine (refSum_c _ _ (by first | (simp;omega) | (simp [shaL_len] <;> omega))).mono ?_; rintro e w1 ⟨rfl, hb⟩; replace M := M.call hb; clear hb))) <;> (try conv => arg 5; simp only [apS, setC]))
    have hr : shaL (P2 ++ shaL (P1 ++ text)) = macL key text := by rw [E1.out, E2.out, EKK.out, macPad_keyL, macPad_keyL]; rfl
    refine bodyPost_ret (results_row rfl _ _ gr 0 (bs (shaL (P2 ++ shaL (P1 ++ text)))) _ rfl (M.ok 1 _ rfl).2.1 Tryz.underlying49 rfl yC) rfl ⟨by rw [hr], M.below⟩
end Go.Proofs.YtidadhbaomieiaaGreat

namespace Go
namespace TL
def iterN {α : Type} (f : Nat → α → α) : Nat → α → α
 | 0, s => s
 | n + 1, s => f n (iterN f n s)
theorem iterN_succ {α : Type} (f : Nat → α → α) (n : Nat) (s : α) : iterN f (n + 1) s = f n (iterN f n s) := rfl
theorem iterN_inv {α : Type} (f : Nat → α → α) (p : α → Prop) (hf : ∀ n s, p s → p (f n s)) : ∀ (n : Nat) (s : α), p s → p (iterN f n s)
 | 0, _, h => h
 | n + 1, s, h => hf n _ (iterN_inv f p hf n s h)
theorem iterN_len (f : Nat → List UInt8 → List UInt8) (hf : ∀ n s, (f n s).length = s.length) (n : Nat) (s : List UInt8) : (iterN f n s).length = s.length := by
 induction n with
 | zero => rfl
 | succ n ih => rw [iterN_succ, hf, ih]
abbrev nth (l : List UInt8) (i : Nat) : UInt8 := l.getD i 0
/-! ### S -/
def tw (b : UInt8) : UInt8 := b <<< 1 ^^^ b >>> 7 * 27
def rl (b n : UInt8) : UInt8 := b <<< n ||| b >>> (8 - n)
structure BoxS where
 s : List UInt8
 p : UInt8
 q : UInt8
def boxQ (q : UInt8) : UInt8 :=
 let q1 := q ^^^ q <<< 1
 let q2 := q1 ^^^ q1 <<< 2
 let q3 := q2 ^^^ q2 <<< 4
 q3 ^^^ q3 >>> 7 * 9
def boxStep (_ : Nat) (x : BoxS) : BoxS := ⟨x.s.set x.p.toNat (x.q ^^^ rl x.q 1 ^^^ rl x.q 2 ^^^ rl x.q 3 ^^^ rl x.q 4 ^^^ 99), x.p ^^^ tw x.p, boxQ x.q⟩
def boxS (n : Nat) : BoxS := iterN boxStep n ⟨List.replicate 256 0, 1, 1⟩
theorem boxS_len (n : Nat) : (boxS n).s.length = 256 :=
 iterN_inv boxStep (fun x => x.s.length = 256) (fun n s h => by unfold boxStep; simpa using h) n _ (List.length_replicate ..)
def boxL : List UInt8 := (boxS 255).s.set 0 99
theorem boxL_len : boxL.length = 256 := by unfold boxL; rw [List.length_set]; exact boxS_len _
/-! ### A key's words -/
def rotT (t : List UInt8) : List UInt8 := [nth t 1, nth t 2, nth t 3, nth t 0]
def subT (s : List UInt8) (k : Nat) (t : List UInt8) : List UInt8 := t.set k (nth s (nth t k).toNat)
def word1 (W : List UInt8) (i : Nat) : List UInt8 := (W.drop (4 * (i - 1))).take 4
def word2 (W : List UInt8) (i : Nat) : List UInt8 := if i % 8 = 0 then rotT (word1 W i) else word1 W i
def word3 (s W : List UInt8) (i : Nat) : List UInt8 := if i % 4 = 0 then iterN (subT s) 4 (word2 W i) else word2 W i
def word4 (s W : List UInt8) (pw : UInt8) (i : Nat) : List UInt8 := if i % 8 = 0 then (word3 s W i).set 0 (nth (word3 s W i) 0 ^^^ pw) else word3 s W i
def powI (pw : UInt8) (i : Nat) : UInt8 := if i % 8 = 0 then tw pw else pw
def addT (t : List UInt8) (i k : Nat) (W : List UInt8) : List UInt8 := W.set (4 * i + k) (nth W (4 * (i - 8) + k) ^^^ nth t k)
def schW (s : List UInt8) (n : Nat) (x : List UInt8 × UInt8) : List UInt8 × UInt8 := (iterN (addT (word4 s x.1 x.2 (n + 8)) (n + 8)) 4 x.1, powI x.2 (n + 8))
def schS (s key : List UInt8) (n : Nat) : List UInt8 × UInt8 := iterN (schW s) n (key ++ List.replicate 208 0, 1)
def schL (s key : List UInt8) : List UInt8 := (schS s key 52).1
theorem addT_len (t : List UInt8) (i n : Nat) (W : List UInt8) : (addT t i n W).length = W.length := by unfold addT; rw [List.length_set]
theorem schS_len (s key : List UInt8) (hk : key.length = 32) (n : Nat) : (schS s key n).1.length = 240 :=
 iterN_inv (schW s) (fun x => x.1.length = 240) (fun n x h => by unfold schW; simp only; rw [iterN_len _ (addT_len _ _)]; exact h) n _ (by show (key ++ _).length = 240; rw [List.length_append, hk, List.length_replicate])
theorem schL_len (s key : List UInt8) (hk : key.length = 32) : (schL s key).length = 240 := schS_len s key hk _
theorem word1_len {W : List UInt8} {i : Nat} (hW : W.length = 240) (h1 : 1 ≤ i) (h2 : i ≤ 60) : (word1 W i).length = 4 := by unfold word1; simp; omega
theorem subT_len (s : List UInt8) (k : Nat) (t : List UInt8) : (subT s k t).length = t.length := by unfold subT; rw [List.length_set]
/-! ### A block -/
def addB (W : List UInt8) (round i : Nat) (b : List UInt8) : List UInt8 := b.set i (nth b i ^^^ nth W (16 * round + i))
def addL (W b : List UInt8) (round : Nat) : List UInt8 := iterN (addB W round) 16 b
def mixN (b : List UInt8) (i k : Nat) : UInt8 := nth b (i / 4 * 4 + (i + k) % 4)
def mixB (b : List UInt8) (i : Nat) (out : List UInt8) : List UInt8 := out.set i (tw (mixN b i 0) ^^^ tw (mixN b i 1) ^^^ mixN b i 1 ^^^ mixN b i 2 ^^^ mixN b i 3)
def mixL (b : List UInt8) : List UInt8 := iterN (mixB b) 16 (List.replicate 16 0)
def subB (s b : List UInt8) (i : Nat) (t : List UInt8) : List UInt8 := t.set i (nth s (nth b ((i + 4 * (i % 4)) % 16)).toNat)
def subL (s b : List UInt8) : List UInt8 := iterN (subB s b) 16 (List.replicate 16 0)
def roundL (s W : List UInt8) (n : Nat) (b : List UInt8) : List UInt8 := addL W (if n + 1 < 14 then mixL (subL s b) else subL s b) (n + 1)
def blockL (s W b : List UInt8) : List UInt8 := iterN (roundL s W) 14 (addL W b 0)
theorem addB_len (W : List UInt8) (r i : Nat) (b : List UInt8) : (addB W r i b).length = b.length := by unfold addB; rw [List.length_set]
theorem addL_len (W b : List UInt8) (r : Nat) : (addL W b r).length = b.length := iterN_len _ (addB_len W r) _ _
theorem mixL_len (b : List UInt8) : (mixL b).length = 16 := by unfold mixL; rw [iterN_len _ (fun n s => by unfold mixB; rw [List.length_set]), List.length_replicate]
theorem subL_len (s b : List UInt8) : (subL s b).length = 16 := by unfold subL; rw [iterN_len _ (fun n s => by unfold subB; rw [List.length_set]), List.length_replicate]
theorem roundL_len (s W : List UInt8) (n : Nat) (b : List UInt8) : (roundL s W n b).length = 16 := by unfold roundL; rw [addL_len]; split; exact mixL_len _; exact subL_len _ _
theorem blockL_len (s W b : List UInt8) (hb : b.length = 16) : (blockL s W b).length = 16 :=
 iterN_inv _ (fun l => l.length = 16) (fun n x _ => roundL_len s W n x) 14 _ (by rw [addL_len]; exact hb)
/-! ### A stream -/
def xorB (out : List UInt8) (at' i : Nat) (b : List UInt8) : List UInt8 := b.set (at' + i) (nth b (at' + i) ^^^ nth out i)
def strB (s W nonce : List UInt8) (k : Nat) (b : List UInt8) : List UInt8 := iterN (xorB (blockL s W (nonce ++ bigB (UInt64.ofNat k) 4)) (16 * k)) (min 16 (b.length - 16 * k)) b
def strN (s W nonce : List UInt8) (n : Nat) (b : List UInt8) : List UInt8 := iterN (strB s W nonce) n b
def streamL (key nonce text : List UInt8) : List UInt8 := strN boxL (schL boxL key) nonce ((text.length + 15) / 16) text
theorem xorB_len (out : List UInt8) (a i : Nat) (b : List UInt8) : (xorB out a i b).length = b.length := by unfold xorB; rw [List.length_set]
theorem strB_len (s W nonce : List UInt8) (k : Nat) (b : List UInt8) : (strB s W nonce k b).length = b.length := iterN_len _ (xorB_len _ _) _ _
theorem strN_len (s W nonce : List UInt8) (n : Nat) (b : List UInt8) : (strN s W nonce n b).length = b.length := iterN_len _ (strB_len s W nonce) _ _
theorem streamL_len (key nonce text : List UInt8) : (streamL key nonce text).length = text.length := strN_len _ _ _ _ _
/-! ### Twice a stream -/
theorem nth_set (l : List UInt8) (i j : Nat) (v : UInt8) (h : i < l.length) : nth (l.set i v) j = if i = j then v else nth l j := by
 unfold nth
 simp only [List.getD_eq_getElem?_getD, List.getElem?_set]
 by_cases e : i = j
 ·subst e; simp [h]
 ·simp [e]
theorem ext_nth {l m : List UInt8} (h : l.length = m.length) (hh : ∀ i, i < l.length → nth l i = nth m i) : l = m := by
 apply List.ext_getElem h
 intro i h1 h2
 have := hh i h1
 unfold nth at this
 simpa [List.getD_eq_getElem?_getD, List.getElem?_eq_getElem h1, List.getElem?_eq_getElem h2] using this
theorem iterN_nth (f : Nat → List UInt8 → List UInt8) (o : Nat) (v : Nat → List UInt8 → UInt8) (hf : ∀ i l, f i l = l.set (o + i) (v i l)) (hv : ∀ i l m, l.length = m.length → nth l (o + i) = nth m (o + i) → v i l = v i m) (l : List UInt8) :
  ∀ (n : Nat), o + n ≤ l.length → ∀ j, nth (iterN f n l) j = if o ≤ j ∧ j < o + n then v (j - o) l else nth l j
 | 0, _, j => by rw [if_neg yE]; rfl
 | n + 1, h, j => by
  have ih := iterN_nth f o v hf hv l n yE
  have hl : (iterN f n l).length = l.length := iterN_len f (fun i m => by rw [hf, List.length_set]) n l
  rw [iterN_succ, hf, nth_set _ _ _ _ (by rw [hl]; omega)]
  by_cases e : o + n = j
  ·subst e
   rw [if_pos rfl, if_pos yE]
   rw [hv n _ l hl (by rw [ih]; rw [if_neg yE])]
   congr 1; omega
  ·rw [if_neg e, ih]
   by_cases h2 : o ≤ j ∧ j < o + n
   ·rw [if_pos h2, if_pos yE]
   ·rw [if_neg h2, if_neg yE]
theorem strB_nth (s W nonce : List UInt8) (k : Nat) (b : List UInt8) (j : Nat) (hk : 16 * k ≤ b.length) : nth (strB s W nonce k b) j = if 16 * k ≤ j ∧ j < 16 * k + 16 ∧ j < b.length then nth b j ^^^ nth (blockL s W (nonce ++ bigB (UInt64.ofNat k) 4)) (j - 16 * k) else nth b j := by
 unfold strB
 rw [iterN_nth (xorB (blockL s W (nonce ++ bigB (UInt64.ofNat k) 4)) (16 * k)) (16 * k) (fun i l => nth l (16 * k + i) ^^^ nth (blockL s W (nonce ++ bigB (UInt64.ofNat k) 4)) i) (fun i l => rfl) (fun i l m _ h => by rw [h]) b _ yE]
 by_cases h : 16 * k ≤ j ∧ j < 16 * k + min 16 (b.length - 16 * k)
 ·rw [if_pos h, if_pos yE, show 16 * k + (j - 16 * k) = j by omega]
 ·rw [if_neg h, if_neg yE]
theorem strN_nth (s W nonce : List UInt8) (b : List UInt8) : ∀ (n j : Nat), 16 * n < b.length + 16 → nth (strN s W nonce n b) j = if j < 16 * n ∧ j < b.length then nth b j ^^^ nth (blockL s W (nonce ++ bigB (UInt64.ofNat (j / 16)) 4)) (j % 16) else nth b j
 | 0, j, _ => by rw [if_neg yE]; rfl
 | n + 1, j, h => by
  have ih := strN_nth s W nonce b n j yE
  have hl := strN_len s W nonce n b
  unfold strN at ih hl ⊢
  rw [iterN_succ, strB_nth _ _ _ _ _ _ (by rw [hl]; omega), hl]
  by_cases h1 : 16 * n ≤ j ∧ j < 16 * n + 16 ∧ j < b.length
  ·rw [if_pos h1, if_pos yE, ih, if_neg yE, show j / 16 = n by omega, show j % 16 = j - 16 * n by omega]
  ·rw [if_neg h1, ih]
   by_cases h2 : j < 16 * n ∧ j < b.length
   ·rw [if_pos h2, if_pos yE]
   ·rw [if_neg h2, if_neg yE]
theorem streamL_nth (key nonce text : List UInt8) (j : Nat) (hj : j < text.length) : nth (streamL key nonce text) j = nth text j ^^^ nth (blockL boxL (schL boxL key) (nonce ++ bigB (UInt64.ofNat (j / 16)) 4)) (j % 16) := by
 unfold streamL
 rw [strN_nth _ _ _ _ _ _ yE, if_pos yE]
theorem streamL_twice (key nonce text : List UInt8) : streamL key nonce (streamL key nonce text) = text := by
 refine ext_nth (by rw [streamL_len, streamL_len]) fun i hi => ?_
 rw [streamL_len, streamL_len] at hi
 rw [streamL_nth _ _ _ _ (by rw [streamL_len]; exact hi), streamL_nth _ _ _ _ hi, UInt8.xor_assoc, UInt8.xor_self, UInt8.xor_zero]
end TL
end Go

namespace Go
namespace TL
theorem I8_toNat (x : UInt8) : (I8 x).toNat = x.toNat := by unfold I8; simp
end TL
end Go
namespace Go.Proofs.YtidadhbaomieiaaGreat
open Go.RowKit Go.TL
theorem twice_c (b : UInt8) (w : World) :
  Calls Tryz.prog 177 #[.int .u8 (I8 b)] w fun e w' => e = .returned (.int .u8 (I8 (tw b))) ∧ w = w' := by
 go_enter Tryz.func177, Tryz.ntmps177
 go_wp2
 go_ret
 exact ⟨rfl, rfl⟩
theorem rot8_c (b n : UInt8) (k : Int) (w : World) (hk : (k = 1 ∧ n = 1) ∨ (k = 2 ∧ n = 2) ∨ (k = 3 ∧ n = 3) ∨ (k = 4 ∧ n = 4)) :
  Calls Tryz.prog 191 #[.int .u8 (I8 b), .int .i64 k] w fun e w' => e = .returned (.int .u8 (I8 (rl b n))) ∧ w = w' := by
 have h1 : I64 (1 &&& 7) = 1 := by decide
 have h2 : I64 (2 &&& 7) = 2 := by decide
 have h3 : I64 (3 &&& 7) = 3 := by decide
 have h4 : I64 (4 &&& 7) = 4 := by decide
 have k7 : I64 7 = 7 := by decide
 have k6 : I64 6 = 6 := by decide
 have k5 : I64 5 = 5 := by decide
 have k4 : I64 4 = 4 := by decide
 rcases hk with ⟨rfl, rfl⟩ | ⟨rfl, rfl⟩ | ⟨rfl, rfl⟩ | ⟨rfl, rfl⟩
 all_goals
  go_enter Tryz.func191, Tryz.ntmps191
  go_wp2
  go_ret
  exact ⟨rfl, rfl⟩
theorem box_c (w : World) :
  Calls Tryz.prog 176 #[] w fun e w' => e = .returned (.agg (bs boxL).toArray) ∧ Below w.heap.size w w' := by
 have M := Mem.start [] w
 go_enter Tryz.func176, Tryz.ntmps176
 go_wp2_with ((first | ((with_reducible refine tAlloc (some 0) 256 ?_); refine w_alloc M _ rfl rfl (.agg (Array.replicate 256 (.int .u8 0))) (bs (List.replicate 256 (0 : UInt8))) yC rfl ?_; clear M; intro gs w1 M) | ((with_reducible refine tM rfl ?_); refine mB ?_; try (clear M; (first | intro g w1 M | intro w1 M); try simp only [setC] at M)) | ((with_reducible refine tGuard ?_); refine gdC ?_ ?_ <;> (intro hgd; rw [hgd]; try (exfalso; simp at hgd; omega)))) <;> (try conv => arg 5; simp only [Act.put, List.setIfInBounds_toArray, setC]))
 go_loopw [1, 2, 3] (fun pv qv kv wr => ∃ k : Nat, k ≤ 255 ∧ kv = .int .i64 k ∧ pv = .int .u8 (I8 (boxS k).p) ∧ qv = .int .u8 (I8 (boxS k).q) ∧ Mem [] w wr [.row gs (bs (boxS k).s)]) (fun _ _ kv _ => 255 - (intOf kv).toNat)
 case atStart => exact ⟨0, by omega, rfl, rfl, rfl, M⟩
 case round =>
  clear M
  obtain ⟨k, hk, rfl, rfl, rfl, M⟩ := hrel
  have hl := boxS_len k
  by_cases hlt : k < 255
  ·obtain ⟨x, ex⟩ : ∃ x, x = boxS k := ⟨_, rfl⟩
   rw [← ex] at M hl
   rw [← ex]
   have e : boxS (k + 1) = boxStep k x := by rw [ex]; rfl
   have E := Lib.hid e
   have hp := x.p.toNat_lt
   have hp0 := (I8_bd x.p).1
   have hp1 := (I8_bd x.p).2
   have hp2 := I8_toNat x.p
   have hp3 : x.p.toNat < 256 := hp
   clear e ex hp
   go_wp2_with ((first | (go_at_call 177; (refine (twice_c _ _).mono ?_; rintro e w1 ⟨rfl, rfl⟩)) | (go_at_call 191; ((first | (with_reducible refine (rot8_c _ 1 1 _ yN).mono ?_) | (with_reducible refine (rot8_c _ 2 2 _ yN).mono ?_) | (with_reducible refine (rot8_c _ 3 3 _ yN).mono ?_) | (with_reducible refine (rot8_c _ 4 4 _ yN).mono ?_)); rintro e w1 ⟨rfl, rfl⟩)) | ((with_reducible refine tM rfl ?_); refine mB ?_; try (clear M; (first | intro g w1 M | intro w1 M); try simp only [setC] at M)) | ((with_reducible refine tGuard ?_); refine gdC ?_ ?_ <;> (intro hgd; rw [hgd]; try (exfalso; simp at hgd; omega)))) <;> (try conv => arg 5; simp only [Act.put, List.setIfInBounds_toArray, setC]))
   go_roundw
   case rel => exact ⟨k + 1, by omega, by go_num, by rw [E.out]; rfl, by rw [E.out]; rfl, by rw [E.out]; exact M⟩
   case measure => simp [intOf]; omega
  ·obtain rfl : k = 255 := by omega
   have E := Lib.hid (show boxL = (boxS 255).s.set 0 99 from rfl)
   obtain ⟨x, ex⟩ : ∃ x, x = boxS 255 := ⟨_, rfl⟩
   rw [← ex] at M hl
   rw [← ex]
   rw [← ex] at E
   clear ex
   have hl2 : (x.s.set 0 99).length = 256 := by rw [List.length_set]; exact hl
   go_wp2_with ((first | ((with_reducible refine tM rfl ?_); refine mC ?_; try (clear M; (first | intro g w1 M | intro w1 M); try simp only [setC] at M; try simp only [w8_lit] at M)) | ((with_reducible refine tGuard ?_); refine gdC ?_ ?_ <;> (intro hgd; rw [hgd]; try (exfalso; simp at hgd; omega)))) <;> (try conv => arg 5; simp only [Act.put, List.setIfInBounds_toArray, setC]))
   rw [← E.out] at M
   exact bodyPost_ret (results_row rfl _ _ gs 0 (bs boxL) _ rfl (M.ok 0 _ rfl).2.1 Tryz.underlying256 rfl (by rw [bs_length, boxL_len]; kernel_rfl)) rfl ⟨rfl, M.below⟩
theorem aesPut (base : Nat) (v : Value) (l : List UInt8) (x : UInt64) (n : Nat) (w : World) (hown : OwnB w base v l) (hbase : base ≤ w.heap.size) (hn : n ≤ 8) (hl : l.length ≤ 1000000000000) :
  Calls Tryz.prog 149 #[v, .int .u64 (I64 x), .int .i64 n] w fun e w' => ∃ v', e = .returned v' ∧ OwnB w' base v' (l ++ bigB x n) ∧ w.grownBy w' v.ownBlock ∧ FreshOr w v v' := by
 go_enter Tryz.func149, Tryz.ntmps149
 go_wp2
 go_loopw [0, 7] (fun b i wr => ∃ (j : Nat) (done : List UInt8), j ≤ n ∧ i = .int .i64 ((j : Int) - 1) ∧ done.length ≤ 8 ∧ done ++ bigB x j = bigB x n ∧ OwnB wr base b (l ++ done) ∧ w.grownBy wr v.ownBlock ∧ FreshOr w v b) (fun _ i _ => (intOf i + 1).toNat)
 case atStart => exact ⟨n, [], by omega, rfl, by simp, rfl, by simpa using hown, grownBy_refl _ _, .inl rfl⟩
 case round =>
  obtain ⟨j, done, hj, rfl, hd, H, ho, hg, hf⟩ := hrel
  have H' := Lib.hid H; clear H
  have ho' := Lib.hid ho; clear ho
  have hg' := Lib.hid hg; clear hg
  have hf' := Lib.hid hf; clear hf
  cases j with
  | zero =>
   go_wp2
   go_ret
   have hx : done = bigB x n := by have := H'.out; simpa [bigB] using this
   subst hx
   exact ⟨_, rfl, ho'.out, hg'.out, hf'.out⟩
  | succ i =>
   have e : ((i + 1 : Nat) : Int) - 1 = i := by omega
   rw [e]; clear e
   have b1 : 8 * (i : Int) ≤ 63 := by omega
   have b0 : 0 ≤ 8 * (i : Int) := by omega
   go_wp2_with (at_builtin; refine wpList_append_new bytesT rfl (.tmp 14) (.tmp 20) rfl base wr [_] _ _ rfl u0 (l ++ done) rfl ho'.out rfl ?_ ?_ ?_)
   ·simp; omega
   ·have := hg'.out.size; omega
   ·intro v' w1 hown1 hg1 hf1
    have hg2 := Lib.hid (grow_step hg'.out hf'.out hg1)
    have hf2 := Lib.hid (fresh_trans hg'.out.size hf'.out hf1)
    have hown2 := Lib.hid hown1
    clear hown1 hg1 hf1
    go_wp2
    go_roundw
    case rel => exact ⟨i, done ++ [(x >>> (8 * UInt64.ofNat i)).toUInt8], by omega, by go_num, by have := bigB_length x n; rw [← H'.out] at this; simp [bigB, bigB_length] at this ⊢; omega, by rw [← H'.out]; simp [bigB], hown2.out, hg2.out, hf2.out⟩
    case measure => simp [intOf]
theorem aesPutc (v : Value) (l : List UInt8) (x : UInt64) (n : Nat) (w : World) (hok : (Chunk.sl 1 v l.length (bs l)).ok w) (hn : n ≤ 8) (hl : l.length ≤ 1000000000000) :
  Calls Tryz.prog 149 #[v, .int .u64 (I64 x), .int .i64 n] w fun e w' => ∃ p cap, e = .returned (.slice p (l ++ bigB x n).length cap) ∧ Upd w (.sl 1 v l.length (bs l)) w' (.sl 1 (.slice p (l ++ bigB x n).length cap) (l ++ bigB x n).length (bs (l ++ bigB x n))) :=
 (aesPut 0 v l x n w hok (Nat.zero_le _) hn hl).mono fun e w' h => by
  obtain ⟨v', rfl, ho, hg, hf⟩ := h
  obtain ⟨p, cap, rfl⟩ := Own.form0 ho
  refine ⟨p, cap, rfl, Kept.grown hg, ho, fun k hk => ?_⟩
  simp only [Chunk.fp, Option.mem_toList] at hk ⊢
  rcases hf with hf | ⟨g, h1, h2⟩
  ·exact .inl (by rw [← hf]; exact hk)
  ·rw [h1] at hk; cases hk; exact .inr h2
theorem sealPut (base : Nat) (v : Value) (l : List UInt8) (x : UInt64) (n : Nat) (w : World) (hown : OwnB w base v l) (hbase : base ≤ w.heap.size) (hn : n ≤ 8) (hl : l.length ≤ 1000000000000) :
  Calls Tryz.prog 108 #[v, .int .u64 (I64 x), .int .i64 n] w fun e w' => ∃ v', e = .returned v' ∧ OwnB w' base v' (l ++ bigB x n) ∧ w.grownBy w' v.ownBlock ∧ FreshOr w v v' := by
 go_enter Tryz.func108, Tryz.ntmps108
 go_wp2
 go_loopw [0, 7] (fun b i wr => ∃ (j : Nat) (done : List UInt8), j ≤ n ∧ i = .int .i64 ((j : Int) - 1) ∧ done.length ≤ 8 ∧ done ++ bigB x j = bigB x n ∧ OwnB wr base b (l ++ done) ∧ w.grownBy wr v.ownBlock ∧ FreshOr w v b) (fun _ i _ => (intOf i + 1).toNat)
 case atStart => exact ⟨n, [], by omega, rfl, by simp, rfl, by simpa using hown, grownBy_refl _ _, .inl rfl⟩
 case round =>
  obtain ⟨j, done, hj, rfl, hd, H, ho, hg, hf⟩ := hrel
  have H' := Lib.hid H; clear H
  have ho' := Lib.hid ho; clear ho
  have hg' := Lib.hid hg; clear hg
  have hf' := Lib.hid hf; clear hf
  cases j with
  | zero =>
   go_wp2
   go_ret
   have hx : done = bigB x n := by have := H'.out; simpa [bigB] using this
   subst hx
   exact ⟨_, rfl, ho'.out, hg'.out, hf'.out⟩
  | succ i =>
   have e : ((i + 1 : Nat) : Int) - 1 = i := by omega
   rw [e]; clear e
   have b1 : 8 * (i : Int) ≤ 63 := by omega
   have b0 : 0 ≤ 8 * (i : Int) := by omega
   go_wp2_with (at_builtin; refine wpList_append_new bytesT rfl (.tmp 14) (.tmp 20) rfl base wr [_] _ _ rfl u0 (l ++ done) rfl ho'.out rfl ?_ ?_ ?_)
   ·simp; omega
   ·have := hg'.out.size; omega
   ·intro v' w1 hown1 hg1 hf1
    have hg2 := Lib.hid (grow_step hg'.out hf'.out hg1)
    have hf2 := Lib.hid (fresh_trans hg'.out.size hf'.out hf1)
    have hown2 := Lib.hid hown1
    clear hown1 hg1 hf1
    go_wp2
    go_roundw
    case rel => exact ⟨i, done ++ [(x >>> (8 * UInt64.ofNat i)).toUInt8], by omega, by go_num, by have := bigB_length x n; rw [← H'.out] at this; simp [bigB, bigB_length] at this ⊢; omega, by rw [← H'.out]; simp [bigB], hown2.out, hg2.out, hf2.out⟩
    case measure => simp [intOf]
theorem sealPutc (v : Value) (l : List UInt8) (x : UInt64) (n : Nat) (w : World) (hok : (Chunk.sl 1 v l.length (bs l)).ok w) (hn : n ≤ 8) (hl : l.length ≤ 1000000000000) :
  Calls Tryz.prog 108 #[v, .int .u64 (I64 x), .int .i64 n] w fun e w' => ∃ p cap, e = .returned (.slice p (l ++ bigB x n).length cap) ∧ Upd w (.sl 1 v l.length (bs l)) w' (.sl 1 (.slice p (l ++ bigB x n).length cap) (l ++ bigB x n).length (bs (l ++ bigB x n))) :=
 (sealPut 0 v l x n w hok (Nat.zero_le _) hn hl).mono fun e w' h => by
  obtain ⟨v', rfl, ho, hg, hf⟩ := h
  obtain ⟨p, cap, rfl⟩ := Own.form0 ho
  refine ⟨p, cap, rfl, Kept.grown hg, ho, fun k hk => ?_⟩
  simp only [Chunk.fp, Option.mem_toList] at hk ⊢
  rcases hf with hf | ⟨g, h1, h2⟩
  ·exact .inl (by rw [← hf]; exact hk)
  ·rw [h1] at hk; cases hk; exact .inr h2
theorem add_c (gc : Nat) (s W b : List UInt8) (r : Nat) (rv : Int) (hrv : rv = r) (w : World) (R : (Chunk.row gc (bs (W ++ s))).ok w) (hW : W.length = 240) (hs : s.length = 256) (hb : b.length = 16) (hr : r ≤ 14) :
  Calls Tryz.prog 178 #[.pointer (some ⟨gc, 0, none⟩), .agg (bs b).toArray, .int .i64 rv] w fun e w' => e = .returned (.agg (bs (addL W b r)).toArray) ∧ Below w.heap.size w w' := by
 subst hrv
 have M := Mem.start [] w
 have hWs : (W ++ s).length = 496 := by rw [List.length_append, hW, hs]
 have NW : ∀ i, i < 240 → (W ++ s).getD i 0 = nth W i := fun i hi => by
  unfold nth; simp only [List.getD_eq_getElem?_getD]; rw [List.getElem?_append_left yE]
 obtain ⟨C, eC⟩ : ∃ C, C = W ++ s := ⟨_, rfl⟩
 rw [← eC] at R hWs NW
 clear eC
 replace NW := Lib.hid NW
 go_enter Tryz.func178, Tryz.ntmps178
 go_wp2_with ((first | ((with_reducible refine tBox (some 4) ?_); refine w_box M _ _ rfl rfl _ rfl (bs b) rfl ?_; clear M; intro gb w1 M) | ((with_reducible refine tAlloc (some 6) 234 ?_); refine w_alloc M _ rfl rfl (.agg (Array.replicate 16 (.int .u8 0))) (bs (List.replicate 16 (0 : UInt8))) yC rfl ?_; clear M; intro go w1 M) | ((with_reducible refine tM rfl ?_); refine mB ?_; try (clear M; (first | intro g w1 M | intro w1 M); try simp only [setC] at M)) | ((with_reducible refine tGuard ?_); refine gdC ?_ ?_ <;> (intro hgd; rw [hgd]; try (exfalso; simp at hgd; omega)))) <;> (try conv => arg 5; simp only [Act.put, List.setIfInBounds_toArray, setC]))
 go_loopw [8] (fun kv wr => ∃ k : Nat, k ≤ 16 ∧ kv = .int .i64 k ∧ Mem [] w wr [.row go (bs (List.replicate 16 0)), .row gb (bs (iterN (addB W r) k b))]) (fun kv _ => 16 - (intOf kv).toNat)
 case atStart => exact ⟨0, by omega, rfl, M⟩
 case round =>
  clear M
  obtain ⟨k, hk, rfl, M⟩ := hrel
  obtain ⟨d, ed⟩ : ∃ d, d = iterN (addB W r) k b := ⟨_, rfl⟩
  have hd : d.length = 16 := by rw [ed, iterN_len _ (addB_len W r)]; exact hb
  rw [← ed] at M
  have ED := Lib.hid ed
  clear ed
  by_cases hlt : k < 16
  ·go_wp2_with ((first | ((with_reducible refine tLoad ?_); refine w_at _ _ rfl yI ?_; intro hx; (first | refine w_rowB M R _ _ rfl hx rfl yA yJ ?_); clear hx) | ((with_reducible show Code.wp _ (Code.region 4 _ _) _ _ _); (have MR := M; refine region_lowc [(0, false), (1, false), (3, false), (4, false), (5, false), (6, false), (7, false), (8, false), (9, false), (10, false), (11, false), (12, false), (13, false), (14, false), (2, false), (15, false), (16, false), (17, false), (18, true)] [(15, .int), (17, .int), (16, .int), (18, .int), (20, .int), (14, .ptr), (13, .int), (26, .int)] [(2, _), (15, _)] (IxOk MR [1]) 18 yC yC rfl yC (lowA MR 1 k (lows_cons (stab_rowB MR R ((4*r+k/4)*4+k%4) rfl yA yJ) lows_nil)) (ixOk_self MR _) ?_; replace M := M.drew; simp only [planC, opAt, List.getElem?_toArray, List.getElem?_cons_zero, List.getElem?_cons_succ, Option.getD_some])) | ((with_reducible refine tM rfl ?_); refine mB ?_; try (clear M; (first | intro g w1 M | intro w1 M); try simp only [setC] at M)) | ((with_reducible first | show Seg _ _ _ _ | show OnlyN _ _ _ _ _); refine rA ?_) | ((with_reducible refine tGuard ?_); refine gdC ?_ ?_ <;> (intro hgd; rw [hgd]; try (exfalso; simp at hgd; omega)))) <;> (try conv => arg 5; simp only [Act.put, List.setIfInBounds_toArray, setC]))
   have hC : C[(4 * r + k / 4) * 4 + k % 4]?.getD 0 = nth W (16 * r + k) := by
    rw [← NW.out _ yE, show 16 * r + k = (4 * r + k / 4) * 4 + k % 4 by omega, List.getD_eq_getElem?_getD]
   have hD : addB W r k d = d.set k (d[k] ^^^ nth W (16 * r + k)) := by
    unfold addB nth; simp [List.getElem?_eq_getElem (show k < d.length by omega)]
   rw [hC, ← hD] at M
   go_roundw
   case rel => exact ⟨k + 1, by omega, by go_num, by rw [iterN_succ, ← ED.out]; exact M⟩
   case measure => simp [intOf]; omega
  ·obtain rfl : k = 16 := by omega
   go_wp2_with ((first | ((with_reducible refine tM rfl ?_); refine mB ?_; try (clear M; (first | intro g w1 M | intro w1 M); try simp only [setC] at M)) | ((with_reducible refine tGuard ?_); refine gdC ?_ ?_ <;> (intro hgd; rw [hgd]; try (exfalso; simp at hgd; omega)))) <;> (try conv => arg 5; simp only [Act.put, List.setIfInBounds_toArray, setC]))
   exact bodyPost_ret (results_row rfl _ _ go 0 (bs d) _ rfl (M.ok 0 _ rfl).2.1 Tryz.underlying234 rfl (by rw [bs_length, hd]; kernel_rfl)) rfl ⟨by rw [show addL W b r = d from ED.out.symm], M.below⟩
theorem mix1_c (g ga gi : Nat) (b : List UInt8) (at' i k : Nat) (kv : Int) (hkv : kv = k) (w : World) (hb : b.length = 16) (R : (Chunk.row g (bs b)).ok w) (RA : (Chunk.row ga [.int .i64 at']).ok w) (RI : (Chunk.row gi [.int .i64 i]).ok w) (ha : at' + 3 < 16) (hi : i < 16) (hk : k < 4) :
  Calls Tryz.prog 192 #[.int .i64 kv, .pointer (some ⟨g, 0, none⟩), .pointer (some ⟨ga, 0, none⟩), .pointer (some ⟨gi, 0, none⟩)] w fun e w' => e = .returned (.int .u8 (I8 (nth b (at' + (i + k) % 4)))) ∧ Below w.heap.size w w' := by
 subst hkv
 have M := Mem.start [] w
 go_enter Tryz.func192, Tryz.ntmps192
 go_wp2_with (first | ((with_reducible show wpList _ _ _ (Oper.mk _ (Op.load _ _) _ _ _ _ :: _) _ _); refine w_at _ _ rfl yF ?_; intro hx; first | (refine w_rowB M R _ _ rfl hx rfl yA yJ ?_; clear hx) | (refine w_rowC M RA _ _ rfl hx rfl yA rfl ?_; clear hx) | (refine w_rowC M RI _ _ rfl hx rfl yA rfl ?_; clear hx)))
 go_ret
 exact ⟨by simp [nth], M.below⟩
theorem mix_c (b : List UInt8) (w : World) (hb : b.length = 16) :
  Calls Tryz.prog 179 #[.agg (bs b).toArray] w fun e w' => e = .returned (.agg (bs (mixL b)).toArray) ∧ Below w.heap.size w w' := by
 have M := Mem.start [] w
 have hmf : ∀ (fn : Fn) (first cap : Array Value) (w : World), (Instr.makeFunc fn first cap).run Tryz.prog w = .ok (.func fn first cap) w := fun _ _ _ _ => rfl
 go_enter Tryz.func179, Tryz.ntmps179
 go_wp2_with ((first | ((with_reducible refine tBox (some 1) ?_); refine w_box M _ _ rfl rfl _ rfl (bs b) rfl ?_; clear M; intro gb w1 M) | ((with_reducible refine tAlloc (some 2) 234 ?_); refine w_alloc M _ rfl rfl (.agg (Array.replicate 16 (.int .u8 0))) (bs (List.replicate 16 (0 : UInt8))) yC rfl ?_; clear M; intro go w1 M) | ((with_reducible refine tM rfl ?_); refine mB ?_; try (clear M; (first | intro g w1 M | intro w1 M); try simp only [setC] at M)) | ((with_reducible refine tGuard ?_); refine gdC ?_ ?_ <;> (intro hgd; rw [hgd]; try (exfalso; simp at hgd; omega)))) <;> (try conv => arg 5; simp only [Act.put, List.setIfInBounds_toArray, setC]))
 go_loopw [6] (fun kv wr => ∃ k : Nat, k ≤ 16 ∧ kv = .int .i64 k ∧ Mem [] w wr [.row go (bs (iterN (mixB b) k (List.replicate 16 0))), .row gb (bs b)]) (fun kv _ => 16 - (intOf kv).toNat)
 case atStart => exact ⟨0, by omega, rfl, M⟩
 case round =>
  clear M
  obtain ⟨k, hk, rfl, M⟩ := hrel
  obtain ⟨d, ed⟩ : ∃ d, d = iterN (mixB b) k (List.replicate 16 0) := ⟨_, rfl⟩
  have hd : d.length = 16 := by rw [ed, iterN_len _ (fun n s => by unfold mixB; rw [List.length_set])]; exact List.length_replicate
  rw [← ed] at M
  have ED := Lib.hid ed
  clear ed
  by_cases hlt : k < 16
  ·have hk4 : k / 4 * 4 + 3 < 16 := by omega
   go_wp2_with ((first | ((with_reducible refine tAlloc (some 3) 3 ?_); refine w_alloc M _ rfl rfl (.int .i64 0) ([.int .i64 0]) yC rfl ?_; clear M; intro gi w1 M) | ((with_reducible refine tAlloc (some 4) 3 ?_); refine w_alloc M _ rfl rfl (.int .i64 0) ([.int .i64 0]) yC rfl ?_; clear M; intro ga w1 M) | (go_at_call 177; (refine (twice_c _ _).mono ?_; rintro e w1 ⟨rfl, rfl⟩)) | (go_at_call 192; ((first | (with_reducible refine (mix1_c _ _ _ b _ _ 0 0 yN _ hb (M.ok 3 _ rfl) (M.ok 0 _ rfl) (M.ok 1 _ rfl) hk4 hlt yN).mono ?_) | (with_reducible refine (mix1_c _ _ _ b _ _ 1 1 yN _ hb (M.ok 3 _ rfl) (M.ok 0 _ rfl) (M.ok 1 _ rfl) hk4 hlt yN).mono ?_) | (with_reducible refine (mix1_c _ _ _ b _ _ 2 2 yN _ hb (M.ok 3 _ rfl) (M.ok 0 _ rfl) (M.ok 1 _ rfl) hk4 hlt yN).mono ?_) | (with_reducible refine (mix1_c _ _ _ b _ _ 3 3 yN _ hb (M.ok 3 _ rfl) (M.ok 0 _ rfl) (M.ok 1 _ rfl) hk4 hlt yN).mono ?_)); rintro e w1 ⟨rfl, hbl⟩; replace M := M.call hbl; clear hbl)) | ((with_reducible show Code.wp _ (Code.region 6 _ _) _ _ _); (have MR := M; refine region_lowc [(1, false), (4, false), (8, false), (11, false), (14, false), (0, false), (2, true), (3, true), (5, true), (6, true), (7, false), (9, true), (10, false), (12, true), (13, false), (15, true), (16, false), (17, false), (18, true)] [(16, .int), (19, .int), (20, .int), (22, .int), (23, .int), (25, .int), (26, .int), (28, .int)] [(0, _)] (IxOk MR [1]) 18 yC yC rfl yC (lowA MR 1 0 lows_nil) (ixOk_self MR _) ?_; replace M := M.drew; simp only [planC, opAt, List.getElem?_toArray, List.getElem?_cons_zero, List.getElem?_cons_succ, Option.getD_some])) | ((with_reducible refine tM rfl ?_); refine mB ?_; try (clear M; (first | intro g w1 M | intro w1 M); try simp only [setC] at M)) | ((with_reducible first | show Seg _ _ _ _ | show OnlyN _ _ _ _ _); refine rA ?_) | ((with_reducible refine tGuard ?_); refine gdC ?_ ?_ <;> (intro hgd; rw [hgd]; try (exfalso; simp at hgd; omega)))) <;> (try conv => arg 5; simp only [Act.put, List.setIfInBounds_toArray, setC]))
   have hD : mixB b k d = d.set k (tw (b[k / 4 * 4 + k % 4]?.getD 0) ^^^ tw (b[k / 4 * 4 + (k + 1) % 4]?.getD 0) ^^^ b[k / 4 * 4 + (k + 1) % 4]?.getD 0 ^^^ b[k / 4 * 4 + (k + 2) % 4]?.getD 0 ^^^ b[k / 4 * 4 + (k + 3) % 4]?.getD 0) := by
    unfold mixB mixN nth; simp only [List.getD_eq_getElem?_getD, Nat.add_zero]
   rw [← hD] at M
   replace M := M.tail.tail
   go_roundw
   case rel => exact ⟨k + 1, by omega, by go_num, by rw [iterN_succ, ← ED.out]; exact M⟩
   case measure => simp [intOf]; omega
  ·obtain rfl : k = 16 := by omega
   go_wp2_with ((first | ((with_reducible refine tM rfl ?_); refine mB ?_; try (clear M; (first | intro g w1 M | intro w1 M); try simp only [setC] at M)) | ((with_reducible refine tGuard ?_); refine gdC ?_ ?_ <;> (intro hgd; rw [hgd]; try (exfalso; simp at hgd; omega)))) <;> (try conv => arg 5; simp only [Act.put, List.setIfInBounds_toArray, setC]))
   have e : mixL b = d := ED.out.symm
   exact bodyPost_ret (results_row rfl _ _ go 0 (bs d) _ rfl (M.ok 0 _ rfl).2.1 Tryz.underlying234 rfl (by rw [bs_length, hd]; kernel_rfl)) rfl ⟨by rw [e], M.below⟩
end Go.Proofs.YtidadhbaomieiaaGreat
