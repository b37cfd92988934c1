/- Texts of this seat, put together: RefS, MacPL, RefMO, AesL, AesA, AesB, AesC. Each begins with a remark that says what is proved in it, and under which conditions. -/
import Derived.Test.YtidadhbaomieiaaGreatY
import Derived.Test.YtidadhbaomieiaaGreatZa
import Derived.Test.YtidadhbaomieiaaGreatZc
import Derived.Test.YtidadhbaomieiaaGreatZd
import Derived.Test.YtidadhbaomieiaaGreatZg
set_option maxRecDepth 100000
set_option maxHeartbeats 16000000
namespace Go
namespace TL
open Go.RowKit
theorem snoc128 (l : List UInt8) : bs l ++ [.int .u8 128] = bs (l ++ [128]) := by rw [qBa]; rfl
theorem snoc0 (l : List UInt8) : bs l ++ [.int .u8 0] = bs (l ++ [0]) := by rw [qBa]; rfl
theorem snocB (l : List UInt8) (b : UInt8) : bs l ++ [.int .u8 (I8 b)] = bs (l ++ [b]) := by rw [qBa]; rfl
theorem I64_nat2 (i : Nat) (h : i < 1000) : I64 (w64 (i : Int)) = (i : Int) := by
 rw [qBM, qBU, UInt64.toNat_ofNat']; omega
theorem P64_root (k : Nat) (hk : k < 64) : behindW (P64.getD k 0) true = K64.getD k 0 := by
 have h := roots3
 have h1 : K64.getD k 0 = (P64.map (behindW · true)).getD k 0 := by rw [h]
 rw [h1, List.getD_eq_getElem?_getD, List.getD_eq_getElem?_getD, List.getElem?_map, List.getElem?_eq_getElem (by rw [qDT]; exact hk)]; rfl
theorem P64_root2 (k : Nat) (hk : k < 8) : behindW (P64.getD k 0) false = H0.words.getD k 0 := by
 have h1 : H0.words.getD k 0 = ((P64.take 8).map (behindW · false)).getD k 0 := by rw [roots2]
 rw [h1, List.getD_eq_getElem?_getD, List.getD_eq_getElem?_getD, List.getElem?_map, List.getElem?_take, if_pos hk, List.getElem?_eq_getElem (by rw [qDT]; omega)]; rfl
end TL
end Go
namespace Go.Proofs.YtidadhbaomieiaaGreat
open Go.RowKit Go.TL
theorem refturn_l (h : St) (K : List UInt32) (s : List UInt8) (hK : K.length = 64) (hs : s.length = 64) (v : Value) (w : World) (S : Sees w 1 v 64 (bs s)) :
  Calls Tryz.prog 121 #[.agg (ws h.words).toArray, .agg (ws K).toArray, v] w fun e w' => ∃ h', Hid (h' = turnS h h K s) ∧ e = .returned (.agg (ws h'.words).toArray) ∧ Below w.heap.size w w' :=
 (refturn_c h K s hK hs v w S).mono fun _ _ ⟨h1, h2⟩ => ⟨_, Lib.hid rfl, h1, h2⟩
theorem refSum_c (l : List UInt8) (w : World) (hl : l.length ≤ 100000000000) :
  Calls Tryz.prog 89 #[.string (mkS l)] w fun e w' => e = .returned (.agg (bs (shaL l)).toArray) ∧ Below w.heap.size w w' := by
 obtain ⟨PP, eP⟩ : ∃ PP, PP = P64 := ⟨_, rfl⟩
 obtain ⟨KK, eK⟩ : ∃ KK, KK = K64 := ⟨_, rfl⟩
 obtain ⟨HH, eH⟩ : ∃ HH, HH = H0 := ⟨_, rfl⟩
 have lP : PP.length = 64 := by rw [eP]; exact qDT
 have lK : KK.length = 64 := by rw [eK]; exact qBh
 have lH := qBx HH
 have EP := Lib.hid eP; clear eP
 have EK := Lib.hid eK; clear eK
 have EH := Lib.hid eH; clear eH
 have M := Mem.start [] w
 go_enter Tryz.func89, Tryz.ntmps89
 go_wp2_with ((first | ((with_reducible refine tAlloc (some 2) 49 ?_); refine wal M _ rfl rfl (bs (List.replicate 32 (0 : UInt8))) yD ?_; clear M; intro go w1 M) | (go_at_call 119; (refine (primes_c _).mono ?_; rintro e w1 ⟨q, capP, rfl, MP⟩; replace M := M.join MP; (try simp only [List.cons_append, List.nil_append] at M); rw [← EP.out] at M; clear MP)) | ((with_reducible refine tAlloc (some 4) 212 ?_); refine wal M _ rfl rfl (ws (List.replicate 64 (0 : UInt32))) yD ?_; clear M; intro gk w1 M) | ((with_reducible refine tAlloc (some 5) 213 ?_); refine wal M _ rfl rfl (ws (List.replicate 8 (0 : UInt32))) yD ?_; clear M; intro gh w1 M)) <;> (try conv => arg 5; simp only [apS, setC]))
 obtain ⟨gp, op, rfl⟩ := M.slAddr 2 rfl yF
 go_loopw [6] (fun iv wr => ∃ k : Nat, k ≤ 64 ∧ iv = .int .i64 k ∧ Mem [] w wr [.row gh (ws (HH.words.take k ++ List.replicate (8 - k) 0)), .row gk (ws (KK.take k ++ List.replicate (64 - k) 0)), .sl 1 (.slice (some ⟨gp, op, none⟩) 64 capP) 64 (us PP), .row go (bs (List.replicate 32 0))]) (fun iv _ => 64 - (intOf iv).toNat)
 case atStart => exact ⟨0, by omega, rfl, M⟩
 case round =>
  clear M
  obtain ⟨k, hk, rfl, M⟩ := hrel
  by_cases hlt : k < 64
  ·obtain ⟨p, ep⟩ : ∃ p, p = PP.getD k 0 := ⟨_, rfl⟩
   have hp := Lib.hid (us_get (l := PP) (i := k) yF)
   rw [← ep] at hp
   have e1 : behindW p true = KK.getD k 0 := by rw [ep, EP.out, EK.out]; exact P64_root k hlt
   have E1 := Lib.hid e1; clear e1
   have E2 : Hid (k < 8 → behindW p false = HH.words.getD k 0) := Lib.hid (fun h => by rw [ep, EP.out, EH.out]; exact P64_root2 k h)
   clear ep
   obtain ⟨r3, er3⟩ : ∃ r, r = behindW p true := ⟨_, rfl⟩
   obtain ⟨r2, er2⟩ : ∃ r, r = behindW p false := ⟨_, rfl⟩
   rw [← er3] at E1
   rw [← er2] at E2
   have ER3 := Lib.hid er3; clear er3
   have ER2 := Lib.hid er2; clear er2
   by_cases h8 : k < 8
   ·go_wp2_with ((first | ((with_reducible show wpList _ _ _ (Oper.mk _ (Op.load 30 _) _ _ _ _ :: _) _ _); (refine w_loadS M 2 _ _ rfl rfl rfl rfl yB k rfl hp.out ?_)) | (go_at_call 120; (refine (behind_c p _ _).mono ?_; rintro e w1 ⟨rfl, rfl⟩; first | rw [← ER3.out] | rw [← ER2.out])) | ((with_reducible refine tM rfl ?_); refine mW ?_; try (clear M; (first | intro g w1 M | intro w1 M); try simp only [setC] at M)) | ((with_reducible refine tGuard ?_); refine gdC ?_ ?_ <;> (intro hgd; rw [hgd]; try (exfalso; simp at hgd; omega)))) <;> (try conv => arg 5; simp only [apS, setC]))
    go_roundw
    case rel => exact ⟨k + 1, by omega, by go_num, by rw [← setTake32 KK 64 k lK hlt _ E1.out, ← setTake32 HH.words 8 k lH h8 _ (E2.out h8)]; exact M⟩
    case measure => simp [intOf]; omega
   ·go_wp2_with ((first | ((with_reducible show wpList _ _ _ (Oper.mk _ (Op.load 30 _) _ _ _ _ :: _) _ _); (refine w_loadS M 2 _ _ rfl rfl rfl rfl yB k rfl hp.out ?_)) | (go_at_call 120; (refine (behind_c p _ _).mono ?_; rintro e w1 ⟨rfl, rfl⟩; first | rw [← ER3.out] | rw [← ER2.out])) | ((with_reducible refine tM rfl ?_); refine mW ?_; try (clear M; (first | intro g w1 M | intro w1 M); try simp only [setC] at M)) | ((with_reducible refine tGuard ?_); refine gdC ?_ ?_ <;> (intro hgd; rw [hgd]; try (exfalso; simp at hgd; omega)))) <;> (try conv => arg 5; simp only [apS, setC]))
    go_roundw
    case rel => exact ⟨k + 1, by omega, by go_num, by
     rw [← setTake32 KK 64 k lK hlt _ E1.out, List.take_of_length_le (by omega : HH.words.length ≤ k + 1), show 8 - (k + 1) = 0 by omega]
     rw [List.take_of_length_le yF, show 8 - k = 0 by omega] at M
     exact M⟩
    case measure => simp [intOf]; omega
  ·obtain rfl : k = 64 := by omega
   rw [show ((64 : Nat) : Int) = 64 from rfl]
   rw [List.take_of_length_le yF, List.take_of_length_le yF, show 8 - 64 = 0 from rfl, List.replicate_zero, List.append_nil, List.append_nil] at M
   go_wp2_with ((first | ((with_reducible refine tConv (some 35) 9 70 ?_); (refine w_bytes M _ _ _ _ rfl rfl rfl Tryz.underlying9 Tryz.underlying70 Tryz.underlying5 yW ?_; clear M; intro gb capgb w1 hcapgb M)) | ((with_reducible show wpList _ _ _ (Oper.mk _ (Op.buildSlice _ 1 _) _ _ _ _ :: _) _ _); (refine qAV M bytesT yN _ rfl rfl yE _ rfl rfl ?_; clear M; intro g w1 M)) | ((with_reducible refine tApp ?_); (refine qAg M 0 bytesT _ _ rfl rfl rfl rfl rfl rfl yJ yN yS yW ?_; clear M; intro q cap w1 M; (try simp only [setC] at M)))) <;> (try conv => arg 5; simp only [apS, setC]))
   rw [snoc128] at M
   go_loopw [7] (fun v wr => ∃ (k : Nat) (q : Option Addr) (c : Nat), k ≤ zpad l.length ∧ v = .slice q (l.length + 1 + k) c ∧ Mem [] w wr [.sl 1 (.slice q (l.length + 1 + k) c) (l.length + 1 + k) (bs (l ++ [128] ++ List.replicate k 0)), .row gh (ws HH.words), .row gk (ws KK), .sl 1 (.slice (some ⟨gp, op, none⟩) 64 capP) 64 (us PP), .row go (bs (List.replicate 32 0))]) (fun v _ => l.length + 1 + zpad l.length - lenV v)
   case atStart => exact ⟨0, _, _, by omega, rfl, by simpa using M⟩
   case round =>
    clear M
    obtain ⟨k, q, c, hk, rfl, M⟩ := hrel
    by_cases hlt : k < zpad l.length
    ·have hd : ((l.length : Int) + 1 + k) % 64 ≠ 56 := by unfold zpad at hlt; omega
     have hz : zpad l.length ≤ 63 := by unfold zpad; omega
     go_wp2_with ((first | ((with_reducible show wpList _ _ _ (Oper.mk _ (Op.buildSlice _ 1 _) _ _ _ _ :: _) _ _); (refine qAV M bytesT yN _ rfl rfl yE _ rfl rfl ?_; clear M; intro g w1 M)) | ((with_reducible refine tApp ?_); (refine qAg M 0 bytesT _ _ rfl rfl rfl rfl rfl rfl yJ yN yS yW ?_; clear M; intro q cap w1 M; (try simp only [setC] at M)))) <;> (try conv => arg 5; simp only [apS, setC]))
     rw [snoc0] at M
     go_roundw
     case rel => exact ⟨k + 1, _, _, by omega, rfl, by rw [List.replicate_succ', ← List.append_assoc]; exact M⟩
     case measure => simp only [lenV]; omega
    ·have ek : k = zpad l.length := by omega
     have hd : ((l.length : Int) + 1 + k) % 64 = 56 := by unfold zpad at ek; omega
     have hz : zpad l.length ≤ 63 := by unfold zpad; omega
     go_wp2_with fail
     subst ek
     have hbf : (((l.length : Int) + 1 + (zpad l.length : Nat)) % 64 != 56) = false := by rw [hd]; rfl
     simp only [hbf]
     clear hd
     obtain ⟨base, eb⟩ : ∃ base, base = l ++ [128] ++ List.replicate (zpad l.length) 0 := ⟨_, rfl⟩
     have lb : base.length = l.length + 1 + zpad l.length := by rw [eb]; simp; omega
     rw [← eb, ← lb] at M
     rw [← lb]
     have LB := Lib.hid lb; clear lb
     have EBs := Lib.hid eb; clear eb
     obtain ⟨N, eN⟩ : ∃ N, N = w64 (l.length : Int) * 8 := ⟨_, rfl⟩
     rw [← eN]
     have EN := Lib.hid eN; clear eN
     go_loopw [7, 9] (fun v iv wr => ∃ (j : Nat) (done : List UInt8) (q : Option Addr) (c : Nat), j ≤ 8 ∧ iv = .int .i64 ((j : Int) - 1) ∧ done ++ bigB N j = bigB N 8 ∧ done.length ≤ 8 ∧ v = .slice q (base ++ done).length c ∧ Mem [] w wr [.sl 1 (.slice q (base ++ done).length c) (base ++ done).length (bs (base ++ done)), .row gh (ws HH.words), .row gk (ws KK), .sl 1 (.slice (some ⟨gp, op, none⟩) 64 capP) 64 (us PP), .row go (bs (List.replicate 32 0))]) (fun _ iv _ => (intOf iv + 1).toNat)
     case atStart => exact ⟨8, [], q, c, by omega, rfl, rfl, by simp, by simp, by simpa using M⟩
     case round =>
      clear M
      obtain ⟨j, done, q, c, hj, rfl, hd8, hdl, rfl, M⟩ := hrel
      have HD := Lib.hid hd8; clear hd8
      cases j with
      | zero =>
       have ed : done = bigB N 8 := by have := HD.out; simpa [bigB] using this
       subst ed
       rw [show ((0 : Nat) : Int) - 1 = -1 from rfl]
       obtain ⟨T, eT⟩ : ∃ T, T = base ++ bigB N 8 := ⟨_, rfl⟩
       rw [← eT] at M
       rw [← eT]
       have hT : T = padT l := by
        rw [eT, EBs.out, EN.out, qBM]; rfl
       have hT64 : T.length % 64 = 0 := by rw [hT]; exact padT_length l
       have hTl : T.length ≤ 100000001000 := by rw [eT, List.length_append, qAW, LB.out]; omega
       have HT := Lib.hid hT; clear hT eT
       obtain ⟨n64, en64⟩ : ∃ n, T.length = 64 * n := ⟨T.length / 64, by omega⟩
       rw [en64] at hTl
       have EN64 := Lib.hid en64; clear en64 hT64
       go_wp2_with fail
       go_loopw [10] (fun iv wr => ∃ (j : Nat), j ≤ n64 ∧ iv = .int .i64 (64 * j) ∧ Mem [] w wr [.sl 1 (.slice q T.length c) T.length (bs T), .row gh (ws (absorb j HH T).words), .row gk (ws KK), .sl 1 (.slice (some ⟨gp, op, none⟩) 64 capP) 64 (us PP), .row go (bs (List.replicate 32 0))]) (fun iv _ => (64 * n64 - intOf iv).toNat)
       case atStart => exact ⟨0, by omega, rfl, M⟩
       case round =>
        clear M
        obtain ⟨j, hj, rfl, M⟩ := hrel
        obtain ⟨hj', ehj⟩ : ∃ x, x = absorb j HH T := ⟨_, rfl⟩
        rw [← ehj] at M
        have EJ := Lib.hid ehj; clear ehj
        have lj := qBx hj'
        by_cases hlt : j < n64
        ·obtain ⟨gT, oT, rfl⟩ := M.slAddr 0 rfl (by rw [EN64.out]; omega)
         have hcc := (M.slCap 0 rfl).2.1
         have hcm := (M.slCap 0 rfl).2.2.1
         have tlen : (T.length : Int) = 64 * n64 := by have := EN64.out; omega
         have hc1 : (64 * (j : Int) + 64) ≤ c := by have := EN64.out; omega
         have hc2 : ¬ ((c : Int) = 64 * j) := by omega
         have ht64 : ((T.drop (64 * j)).take 64).length = 64 := by have := EN64.out; simp; omega
         have SV := M.part 0 rfl (64 * j) 64 (by have := EN64.out; omega) rfl (c - 64 * j) yF yF
         obtain ⟨blk, eblk⟩ : ∃ b, b = (T.drop (64 * j)).take 64 := ⟨_, rfl⟩
         rw [← eblk] at SV ht64
         have EBK := Lib.hid eblk; clear eblk
         have HSV := Lib.hid SV; clear SV
         go_wp2_with ((first | ((with_reducible show Code.wp _ (Code.region 21 _ _) _ _ _); (have MR := M; refine qAB [(2, false), (3, false), (4, false), (5, false), (6, false), (0, false), (1, false), (7, true), (8, true)] [(72, .int)] [(0, _), (1, _)] (IxOk MR [1, 2]) 8 yD yD rfl yD (lowA MR 1 0 (lowA MR 2 0 qAN)) (qAJ MR _) ?_; replace M := M.drew; simp only [planC, opAt, gE])) | (go_at_call 121; (refine (refturn_l hj' KK blk lK ht64 _ _ (Sees.drew HSV.out)).mono ?_; rintro e w1 ⟨hn, EHN, rfl, hb⟩; have lhn := qBx hn; replace M := M.call hb; clear hb)) | ((with_reducible refine tM rfl ?_); refine mW ?_; try (clear M; (first | intro g w1 M | intro w1 M); try simp only [setC] at M)) | ((with_reducible first | show Seg _ _ _ _ | show OnlyN _ _ _ _ _); refine rA ?_) | ((with_reducible refine tGuard ?_); refine gdC ?_ ?_ <;> (intro hgd; rw [hgd]; try (exfalso; simp at hgd; omega)))) <;> (try conv => arg 5; simp only [apS, setC]))
         go_roundw
         case rel => exact ⟨j + 1, by omega, by rw [show (64 : Int) * ((j + 1 : Nat) : Int) = 64 * j + 64 by omega], by
          have e : absorb (j + 1) HH T = hn := by rw [qDl, EHN.out, ← EJ.out, EK.out, EBK.out]
          rw [e]; exact M⟩
         case measure => simp [intOf]; omega
        ·have ej : j = n64 := by omega
         subst ej
         have tlen : (T.length : Int) = 64 * j := by have := EN64.out; omega
         obtain ⟨OB, eOB⟩ : ∃ OB, OB = outB hj' := ⟨_, rfl⟩
         have lOB : OB.length = 32 := by rw [eOB]; exact qBc _
         have EOB := Lib.hid eOB; clear eOB
         go_wp2_with ((first | ((with_reducible refine tAlloc (some 11) 49 ?_); refine wal M _ rfl rfl (bs (List.replicate 32 (0 : UInt8))) yD ?_; clear M; intro gout w1 M)) <;> (try conv => arg 5; simp only [apS, setC]))
         go_loopw [12] (fun iv wr => ∃ i : Nat, i ≤ 32 ∧ iv = .int .i64 i ∧ Mem [] w wr [.row gout (bs (OB.take i ++ List.replicate (32 - i) 0)), .sl 1 (.slice q T.length c) T.length (bs T), .row gh (ws hj'.words), .row gk (ws KK), .sl 1 (.slice (some ⟨gp, op, none⟩) 64 capP) 64 (us PP), .row go (bs (List.replicate 32 0))]) (fun iv _ => 32 - (intOf iv).toNat)
         case atStart => exact ⟨0, by omega, rfl, M⟩
         case round =>
          clear M
          obtain ⟨i, hi, rfl, M⟩ := hrel
          by_cases hlt : i < 32
          ·have ho := outB_get hj' i hlt
           rw [← EOB.out] at ho
           have HO := Lib.hid ho; clear ho
           have hI : I64 (w64 (24 - 8 * ((i : Int) % 4))) = 24 - 8 * ((i : Int) % 4) := by have := I64_nat2 (24 - 8 * (i % 4)) yF; rw [show ((24 - 8 * (i % 4) : Nat) : Int) = 24 - 8 * ((i : Int) % 4) by omega] at this; exact this
           have b1 : 24 - 8 * ((i : Int) % 4) ≤ 31 := by omega
           have b0 : 0 ≤ 24 - 8 * ((i : Int) % 4) := by omega
           go_wp2_with ((first | ((with_reducible refine tM rfl ?_); refine mW ?_; try (clear M; (first | intro g w1 M | intro w1 M); try simp only [setC] at M)) | ((with_reducible refine tGuard ?_); refine gdC ?_ ?_ <;> (intro hgd; rw [hgd]; try (exfalso; simp at hgd; omega)))) <;> (try conv => arg 5; simp only [apS, setC]))
           rw [I32_shr _ _ yF, w8_I32, ← List.getD_eq_getElem?_getD, ← HO.out, setTake OB 32 i lOB hlt] at M
           go_roundw
           case rel => exact ⟨i + 1, by omega, by go_num, M⟩
           case measure => simp [intOf]; omega
          ·obtain rfl : i = 32 := by omega
           rw [List.take_of_length_le yF, Nat.sub_self, List.replicate_zero, List.append_nil] at M
           go_wp2_with ((first | ((with_reducible refine tM rfl ?_); refine mW ?_; try (clear M; (first | intro g w1 M | intro w1 M); try simp only [setC] at M)) | ((with_reducible refine tGuard ?_); refine gdC ?_ ?_ <;> (intro hgd; rw [hgd]; try (exfalso; simp at hgd; omega)))) <;> (try conv => arg 5; simp only [apS, setC]))
           have hres : OB = shaL l := by rw [EOB.out, EJ.out, shaL_whole, ← HT.out, EN64.out, EH.out, Nat.mul_div_cancel_left _ (by decide : 0 < 64)]
           refine bodyPost_ret (qAS rfl _ _ go 0 (bs OB) _ rfl (M.ok 5 _ rfl).2.1 Tryz.underlying49 rfl (by rw [qAP, lOB]; kernel_rfl)) rfl ⟨by rw [hres], M.below⟩
      | succ i =>
       have e : ((i + 1 : Nat) : Int) - 1 = i := by omega
       rw [e]; clear e
       have b1 : 8 * (i : Int) ≤ 63 := by omega
       have b0 : 0 ≤ 8 * (i : Int) := by omega
       have hI : I64 (w64 (8 * (i : Int))) = 8 * (i : Int) := by have := I64_nat2 (8 * i) yF; simpa using this
       have ll : (base ++ done).length ≤ 100000000200 := by rw [List.length_append, LB.out]; omega
       obtain ⟨B, eB⟩ : ∃ B, B = base ++ done := ⟨_, rfl⟩
       rw [← eB] at M ll
       rw [← eB]
       have EB := Lib.hid eB; clear eB
       go_wp2_with ((first | ((with_reducible show wpList _ _ _ (Oper.mk _ (Op.buildSlice _ 1 _) _ _ _ _ :: _) _ _); (refine qAV M bytesT yN _ rfl rfl yE _ rfl rfl ?_; clear M; intro g w1 M)) | ((with_reducible refine tApp ?_); (refine qAg M 0 bytesT _ _ rfl rfl rfl rfl rfl rfl yJ yN yS yW ?_; clear M; intro q cap w1 M; (try simp only [setC] at M)))) <;> (try conv => arg 5; simp only [apS, setC]))
       rw [snocB] at M
       have HB : Hid ((base ++ (done ++ [(N >>> (8 * UInt64.ofNat i)).toUInt8])) = B ++ [(N >>> (8 * UInt64.ofNat i)).toUInt8]) := Lib.hid (by rw [EB.out, List.append_assoc])
       have hd9 : done.length + (i + 1) = 8 := by have := qAW N 8; rw [← HD.out, List.length_append, qAW] at this; exact this
       go_roundw
       case rel => exact ⟨i, done ++ [(N >>> (8 * UInt64.ofNat i)).toUInt8], _, _, by omega, by go_num, by rw [← HD.out]; simp [bigB], by simp; omega, by rw [HB.out, List.length_append]; rfl, by rw [HB.out, List.length_append]; exact M⟩
       case measure => simp [intOf]
end Go.Proofs.YtidadhbaomieiaaGreat

namespace Go
namespace TL
theorem qFi (k' : List UInt8) (x : UInt8) (hk : k'.length ≤ 64) (k : Nat) (h : k < 64) : (macPad k' x).getD k 0 = (if k < k'.length then k'.getD k 0 else 0) ^^^ x := by
 have e : keyL k' = k' := by unfold keyL; rw [if_neg yF]
 have hl : k < (macPad k' x).length := by rw [qBN]; exact h
 rw [List.getD_eq_getElem?_getD, List.getElem?_eq_getElem hl, Option.getD_some]
 simp only [macPad, keyB, e, List.getElem_map, List.getElem_append]
 split
 ·rename_i h2; rw [List.getD_eq_getElem?_getD, List.getElem?_eq_getElem h2]; rfl
 ·simp
end TL
end Go

namespace Go
namespace TL
open Go.RowKit
theorem qFh (key : List UInt8) (x : UInt8) : macPad (keyL key) x = macPad key x := by
 have e : keyL (keyL key) = keyL key := by
  have := qDk key
  rw [keyL, if_neg yF]
 simp only [macPad, keyB, e]
theorem take_getD (l : List UInt8) (k : Nat) (h : k < l.length) (x : UInt8) (hx : x = l.getD k 0) : l.take k ++ [x] = l.take (k + 1) := by
 subst hx
 rw [List.take_succ_eq_append_getElem h, List.getD_eq_getElem?_getD, List.getElem?_eq_getElem h]; rfl
end TL
end Go
namespace Go.Proofs.YtidadhbaomieiaaGreat
open Go.RowKit Go.TL
theorem qEy (key text : List UInt8) (w : World) (hk : key.length ≤ 10000000000) (ht : text.length ≤ 10000000000) :
  Calls Tryz.prog 48 #[.string (mkS key), .string (mkS text)] w fun e w' => e = .returned (.agg (bs (macL key text)).toArray) ∧ Below w.heap.size w w' := by
 have M := Mem.start [] w
 by_cases h64 : 64 < key.length
 all_goals
  go_enter Tryz.func48, Tryz.ntmps48
  go_wp2_with ((first | ((with_reducible refine tM rfl ?_); refine mB ?_; try (clear M; (first | intro g w1 M | intro w1 M); try simp only [setC] at M)) | ((with_reducible refine tGuard ?_); refine gdC ?_ ?_ <;> (intro hgd; rw [hgd]; try (exfalso; simp at hgd; omega))) | ((with_reducible refine tAlloc (some 4) 49 ?_); refine wal M _ rfl rfl (bs (List.replicate 32 (0 : UInt8))) yD ?_; clear M; intro gr w1 M) | ((with_reducible refine tAlloc _ 49 ?_); refine wal M _ rfl rfl (bs (List.replicate 32 (0 : UInt8))) yD ?_; clear M; intro g w1 M) | (go_at_call 89; (refine (refSum_c _ _ yF).mono ?_; rintro e w1 ⟨rfl, hb⟩; replace M := M.call hb; clear hb))) <;> (try conv => arg 5; simp only [apS, setC]))
 obtain ⟨k', ek⟩ : ∃ k', k' = keyL key := ⟨_, rfl⟩
 have ek2 : shaL key = k' := by rw [ek, keyL, if_pos h64]
 rw [ek2]
 replace M := M.tail
 clear ek2
 rotate_left
 obtain ⟨k', ek⟩ : ∃ k', k' = keyL key := ⟨_, rfl⟩
 have ek2 : key = k' := by rw [ek, keyL, if_neg h64]
 rw [ek2]
 clear ek2
 rotate_left
 all_goals
  have hk' : k'.length ≤ 64 := by rw [ek]; exact qDk key
  obtain ⟨P1, e1⟩ : ∃ P, P = macPad k' 54 := ⟨_, rfl⟩
  obtain ⟨P2, e2⟩ : ∃ P, P = macPad k' 92 := ⟨_, rfl⟩
  have l1 : P1.length = 64 := by rw [e1]; exact qBN _ _
  have l2 : P2.length = 64 := by rw [e2]; exact qBN _ _
  have E1 := Lib.hid e1; clear e1
  have E2 := Lib.hid e2; clear e2
  have EKK := Lib.hid ek; clear ek
  have eE : Value.string ⟨#[]⟩ = .string (mkS []) := rfl
  rw [eE]
  go_loopw [6, 7, 8] (fun a b iv wr => ∃ k : Nat, k ≤ 64 ∧ iv = .int .i64 k ∧ a = .string (mkS (P1.take k)) ∧ b = .string (mkS (P2.take k)) ∧ Mem [] w wr [.row gr (bs (List.replicate 32 0))]) (fun _ _ iv _ => 64 - (intOf iv).toNat)
  case atStart => exact ⟨0, by omega, rfl, rfl, rfl, M⟩
  case round =>
   clear M
   obtain ⟨k, hk64, rfl, rfl, rfl, M⟩ := hrel
   by_cases hlt : k < 64
   ·have hp1 := Lib.hid (qFi k' 54 hk' k hlt)
    have hp2 := Lib.hid (qFi k' 92 hk' k hlt)
    rw [← E1.out] at hp1
    rw [← E2.out] at hp2
    have hle1 : (P1.take k).length ≤ 64 := by rw [List.length_take]; omega
    have hle2 : (P2.take k).length ≤ 64 := by rw [List.length_take]; omega
    by_cases hkl : k < k'.length
    all_goals
     go_wp2_with ((first | ((with_reducible refine tU 70 ?_); refine mU ?_; clear M; intro g w1 M) | ((with_reducible refine tM rfl ?_); refine mB ?_; try (clear M; (first | intro g w1 M | intro w1 M); try simp only [setC] at M)) | ((with_reducible refine tGuard ?_); refine gdC ?_ ?_ <;> (intro hgd; rw [hgd]; try (exfalso; simp at hgd; omega)))) <;> (try conv => arg 5; simp only [apS, setC]))
     replace M := M.tail.tail
     go_roundw
     case rel => exact ⟨k + 1, by omega, by go_num, by
      rw [← take_getD P1 k yF _ hp1.out.symm]; first | rw [if_pos hkl] | rw [if_neg hkl]
      (first | rfl | (simp [hkl]; done)), by
      rw [← take_getD P2 k yF _ hp2.out.symm]; first | rw [if_pos hkl] | rw [if_neg hkl]
      (first | rfl | (simp [hkl]; done)), M⟩
     case measure => simp [intOf]; omega
   ·obtain rfl : k = 64 := by omega
    rw [List.take_of_length_le yF, List.take_of_length_le yF]
    go_wp2_with ((first | ((with_reducible refine tM rfl ?_); refine mB ?_; try (clear M; (first | intro g w1 M | intro w1 M); try simp only [setC] at M)) | ((with_reducible refine tGuard ?_); refine gdC ?_ ?_ <;> (intro hgd; rw [hgd]; try (exfalso; simp at hgd; omega))) | ((with_reducible refine tAlloc (some 10) 49 ?_); refine wal M _ rfl rfl (bs (List.replicate 32 (0 : UInt8))) yD ?_; clear M; intro gh w1 M) | (go_at_call 89; (refine (refSum_c _ _ (by first | (simp;omega) | (simp [shaL_len] <;> omega))).mono ?_; rintro e w1 ⟨rfl, hb⟩; replace M := M.call hb; clear hb))) <;> (try conv => arg 5; simp only [apS, setC]))
    have hr : shaL (P2 ++ shaL (P1 ++ text)) = macL key text := by rw [E1.out, E2.out, EKK.out, qFh, qFh]; rfl
    refine bodyPost_ret (qAS rfl _ _ gr 0 (bs (shaL (P2 ++ shaL (P1 ++ text)))) _ rfl (M.ok 1 _ rfl).2.1 Tryz.underlying49 rfl yD) rfl ⟨by rw [hr], M.below⟩
end Go.Proofs.YtidadhbaomieiaaGreat

namespace Go
namespace TL
def iterN {α : Type} (f : Nat → α → α) : Nat → α → α
 | 0, s => s
 | n + 1, s => f n (iterN f n s)
theorem qAY {α : Type} (f : Nat → α → α) (n : Nat) (s : α) : iterN f (n + 1) s = f n (iterN f n s) := rfl
theorem qDD {α : Type} (f : Nat → α → α) (p : α → Prop) (hf : ∀ n s, p s → p (f n s)) : ∀ (n : Nat) (s : α), p s → p (iterN f n s)
 | 0, _, h => h
 | n + 1, s, h => hf n _ (qDD f p hf n s h)
theorem qAb (f : Nat → List UInt8 → List UInt8) (hf : ∀ n s, (f n s).length = s.length) (n : Nat) (s : List UInt8) : (iterN f n s).length = s.length := by
 induction n with
 | zero => rfl
 | succ n ih => rw [qAY, hf, ih]
abbrev nth (l : List UInt8) (i : Nat) : UInt8 := l.getD i 0
/-! ### S -/
def tw (b : UInt8) : UInt8 := b <<< 1 ^^^ b >>> 7 * 27
def rl (b n : UInt8) : UInt8 := b <<< n ||| b >>> (8 - n)
structure BoxS where
 s : List UInt8
 p : UInt8
 q : UInt8
def boxQ (q : UInt8) : UInt8 :=
 let q1 := q ^^^ q <<< 1
 let q2 := q1 ^^^ q1 <<< 2
 let q3 := q2 ^^^ q2 <<< 4
 q3 ^^^ q3 >>> 7 * 9
def boxStep (_ : Nat) (x : BoxS) : BoxS := ⟨x.s.set x.p.toNat (x.q ^^^ rl x.q 1 ^^^ rl x.q 2 ^^^ rl x.q 3 ^^^ rl x.q 4 ^^^ 99), x.p ^^^ tw x.p, boxQ x.q⟩
def boxS (n : Nat) : BoxS := iterN boxStep n ⟨List.replicate 256 0, 1, 1⟩
theorem boxS_len (n : Nat) : (boxS n).s.length = 256 :=
 qDD boxStep (fun x => x.s.length = 256) (fun n s h => by unfold boxStep; simpa using h) n _ (List.length_replicate ..)
def boxL : List UInt8 := (boxS 255).s.set 0 99
theorem qFA : boxL.length = 256 := by unfold boxL; rw [List.length_set]; exact boxS_len _
/-! ### A key's words -/
def rotT (t : List UInt8) : List UInt8 := [nth t 1, nth t 2, nth t 3, nth t 0]
def subT (s : List UInt8) (k : Nat) (t : List UInt8) : List UInt8 := t.set k (nth s (nth t k).toNat)
def word1 (W : List UInt8) (i : Nat) : List UInt8 := (W.drop (4 * (i - 1))).take 4
def word2 (W : List UInt8) (i : Nat) : List UInt8 := if i % 8 = 0 then rotT (word1 W i) else word1 W i
def word3 (s W : List UInt8) (i : Nat) : List UInt8 := if i % 4 = 0 then iterN (subT s) 4 (word2 W i) else word2 W i
def word4 (s W : List UInt8) (pw : UInt8) (i : Nat) : List UInt8 := if i % 8 = 0 then (word3 s W i).set 0 (nth (word3 s W i) 0 ^^^ pw) else word3 s W i
def powI (pw : UInt8) (i : Nat) : UInt8 := if i % 8 = 0 then tw pw else pw
def addT (t : List UInt8) (i k : Nat) (W : List UInt8) : List UInt8 := W.set (4 * i + k) (nth W (4 * (i - 8) + k) ^^^ nth t k)
def schW (s : List UInt8) (n : Nat) (x : List UInt8 × UInt8) : List UInt8 × UInt8 := (iterN (addT (word4 s x.1 x.2 (n + 8)) (n + 8)) 4 x.1, powI x.2 (n + 8))
def schS (s key : List UInt8) (n : Nat) : List UInt8 × UInt8 := iterN (schW s) n (key ++ List.replicate 208 0, 1)
def schL (s key : List UInt8) : List UInt8 := (schS s key 52).1
theorem qDR (t : List UInt8) (i n : Nat) (W : List UInt8) : (addT t i n W).length = W.length := by unfold addT; rw [List.length_set]
theorem schS_len (s key : List UInt8) (hk : key.length = 32) (n : Nat) : (schS s key n).1.length = 240 :=
 qDD (schW s) (fun x => x.1.length = 240) (fun n x h => by unfold schW; simp only; rw [qAb _ (qDR _ _)]; exact h) n _ (by show (key ++ _).length = 240; rw [List.length_append, hk, List.length_replicate])
theorem schL_len (s key : List UInt8) (hk : key.length = 32) : (schL s key).length = 240 := schS_len s key hk _
theorem word1_len {W : List UInt8} {i : Nat} (hW : W.length = 240) (h1 : 1 ≤ i) (h2 : i ≤ 60) : (word1 W i).length = 4 := by unfold word1; simp; omega
theorem subT_len (s : List UInt8) (k : Nat) (t : List UInt8) : (subT s k t).length = t.length := by unfold subT; rw [List.length_set]
/-! ### A block -/
def addB (W : List UInt8) (round i : Nat) (b : List UInt8) : List UInt8 := b.set i (nth b i ^^^ nth W (16 * round + i))
def addL (W b : List UInt8) (round : Nat) : List UInt8 := iterN (addB W round) 16 b
def mixN (b : List UInt8) (i k : Nat) : UInt8 := nth b (i / 4 * 4 + (i + k) % 4)
def mixB (b : List UInt8) (i : Nat) (out : List UInt8) : List UInt8 := out.set i (tw (mixN b i 0) ^^^ tw (mixN b i 1) ^^^ mixN b i 1 ^^^ mixN b i 2 ^^^ mixN b i 3)
def mixL (b : List UInt8) : List UInt8 := iterN (mixB b) 16 (List.replicate 16 0)
def subB (s b : List UInt8) (i : Nat) (t : List UInt8) : List UInt8 := t.set i (nth s (nth b ((i + 4 * (i % 4)) % 16)).toNat)
def subL (s b : List UInt8) : List UInt8 := iterN (subB s b) 16 (List.replicate 16 0)
def roundL (s W : List UInt8) (n : Nat) (b : List UInt8) : List UInt8 := addL W (if n + 1 < 14 then mixL (subL s b) else subL s b) (n + 1)
def blockL (s W b : List UInt8) : List UInt8 := iterN (roundL s W) 14 (addL W b 0)
theorem addB_len (W : List UInt8) (r i : Nat) (b : List UInt8) : (addB W r i b).length = b.length := by unfold addB; rw [List.length_set]
theorem qDS (W b : List UInt8) (r : Nat) : (addL W b r).length = b.length := qAb _ (addB_len W r) _ _
theorem mixL_len (b : List UInt8) : (mixL b).length = 16 := by unfold mixL; rw [qAb _ (fun n s => by unfold mixB; rw [List.length_set]), List.length_replicate]
theorem qEt (s b : List UInt8) : (subL s b).length = 16 := by unfold subL; rw [qAb _ (fun n s => by unfold subB; rw [List.length_set]), List.length_replicate]
theorem qGG (s W : List UInt8) (n : Nat) (b : List UInt8) : (roundL s W n b).length = 16 := by unfold roundL; rw [qDS]; split; exact mixL_len _; exact qEt _ _
theorem blockL_len (s W b : List UInt8) (hb : b.length = 16) : (blockL s W b).length = 16 :=
 qDD _ (fun l => l.length = 16) (fun n x _ => qGG s W n x) 14 _ (by rw [qDS]; exact hb)
/-! ### A stream -/
def xorB (out : List UInt8) (at' i : Nat) (b : List UInt8) : List UInt8 := b.set (at' + i) (nth b (at' + i) ^^^ nth out i)
def strB (s W nonce : List UInt8) (k : Nat) (b : List UInt8) : List UInt8 := iterN (xorB (blockL s W (nonce ++ bigB (UInt64.ofNat k) 4)) (16 * k)) (min 16 (b.length - 16 * k)) b
def strN (s W nonce : List UInt8) (n : Nat) (b : List UInt8) : List UInt8 := iterN (strB s W nonce) n b
def streamL (key nonce text : List UInt8) : List UInt8 := strN boxL (schL boxL key) nonce ((text.length + 15) / 16) text
theorem xorB_len (out : List UInt8) (a i : Nat) (b : List UInt8) : (xorB out a i b).length = b.length := by unfold xorB; rw [List.length_set]
theorem strB_len (s W nonce : List UInt8) (k : Nat) (b : List UInt8) : (strB s W nonce k b).length = b.length := qAb _ (xorB_len _ _) _ _
theorem strN_len (s W nonce : List UInt8) (n : Nat) (b : List UInt8) : (strN s W nonce n b).length = b.length := qAb _ (strB_len s W nonce) _ _
theorem qAy (key nonce text : List UInt8) : (streamL key nonce text).length = text.length := strN_len _ _ _ _ _
/-! ### Twice a stream -/
theorem nth_set (l : List UInt8) (i j : Nat) (v : UInt8) (h : i < l.length) : nth (l.set i v) j = if i = j then v else nth l j := by
 unfold nth
 simp only [List.getD_eq_getElem?_getD, List.getElem?_set]
 by_cases e : i = j
 ·subst e; simp [h]
 ·simp [e]
theorem qEe {l m : List UInt8} (h : l.length = m.length) (hh : ∀ i, i < l.length → nth l i = nth m i) : l = m := by
 apply List.ext_getElem h
 intro i h1 h2
 have := hh i h1
 unfold nth at this
 simpa [List.getD_eq_getElem?_getD, List.getElem?_eq_getElem h1, List.getElem?_eq_getElem h2] using this
theorem qFm (f : Nat → List UInt8 → List UInt8) (o : Nat) (v : Nat → List UInt8 → UInt8) (hf : ∀ i l, f i l = l.set (o + i) (v i l)) (hv : ∀ i l m, l.length = m.length → nth l (o + i) = nth m (o + i) → v i l = v i m) (l : List UInt8) :
  ∀ (n : Nat), o + n ≤ l.length → ∀ j, nth (iterN f n l) j = if o ≤ j ∧ j < o + n then v (j - o) l else nth l j
 | 0, _, j => by rw [if_neg yF]; rfl
 | n + 1, h, j => by
  have ih := qFm f o v hf hv l n yF
  have hl : (iterN f n l).length = l.length := qAb f (fun i m => by rw [hf, List.length_set]) n l
  rw [qAY, hf, nth_set _ _ _ _ (by rw [hl]; omega)]
  by_cases e : o + n = j
  ·subst e
   rw [if_pos rfl, if_pos yF]
   rw [hv n _ l hl (by rw [ih]; rw [if_neg yF])]
   congr 1; omega
  ·rw [if_neg e, ih]
   by_cases h2 : o ≤ j ∧ j < o + n
   ·rw [if_pos h2, if_pos yF]
   ·rw [if_neg h2, if_neg yF]
theorem strB_nth (s W nonce : List UInt8) (k : Nat) (b : List UInt8) (j : Nat) (hk : 16 * k ≤ b.length) : nth (strB s W nonce k b) j = if 16 * k ≤ j ∧ j < 16 * k + 16 ∧ j < b.length then nth b j ^^^ nth (blockL s W (nonce ++ bigB (UInt64.ofNat k) 4)) (j - 16 * k) else nth b j := by
 unfold strB
 rw [qFm (xorB (blockL s W (nonce ++ bigB (UInt64.ofNat k) 4)) (16 * k)) (16 * k) (fun i l => nth l (16 * k + i) ^^^ nth (blockL s W (nonce ++ bigB (UInt64.ofNat k) 4)) i) (fun i l => rfl) (fun i l m _ h => by rw [h]) b _ yF]
 by_cases h : 16 * k ≤ j ∧ j < 16 * k + min 16 (b.length - 16 * k)
 ·rw [if_pos h, if_pos yF, show 16 * k + (j - 16 * k) = j by omega]
 ·rw [if_neg h, if_neg yF]
theorem strN_nth (s W nonce : List UInt8) (b : List UInt8) : ∀ (n j : Nat), 16 * n < b.length + 16 → nth (strN s W nonce n b) j = if j < 16 * n ∧ j < b.length then nth b j ^^^ nth (blockL s W (nonce ++ bigB (UInt64.ofNat (j / 16)) 4)) (j % 16) else nth b j
 | 0, j, _ => by rw [if_neg yF]; rfl
 | n + 1, j, h => by
  have ih := strN_nth s W nonce b n j yF
  have hl := strN_len s W nonce n b
  unfold strN at ih hl ⊢
  rw [qAY, strB_nth _ _ _ _ _ _ (by rw [hl]; omega), hl]
  by_cases h1 : 16 * n ≤ j ∧ j < 16 * n + 16 ∧ j < b.length
  ·rw [if_pos h1, if_pos yF, ih, if_neg yF, show j / 16 = n by omega, show j % 16 = j - 16 * n by omega]
  ·rw [if_neg h1, ih]
   by_cases h2 : j < 16 * n ∧ j < b.length
   ·rw [if_pos h2, if_pos yF]
   ·rw [if_neg h2, if_neg yF]
theorem qDe (key nonce text : List UInt8) (j : Nat) (hj : j < text.length) : nth (streamL key nonce text) j = nth text j ^^^ nth (blockL boxL (schL boxL key) (nonce ++ bigB (UInt64.ofNat (j / 16)) 4)) (j % 16) := by
 unfold streamL
 rw [strN_nth _ _ _ _ _ _ yF, if_pos yF]
theorem streamL_twice (key nonce text : List UInt8) : streamL key nonce (streamL key nonce text) = text := by
 refine qEe (by rw [qAy, qAy]) fun i hi => ?_
 rw [qAy, qAy] at hi
 rw [qDe _ _ _ _ (by rw [qAy]; exact hi), qDe _ _ _ _ hi, UInt8.xor_assoc, UInt8.xor_self, UInt8.xor_zero]
end TL
end Go

namespace Go
namespace TL
theorem qCn (x : UInt8) : (I8 x).toNat = x.toNat := by unfold I8; simp
end TL
end Go
namespace Go.Proofs.YtidadhbaomieiaaGreat
open Go.RowKit Go.TL
theorem qDc (b : UInt8) (w : World) :
  Calls Tryz.prog 177 #[.int .u8 (I8 b)] w fun e w' => e = .returned (.int .u8 (I8 (tw b))) ∧ w = w' := by
 go_enter Tryz.func177, Tryz.ntmps177
 go_wp2
 go_ret
 exact ⟨rfl, rfl⟩
theorem rot8_c (b n : UInt8) (k : Int) (w : World) (hk : (k = 1 ∧ n = 1) ∨ (k = 2 ∧ n = 2) ∨ (k = 3 ∧ n = 3) ∨ (k = 4 ∧ n = 4)) :
  Calls Tryz.prog 191 #[.int .u8 (I8 b), .int .i64 k] w fun e w' => e = .returned (.int .u8 (I8 (rl b n))) ∧ w = w' := by
 have h1 : I64 (1 &&& 7) = 1 := by decide
 have h2 : I64 (2 &&& 7) = 2 := by decide
 have h3 : I64 (3 &&& 7) = 3 := by decide
 have h4 : I64 (4 &&& 7) = 4 := by decide
 have k7 : I64 7 = 7 := by decide
 have k6 : I64 6 = 6 := by decide
 have k5 : I64 5 = 5 := by decide
 have k4 : I64 4 = 4 := by decide
 rcases hk with ⟨rfl, rfl⟩ | ⟨rfl, rfl⟩ | ⟨rfl, rfl⟩ | ⟨rfl, rfl⟩
 all_goals
  go_enter Tryz.func191, Tryz.ntmps191
  go_wp2
  go_ret
  exact ⟨rfl, rfl⟩
theorem box_c (w : World) :
  Calls Tryz.prog 176 #[] w fun e w' => e = .returned (.agg (bs boxL).toArray) ∧ Below w.heap.size w w' := by
 have M := Mem.start [] w
 go_enter Tryz.func176, Tryz.ntmps176
 go_wp2_with ((first | ((with_reducible refine tAlloc (some 0) 256 ?_); refine wal M _ rfl rfl (bs (List.replicate 256 (0 : UInt8))) yD ?_; clear M; intro gs w1 M) | ((with_reducible refine tM rfl ?_); refine mB ?_; try (clear M; (first | intro g w1 M | intro w1 M); try simp only [setC] at M)) | ((with_reducible refine tGuard ?_); refine gdC ?_ ?_ <;> (intro hgd; rw [hgd]; try (exfalso; simp at hgd; omega)))) <;> (try conv => arg 5; simp only [Act.put, List.setIfInBounds_toArray, setC]))
 go_loopw [1, 2, 3] (fun pv qv kv wr => ∃ k : Nat, k ≤ 255 ∧ kv = .int .i64 k ∧ pv = .int .u8 (I8 (boxS k).p) ∧ qv = .int .u8 (I8 (boxS k).q) ∧ Mem [] w wr [.row gs (bs (boxS k).s)]) (fun _ _ kv _ => 255 - (intOf kv).toNat)
 case atStart => exact ⟨0, by omega, rfl, rfl, rfl, M⟩
 case round =>
  clear M
  obtain ⟨k, hk, rfl, rfl, rfl, M⟩ := hrel
  have hl := boxS_len k
  by_cases hlt : k < 255
  ·obtain ⟨x, ex⟩ : ∃ x, x = boxS k := ⟨_, rfl⟩
   rw [← ex] at M hl
   rw [← ex]
   have e : boxS (k + 1) = boxStep k x := by rw [ex]; rfl
   have E := Lib.hid e
   have hp := x.p.toNat_lt
   have hp0 := (I8_bd x.p).1
   have hp1 := (I8_bd x.p).2
   have hp2 := qCn x.p
   have hp3 : x.p.toNat < 256 := hp
   clear e ex hp
   go_wp2_with ((first | (go_at_call 177; (refine (qDc _ _).mono ?_; rintro e w1 ⟨rfl, rfl⟩)) | (go_at_call 191; ((first | (with_reducible refine (rot8_c _ 1 1 _ yN).mono ?_) | (with_reducible refine (rot8_c _ 2 2 _ yN).mono ?_) | (with_reducible refine (rot8_c _ 3 3 _ yN).mono ?_) | (with_reducible refine (rot8_c _ 4 4 _ yN).mono ?_)); rintro e w1 ⟨rfl, rfl⟩)) | ((with_reducible refine tM rfl ?_); refine mB ?_; try (clear M; (first | intro g w1 M | intro w1 M); try simp only [setC] at M)) | ((with_reducible refine tGuard ?_); refine gdC ?_ ?_ <;> (intro hgd; rw [hgd]; try (exfalso; simp at hgd; omega)))) <;> (try conv => arg 5; simp only [Act.put, List.setIfInBounds_toArray, setC]))
   go_roundw
   case rel => exact ⟨k + 1, by omega, by go_num, by rw [E.out]; rfl, by rw [E.out]; rfl, by rw [E.out]; exact M⟩
   case measure => simp [intOf]; omega
  ·obtain rfl : k = 255 := by omega
   have E := Lib.hid (show boxL = (boxS 255).s.set 0 99 from rfl)
   obtain ⟨x, ex⟩ : ∃ x, x = boxS 255 := ⟨_, rfl⟩
   rw [← ex] at M hl
   rw [← ex]
   rw [← ex] at E
   clear ex
   have hl2 : (x.s.set 0 99).length = 256 := by rw [List.length_set]; exact hl
   go_wp2_with ((first | ((with_reducible refine tM rfl ?_); refine mC ?_; try (clear M; (first | intro g w1 M | intro w1 M); try simp only [setC] at M; try simp only [w8_lit] at M)) | ((with_reducible refine tGuard ?_); refine gdC ?_ ?_ <;> (intro hgd; rw [hgd]; try (exfalso; simp at hgd; omega)))) <;> (try conv => arg 5; simp only [Act.put, List.setIfInBounds_toArray, setC]))
   rw [← E.out] at M
   exact bodyPost_ret (qAS rfl _ _ gs 0 (bs boxL) _ rfl (M.ok 0 _ rfl).2.1 Tryz.underlying256 rfl (by rw [qAP, qFA]; kernel_rfl)) rfl ⟨rfl, M.below⟩
theorem aesPut (base : Nat) (v : Value) (l : List UInt8) (x : UInt64) (n : Nat) (w : World) (hown : OwnB w base v l) (hbase : base ≤ w.heap.size) (hn : n ≤ 8) (hl : l.length ≤ 1000000000000) :
  Calls Tryz.prog 149 #[v, .int .u64 (I64 x), .int .i64 n] w fun e w' => ∃ v', e = .returned v' ∧ OwnB w' base v' (l ++ bigB x n) ∧ w.grownBy w' v.ownBlock ∧ FreshOr w v v' := by
 go_enter Tryz.func149, Tryz.ntmps149
 go_wp2
 go_loopw [0, 7] (fun b i wr => ∃ (j : Nat) (done : List UInt8), j ≤ n ∧ i = .int .i64 ((j : Int) - 1) ∧ done.length ≤ 8 ∧ done ++ bigB x j = bigB x n ∧ OwnB wr base b (l ++ done) ∧ w.grownBy wr v.ownBlock ∧ FreshOr w v b) (fun _ i _ => (intOf i + 1).toNat)
 case atStart => exact ⟨n, [], by omega, rfl, by simp, rfl, by simpa using hown, grownBy_refl _ _, .inl rfl⟩
 case round =>
  obtain ⟨j, done, hj, rfl, hd, H, ho, hg, hf⟩ := hrel
  have H' := Lib.hid H; clear H
  have ho' := Lib.hid ho; clear ho
  have hg' := Lib.hid hg; clear hg
  have hf' := Lib.hid hf; clear hf
  cases j with
  | zero =>
   go_wp2
   go_ret
   have hx : done = bigB x n := by have := H'.out; simpa [bigB] using this
   subst hx
   exact ⟨_, rfl, ho'.out, hg'.out, hf'.out⟩
  | succ i =>
   have e : ((i + 1 : Nat) : Int) - 1 = i := by omega
   rw [e]; clear e
   have b1 : 8 * (i : Int) ≤ 63 := by omega
   have b0 : 0 ≤ 8 * (i : Int) := by omega
   go_wp2_with (at_builtin; refine qAw bytesT rfl (.tmp 14) (.tmp 20) rfl base wr [_] _ _ rfl u0 (l ++ done) rfl ho'.out rfl ?_ ?_ ?_)
   ·simp; omega
   ·have := hg'.out.size; omega
   ·intro v' w1 hown1 hg1 hf1
    have hg2 := Lib.hid (grow_step hg'.out hf'.out hg1)
    have hf2 := Lib.hid (qCk hg'.out.size hf'.out hf1)
    have hown2 := Lib.hid hown1
    clear hown1 hg1 hf1
    go_wp2
    go_roundw
    case rel => exact ⟨i, done ++ [(x >>> (8 * UInt64.ofNat i)).toUInt8], by omega, by go_num, by have := qAW x n; rw [← H'.out] at this; simp [bigB, qAW] at this ⊢; omega, by rw [← H'.out]; simp [bigB], hown2.out, hg2.out, hf2.out⟩
    case measure => simp [intOf]
theorem aesPutc (v : Value) (l : List UInt8) (x : UInt64) (n : Nat) (w : World) (hok : (Chunk.sl 1 v l.length (bs l)).ok w) (hn : n ≤ 8) (hl : l.length ≤ 1000000000000) :
  Calls Tryz.prog 149 #[v, .int .u64 (I64 x), .int .i64 n] w fun e w' => ∃ p cap, e = .returned (.slice p (l ++ bigB x n).length cap) ∧ Upd w (.sl 1 v l.length (bs l)) w' (.sl 1 (.slice p (l ++ bigB x n).length cap) (l ++ bigB x n).length (bs (l ++ bigB x n))) :=
 (aesPut 0 v l x n w hok (Nat.zero_le _) hn hl).mono fun e w' h => by
  obtain ⟨v', rfl, ho, hg, hf⟩ := h
  obtain ⟨p, cap, rfl⟩ := Own.form0 ho
  refine ⟨p, cap, rfl, Kept.grown hg, ho, fun k hk => ?_⟩
  simp only [Chunk.fp, Option.mem_toList] at hk ⊢
  rcases hf with hf | ⟨g, h1, h2⟩
  ·exact .inl (by rw [← hf]; exact hk)
  ·rw [h1] at hk; cases hk; exact .inr h2
theorem sealPut (base : Nat) (v : Value) (l : List UInt8) (x : UInt64) (n : Nat) (w : World) (hown : OwnB w base v l) (hbase : base ≤ w.heap.size) (hn : n ≤ 8) (hl : l.length ≤ 1000000000000) :
  Calls Tryz.prog 108 #[v, .int .u64 (I64 x), .int .i64 n] w fun e w' => ∃ v', e = .returned v' ∧ OwnB w' base v' (l ++ bigB x n) ∧ w.grownBy w' v.ownBlock ∧ FreshOr w v v' := by
 go_enter Tryz.func108, Tryz.ntmps108
 go_wp2
 go_loopw [0, 7] (fun b i wr => ∃ (j : Nat) (done : List UInt8), j ≤ n ∧ i = .int .i64 ((j : Int) - 1) ∧ done.length ≤ 8 ∧ done ++ bigB x j = bigB x n ∧ OwnB wr base b (l ++ done) ∧ w.grownBy wr v.ownBlock ∧ FreshOr w v b) (fun _ i _ => (intOf i + 1).toNat)
 case atStart => exact ⟨n, [], by omega, rfl, by simp, rfl, by simpa using hown, grownBy_refl _ _, .inl rfl⟩
 case round =>
  obtain ⟨j, done, hj, rfl, hd, H, ho, hg, hf⟩ := hrel
  have H' := Lib.hid H; clear H
  have ho' := Lib.hid ho; clear ho
  have hg' := Lib.hid hg; clear hg
  have hf' := Lib.hid hf; clear hf
  cases j with
  | zero =>
   go_wp2
   go_ret
   have hx : done = bigB x n := by have := H'.out; simpa [bigB] using this
   subst hx
   exact ⟨_, rfl, ho'.out, hg'.out, hf'.out⟩
  | succ i =>
   have e : ((i + 1 : Nat) : Int) - 1 = i := by omega
   rw [e]; clear e
   have b1 : 8 * (i : Int) ≤ 63 := by omega
   have b0 : 0 ≤ 8 * (i : Int) := by omega
   go_wp2_with (at_builtin; refine qAw bytesT rfl (.tmp 14) (.tmp 20) rfl base wr [_] _ _ rfl u0 (l ++ done) rfl ho'.out rfl ?_ ?_ ?_)
   ·simp; omega
   ·have := hg'.out.size; omega
   ·intro v' w1 hown1 hg1 hf1
    have hg2 := Lib.hid (grow_step hg'.out hf'.out hg1)
    have hf2 := Lib.hid (qCk hg'.out.size hf'.out hf1)
    have hown2 := Lib.hid hown1
    clear hown1 hg1 hf1
    go_wp2
    go_roundw
    case rel => exact ⟨i, done ++ [(x >>> (8 * UInt64.ofNat i)).toUInt8], by omega, by go_num, by have := qAW x n; rw [← H'.out] at this; simp [bigB, qAW] at this ⊢; omega, by rw [← H'.out]; simp [bigB], hown2.out, hg2.out, hf2.out⟩
    case measure => simp [intOf]
theorem sealPutc (v : Value) (l : List UInt8) (x : UInt64) (n : Nat) (w : World) (hok : (Chunk.sl 1 v l.length (bs l)).ok w) (hn : n ≤ 8) (hl : l.length ≤ 1000000000000) :
  Calls Tryz.prog 108 #[v, .int .u64 (I64 x), .int .i64 n] w fun e w' => ∃ p cap, e = .returned (.slice p (l ++ bigB x n).length cap) ∧ Upd w (.sl 1 v l.length (bs l)) w' (.sl 1 (.slice p (l ++ bigB x n).length cap) (l ++ bigB x n).length (bs (l ++ bigB x n))) :=
 (sealPut 0 v l x n w hok (Nat.zero_le _) hn hl).mono fun e w' h => by
  obtain ⟨v', rfl, ho, hg, hf⟩ := h
  obtain ⟨p, cap, rfl⟩ := Own.form0 ho
  refine ⟨p, cap, rfl, Kept.grown hg, ho, fun k hk => ?_⟩
  simp only [Chunk.fp, Option.mem_toList] at hk ⊢
  rcases hf with hf | ⟨g, h1, h2⟩
  ·exact .inl (by rw [← hf]; exact hk)
  ·rw [h1] at hk; cases hk; exact .inr h2
theorem add_c (gc : Nat) (s W b : List UInt8) (r : Nat) (rv : Int) (hrv : rv = r) (w : World) (R : (Chunk.row gc (bs (W ++ s))).ok w) (hW : W.length = 240) (hs : s.length = 256) (hb : b.length = 16) (hr : r ≤ 14) :
  Calls Tryz.prog 178 #[.pointer (some ⟨gc, 0, none⟩), .agg (bs b).toArray, .int .i64 rv] w fun e w' => e = .returned (.agg (bs (addL W b r)).toArray) ∧ Below w.heap.size w w' := by
 subst hrv
 have M := Mem.start [] w
 have hWs : (W ++ s).length = 496 := by rw [List.length_append, hW, hs]
 have NW : ∀ i, i < 240 → (W ++ s).getD i 0 = nth W i := fun i hi => by
  unfold nth; simp only [List.getD_eq_getElem?_getD]; rw [List.getElem?_append_left yF]
 obtain ⟨C, eC⟩ : ∃ C, C = W ++ s := ⟨_, rfl⟩
 rw [← eC] at R hWs NW
 clear eC
 replace NW := Lib.hid NW
 go_enter Tryz.func178, Tryz.ntmps178
 go_wp2_with ((first | ((with_reducible refine tBox (some 4) ?_); refine w_box M _ _ rfl rfl _ rfl (bs b) rfl ?_; clear M; intro gb w1 M) | ((with_reducible refine tAlloc (some 6) 234 ?_); refine wal M _ rfl rfl (bs (List.replicate 16 (0 : UInt8))) yD ?_; clear M; intro go w1 M) | ((with_reducible refine tM rfl ?_); refine mB ?_; try (clear M; (first | intro g w1 M | intro w1 M); try simp only [setC] at M)) | ((with_reducible refine tGuard ?_); refine gdC ?_ ?_ <;> (intro hgd; rw [hgd]; try (exfalso; simp at hgd; omega)))) <;> (try conv => arg 5; simp only [Act.put, List.setIfInBounds_toArray, setC]))
 go_loopw [8] (fun kv wr => ∃ k : Nat, k ≤ 16 ∧ kv = .int .i64 k ∧ Mem [] w wr [.row go (bs (List.replicate 16 0)), .row gb (bs (iterN (addB W r) k b))]) (fun kv _ => 16 - (intOf kv).toNat)
 case atStart => exact ⟨0, by omega, rfl, M⟩
 case round =>
  clear M
  obtain ⟨k, hk, rfl, M⟩ := hrel
  obtain ⟨d, ed⟩ : ∃ d, d = iterN (addB W r) k b := ⟨_, rfl⟩
  have hd : d.length = 16 := by rw [ed, qAb _ (addB_len W r)]; exact hb
  rw [← ed] at M
  have ED := Lib.hid ed
  clear ed
  by_cases hlt : k < 16
  ·go_wp2_with ((first | ((with_reducible refine tLoad ?_); refine w_at _ _ rfl yI ?_; intro hx; (first | refine w_rowB M R _ _ rfl hx rfl yB yK ?_); clear hx) | ((with_reducible show Code.wp _ (Code.region 4 _ _) _ _ _); (have MR := M; refine qAB [(0, false), (1, false), (3, false), (4, false), (5, false), (6, false), (7, false), (8, false), (9, false), (10, false), (11, false), (12, false), (13, false), (14, false), (2, false), (15, false), (16, false), (17, false), (18, true)] [(15, .int), (17, .int), (16, .int), (18, .int), (20, .int), (14, .ptr), (13, .int), (26, .int)] [(2, _), (15, _)] (IxOk MR [1]) 18 yD yD rfl yD (lowA MR 1 k (qAa (stab_rowB MR R ((4*r+k/4)*4+k%4) rfl yB yK) qAN)) (qAJ MR _) ?_; replace M := M.drew; simp only [planC, opAt, gE])) | ((with_reducible refine tM rfl ?_); refine mB ?_; try (clear M; (first | intro g w1 M | intro w1 M); try simp only [setC] at M)) | ((with_reducible first | show Seg _ _ _ _ | show OnlyN _ _ _ _ _); refine rA ?_) | ((with_reducible refine tGuard ?_); refine gdC ?_ ?_ <;> (intro hgd; rw [hgd]; try (exfalso; simp at hgd; omega)))) <;> (try conv => arg 5; simp only [Act.put, List.setIfInBounds_toArray, setC]))
   have hC : C[(4 * r + k / 4) * 4 + k % 4]?.getD 0 = nth W (16 * r + k) := by
    rw [← NW.out _ yF, show 16 * r + k = (4 * r + k / 4) * 4 + k % 4 by omega, List.getD_eq_getElem?_getD]
   have hD : addB W r k d = d.set k (d[k] ^^^ nth W (16 * r + k)) := by
    unfold addB nth; simp [List.getElem?_eq_getElem (show k < d.length by omega)]
   rw [hC, ← hD] at M
   go_roundw
   case rel => exact ⟨k + 1, by omega, by go_num, by rw [qAY, ← ED.out]; exact M⟩
   case measure => simp [intOf]; omega
  ·obtain rfl : k = 16 := by omega
   go_wp2_with ((first | ((with_reducible refine tM rfl ?_); refine mB ?_; try (clear M; (first | intro g w1 M | intro w1 M); try simp only [setC] at M)) | ((with_reducible refine tGuard ?_); refine gdC ?_ ?_ <;> (intro hgd; rw [hgd]; try (exfalso; simp at hgd; omega)))) <;> (try conv => arg 5; simp only [Act.put, List.setIfInBounds_toArray, setC]))
   exact bodyPost_ret (qAS rfl _ _ go 0 (bs d) _ rfl (M.ok 0 _ rfl).2.1 Tryz.underlying234 rfl (by rw [qAP, hd]; kernel_rfl)) rfl ⟨by rw [show addL W b r = d from ED.out.symm], M.below⟩
theorem mix1_c (g ga gi : Nat) (b : List UInt8) (at' i k : Nat) (kv : Int) (hkv : kv = k) (w : World) (hb : b.length = 16) (R : (Chunk.row g (bs b)).ok w) (RA : (Chunk.row ga [.int .i64 at']).ok w) (RI : (Chunk.row gi [.int .i64 i]).ok w) (ha : at' + 3 < 16) (hi : i < 16) (hk : k < 4) :
  Calls Tryz.prog 192 #[.int .i64 kv, .pointer (some ⟨g, 0, none⟩), .pointer (some ⟨ga, 0, none⟩), .pointer (some ⟨gi, 0, none⟩)] w fun e w' => e = .returned (.int .u8 (I8 (nth b (at' + (i + k) % 4)))) ∧ Below w.heap.size w w' := by
 subst hkv
 have M := Mem.start [] w
 go_enter Tryz.func192, Tryz.ntmps192
 go_wp2_with (first | ((with_reducible show wpList _ _ _ (Oper.mk _ (Op.load _ _) _ _ _ _ :: _) _ _); refine w_at _ _ rfl yE ?_; intro hx; first | (refine w_rowB M R _ _ rfl hx rfl yB yK ?_; clear hx) | (refine w_rowC M RA _ _ rfl hx rfl yB rfl ?_; clear hx) | (refine w_rowC M RI _ _ rfl hx rfl yB rfl ?_; clear hx)))
 go_ret
 exact ⟨by simp [nth], M.below⟩
theorem mix_c (b : List UInt8) (w : World) (hb : b.length = 16) :
  Calls Tryz.prog 179 #[.agg (bs b).toArray] w fun e w' => e = .returned (.agg (bs (mixL b)).toArray) ∧ Below w.heap.size w w' := by
 have M := Mem.start [] w
 have hmf : ∀ (fn : Fn) (first cap : Array Value) (w : World), (Instr.makeFunc fn first cap).run Tryz.prog w = .ok (.func fn first cap) w := fun _ _ _ _ => rfl
 go_enter Tryz.func179, Tryz.ntmps179
 go_wp2_with ((first | ((with_reducible refine tBox (some 1) ?_); refine w_box M _ _ rfl rfl _ rfl (bs b) rfl ?_; clear M; intro gb w1 M) | ((with_reducible refine tAlloc (some 2) 234 ?_); refine wal M _ rfl rfl (bs (List.replicate 16 (0 : UInt8))) yD ?_; clear M; intro go w1 M) | ((with_reducible refine tM rfl ?_); refine mB ?_; try (clear M; (first | intro g w1 M | intro w1 M); try simp only [setC] at M)) | ((with_reducible refine tGuard ?_); refine gdC ?_ ?_ <;> (intro hgd; rw [hgd]; try (exfalso; simp at hgd; omega)))) <;> (try conv => arg 5; simp only [Act.put, List.setIfInBounds_toArray, setC]))
 go_loopw [6] (fun kv wr => ∃ k : Nat, k ≤ 16 ∧ kv = .int .i64 k ∧ Mem [] w wr [.row go (bs (iterN (mixB b) k (List.replicate 16 0))), .row gb (bs b)]) (fun kv _ => 16 - (intOf kv).toNat)
 case atStart => exact ⟨0, by omega, rfl, M⟩
 case round =>
  clear M
  obtain ⟨k, hk, rfl, M⟩ := hrel
  obtain ⟨d, ed⟩ : ∃ d, d = iterN (mixB b) k (List.replicate 16 0) := ⟨_, rfl⟩
  have hd : d.length = 16 := by rw [ed, qAb _ (fun n s => by unfold mixB; rw [List.length_set])]; exact List.length_replicate
  rw [← ed] at M
  have ED := Lib.hid ed
  clear ed
  by_cases hlt : k < 16
  ·have hk4 : k / 4 * 4 + 3 < 16 := by omega
   go_wp2_with ((first | ((with_reducible refine tAlloc (some 3) 3 ?_); refine qFH M _ rfl rfl (.int .i64 0) ([.int .i64 0]) yD rfl ?_; clear M; intro gi w1 M) | ((with_reducible refine tAlloc (some 4) 3 ?_); refine qFH M _ rfl rfl (.int .i64 0) ([.int .i64 0]) yD rfl ?_; clear M; intro ga w1 M) | (go_at_call 177; (refine (qDc _ _).mono ?_; rintro e w1 ⟨rfl, rfl⟩)) | (go_at_call 192; ((first | (with_reducible refine (mix1_c _ _ _ b _ _ 0 0 yN _ hb (M.ok 3 _ rfl) (M.ok 0 _ rfl) (M.ok 1 _ rfl) hk4 hlt yN).mono ?_) | (with_reducible refine (mix1_c _ _ _ b _ _ 1 1 yN _ hb (M.ok 3 _ rfl) (M.ok 0 _ rfl) (M.ok 1 _ rfl) hk4 hlt yN).mono ?_) | (with_reducible refine (mix1_c _ _ _ b _ _ 2 2 yN _ hb (M.ok 3 _ rfl) (M.ok 0 _ rfl) (M.ok 1 _ rfl) hk4 hlt yN).mono ?_) | (with_reducible refine (mix1_c _ _ _ b _ _ 3 3 yN _ hb (M.ok 3 _ rfl) (M.ok 0 _ rfl) (M.ok 1 _ rfl) hk4 hlt yN).mono ?_)); rintro e w1 ⟨rfl, hbl⟩; replace M := M.call hbl; clear hbl)) | ((with_reducible show Code.wp _ (Code.region 6 _ _) _ _ _); (have MR := M; refine qAB [(1, false), (4, false), (8, false), (11, false), (14, false), (0, false), (2, true), (3, true), (5, true), (6, true), (7, false), (9, true), (10, false), (12, true), (13, false), (15, true), (16, false), (17, false), (18, true)] [(16, .int), (19, .int), (20, .int), (22, .int), (23, .int), (25, .int), (26, .int), (28, .int)] [(0, _)] (IxOk MR [1]) 18 yD yD rfl yD (lowA MR 1 0 qAN) (qAJ MR _) ?_; replace M := M.drew; simp only [planC, opAt, gE])) | ((with_reducible refine tM rfl ?_); refine mB ?_; try (clear M; (first | intro g w1 M | intro w1 M); try simp only [setC] at M)) | ((with_reducible first | show Seg _ _ _ _ | show OnlyN _ _ _ _ _); refine rA ?_) | ((with_reducible refine tGuard ?_); refine gdC ?_ ?_ <;> (intro hgd; rw [hgd]; try (exfalso; simp at hgd; omega)))) <;> (try conv => arg 5; simp only [Act.put, List.setIfInBounds_toArray, setC]))
   have hD : mixB b k d = d.set k (tw (b[k / 4 * 4 + k % 4]?.getD 0) ^^^ tw (b[k / 4 * 4 + (k + 1) % 4]?.getD 0) ^^^ b[k / 4 * 4 + (k + 1) % 4]?.getD 0 ^^^ b[k / 4 * 4 + (k + 2) % 4]?.getD 0 ^^^ b[k / 4 * 4 + (k + 3) % 4]?.getD 0) := by
    unfold mixB mixN nth; simp only [List.getD_eq_getElem?_getD, Nat.add_zero]
   rw [← hD] at M
   replace M := M.tail.tail
   go_roundw
   case rel => exact ⟨k + 1, by omega, by go_num, by rw [qAY, ← ED.out]; exact M⟩
   case measure => simp [intOf]; omega
  ·obtain rfl : k = 16 := by omega
   go_wp2_with ((first | ((with_reducible refine tM rfl ?_); refine mB ?_; try (clear M; (first | intro g w1 M | intro w1 M); try simp only [setC] at M)) | ((with_reducible refine tGuard ?_); refine gdC ?_ ?_ <;> (intro hgd; rw [hgd]; try (exfalso; simp at hgd; omega)))) <;> (try conv => arg 5; simp only [Act.put, List.setIfInBounds_toArray, setC]))
   have e : mixL b = d := ED.out.symm
   exact bodyPost_ret (qAS rfl _ _ go 0 (bs d) _ rfl (M.ok 0 _ rfl).2.1 Tryz.underlying234 rfl (by rw [qAP, hd]; kernel_rfl)) rfl ⟨by rw [e], M.below⟩
end Go.Proofs.YtidadhbaomieiaaGreat

namespace Go
namespace TL
theorem foldl_off (o : Nat) (l : List Value) : ∀ (k : Nat) (C : Array Value), (l.zipIdx k).foldl (fun cs x => cs.setIfInBounds (o + x.2) x.1) C = (l.zipIdx (o + k)).foldl (fun cs x => cs.setIfInBounds x.2 x.1) C := by
 induction l with
 | nil => intro k C; rfl
 | cons v t ih => intro k C; rw [List.zipIdx_cons, List.zipIdx_cons, List.foldl_cons, List.foldl_cons, ih]; rfl
theorem foldl_at (o : Nat) (l : List Value) (C : Array Value) (h : o + l.length ≤ C.size) : (l.zipIdx.foldl (fun cs x => cs.setIfInBounds (o + x.2) x.1) C).toList = C.toList.take o ++ l ++ C.toList.drop (o + l.length) := by
 rw [foldl_off, Nat.add_zero]; exact foldl_set l o C h
theorem copy_step (key s : List UInt8) (k : Nat) (hk : k < 8) (hl : key.length = 32) :
  (key.take (4 * k) ++ (List.replicate (240 - 4 * k) 0 ++ s)).take (k * 4) ++ ((((key.drop (4 * k)).take (32 - 4 * k))).take 4 ++ (key.take (4 * k) ++ (List.replicate (240 - 4 * k) 0 ++ s)).drop (k * 4 + 4)) = key.take (4 * (k + 1)) ++ (List.replicate (240 - 4 * (k + 1)) 0 ++ s) := by
 have e1 : (key.take (4 * k)).length = 4 * k := by simp; omega
 rw [show k * 4 = 4 * k by omega, List.take_left' e1, ← List.drop_drop, List.drop_left' e1, List.take_take, Nat.min_eq_left yF, ← List.append_assoc, show 4 * (k + 1) = 4 * k + 4 by omega, List.take_add]
 congr 1
 rw [show 240 - 4 * k = 4 + (240 - (4 * k + 4)) by omega, ← List.replicate_append_replicate, List.append_assoc, List.drop_left' yB1]
theorem Mem.take1 {F : List Nat} {w0 w : World} {c : Chunk} {L : List Chunk} (M : Mem F w0 w (c :: L)) : Mem F w0 w [c] :=
 M.pick _ (fun i => i) (fun _ _ _ _ h => h) fun i c' h => by
  cases i with
  | zero => simpa using h
  | succ i => simp at h
theorem take_in (W s : List UInt8) (m : Nat) (h : m + 4 ≤ W.length) : ((W ++ s).drop m).take 4 = (W.drop m).take 4 := by
 rw [List.drop_append_of_le_length yF, List.take_append_of_le_length yC1]
theorem set_in (W s : List UInt8) (m : Nat) (v : UInt8) (h : m < W.length) : (W ++ s).set m v = W.set m v ++ s := by
 rw [List.set_append_left _ _ h]
theorem nth_in (W s : List UInt8) (m : Nat) (h : m < W.length) : nth (W ++ s) m = nth W m := by
 unfold nth; simp only [List.getD_eq_getElem?_getD]; rw [List.getElem?_append_left h]
theorem nth_out (W s : List UInt8) (n m : Nat) (h : W.length = n) : nth (W ++ s) (n + m) = nth s m := by
 unfold nth; simp only [List.getD_eq_getElem?_getD]; rw [List.getElem?_append_right yF, h, Nat.add_sub_cancel_left]
theorem qBZ (l : List UInt8) (k : Nat) (h : k < l.length) : l[k] = nth l k := by unfold nth; simp [List.getElem?_eq_getElem h]
theorem qBd (l : List UInt8) (k : Nat) : l[k]?.getD 0 = nth l k := by unfold nth; rw [List.getD_eq_getElem?_getD]
end TL
end Go
namespace Go.Proofs.YtidadhbaomieiaaGreat
open Go.RowKit Go.TL
theorem schedule_c (key : List UInt8) (w : World) (hk : key.length = 32) :
  Calls Tryz.prog 148 #[.agg (bs key).toArray] w fun e w' => ∃ g, e = .returned (.pointer (some ⟨g, 0, none⟩)) ∧ Mem [] w w' [.row g (bs (schL boxL key ++ boxL))] := by
 have M := Mem.start [] w
 have B := box_c
 have hs := qFA
 obtain ⟨s, es⟩ : ∃ s, s = boxL := ⟨_, rfl⟩
 rw [← es] at B hs
 rw [← es]
 replace B := Lib.hid B
 clear es
 have hbs : (bs s).length = 256 := by rw [qAP, hs]
 go_enter Tryz.func148, Tryz.ntmps148
 go_wp2_with ((first | ((with_reducible refine tBox (some 1) ?_); refine w_box M _ _ rfl rfl _ rfl (bs key) rfl ?_; clear M; intro gk w1 M) | (go_at_call 176; (refine (B.out _).mono ?_; rintro e w1 ⟨rfl, hb⟩; replace M := M.call hb; clear hb)) | ((with_reducible refine tBox (some 12) ?_); refine w_box M _ _ rfl rfl _ rfl (_) rfl ?_; clear M; intro g w1 M) | ((with_reducible refine tM rfl ?_); refine mB ?_; try (clear M; (first | intro g w1 M | intro w1 M); try simp only [setC] at M)) | ((with_reducible refine tGuard ?_); refine gdC ?_ ?_ <;> (intro hgd; rw [hgd]; try (exfalso; simp at hgd; omega)))) <;> (try conv => arg 5; simp only [Act.put, List.setIfInBounds_toArray, setC]))
 have hz : Tryz.zeroCells261.toList = bs (List.replicate 496 0) := by kernel_rfl
 have e := foldl_at 240 (bs s) Tryz.zeroCells261 (by rw [hbs]; decide +kernel)
 have e2 : (bs (List.replicate 496 0)).take 240 ++ bs s ++ (bs (List.replicate 496 0)).drop (240 + (bs s).length) = bs (key.take (4 * 0) ++ (List.replicate (240 - 4 * 0) 0 ++ s)) := by
  rw [hbs, List.drop_eq_nil_of_le (by rw [qAP, List.length_replicate]; omega), List.append_nil]
  simp [bs]
 rw [hz, e2] at e
 rw [e] at M
 clear e e2 hz
 go_loopw [13] (fun kv wr => ∃ k : Nat, k ≤ 8 ∧ kv = .int .i64 k ∧ Mem [] w wr [.row g (bs (key.take (4 * k) ++ (List.replicate (240 - 4 * k) 0 ++ s))), .row gk (bs key)]) (fun kv _ => 8 - (intOf kv).toNat)
 case atStart => exact ⟨0, by omega, rfl, M⟩
 case round =>
  clear M
  obtain ⟨k, hk8, rfl, M⟩ := hrel
  by_cases hlt : k < 8
  ·have CS := copy_step key s k hlt hk
   have hl : (key.take (4 * k) ++ (List.replicate (240 - 4 * k) 0 ++ s)).length = 496 := by simp; omega
   obtain ⟨l, el⟩ : ∃ l, l = key.take (4 * k) ++ (List.replicate (240 - 4 * k) 0 ++ s) := ⟨_, rfl⟩
   rw [← el] at M CS hl
   replace CS := Lib.hid CS
   clear el
   have h4 : 4 * (k : Int) ≤ 32 := by omega
   have h5 : 0 ≤ 4 * (k : Int) := by omega
   have h6 : (4 * (k : Int)).toNat = 4 * k := by omega
   go_wp2_with ((first | ((with_reducible show Code.wp _ (Code.region 5 _ _) _ _ _); (refine qAF [(0, false), (1, false), (2, false), (3, false), (4, false), (5, false), (6, false), (7, false), (8, false), (9, true)] [(16, .ptr), (22, .int)] yD yD rfl yD ?_; replace M := M.drew; simp only [reord, opAt, List.map_cons, List.map_nil, gE])) | ((with_reducible show wpList _ _ _ (Oper.mk _ (Op.call ⟨Callee.builtin Builtin.copy, _, _⟩) _ _ _ _ :: _) _ _); (refine w_copyB M 0 bytesT _ _ _ rfl rfl rfl rfl rfl (qDH (M.ok 1 _ rfl) yF (Nat.le_refl _) yZ) 4 yC1 yF ?_; clear M; intro w1 M; simp only [List.set_cons_zero] at M)) | ((with_reducible refine tM rfl ?_); refine mB ?_; try (clear M; (first | intro g w1 M | intro w1 M); try simp only [setC] at M)) | ((with_reducible first | show Seg _ _ _ _ | show OnlyN _ _ _ _ _); refine rA ?_) | ((with_reducible refine tGuard ?_); refine gdC ?_ ?_ <;> (intro hgd; rw [hgd]; try (exfalso; simp at hgd; omega)))) <;> (try conv => arg 5; simp only [Act.put, List.setIfInBounds_toArray, setC]))
   rw [CS.out] at M
   go_roundw
   case rel => exact ⟨k + 1, by omega, by go_num, M⟩
   case measure => simp [intOf]; omega
  ·obtain rfl : k = 8 := by omega
   have e : key.take (4 * 8) ++ (List.replicate (240 - 4 * 8) 0 ++ s) = (schS s key 0).1 ++ s := by
    rw [List.take_of_length_le yF, ← List.append_assoc]; rfl
   rw [e] at M
   have e0 : (schS s key 0).2 = 1 := rfl
   clear e
   go_wp2_with ((first | ((with_reducible refine tM rfl ?_); refine mB ?_; try (clear M; (first | intro g w1 M | intro w1 M); try simp only [setC] at M)) | ((with_reducible refine tGuard ?_); refine gdC ?_ ?_ <;> (intro hgd; rw [hgd]; try (exfalso; simp at hgd; omega)))) <;> (try conv => arg 5; simp only [Act.put, List.setIfInBounds_toArray, setC]))
   rw [show ((8 : Nat) : Int) = 8 from rfl]
   go_loopw [5, 6] (fun pv iv wr => ∃ n : Nat, n ≤ 52 ∧ pv = .int .u8 (I8 (schS s key n).2) ∧ iv = .int .i64 (n + 8) ∧ Mem [] w wr [.row g (bs ((schS s key n).1 ++ s)), .row gk (bs key)]) (fun _ iv _ => 60 - (intOf iv).toNat)
   case atStart => exact ⟨0, by omega, rfl, rfl, M⟩
   case round =>
    clear M e0
    obtain ⟨n, hn, rfl, rfl, M⟩ := hrel
    have hW := schS_len s key hk n
    obtain ⟨⟨W, pw⟩, ex⟩ : ∃ x, x = schS s key n := ⟨_, rfl⟩
    rw [← ex] at M hW
    rw [← ex]
    simp only at M hW
    simp only
    have EX := Lib.hid (show schS s key (n + 1) = schW s n (W, pw) by rw [ex]; rfl)
    have EX0 := Lib.hid ex
    clear ex
    by_cases hlt : n < 52
    ·have hWs : (W ++ s).length = 496 := by rw [List.length_append, hW, hs]
     have ht := take_in W s ((n + 8 - 1) * 4) yF
     have ht2 : (W.drop ((n + 8 - 1) * 4)).take 4 = word1 W (n + 8) := by unfold word1; rw [Nat.mul_comm]
     rw [ht2] at ht
     have hl1 := word1_len hW (show 1 ≤ n + 8 by omega) yF
     obtain ⟨t1, e1⟩ : ∃ t, t = word1 W (n + 8) := ⟨_, rfl⟩
     have E2 : word2 W (n + 8) = if n % 8 = 0 then rotT t1 else t1 := by unfold word2; rw [← e1]; simp
     have E3 : word3 s W (n + 8) = if n % 4 = 0 then iterN (subT s) 4 (word2 W (n + 8)) else word2 W (n + 8) := by unfold word3; simp [show (n + 8) % 4 = n % 4 by omega]
     have E4 : word4 s W pw (n + 8) = if n % 8 = 0 then (word3 s W (n + 8)).set 0 (nth (word3 s W (n + 8)) 0 ^^^ pw) else word3 s W (n + 8) := by unfold word4; simp
     have EP : powI pw (n + 8) = if n % 8 = 0 then tw pw else pw := by unfold powI; simp
     rw [← e1] at ht hl1
     clear ht2 e1
     have hlX : (List.take 4 (List.drop ((n + 8 - 1) * 4) (W ++ s))).length = 4 := by rw [ht]; exact hl1
     have hlY : (bs (List.take 4 (List.drop ((n + 8 - 1) * 4) (W ++ s)))).length = 4 := by rw [qAP, hlX]
     have q : ∀ j, j < 4 → nth t1 j = (W ++ s)[(n + 7) * 4 + j]?.getD 0 := fun j hj => by
      rw [← ht]; unfold nth; rw [List.getD_eq_getElem?_getD, List.getElem?_take, if_pos hj, List.getElem?_drop, show n + 8 - 1 = n + 7 by omega]
     by_cases h4 : n % 4 = 0
     ·rw [if_pos h4] at E3
      have h4' : ((n : Int) + 8) % 4 = 0 := by omega
      by_cases h8 : n % 8 = 0
      ·rw [if_pos h8] at E2 E4 EP
       have e2 : bs (rotT t1) = [.int .u8 (I8 ((W ++ s)[(n + 7) * 4 + 1]?.getD 0)), .int .u8 (I8 ((W ++ s)[(n + 7) * 4 + 2]?.getD 0)), .int .u8 (I8 ((W ++ s)[(n + 7) * 4 + 3]?.getD 0)), .int .u8 (I8 ((W ++ s)[(n + 7) * 4]?.getD 0))] := by
        unfold rotT; rw [q 1 yF, q 2 yF, q 3 yF, q 0 yF]; rfl
       replace e2 := Lib.hid e2
       rw [E2] at E3
       replace E3 := Lib.hid E3
       replace E4 := Lib.hid E4
       replace EP := Lib.hid EP
       replace q := Lib.hid q
       clear E2
       have h8' : ((n : Int) + 8) % 8 = 0 := by omega
       go_wp2_with ((first | ((with_reducible refine tAlloc (some 7) 258 ?_); refine wal M _ rfl rfl (bs (List.replicate 4 (0 : UInt8))) yD ?_; clear M; intro gt w1 M) | (go_at_call 177; (refine (qDc _ _).mono ?_; rintro e w1 ⟨rfl, rfl⟩)) | ((with_reducible refine tLoad ?_); refine w_at _ _ rfl yI ?_; intro hx; (first | refine qAM M _ _ _ rfl yP hx rfl yB (by exact rfl) ?_ | refine qEU M _ _ _ rfl yP hx rfl yB yK ?_ | refine qET M _ _ _ rfl yP hx rfl yB yO yB ?_ | refine qAm M _ _ _ rfl yP hx rfl yB yD ?_ | refine qFG M _ _ _ rfl yP hx rfl yB 4 yB yK ?_); clear hx) | ((with_reducible refine tM rfl ?_); refine mB ?_; try (clear M; (first | intro g w1 M | intro w1 M); try simp only [setC] at M)) | ((with_reducible refine tGuard ?_); refine gdC ?_ ?_ <;> (intro hgd; rw [hgd]; try (exfalso; simp at hgd; omega)))) <;> (try conv => arg 5; simp only [Act.put, List.setIfInBounds_toArray, setC]))
       rw [← e2.out] at M
       have hl2 : (rotT t1).length = 4 := rfl
       obtain ⟨t2, e3⟩ : ∃ t, t = rotT t1 := ⟨_, rfl⟩
       rw [← e3] at M hl2 E3
       clear e3 e2 ht hlX hlY q
       go_loopw [53] (fun kv wr => ∃ k : Nat, k ≤ 4 ∧ kv = .int .i64 k ∧ Mem [] w wr [.row gt (bs (iterN (subT s) k t2)), .row g (bs (W ++ s)), .row gk (bs key)]) (fun kv _ => 4 - (intOf kv).toNat)
       case atStart => exact ⟨0, by omega, rfl, M⟩
       case round =>
        clear M
        obtain ⟨k, hk4, rfl, M⟩ := hrel
        obtain ⟨d, ed⟩ : ∃ d, d = iterN (subT s) k t2 := ⟨_, rfl⟩
        have hd : d.length = 4 := by rw [ed, qAb _ (fun _ _ => subT_len _ _ _)]; exact hl2
        rw [← ed] at M
        have ED := Lib.hid ed
        clear ed
        by_cases hlt4 : k < 4
        ·obtain ⟨q, eq⟩ : ∃ q, q = nth d k := ⟨_, rfl⟩
         have hq0 := (I8_bd q).1
         have hq1 := (I8_bd q).2
         have hq2 := qCn q
         have hq3 := q.toNat_lt
         have hq4 : q.toNat < 256 := hq3
         have hd1 : d.getD k 0 = q := eq.symm
         have hd2 : d[k]?.getD 0 = q := by rw [qBd, eq]
         have hd3 : d[k] = q := by rw [qBZ, eq]
         have EQ := Lib.hid eq
         clear eq hq3
         go_wp2_with ((first | ((with_reducible show Code.wp _ (Code.region 18 _ _) _ _ _); (have MR := M; refine qAB [(0, false), (1, false), (2, false), (3, false), (5, false), (6, false), (4, false), (7, false), (8, false), (9, false), (10, true)] [(57, .ptr)] [(4, _), (8, _)] (IxOk MR [0, 1]) 10 yD yD rfl yD (lowA MR 0 k (lowA MR 1 (240+q.toNat) qAN)) (qAJ MR _) ?_; replace M := M.drew; simp only [planC, opAt, gE])) | ((with_reducible refine tM rfl ?_); refine mB ?_; try (clear M; (first | intro g w1 M | intro w1 M); try simp only [setC] at M)) | ((with_reducible first | show Seg _ _ _ _ | show OnlyN _ _ _ _ _); refine rA ?_) | ((with_reducible refine tGuard ?_); refine gdC ?_ ?_ <;> (intro hgd; rw [hgd]; try (exfalso; simp at hgd; omega)))) <;> (try conv => arg 5; simp only [Act.put, List.setIfInBounds_toArray, setC]))
         rw [show (W ++ s).getD (240 + q.toNat) 0 = nth s q.toNat from nth_out W s 240 _ hW] at M
         go_roundw
         case rel => exact ⟨k + 1, by omega, by go_num, by
          rw [qAY, ← ED.out]; unfold subT; rw [← EQ.out]; exact M⟩
         case measure => simp [intOf]; omega
        ·obtain rfl : k = 4 := by omega
         replace E3 := E3.out.trans ED.out.symm
         replace E4 := E4.out
         rw [E3] at E4
         replace E4 := Lib.hid E4
         clear E3 ED
         go_wp2_with ((first | ((with_reducible refine tAlloc (some 7) 258 ?_); refine wal M _ rfl rfl (bs (List.replicate 4 (0 : UInt8))) yD ?_; clear M; intro gt w1 M) | (go_at_call 177; (refine (qDc _ _).mono ?_; rintro e w1 ⟨rfl, rfl⟩)) | ((with_reducible refine tLoad ?_); refine w_at _ _ rfl yI ?_; intro hx; (first | refine qAM M _ _ _ rfl yP hx rfl yB (by exact rfl) ?_ | refine qEU M _ _ _ rfl yP hx rfl yB yK ?_ | refine qET M _ _ _ rfl yP hx rfl yB yO yB ?_ | refine qAm M _ _ _ rfl yP hx rfl yB yD ?_ | refine qFG M _ _ _ rfl yP hx rfl yB 4 yB yK ?_); clear hx) | ((with_reducible refine tM rfl ?_); refine mB ?_; try (clear M; (first | intro g w1 M | intro w1 M); try simp only [setC] at M)) | ((with_reducible refine tGuard ?_); refine gdC ?_ ?_ <;> (intro hgd; rw [hgd]; try (exfalso; simp at hgd; omega)))) <;> (try conv => arg 5; simp only [Act.put, List.setIfInBounds_toArray, setC]))
         rw [qBZ d 0 yF] at M
         obtain ⟨t4, e4⟩ : ∃ t, t = d.set 0 (nth d 0 ^^^ pw) := ⟨_, rfl⟩
         have ht4 : t4.length = 4 := by rw [e4, List.length_set]; exact hd
         rw [← e4] at M E4
         clear e4
         go_loopw [77] (fun kv wr => ∃ k : Nat, k ≤ 4 ∧ kv = .int .i64 k ∧ Mem [] w wr [.row gt (bs t4), .row g (bs (iterN (addT t4 (n + 8)) k W ++ s)), .row gk (bs key)]) (fun kv _ => 4 - (intOf kv).toNat)
         case atStart => exact ⟨0, by omega, rfl, M⟩
         case round =>
          clear M
          obtain ⟨k, hk4, rfl, M⟩ := hrel
          obtain ⟨V, eV⟩ : ∃ V, V = iterN (addT t4 (n + 8)) k W := ⟨_, rfl⟩
          have hV : V.length = 240 := by rw [eV, qAb _ (qDR _ _)]; exact hW
          have hVs : (V ++ s).length = 496 := by rw [List.length_append, hV, hs]
          rw [← eV] at M
          have EV := Lib.hid eV
          clear eV
          by_cases hlt4 : k < 4
          ·go_wp2_with ((first | ((with_reducible show Code.wp _ (Code.region 26 _ _) _ _ _); (refine qAF [(0, false), (1, false), (2, false), (3, false), (4, false), (5, false), (6, false), (7, false), (8, false), (9, false), (10, false), (12, false), (13, false), (16, false), (17, false), (18, false), (11, false), (14, false), (15, false), (19, false), (20, true)] [(84, .int), (83, .ptr), (80, .ptr), (91, .int), (94, .int)] yD yD rfl yD ?_; replace M := M.drew; simp only [reord, opAt, List.map_cons, List.map_nil, gE])) | ((with_reducible refine tM rfl ?_); refine mB ?_; try (clear M; (first | intro g w1 M | intro w1 M); try simp only [setC] at M)) | ((with_reducible first | show Seg _ _ _ _ | show OnlyN _ _ _ _ _); refine rA ?_) | ((with_reducible refine tGuard ?_); refine gdC ?_ ?_ <;> (intro hgd; rw [hgd]; try (exfalso; simp at hgd; omega)))) <;> (try conv => arg 5; simp only [Act.put, List.setIfInBounds_toArray, setC]))
           have q1 : addT t4 (n + 8) k V = V.set ((n + 8) * 4 + k) (nth V (4 * n + k) ^^^ nth t4 k) := by unfold addT; rw [Nat.mul_comm 4 (n + 8), Nat.add_sub_cancel]
           have q2 : (V ++ s)[n * 4 + k]?.getD 0 = nth V (4 * n + k) := by rw [qBd, nth_in _ _ _ yF, Nat.mul_comm]
           rw [q2, qBZ t4 k yF, set_in V s _ _ yF, ← q1] at M
           go_roundw
           case rel => exact ⟨k + 1, by omega, by go_num, by rw [qAY, ← EV.out]; exact M⟩
           case measure => simp [intOf]; omega
          ·obtain rfl : k = 4 := by omega
           go_wp2_with ((first | ((with_reducible refine tM rfl ?_); refine mB ?_; try (clear M; (first | intro g w1 M | intro w1 M); try simp only [setC] at M)) | ((with_reducible refine tGuard ?_); refine gdC ?_ ?_ <;> (intro hgd; rw [hgd]; try (exfalso; simp at hgd; omega)))) <;> (try conv => arg 5; simp only [Act.put, List.setIfInBounds_toArray, setC]))
           go_roundw
           case rel => exact ⟨n + 1, by omega, by rw [EX.out]; show _ = Value.int .u8 (I8 (powI pw (n + 8))); rw [EP.out], by go_num, by
            rw [EX.out]; show Mem [] w _ [.row g (bs (iterN (addT (word4 s W pw (n + 8)) (n + 8)) 4 W ++ s)), .row gk (bs key)]
            rw [E4.out, ← EV.out]; exact M.tail⟩
           case measure => simp [intOf]; omega
      ·rw [if_neg h8] at E2 E4 EP
       have hl2 := hl1
       obtain ⟨t2, e3⟩ : ∃ t, t = t1 := ⟨_, rfl⟩
       rw [E2, ← e3] at E3
       rw [← e3] at hl2
       replace E3 := Lib.hid E3
       replace E4 := Lib.hid E4
       replace EP := Lib.hid EP
       clear E2 q
       have h8' : ¬ ((n : Int) + 8) % 8 = 0 := by omega
       go_wp2_with ((first | ((with_reducible refine tAlloc (some 7) 258 ?_); refine wal M _ rfl rfl (bs (List.replicate 4 (0 : UInt8))) yD ?_; clear M; intro gt w1 M) | (go_at_call 177; (refine (qDc _ _).mono ?_; rintro e w1 ⟨rfl, rfl⟩)) | ((with_reducible refine tLoad ?_); refine w_at _ _ rfl yI ?_; intro hx; (first | refine qAM M _ _ _ rfl yP hx rfl yB (by exact rfl) ?_ | refine qEU M _ _ _ rfl yP hx rfl yB yK ?_ | refine qET M _ _ _ rfl yP hx rfl yB yO yB ?_ | refine qAm M _ _ _ rfl yP hx rfl yB yD ?_ | refine qFG M _ _ _ rfl yP hx rfl yB 4 yB yK ?_); clear hx) | ((with_reducible refine tM rfl ?_); refine mB ?_; try (clear M; (first | intro g w1 M | intro w1 M); try simp only [setC] at M)) | ((with_reducible refine tGuard ?_); refine gdC ?_ ?_ <;> (intro hgd; rw [hgd]; try (exfalso; simp at hgd; omega)))) <;> (try conv => arg 5; simp only [Act.put, List.setIfInBounds_toArray, setC]))
       rw [ht, ← e3] at M
       clear e3 ht hlX hlY
       go_loopw [53] (fun kv wr => ∃ k : Nat, k ≤ 4 ∧ kv = .int .i64 k ∧ Mem [] w wr [.row gt (bs (iterN (subT s) k t2)), .row g (bs (W ++ s)), .row gk (bs key)]) (fun kv _ => 4 - (intOf kv).toNat)
       case atStart => exact ⟨0, by omega, rfl, M⟩
       case round =>
        clear M
        obtain ⟨k, hk4, rfl, M⟩ := hrel
        obtain ⟨d, ed⟩ : ∃ d, d = iterN (subT s) k t2 := ⟨_, rfl⟩
        have hd : d.length = 4 := by rw [ed, qAb _ (fun _ _ => subT_len _ _ _)]; exact hl2
        rw [← ed] at M
        have ED := Lib.hid ed
        clear ed
        by_cases hlt4 : k < 4
        ·obtain ⟨q, eq⟩ : ∃ q, q = nth d k := ⟨_, rfl⟩
         have hq0 := (I8_bd q).1
         have hq1 := (I8_bd q).2
         have hq2 := qCn q
         have hq3 := q.toNat_lt
         have hq4 : q.toNat < 256 := hq3
         have hd1 : d.getD k 0 = q := eq.symm
         have hd2 : d[k]?.getD 0 = q := by rw [qBd, eq]
         have hd3 : d[k] = q := by rw [qBZ, eq]
         have EQ := Lib.hid eq
         clear eq hq3
         go_wp2_with ((first | ((with_reducible show Code.wp _ (Code.region 18 _ _) _ _ _); (have MR := M; refine qAB [(0, false), (1, false), (2, false), (3, false), (5, false), (6, false), (4, false), (7, false), (8, false), (9, false), (10, true)] [(57, .ptr)] [(4, _), (8, _)] (IxOk MR [0, 1]) 10 yD yD rfl yD (lowA MR 0 k (lowA MR 1 (240+q.toNat) qAN)) (qAJ MR _) ?_; replace M := M.drew; simp only [planC, opAt, gE])) | ((with_reducible refine tM rfl ?_); refine mB ?_; try (clear M; (first | intro g w1 M | intro w1 M); try simp only [setC] at M)) | ((with_reducible first | show Seg _ _ _ _ | show OnlyN _ _ _ _ _); refine rA ?_) | ((with_reducible refine tGuard ?_); refine gdC ?_ ?_ <;> (intro hgd; rw [hgd]; try (exfalso; simp at hgd; omega)))) <;> (try conv => arg 5; simp only [Act.put, List.setIfInBounds_toArray, setC]))
         rw [show (W ++ s).getD (240 + q.toNat) 0 = nth s q.toNat from nth_out W s 240 _ hW] at M
         go_roundw
         case rel => exact ⟨k + 1, by omega, by go_num, by
          rw [qAY, ← ED.out]; unfold subT; rw [← EQ.out]; exact M⟩
         case measure => simp [intOf]; omega
        ·obtain rfl : k = 4 := by omega
         replace E3 := E3.out.trans ED.out.symm
         replace E4 := E4.out
         rw [E3] at E4
         replace E4 := Lib.hid E4
         clear E3 ED
         go_wp2_with ((first | ((with_reducible refine tAlloc (some 7) 258 ?_); refine wal M _ rfl rfl (bs (List.replicate 4 (0 : UInt8))) yD ?_; clear M; intro gt w1 M) | (go_at_call 177; (refine (qDc _ _).mono ?_; rintro e w1 ⟨rfl, rfl⟩)) | ((with_reducible refine tLoad ?_); refine w_at _ _ rfl yI ?_; intro hx; (first | refine qAM M _ _ _ rfl yP hx rfl yB (by exact rfl) ?_ | refine qEU M _ _ _ rfl yP hx rfl yB yK ?_ | refine qET M _ _ _ rfl yP hx rfl yB yO yB ?_ | refine qAm M _ _ _ rfl yP hx rfl yB yD ?_ | refine qFG M _ _ _ rfl yP hx rfl yB 4 yB yK ?_); clear hx) | ((with_reducible refine tM rfl ?_); refine mB ?_; try (clear M; (first | intro g w1 M | intro w1 M); try simp only [setC] at M)) | ((with_reducible refine tGuard ?_); refine gdC ?_ ?_ <;> (intro hgd; rw [hgd]; try (exfalso; simp at hgd; omega)))) <;> (try conv => arg 5; simp only [Act.put, List.setIfInBounds_toArray, setC]))
         obtain ⟨t4, e4⟩ : ∃ t, t = d := ⟨_, rfl⟩
         have ht4 : t4.length = 4 := by rw [e4]; exact hd
         rw [← e4] at M E4
         clear e4
         go_loopw [77] (fun kv wr => ∃ k : Nat, k ≤ 4 ∧ kv = .int .i64 k ∧ Mem [] w wr [.row gt (bs t4), .row g (bs (iterN (addT t4 (n + 8)) k W ++ s)), .row gk (bs key)]) (fun kv _ => 4 - (intOf kv).toNat)
         case atStart => exact ⟨0, by omega, rfl, M⟩
         case round =>
          clear M
          obtain ⟨k, hk4, rfl, M⟩ := hrel
          obtain ⟨V, eV⟩ : ∃ V, V = iterN (addT t4 (n + 8)) k W := ⟨_, rfl⟩
          have hV : V.length = 240 := by rw [eV, qAb _ (qDR _ _)]; exact hW
          have hVs : (V ++ s).length = 496 := by rw [List.length_append, hV, hs]
          rw [← eV] at M
          have EV := Lib.hid eV
          clear eV
          by_cases hlt4 : k < 4
          ·go_wp2_with ((first | ((with_reducible show Code.wp _ (Code.region 26 _ _) _ _ _); (refine qAF [(0, false), (1, false), (2, false), (3, false), (4, false), (5, false), (6, false), (7, false), (8, false), (9, false), (10, false), (12, false), (13, false), (16, false), (17, false), (18, false), (11, false), (14, false), (15, false), (19, false), (20, true)] [(84, .int), (83, .ptr), (80, .ptr), (91, .int), (94, .int)] yD yD rfl yD ?_; replace M := M.drew; simp only [reord, opAt, List.map_cons, List.map_nil, gE])) | ((with_reducible refine tM rfl ?_); refine mB ?_; try (clear M; (first | intro g w1 M | intro w1 M); try simp only [setC] at M)) | ((with_reducible first | show Seg _ _ _ _ | show OnlyN _ _ _ _ _); refine rA ?_) | ((with_reducible refine tGuard ?_); refine gdC ?_ ?_ <;> (intro hgd; rw [hgd]; try (exfalso; simp at hgd; omega)))) <;> (try conv => arg 5; simp only [Act.put, List.setIfInBounds_toArray, setC]))
           have q1 : addT t4 (n + 8) k V = V.set ((n + 8) * 4 + k) (nth V (4 * n + k) ^^^ nth t4 k) := by unfold addT; rw [Nat.mul_comm 4 (n + 8), Nat.add_sub_cancel]
           have q2 : (V ++ s)[n * 4 + k]?.getD 0 = nth V (4 * n + k) := by rw [qBd, nth_in _ _ _ yF, Nat.mul_comm]
           rw [q2, qBZ t4 k yF, set_in V s _ _ yF, ← q1] at M
           go_roundw
           case rel => exact ⟨k + 1, by omega, by go_num, by rw [qAY, ← EV.out]; exact M⟩
           case measure => simp [intOf]; omega
          ·obtain rfl : k = 4 := by omega
           go_wp2_with ((first | ((with_reducible refine tM rfl ?_); refine mB ?_; try (clear M; (first | intro g w1 M | intro w1 M); try simp only [setC] at M)) | ((with_reducible refine tGuard ?_); refine gdC ?_ ?_ <;> (intro hgd; rw [hgd]; try (exfalso; simp at hgd; omega)))) <;> (try conv => arg 5; simp only [Act.put, List.setIfInBounds_toArray, setC]))
           go_roundw
           case rel => exact ⟨n + 1, by omega, by rw [EX.out]; show _ = Value.int .u8 (I8 (powI pw (n + 8))); rw [EP.out], by go_num, by
            rw [EX.out]; show Mem [] w _ [.row g (bs (iterN (addT (word4 s W pw (n + 8)) (n + 8)) 4 W ++ s)), .row gk (bs key)]
            rw [E4.out, ← EV.out]; exact M.tail⟩
           case measure => simp [intOf]; omega
     ·rw [if_neg h4] at E3
      have h8 : ¬ n % 8 = 0 := by omega
      rw [if_neg h8] at E2 E4 EP
      rw [E2] at E3
      rw [E3] at E4
      have h4' : ¬ ((n : Int) + 8) % 4 = 0 := by omega
      have h8' : ¬ ((n : Int) + 8) % 8 = 0 := by omega
      obtain ⟨t4, e4⟩ : ∃ t, t = t1 := ⟨_, rfl⟩
      have ht4 : t4.length = 4 := by rw [e4]; exact hl1
      rw [← e4] at E4
      replace E4 := Lib.hid E4
      replace EP := Lib.hid EP
      clear E2 E3 q
      go_wp2_with ((first | ((with_reducible refine tAlloc (some 7) 258 ?_); refine wal M _ rfl rfl (bs (List.replicate 4 (0 : UInt8))) yD ?_; clear M; intro gt w1 M) | (go_at_call 177; (refine (qDc _ _).mono ?_; rintro e w1 ⟨rfl, rfl⟩)) | ((with_reducible refine tLoad ?_); refine w_at _ _ rfl yI ?_; intro hx; (first | refine qAM M _ _ _ rfl yP hx rfl yB (by exact rfl) ?_ | refine qEU M _ _ _ rfl yP hx rfl yB yK ?_ | refine qET M _ _ _ rfl yP hx rfl yB yO yB ?_ | refine qAm M _ _ _ rfl yP hx rfl yB yD ?_ | refine qFG M _ _ _ rfl yP hx rfl yB 4 yB yK ?_); clear hx) | ((with_reducible refine tM rfl ?_); refine mB ?_; try (clear M; (first | intro g w1 M | intro w1 M); try simp only [setC] at M)) | ((with_reducible refine tGuard ?_); refine gdC ?_ ?_ <;> (intro hgd; rw [hgd]; try (exfalso; simp at hgd; omega)))) <;> (try conv => arg 5; simp only [Act.put, List.setIfInBounds_toArray, setC]))
      rw [ht, ← e4] at M
      clear e4 ht hlX hlY
      go_loopw [77] (fun kv wr => ∃ k : Nat, k ≤ 4 ∧ kv = .int .i64 k ∧ Mem [] w wr [.row gt (bs t4), .row g (bs (iterN (addT t4 (n + 8)) k W ++ s)), .row gk (bs key)]) (fun kv _ => 4 - (intOf kv).toNat)
      case atStart => exact ⟨0, by omega, rfl, M⟩
      case round =>
       clear M
       obtain ⟨k, hk4, rfl, M⟩ := hrel
       obtain ⟨V, eV⟩ : ∃ V, V = iterN (addT t4 (n + 8)) k W := ⟨_, rfl⟩
       have hV : V.length = 240 := by rw [eV, qAb _ (qDR _ _)]; exact hW
       have hVs : (V ++ s).length = 496 := by rw [List.length_append, hV, hs]
       rw [← eV] at M
       have EV := Lib.hid eV
       clear eV
       by_cases hlt4 : k < 4
       ·go_wp2_with ((first | ((with_reducible show Code.wp _ (Code.region 26 _ _) _ _ _); (refine qAF [(0, false), (1, false), (2, false), (3, false), (4, false), (5, false), (6, false), (7, false), (8, false), (9, false), (10, false), (12, false), (13, false), (16, false), (17, false), (18, false), (11, false), (14, false), (15, false), (19, false), (20, true)] [(84, .int), (83, .ptr), (80, .ptr), (91, .int), (94, .int)] yD yD rfl yD ?_; replace M := M.drew; simp only [reord, opAt, List.map_cons, List.map_nil, gE])) | ((with_reducible refine tM rfl ?_); refine mB ?_; try (clear M; (first | intro g w1 M | intro w1 M); try simp only [setC] at M)) | ((with_reducible first | show Seg _ _ _ _ | show OnlyN _ _ _ _ _); refine rA ?_) | ((with_reducible refine tGuard ?_); refine gdC ?_ ?_ <;> (intro hgd; rw [hgd]; try (exfalso; simp at hgd; omega)))) <;> (try conv => arg 5; simp only [Act.put, List.setIfInBounds_toArray, setC]))
        have q1 : addT t4 (n + 8) k V = V.set ((n + 8) * 4 + k) (nth V (4 * n + k) ^^^ nth t4 k) := by unfold addT; rw [Nat.mul_comm 4 (n + 8), Nat.add_sub_cancel]
        have q2 : (V ++ s)[n * 4 + k]?.getD 0 = nth V (4 * n + k) := by rw [qBd, nth_in _ _ _ yF, Nat.mul_comm]
        rw [q2, qBZ t4 k yF, set_in V s _ _ yF, ← q1] at M
        go_roundw
        case rel => exact ⟨k + 1, by omega, by go_num, by rw [qAY, ← EV.out]; exact M⟩
        case measure => simp [intOf]; omega
       ·obtain rfl : k = 4 := by omega
        go_wp2_with ((first | ((with_reducible refine tM rfl ?_); refine mB ?_; try (clear M; (first | intro g w1 M | intro w1 M); try simp only [setC] at M)) | ((with_reducible refine tGuard ?_); refine gdC ?_ ?_ <;> (intro hgd; rw [hgd]; try (exfalso; simp at hgd; omega)))) <;> (try conv => arg 5; simp only [Act.put, List.setIfInBounds_toArray, setC]))
        go_roundw
        case rel => exact ⟨n + 1, by omega, by rw [EX.out]; show _ = Value.int .u8 (I8 (powI pw (n + 8))); rw [EP.out], by go_num, by
         rw [EX.out]; show Mem [] w _ [.row g (bs (iterN (addT (word4 s W pw (n + 8)) (n + 8)) 4 W ++ s)), .row gk (bs key)]
         rw [E4.out, ← EV.out]; exact M.tail⟩
        case measure => simp [intOf]; omega
    ·obtain rfl : n = 52 := by omega
     have e : schL s key = W := by unfold schL; rw [← EX0.out]
     go_wp2_with ((first | ((with_reducible refine tM rfl ?_); refine mB ?_; try (clear M; (first | intro g w1 M | intro w1 M); try simp only [setC] at M)) | ((with_reducible refine tGuard ?_); refine gdC ?_ ?_ <;> (intro hgd; rw [hgd]; try (exfalso; simp at hgd; omega)))) <;> (try conv => arg 5; simp only [Act.put, List.setIfInBounds_toArray, setC]))
     go_ret
     exact ⟨g, rfl, by rw [e]; exact M.take1⟩
end Go.Proofs.YtidadhbaomieiaaGreat

namespace Go.Proofs.YtidadhbaomieiaaGreat
open Go.RowKit Go.TL
theorem block_c (gc : Nat) (s W b : List UInt8) (w : World) (R : (Chunk.row gc (bs (W ++ s))).ok w) (hW : W.length = 240) (hs : s.length = 256) (hb : b.length = 16) :
  Calls Tryz.prog 150 #[.pointer (some ⟨gc, 0, none⟩), .agg (bs b).toArray] w fun e w' => e = .returned (.agg (bs (blockL s W b)).toArray) ∧ Below w.heap.size w w' := by
 have M := Mem.start [] w
 have hWs : (W ++ s).length = 496 := by rw [List.length_append, hW, hs]
 have hz : (List.replicate 16 (0 : UInt8)).length = 16 := List.length_replicate
 have ha0 : (addL W b 0).length = 16 := by rw [qDS]; exact hb
 have A0 := fun (w : World) (RR : (Chunk.row gc (bs (W ++ s))).ok w) => add_c gc s W b 0 0 rfl w RR hW hs hb yF
 have BL : blockL s W b = iterN (roundL s W) 14 (addL W b 0) := rfl
 have IV : ∀ n, (iterN (roundL s W) n (addL W b 0)).length = 16 := fun n => qDD _ (fun l => l.length = 16) (fun n x _ => qGG s W n x) n _ ha0
 obtain ⟨a0, e0⟩ : ∃ a, a = addL W b 0 := ⟨_, rfl⟩
 rw [← e0] at ha0 A0 BL IV
 obtain ⟨bl, ebl⟩ : ∃ x, x = blockL s W b := ⟨_, rfl⟩
 rw [← ebl] at BL
 rw [← ebl]
 replace A0 := Lib.hid A0
 replace BL := Lib.hid BL
 replace IV := Lib.hid IV
 clear e0 ebl
 go_enter Tryz.func150, Tryz.ntmps150
 go_wp2_with ((first | ((with_reducible refine tBox (some 3) ?_); refine w_box M _ _ rfl rfl _ rfl (bs b) rfl ?_; clear M; intro gb w1 M) | ((with_reducible refine tAlloc (some 4) 234 ?_); refine wal M _ rfl rfl (bs (List.replicate 16 (0 : UInt8))) yD ?_; clear M; intro go w1 M) | (go_at_call 178; (refine (A0.out _ (M.stays R)).mono ?_; rintro e w1 ⟨rfl, hb⟩; replace M := M.call hb; clear hb)) | ((with_reducible refine tM rfl ?_); refine mB ?_; try (clear M; (first | intro g w1 M | intro w1 M); try simp only [setC] at M)) | ((with_reducible refine tGuard ?_); refine gdC ?_ ?_ <;> (intro hgd; rw [hgd]; try (exfalso; simp at hgd; omega)))) <;> (try conv => arg 5; simp only [Act.put, List.setIfInBounds_toArray, setC]))
 go_loopw [5] (fun kv wr => ∃ n : Nat, n ≤ 14 ∧ kv = .int .i64 ((n : Int) + 1) ∧ Mem [] w wr [.row go (bs (List.replicate 16 0)), .row gb (bs (iterN (roundL s W) n a0))]) (fun kv _ => 15 - (intOf kv).toNat)
 case atStart => exact ⟨0, by omega, rfl, M⟩
 case round =>
  clear M
  obtain ⟨n, hn, rfl, M⟩ := hrel
  have hd := IV.out n
  obtain ⟨d, ed⟩ : ∃ d, d = iterN (roundL s W) n a0 := ⟨_, rfl⟩
  rw [← ed] at M hd
  have ED := Lib.hid ed
  clear ed
  by_cases hlt : n < 14
  ·go_wp2_with ((first | ((with_reducible refine tAlloc (some 6) 234 ?_); refine wal M _ rfl rfl (bs (List.replicate 16 (0 : UInt8))) yD ?_; clear M; intro gt w1 M) | ((with_reducible refine tM rfl ?_); refine mB ?_; try (clear M; (first | intro g w1 M | intro w1 M); try simp only [setC] at M)) | ((with_reducible refine tGuard ?_); refine gdC ?_ ?_ <;> (intro hgd; rw [hgd]; try (exfalso; simp at hgd; omega)))) <;> (try conv => arg 5; simp only [Act.put, List.setIfInBounds_toArray, setC]))
   go_loopw [15] (fun kv wr => ∃ k : Nat, k ≤ 16 ∧ kv = .int .i64 k ∧ Mem [] w wr [.row gt (bs (iterN (subB s d) k (List.replicate 16 0))), .row go (bs (List.replicate 16 0)), .row gb (bs d)]) (fun kv _ => 16 - (intOf kv).toNat)
   case atStart => exact ⟨0, by omega, rfl, M⟩
   case round =>
    clear M
    obtain ⟨k, hk16, rfl, M⟩ := hrel
    have ht : (iterN (subB s d) k (List.replicate 16 0)).length = 16 := by rw [qAb _ (fun n s => by unfold subB; rw [List.length_set])]; exact List.length_replicate
    obtain ⟨t, et⟩ : ∃ t, t = iterN (subB s d) k (List.replicate 16 0) := ⟨_, rfl⟩
    rw [← et] at M ht
    have ET := Lib.hid et
    clear et
    by_cases hlt16 : k < 16
    ·have hj : (k + 4 * (k % 4)) % 16 < d.length := by omega
     obtain ⟨q, eq⟩ : ∃ q, q = nth d ((k + 4 * (k % 4)) % 16) := ⟨_, rfl⟩
     have hq0 := (I8_bd q).1
     have hq1 := (I8_bd q).2
     have hq2 := qCn q
     have hq3 := q.toNat_lt
     have hq4 : q.toNat < 256 := hq3
     have hd1 : d.getD ((k + 4 * (k % 4)) % 16) 0 = q := eq.symm
     have hd2 : d[(k + 4 * (k % 4)) % 16]?.getD 0 = q := by rw [qBd, eq]
     have hd3 : d[(k + 4 * (k % 4)) % 16] = q := by rw [qBZ, eq]
     have EQ := Lib.hid eq
     clear eq hq3
     go_wp2_with ((first | ((with_reducible show Code.wp _ (Code.region 9 _ _) _ _ _); (refine qAF [(0, false), (1, false), (2, false), (3, false), (4, false), (5, false), (6, false), (7, false), (8, false), (10, false), (11, false), (9, false), (12, false), (13, false), (14, false), (15, true)] [(21, .int), (22, .int), (20, .int), (23, .int), (24, .int), (19, .ptr)] yD yD rfl yD ?_; replace M := M.drew; simp only [reord, opAt, List.map_cons, List.map_nil, gE])) | ((with_reducible refine tLoad ?_); refine w_at _ _ rfl yI ?_; intro hx; (first | refine w_rowB M R _ _ rfl hx rfl yB yK ?_); clear hx) | ((with_reducible refine tM rfl ?_); refine mB ?_; try (clear M; (first | intro g w1 M | intro w1 M); try simp only [setC] at M)) | ((with_reducible first | show Seg _ _ _ _ | show OnlyN _ _ _ _ _); refine rA ?_) | ((with_reducible refine tGuard ?_); refine gdC ?_ ?_ <;> (intro hgd; rw [hgd]; try (exfalso; simp at hgd; omega)))) <;> (try conv => arg 5; simp only [Act.put, List.setIfInBounds_toArray, setC]))
     rw [show (W ++ s).getD (240 + q.toNat) 0 = nth s q.toNat from nth_out W s 240 _ hW] at M
     go_roundw
     case rel => exact ⟨k + 1, by omega, by go_num, by rw [qAY, ← ET.out]; unfold subB; rw [← EQ.out]; exact M⟩
     case measure => simp [intOf]; omega
    ·obtain rfl : k = 16 := by omega
     have e : t = subL s d := ET.out
     have hsl := qEt s d
     rw [e] at M
     obtain ⟨t', e'⟩ : ∃ t, t = subL s d := ⟨_, rfl⟩
     rw [← e'] at M hsl
     have ER : roundL s W n d = addL W (if n + 1 < 14 then mixL t' else t') (n + 1) := by rw [e']; rfl
     clear e e' ht ET
     have MX := fun w => mix_c t' w hsl
     have AD := fun (m : List UInt8) (hm : m.length = 16) (w : World) (RR : (Chunk.row gc (bs (W ++ s))).ok w) => add_c gc s W m (n + 1) ((n : Int) + 1) yF w RR hW hs hm yF
     by_cases h14 : n + 1 < 14
     ·rw [if_pos h14] at ER
      have hml := mixL_len t'
      obtain ⟨m, em⟩ : ∃ m, m = mixL t' := ⟨_, rfl⟩
      rw [← em] at ER MX hml
      replace AD := AD m hml
      have hal : (addL W m (n + 1)).length = 16 := by rw [qDS]; exact hml
      obtain ⟨a, ea⟩ : ∃ a, a = addL W m (n + 1) := ⟨_, rfl⟩
      rw [← ea] at ER AD hal
      replace ER := Lib.hid fun _ : Unit => ER
      replace MX := Lib.hid MX
      replace AD := Lib.hid AD
      clear ea em
      go_wp2_with ((first | (go_at_call 178; (refine (AD.out _ (M.stays R)).mono ?_; rintro e w1 ⟨rfl, hb⟩; replace M := M.call hb; clear hb)) | (go_at_call 179; (refine (MX.out _).mono ?_; rintro e w1 ⟨rfl, hb⟩; replace M := M.call hb; clear hb)) | ((with_reducible refine tM rfl ?_); refine mB ?_; try (clear M; (first | intro g w1 M | intro w1 M); try simp only [setC] at M)) | ((with_reducible refine tGuard ?_); refine gdC ?_ ?_ <;> (intro hgd; rw [hgd]; try (exfalso; simp at hgd; omega)))) <;> (try conv => arg 5; simp only [Act.put, List.setIfInBounds_toArray, setC]))
      go_roundw
      case rel => exact ⟨n + 1, by omega, by go_num, by rw [qAY, ← ED.out, ER.out ()]; exact M.tail⟩
      case measure => simp [intOf]; omega
     ·rw [if_neg h14] at ER
      replace AD := AD t' hsl
      have hal : (addL W t' (n + 1)).length = 16 := by rw [qDS]; exact hsl
      obtain ⟨a, ea⟩ : ∃ a, a = addL W t' (n + 1) := ⟨_, rfl⟩
      rw [← ea] at ER AD hal
      replace ER := Lib.hid fun _ : Unit => ER
      replace AD := Lib.hid AD
      clear ea MX
      go_wp2_with ((first | (go_at_call 178; (refine (AD.out _ (M.stays R)).mono ?_; rintro e w1 ⟨rfl, hb⟩; replace M := M.call hb; clear hb)) | ((with_reducible refine tM rfl ?_); refine mB ?_; try (clear M; (first | intro g w1 M | intro w1 M); try simp only [setC] at M)) | ((with_reducible refine tGuard ?_); refine gdC ?_ ?_ <;> (intro hgd; rw [hgd]; try (exfalso; simp at hgd; omega)))) <;> (try conv => arg 5; simp only [Act.put, List.setIfInBounds_toArray, setC]))
      go_roundw
      case rel => exact ⟨n + 1, by omega, by go_num, by rw [qAY, ← ED.out, ER.out ()]; exact M.tail⟩
      case measure => simp [intOf]; omega
  ·obtain rfl : n = 14 := by omega
   have e : bl = d := BL.out.trans ED.out.symm
   go_wp2_with ((first | ((with_reducible refine tM rfl ?_); refine mB ?_; try (clear M; (first | intro g w1 M | intro w1 M); try simp only [setC] at M)) | ((with_reducible refine tGuard ?_); refine gdC ?_ ?_ <;> (intro hgd; rw [hgd]; try (exfalso; simp at hgd; omega)))) <;> (try conv => arg 5; simp only [Act.put, List.setIfInBounds_toArray, setC]))
   exact bodyPost_ret (qAS rfl _ _ go 0 (bs d) _ rfl (M.ok 0 _ rfl).2.1 Tryz.underlying234 rfl (by rw [qAP, hd]; kernel_rfl)) rfl ⟨by rw [e], M.below⟩
end Go.Proofs.YtidadhbaomieiaaGreat
