/- The walk of the reference's hash: it is package sha's. Conditions: the text is shorter than 10^11 bytes. -/
import Derived.Test.YtidadhbaomieiaaGreatVRefT
import Derived.Test.YtidadhbaomieiaaGreatVRefL
import Derived.Test.YtidadhbaomieiaaGreatZb
namespace Go
namespace TL
open Go.RowKit
theorem snoc128 (l : List UInt8) : bs l ++ [.int .u8 128] = bs (l ++ [128]) := by rw [bs_append]; rfl
theorem snoc0 (l : List UInt8) : bs l ++ [.int .u8 0] = bs (l ++ [0]) := by rw [bs_append]; rfl
theorem snocB (l : List UInt8) (b : UInt8) : bs l ++ [.int .u8 (I8 b)] = bs (l ++ [b]) := by rw [bs_append]; rfl
theorem I64_nat2 (i : Nat) (h : i < 1000) : I64 (w64 (i : Int)) = (i : Int) := by
  rw [w64_nat, I64_eq, UInt64.toNat_ofNat']; omega
theorem P64_root (k : Nat) (hk : k < 64) : behindW (P64.getD k 0) true = K64.getD k 0 := by
  have h := roots3
  have h1 : K64.getD k 0 = (P64.map (behindW · true)).getD k 0 := by rw [h]
  rw [h1, List.getD_eq_getElem?_getD, List.getD_eq_getElem?_getD, List.getElem?_map, List.getElem?_eq_getElem (by rw [P64_length]; exact hk)]; rfl
theorem P64_root2 (k : Nat) (hk : k < 8) : behindW (P64.getD k 0) false = H0.words.getD k 0 := by
  have h1 : H0.words.getD k 0 = ((P64.take 8).map (behindW · false)).getD k 0 := by rw [roots2]
  rw [h1, List.getD_eq_getElem?_getD, List.getD_eq_getElem?_getD, List.getElem?_map, List.getElem?_take, if_pos hk, List.getElem?_eq_getElem (by rw [P64_length]; omega)]; rfl
end TL
end Go
namespace Go.Proofs.YtidadhbaomieiaaGreat
open Go.RowKit Go.TL
theorem refturn_l (h : St) (K : List UInt32) (s : List UInt8) (hK : K.length = 64) (hs : s.length = 64) (v : Value) (w : World) (S : Sees w 1 v 64 (bs s)) :
    Calls Tryz.prog 121 #[.agg (ws h.words).toArray, .agg (ws K).toArray, v] w fun e w' => ∃ h', Hid (h' = turnS h h K s) ∧ e = .returned (.agg (ws h'.words).toArray) ∧ Below w.heap.size w w' :=
  (refturn_c h K s hK hs v w S).mono fun _ _ ⟨h1, h2⟩ => ⟨_, Lib.hid rfl, h1, h2⟩
set_option maxRecDepth 100000 in
set_option maxHeartbeats 2000000 in
theorem refSum_c (l : List UInt8) (w : World) (hl : l.length ≤ 100000000000) :
    Calls Tryz.prog 89 #[.string (mkS l)] w fun e w' => e = .returned (.agg (bs (shaL l)).toArray) ∧ Below w.heap.size w w' := by
  obtain ⟨PP, eP⟩ : ∃ PP, PP = P64 := ⟨_, rfl⟩
  obtain ⟨KK, eK⟩ : ∃ KK, KK = K64 := ⟨_, rfl⟩
  obtain ⟨HH, eH⟩ : ∃ HH, HH = H0 := ⟨_, rfl⟩
  have lP : PP.length = 64 := by rw [eP]; exact P64_length
  have lK : KK.length = 64 := by rw [eK]; exact K64_length
  have lH := words_len HH
  have EP := Lib.hid eP; clear eP
  have EK := Lib.hid eK; clear eK
  have EH := Lib.hid eH; clear eH
  have M := Mem.start [] w
  go_enter Tryz.func89, Tryz.ntmps89
  go_wp2_with ((first | ((with_reducible refine tAlloc (some 2) 49 ?_); refine w_alloc M _ rfl rfl (.agg (Array.replicate 32 (.int .u8 0))) (bs (List.replicate 32 (0 : UInt8))) (by kernel_rfl) rfl ?_; clear M; intro go w1 M) | (go_at_call 119; go_must (refine (primes_c _).mono ?_; rintro e w1 ⟨q, capP, rfl, MP⟩; replace M := M.join MP; (try simp only [List.cons_append, List.nil_append] at M); rw [← EP.out] at M; clear MP)) | ((with_reducible refine tAlloc (some 4) 212 ?_); refine w_alloc M _ rfl rfl (.agg (Array.replicate 64 (.int .u32 0))) (ws (List.replicate 64 (0 : UInt32))) (by kernel_rfl) rfl ?_; clear M; intro gk w1 M) | ((with_reducible refine tAlloc (some 5) 213 ?_); refine w_alloc M _ rfl rfl (.agg (Array.replicate 8 (.int .u32 0))) (ws (List.replicate 8 (0 : UInt32))) (by kernel_rfl) rfl ?_; clear M; intro gh w1 M)) <;> (try conv => arg 5; simp only [Act.put, List.setIfInBounds_toArray, setC]))
  obtain ⟨gp, op, rfl⟩ := M.slAddr 2 rfl (by omega)
  go_loopw [6] (fun iv wr => ∃ k : Nat, k ≤ 64 ∧ iv = .int .i64 k ∧ Mem [] w wr [.row gh (ws (HH.words.take k ++ List.replicate (8 - k) 0)), .row gk (ws (KK.take k ++ List.replicate (64 - k) 0)), .sl 1 (.slice (some ⟨gp, op, none⟩) 64 capP) 64 (us PP), .row go (bs (List.replicate 32 0))]) (fun iv _ => 64 - (intOf iv).toNat)
  case atStart => exact ⟨0, by omega, rfl, M⟩
  case round =>
    clear M
    obtain ⟨k, hk, rfl, M⟩ := hrel
    by_cases hlt : k < 64
    · obtain ⟨p, ep⟩ : ∃ p, p = PP.getD k 0 := ⟨_, rfl⟩
      have hp := Lib.hid (us_get (l := PP) (i := k) (by omega))
      rw [← ep] at hp
      have e1 : behindW p true = KK.getD k 0 := by rw [ep, EP.out, EK.out]; exact P64_root k hlt
      have E1 := Lib.hid e1; clear e1
      have E2 : Hid (k < 8 → behindW p false = HH.words.getD k 0) := Lib.hid (fun h => by rw [ep, EP.out, EH.out]; exact P64_root2 k h)
      clear ep
      obtain ⟨r3, er3⟩ : ∃ r, r = behindW p true := ⟨_, rfl⟩
      obtain ⟨r2, er2⟩ : ∃ r, r = behindW p false := ⟨_, rfl⟩
      rw [← er3] at E1
      rw [← er2] at E2
      have ER3 := Lib.hid er3; clear er3
      have ER2 := Lib.hid er2; clear er2
      by_cases h8 : k < 8
      · go_wp2_with ((first | ((with_reducible show wpList _ _ _ (Oper.mk _ (Op.load 30 _) _ _ _ _ :: _) _ _); go_must (refine w_loadS M 2 _ _ rfl rfl rfl rfl (by decide +kernel) k rfl hp.out ?_)) | (go_at_call 120; go_must (refine (behind_c p _ _).mono ?_; rintro e w1 ⟨rfl, rfl⟩; first | rw [← ER3.out] | rw [← ER2.out])) | ((with_reducible refine tGuard ?_); first | refine gdS ?_ | (refine gdC ?_ ?_ <;> (intro hgd; rw [hgd]; try (exfalso; simp at hgd; omega)))) | ((with_reducible refine tConv _ 70 9 ?_); go_must (refine cvB ?_)) | ((with_reducible refine tLoad ?_); go_must (refine ldW ?_)) | ((with_reducible refine tStore ?_); go_must (refine stW ?_; clear M; intro w1 M; (try simp only [setC] at M))) | ((with_reducible refine tBox _ ?_); (refine bxA M ?_; clear M; intro g w1 M))) <;> (try conv => arg 5; simp only [Act.put, List.setIfInBounds_toArray, setC]))
        go_roundw
        case rel => exact ⟨k + 1, by omega, by go_num, by rw [← setTake32 KK 64 k lK hlt _ E1.out, ← setTake32 HH.words 8 k lH h8 _ (E2.out h8)]; exact M⟩
        case measure => simp [intOf]; omega
      · go_wp2_with ((first | ((with_reducible show wpList _ _ _ (Oper.mk _ (Op.load 30 _) _ _ _ _ :: _) _ _); go_must (refine w_loadS M 2 _ _ rfl rfl rfl rfl (by decide +kernel) k rfl hp.out ?_)) | (go_at_call 120; go_must (refine (behind_c p _ _).mono ?_; rintro e w1 ⟨rfl, rfl⟩; first | rw [← ER3.out] | rw [← ER2.out])) | ((with_reducible refine tGuard ?_); first | refine gdS ?_ | (refine gdC ?_ ?_ <;> (intro hgd; rw [hgd]; try (exfalso; simp at hgd; omega)))) | ((with_reducible refine tConv _ 70 9 ?_); go_must (refine cvB ?_)) | ((with_reducible refine tLoad ?_); go_must (refine ldW ?_)) | ((with_reducible refine tStore ?_); go_must (refine stW ?_; clear M; intro w1 M; (try simp only [setC] at M))) | ((with_reducible refine tBox _ ?_); (refine bxA M ?_; clear M; intro g w1 M))) <;> (try conv => arg 5; simp only [Act.put, List.setIfInBounds_toArray, setC]))
        go_roundw
        case rel => exact ⟨k + 1, by omega, by go_num, by
          rw [← setTake32 KK 64 k lK hlt _ E1.out, List.take_of_length_le (by omega : HH.words.length ≤ k + 1), show 8 - (k + 1) = 0 by omega]
          rw [List.take_of_length_le (by omega), show 8 - k = 0 by omega] at M
          exact M⟩
        case measure => simp [intOf]; omega
    · obtain rfl : k = 64 := by omega
      rw [show ((64 : Nat) : Int) = 64 from rfl]
      rw [List.take_of_length_le (by omega), List.take_of_length_le (by omega), show 8 - 64 = 0 from rfl, List.replicate_zero, List.append_nil, List.append_nil] at M
      go_wp2_with ((first | ((with_reducible refine tConv (some 35) 9 70 ?_); go_must (refine w_bytes M _ _ _ _ rfl rfl rfl Tryz.underlying9 Tryz.underlying70 Tryz.underlying5 (by first | omega | (simp; omega)) ?_; clear M; intro gb capgb w1 hcapgb M)) | ((with_reducible show wpList _ _ _ (Oper.mk _ (Op.buildSlice _ 1 _) _ _ _ _ :: _) _ _); go_must (refine w_buildSlice1 M bytesT (by decide) _ rfl rfl (by first | exact ev_tmp rfl | exact ev_const) _ rfl rfl ?_; clear M; intro g w1 M)) | ((with_reducible refine tApp ?_); go_must (refine w_append_new M 0 bytesT _ _ rfl rfl rfl rfl rfl rfl (by first | decide | (intro q hq; simp at hq; subst hq; rfl) | (intro q hq; simp at hq; rcases hq with rfl | rfl; rfl; rfl) | (intro q hq; simp at hq; rcases hq with rfl | rfl | rfl <;> rfl)) (by decide) (by first | (simp only [maxLen]; omega) | (simp [maxLen]; omega)) (by first | omega | (simp; omega)) ?_; clear M; intro q cap w1 M; (try simp only [setC] at M)))) <;> (try conv => arg 5; simp only [Act.put, List.setIfInBounds_toArray, setC]))
      rw [snoc128] at M
      go_loopw [7] (fun v wr => ∃ (k : Nat) (q : Option Addr) (c : Nat), k ≤ zpad l.length ∧ v = .slice q (l.length + 1 + k) c ∧ Mem [] w wr [.sl 1 (.slice q (l.length + 1 + k) c) (l.length + 1 + k) (bs (l ++ [128] ++ List.replicate k 0)), .row gh (ws HH.words), .row gk (ws KK), .sl 1 (.slice (some ⟨gp, op, none⟩) 64 capP) 64 (us PP), .row go (bs (List.replicate 32 0))]) (fun v _ => l.length + 1 + zpad l.length - lenV v)
      case atStart => exact ⟨0, _, _, by omega, rfl, by simpa using M⟩
      case round =>
        clear M
        obtain ⟨k, q, c, hk, rfl, M⟩ := hrel
        by_cases hlt : k < zpad l.length
        · have hd : ((l.length : Int) + 1 + k) % 64 ≠ 56 := by unfold zpad at hlt; omega
          have hz : zpad l.length ≤ 63 := by unfold zpad; omega
          go_wp2_with ((first | ((with_reducible show wpList _ _ _ (Oper.mk _ (Op.buildSlice _ 1 _) _ _ _ _ :: _) _ _); go_must (refine w_buildSlice1 M bytesT (by decide) _ rfl rfl (by first | exact ev_tmp rfl | exact ev_const) _ rfl rfl ?_; clear M; intro g w1 M)) | ((with_reducible refine tApp ?_); go_must (refine w_append_new M 0 bytesT _ _ rfl rfl rfl rfl rfl rfl (by first | decide | (intro q hq; simp at hq; subst hq; rfl) | (intro q hq; simp at hq; rcases hq with rfl | rfl; rfl; rfl) | (intro q hq; simp at hq; rcases hq with rfl | rfl | rfl <;> rfl)) (by decide) (by first | (simp only [maxLen]; omega) | (simp [maxLen]; omega)) (by first | omega | (simp; omega)) ?_; clear M; intro q cap w1 M; (try simp only [setC] at M)))) <;> (try conv => arg 5; simp only [Act.put, List.setIfInBounds_toArray, setC]))
          rw [snoc0] at M
          go_roundw
          case rel => exact ⟨k + 1, _, _, by omega, rfl, by rw [List.replicate_succ', ← List.append_assoc]; exact M⟩
          case measure => simp only [lenV]; omega
        · have ek : k = zpad l.length := by omega
          have hd : ((l.length : Int) + 1 + k) % 64 = 56 := by unfold zpad at ek; omega
          have hz : zpad l.length ≤ 63 := by unfold zpad; omega
          go_wp2_with fail
          subst ek
          have hbf : (((l.length : Int) + 1 + (zpad l.length : Nat)) % 64 != 56) = false := by rw [hd]; rfl
          simp only [hbf]
          clear hd
          obtain ⟨base, eb⟩ : ∃ base, base = l ++ [128] ++ List.replicate (zpad l.length) 0 := ⟨_, rfl⟩
          have lb : base.length = l.length + 1 + zpad l.length := by rw [eb]; simp; omega
          rw [← eb, ← lb] at M
          rw [← lb]
          have LB := Lib.hid lb; clear lb
          have EBs := Lib.hid eb; clear eb
          obtain ⟨N, eN⟩ : ∃ N, N = w64 (l.length : Int) * 8 := ⟨_, rfl⟩
          rw [← eN]
          have EN := Lib.hid eN; clear eN
          go_loopw [7, 9] (fun v iv wr => ∃ (j : Nat) (done : List UInt8) (q : Option Addr) (c : Nat), j ≤ 8 ∧ iv = .int .i64 ((j : Int) - 1) ∧ done ++ bigB N j = bigB N 8 ∧ done.length ≤ 8 ∧ v = .slice q (base ++ done).length c ∧ Mem [] w wr [.sl 1 (.slice q (base ++ done).length c) (base ++ done).length (bs (base ++ done)), .row gh (ws HH.words), .row gk (ws KK), .sl 1 (.slice (some ⟨gp, op, none⟩) 64 capP) 64 (us PP), .row go (bs (List.replicate 32 0))]) (fun _ iv _ => (intOf iv + 1).toNat)
          case atStart => exact ⟨8, [], q, c, by omega, rfl, rfl, by simp, by simp, by simpa using M⟩
          case round =>
            clear M
            obtain ⟨j, done, q, c, hj, rfl, hd8, hdl, rfl, M⟩ := hrel
            have HD := Lib.hid hd8; clear hd8
            cases j with
            | zero =>
              have ed : done = bigB N 8 := by have := HD.out; simpa [bigB] using this
              subst ed
              rw [show ((0 : Nat) : Int) - 1 = -1 from rfl]
              obtain ⟨T, eT⟩ : ∃ T, T = base ++ bigB N 8 := ⟨_, rfl⟩
              rw [← eT] at M
              rw [← eT]
              have hT : T = padT l := by
                rw [eT, EBs.out, EN.out, w64_nat]; rfl
              have hT64 : T.length % 64 = 0 := by rw [hT]; exact padT_length l
              have hTl : T.length ≤ 100000001000 := by rw [eT, List.length_append, bigB_length, LB.out]; omega
              have HT := Lib.hid hT; clear hT eT
              obtain ⟨n64, en64⟩ : ∃ n, T.length = 64 * n := ⟨T.length / 64, by omega⟩
              rw [en64] at hTl
              have EN64 := Lib.hid en64; clear en64 hT64
              go_wp2_with fail
              go_loopw [10] (fun iv wr => ∃ (j : Nat), j ≤ n64 ∧ iv = .int .i64 (64 * j) ∧ Mem [] w wr [.sl 1 (.slice q T.length c) T.length (bs T), .row gh (ws (absorb j HH T).words), .row gk (ws KK), .sl 1 (.slice (some ⟨gp, op, none⟩) 64 capP) 64 (us PP), .row go (bs (List.replicate 32 0))]) (fun iv _ => (64 * n64 - intOf iv).toNat)
              case atStart => exact ⟨0, by omega, rfl, M⟩
              case round =>
                clear M
                obtain ⟨j, hj, rfl, M⟩ := hrel
                obtain ⟨hj', ehj⟩ : ∃ x, x = absorb j HH T := ⟨_, rfl⟩
                rw [← ehj] at M
                have EJ := Lib.hid ehj; clear ehj
                have lj := words_len hj'
                by_cases hlt : j < n64
                · obtain ⟨gT, oT, rfl⟩ := M.slAddr 0 rfl (by rw [EN64.out]; omega)
                  have hcc := (M.slCap 0 rfl).2.1
                  have hcm := (M.slCap 0 rfl).2.2.1
                  have tlen : (T.length : Int) = 64 * n64 := by have := EN64.out; omega
                  have hc1 : (64 * (j : Int) + 64) ≤ c := by have := EN64.out; omega
                  have hc2 : ¬ ((c : Int) = 64 * j) := by omega
                  have ht64 : ((T.drop (64 * j)).take 64).length = 64 := by have := EN64.out; simp; omega
                  have SV := M.part 0 rfl (64 * j) 64 (by have := EN64.out; omega) rfl (c - 64 * j) (by omega) (by omega)
                  obtain ⟨blk, eblk⟩ : ∃ b, b = (T.drop (64 * j)).take 64 := ⟨_, rfl⟩
                  rw [← eblk] at SV ht64
                  have EBK := Lib.hid eblk; clear eblk
                  have HSV := Lib.hid SV; clear SV
                  go_wp2_with ((first | ((with_reducible show Code.wp _ (Code.region 21 _ _) _ _ _); go_must (have MR := M; refine region_lowc [(2, false), (3, false), (4, false), (5, false), (6, false), (0, false), (1, false), (7, true), (8, true)] [(72, .int)] [(0, _), (1, _)] (IxOk MR [1, 2]) 8 (by kernel_rfl) (by kernel_rfl) rfl (by kernel_rfl) (lowA MR 1 0 (lowA MR 2 0 lows_nil)) (ixOk_self MR _) ?_; replace M := M.drew; simp only [planC, opAt, List.getElem?_toArray, List.getElem?_cons_zero, List.getElem?_cons_succ, Option.getD_some])) | (go_at_call 121; go_must (refine (refturn_l hj' KK blk lK ht64 _ _ (Sees.drew HSV.out)).mono ?_; rintro e w1 ⟨hn, EHN, rfl, hb⟩; have lhn := words_len hn; replace M := M.call hb; clear hb)) | ((with_reducible show Seg _ _ _ _); go_must (first | refine Seg.intro ⟨fun h => absurd rfl h, ?_⟩ | refine Seg.intro ⟨fun _ => ixA, ?_⟩ | refine Seg.intro ⟨ndA, atA, ?_⟩)) | ((with_reducible show OnlyN _ _ _ _ _); refine OnlyN.intro (by kernel_rfl) ?_) | ((with_reducible refine tGuard ?_); first | refine gdS ?_ | (refine gdC ?_ ?_ <;> (intro hgd; rw [hgd]; try (exfalso; simp at hgd; omega)))) | ((with_reducible refine tConv _ 70 9 ?_); go_must (refine cvB ?_)) | ((with_reducible refine tLoad ?_); go_must (refine ldW ?_)) | ((with_reducible refine tStore ?_); go_must (refine stW ?_; clear M; intro w1 M; (try simp only [setC] at M))) | ((with_reducible refine tBox _ ?_); (refine bxA M ?_; clear M; intro g w1 M))) <;> (try conv => arg 5; simp only [Act.put, List.setIfInBounds_toArray, setC]))
                  go_roundw
                  case rel => exact ⟨j + 1, by omega, by rw [show (64 : Int) * ((j + 1 : Nat) : Int) = 64 * j + 64 by omega], by
                    have e : absorb (j + 1) HH T = hn := by rw [absorb_step, EHN.out, ← EJ.out, EK.out, EBK.out]
                    rw [e]; exact M⟩
                  case measure => simp [intOf]; omega
                · have ej : j = n64 := by omega
                  subst ej
                  have tlen : (T.length : Int) = 64 * j := by have := EN64.out; omega
                  obtain ⟨OB, eOB⟩ : ∃ OB, OB = outB hj' := ⟨_, rfl⟩
                  have lOB : OB.length = 32 := by rw [eOB]; exact outB_length _
                  have EOB := Lib.hid eOB; clear eOB
                  go_wp2_with (first | ((with_reducible refine tAlloc (some 11) 49 ?_); refine w_alloc M _ rfl rfl (.agg (Array.replicate 32 (.int .u8 0))) (bs (List.replicate 32 (0 : UInt8))) (by kernel_rfl) rfl ?_; clear M; intro gout w1 M; (try conv => arg 5; simp only [Act.put, List.setIfInBounds_toArray, setC])))
                  go_loopw [12] (fun iv wr => ∃ i : Nat, i ≤ 32 ∧ iv = .int .i64 i ∧ Mem [] w wr [.row gout (bs (OB.take i ++ List.replicate (32 - i) 0)), .sl 1 (.slice q T.length c) T.length (bs T), .row gh (ws hj'.words), .row gk (ws KK), .sl 1 (.slice (some ⟨gp, op, none⟩) 64 capP) 64 (us PP), .row go (bs (List.replicate 32 0))]) (fun iv _ => 32 - (intOf iv).toNat)
                  case atStart => exact ⟨0, by omega, rfl, M⟩
                  case round =>
                    clear M
                    obtain ⟨i, hi, rfl, M⟩ := hrel
                    by_cases hlt : i < 32
                    · have ho := outB_get hj' i hlt
                      rw [← EOB.out] at ho
                      have HO := Lib.hid ho; clear ho
                      have hI : I64 (w64 (24 - 8 * ((i : Int) % 4))) = 24 - 8 * ((i : Int) % 4) := by have := I64_nat2 (24 - 8 * (i % 4)) (by omega); rw [show ((24 - 8 * (i % 4) : Nat) : Int) = 24 - 8 * ((i : Int) % 4) by omega] at this; exact this
                      have b1 : 24 - 8 * ((i : Int) % 4) ≤ 31 := by omega
                      have b0 : 0 ≤ 24 - 8 * ((i : Int) % 4) := by omega
                      go_wp2_with ((first | ((with_reducible refine tGuard ?_); first | refine gdS ?_ | (refine gdC ?_ ?_ <;> (intro hgd; rw [hgd]; try (exfalso; simp at hgd; omega)))) | ((with_reducible refine tConv _ 70 9 ?_); go_must (refine cvB ?_)) | ((with_reducible refine tLoad ?_); go_must (refine ldW ?_)) | ((with_reducible refine tStore ?_); go_must (refine stW ?_; clear M; intro w1 M; (try simp only [setC] at M))) | ((with_reducible refine tBox _ ?_); (refine bxA M ?_; clear M; intro g w1 M))) <;> (try conv => arg 5; simp only [Act.put, List.setIfInBounds_toArray, setC]))
                      rw [I32_shr _ _ (by omega), w8_I32, ← List.getD_eq_getElem?_getD, ← HO.out, setTake OB 32 i lOB hlt] at M
                      go_roundw
                      case rel => exact ⟨i + 1, by omega, by go_num, M⟩
                      case measure => simp [intOf]; omega
                    · obtain rfl : i = 32 := by omega
                      rw [List.take_of_length_le (by omega), Nat.sub_self, List.replicate_zero, List.append_nil] at M
                      go_wp2_with ((first | ((with_reducible refine tGuard ?_); first | refine gdS ?_ | (refine gdC ?_ ?_ <;> (intro hgd; rw [hgd]; try (exfalso; simp at hgd; omega)))) | ((with_reducible refine tConv _ 70 9 ?_); go_must (refine cvB ?_)) | ((with_reducible refine tLoad ?_); go_must (refine ldW ?_)) | ((with_reducible refine tStore ?_); go_must (refine stW ?_; clear M; intro w1 M; (try simp only [setC] at M))) | ((with_reducible refine tBox _ ?_); (refine bxA M ?_; clear M; intro g w1 M))) <;> (try conv => arg 5; simp only [Act.put, List.setIfInBounds_toArray, setC]))
                      have hres : OB = shaL l := by rw [EOB.out, EJ.out, shaL_whole, ← HT.out, EN64.out, EH.out, Nat.mul_div_cancel_left _ (by decide : 0 < 64)]
                      refine bodyPost_ret (results_row rfl _ _ go 0 (bs OB) _ rfl (M.ok 5 _ rfl).2.1 Tryz.underlying49 rfl (by rw [bs_length, lOB]; kernel_rfl)) rfl ⟨by rw [hres], M.below⟩
            | succ i =>
              have e : ((i + 1 : Nat) : Int) - 1 = i := by omega
              rw [e]; clear e
              have b1 : 8 * (i : Int) ≤ 63 := by omega
              have b0 : 0 ≤ 8 * (i : Int) := by omega
              have hI : I64 (w64 (8 * (i : Int))) = 8 * (i : Int) := by have := I64_nat2 (8 * i) (by omega); simpa using this
              have ll : (base ++ done).length ≤ 100000000200 := by rw [List.length_append, LB.out]; omega
              obtain ⟨B, eB⟩ : ∃ B, B = base ++ done := ⟨_, rfl⟩
              rw [← eB] at M ll
              rw [← eB]
              have EB := Lib.hid eB; clear eB
              go_wp2_with ((first | ((with_reducible show wpList _ _ _ (Oper.mk _ (Op.buildSlice _ 1 _) _ _ _ _ :: _) _ _); go_must (refine w_buildSlice1 M bytesT (by decide) _ rfl rfl (by first | exact ev_tmp rfl | exact ev_const) _ rfl rfl ?_; clear M; intro g w1 M)) | ((with_reducible refine tApp ?_); go_must (refine w_append_new M 0 bytesT _ _ rfl rfl rfl rfl rfl rfl (by first | decide | (intro q hq; simp at hq; subst hq; rfl) | (intro q hq; simp at hq; rcases hq with rfl | rfl; rfl; rfl) | (intro q hq; simp at hq; rcases hq with rfl | rfl | rfl <;> rfl)) (by decide) (by first | (simp only [maxLen]; omega) | (simp [maxLen]; omega)) (by first | omega | (simp; omega)) ?_; clear M; intro q cap w1 M; (try simp only [setC] at M)))) <;> (try conv => arg 5; simp only [Act.put, List.setIfInBounds_toArray, setC]))
              rw [snocB] at M
              have HB : Hid ((base ++ (done ++ [(N >>> (8 * UInt64.ofNat i)).toUInt8])) = B ++ [(N >>> (8 * UInt64.ofNat i)).toUInt8]) := Lib.hid (by rw [EB.out, List.append_assoc])
              have hd9 : done.length + (i + 1) = 8 := by have := bigB_length N 8; rw [← HD.out, List.length_append, bigB_length] at this; exact this
              go_roundw
              case rel => exact ⟨i, done ++ [(N >>> (8 * UInt64.ofNat i)).toUInt8], _, _, by omega, by go_num, by rw [← HD.out]; simp [bigB], by simp; omega, by rw [HB.out, List.length_append]; rfl, by rw [HB.out, List.length_append]; exact M⟩
              case measure => simp [intOf]
end Go.Proofs.YtidadhbaomieiaaGreat
