/- The walk of the reference's turn: it turns the words by a block as package sha does. Conditions: the block has 64 bytes, the numbers are 64. -/
import Derived.Test.YtidadhbaomieiaaGreatVBigR
import Derived.Test.YtidadhbaomieiaaGreatVRefPr
import Derived.Test.YtidadhbaomieiaaGreatVW32
import Derived.Test.YtidadhbaomieiaaGreatZa
namespace Go
namespace TL
open Go.RowKit
theorem or_add (x b n : Nat) (hb : b < 2 ^ n) : (x <<< n) ||| b = x * 2 ^ n + b := by
  rw [Nat.shiftLeft_eq, Nat.mul_comm, Nat.two_pow_add_eq_or_of_lt hb]
theorem be_step (x : UInt64) (b : UInt8) (h : x.toNat < 2 ^ 48) : ((x <<< 8) ||| b.toUInt64).toNat = x.toNat * 256 + b.toNat := by
  have hb := b.toNat_lt
  have e8 : (UInt64.toNat 8) % 64 = 8 := rfl
  simp only [UInt64.toNat_or, UInt64.toNat_shiftLeft, e8, UInt8.toNat_toUInt64]
  rw [Nat.mod_eq_of_lt (by rw [Nat.shiftLeft_eq]; omega), or_add _ _ 8 (by omega)]
theorem wordBE (a b c d : UInt8) : w32 (I8 a) * 16777216 + w32 (I8 b) * 65536 + w32 (I8 c) * 256 + w32 (I8 d) = (be64 [a, b, c, d]).toUInt32 := by
  have ha := a.toNat_lt; have hb := b.toNat_lt; have hc := c.toNat_lt; have hd := d.toNat_lt
  have e0 : be64 [a, b, c, d] = ((((((0 : UInt64) <<< 8 ||| a.toUInt64) <<< 8) ||| b.toUInt64) <<< 8 ||| c.toUInt64) <<< 8) ||| d.toUInt64 := rfl
  have n1 : ((0 : UInt64) <<< 8 ||| a.toUInt64).toNat = a.toNat := by rw [be_step _ _ (by decide)]; simp
  have n2 := be_step ((0 : UInt64) <<< 8 ||| a.toUInt64) b (by rw [n1]; omega)
  have n3 := be_step _ c (by rw [n2, n1]; omega)
  have n4 := be_step _ d (by rw [n3, n2, n1]; omega)
  have w : ∀ x : UInt8, (w32 (I8 x)).toNat = x.toNat := fun x => by have := x.toNat_lt; rw [toNat_w32, I8_eq]; omega
  apply UInt32.toNat_inj.1
  rw [e0, UInt64.toNat_toUInt32, n4, n3, n2, n1]
  simp only [UInt32.toNat_add, UInt32.toNat_mul, w, UInt32.reduceToNat]
  omega
theorem wordBE' (a b c d : UInt8) : a.toUInt32 * 16777216 + b.toUInt32 * 65536 + c.toUInt32 * 256 + d.toUInt32 = (be64 [a, b, c, d]).toUInt32 := by
  have w : ∀ x : UInt8, w32 (I8 x) = x.toUInt32 := fun x => by
    apply UInt32.toNat_inj.1
    have := x.toNat_lt
    rw [toNat_w32, I8_eq, UInt8.toNat_toUInt32]; omega
  rw [← wordBE, w, w, w, w]
theorem words_len (s : St) : s.words.length = 8 := by cases s; simp [St.words]
instance wordsLen {s : St} : HXor (PLift (s.words = s.words)) Unit (PLift (s.words.length = 8)) := ⟨fun _ _ => ⟨words_len s⟩⟩
theorem add_words (h r : St) (k : Nat) (_hk : k < 8) (h1 : k < r.words.length) (h2 : k < h.words.length) : r.words[k] + h.words[k] = (h.add r).words.getD k 0 := by
  have e : (h.add r).words = List.zipWith (· + ·) h.words r.words := rfl
  rw [e, List.getD_eq_getElem?_getD, List.getElem?_eq_getElem (by simp; omega), Option.getD_some, List.getElem_zipWith, UInt32.add_comm]; rfl
theorem mixSet (A B : List UInt32) (k : Nat) (x : UInt32) (hA : k < A.length) (hB : k < B.length) (hx : x = A.getD k 0) : (A.take k ++ B.drop k).set k x = A.take (k + 1) ++ B.drop (k + 1) := by
  subst hx
  rw [List.set_append_right _ _ (by simp; omega)]
  simp only [List.length_take, Nat.min_eq_left (Nat.le_of_lt hA), Nat.sub_self]
  rw [List.drop_eq_getElem_cons hB, List.set_cons_zero, List.take_succ_eq_append_getElem hA, List.append_assoc, List.getD_eq_getElem?_getD, List.getElem?_eq_getElem hA]
  rfl
theorem take4 (s : List UInt8) (k : Nat) (h : 4 * k + 4 ≤ s.length) : (s.drop (4 * k)).take 4 = [s.getD (4 * k) 0, s.getD (4 * k + 1) 0, s.getD (4 * k + 2) 0, s.getD (4 * k + 3) 0] := by
  apply List.ext_getElem
  · simp; omega
  · intro i h1 h2
    simp only [List.length_cons, List.length_nil] at h2
    rw [List.getElem_take, List.getElem_drop]
    have : i = 0 ∨ i = 1 ∨ i = 2 ∨ i = 3 := by omega
    rcases this with rfl | rfl | rfl | rfl <;> simp only [List.getElem_cons_zero, List.getElem_cons_succ, List.getD_eq_getElem?_getD] <;> rw [List.getElem?_eq_getElem (by omega)] <;> rfl
theorem wl_getD (s : List UInt8) (n k : Nat) (h : k < n) : (wl s n).getD k 0 = nextW s (wl s k) := by
  induction n with
  | zero => omega
  | succ n ih =>
    rw [wl_step, List.getD_eq_getElem?_getD]
    by_cases e : k < n
    · rw [List.getElem?_append_left (by rw [wl_length]; exact e), ← List.getD_eq_getElem?_getD]; exact ih e
    · obtain rfl : k = n := by omega
      rw [List.getElem?_append_right (by rw [wl_length]; exact Nat.le_refl _), wl_length]; simp
theorem wl_take (s : List UInt8) (n k : Nat) (h : k ≤ n) : (wl s n).take k = wl s k := by
  induction n with
  | zero => obtain rfl : k = 0 := by omega
            rfl
  | succ n ih =>
    by_cases e : k ≤ n
    · rw [wl_step, List.take_append_of_le_length (by rw [wl_length]; exact e)]; exact ih e
    · obtain rfl : k = n + 1 := by omega
      rw [List.take_of_length_le (by rw [wl_length]; exact Nat.le_refl _)]
end TL
end Go
namespace Go.Proofs.YtidadhbaomieiaaGreat
open Go.RowKit Go.TL
theorem refrot_c (x : UInt32) (k : Int) (w : World) (h1 : 1 ≤ k) (h2 : k ≤ 31) :
    Calls Tryz.prog 163 #[.int .u32 (I32 x), .int .u64 k] w fun e w' => e = .returned (.int .u32 (I32 (ror x k.toNat))) ∧ w = w' := by
  obtain ⟨m, rfl⟩ := Int.eq_ofNat_of_zero_le (show 0 ≤ k by omega)
  exact refrot_any x m w (by omega) (by omega)
set_option maxRecDepth 100000 in
set_option maxHeartbeats 2000000 in
theorem refturn_c (h : St) (K : List UInt32) (s : List UInt8) (hK : K.length = 64) (hs : s.length = 64) (v : Value) (w : World) (S : Sees w 1 v 64 (bs s)) :
    Calls Tryz.prog 121 #[.agg (ws h.words).toArray, .agg (ws K).toArray, v] w fun e w' => e = .returned (.agg (ws (turnS h h K s).words).toArray) ∧ Below w.heap.size w w' := by
  obtain ⟨q, cap, rfl, hcap⟩ := S.form
  obtain ⟨g, so, rfl⟩ := sees_addr S (by omega)
  obtain ⟨W, eW⟩ : ∃ W, W = wl s 64 := ⟨_, rfl⟩
  have wlen : W.length = 64 := by rw [eW]; exact wl_length s 64
  have EW := Lib.hid eW; clear eW
  have M := Mem.start [] w
  go_enter Tryz.func121, Tryz.ntmps121
  go_wp2_with ((first | ((with_reducible refine tBox (some 3) ?_); refine w_box M _ _ rfl rfl _ rfl (ws h.words) rfl ?_; clear M; intro gh w1 M) | ((with_reducible refine tBox (some 4) ?_); refine w_box M _ _ rfl rfl _ rfl (ws K) rfl ?_; clear M; intro gk w1 M) | ((with_reducible refine tAlloc (some 6) 213 ?_); refine w_alloc M _ rfl rfl (.agg (Array.replicate 8 (.int .u32 0))) (ws (List.replicate 8 (0 : UInt32))) (by kernel_rfl) rfl ?_; clear M; intro gr w1 M) | ((with_reducible refine tAlloc (some 7) 212 ?_); refine w_alloc M _ rfl rfl (.agg (Array.replicate 64 (.int .u32 0))) (ws (List.replicate 64 (0 : UInt32))) (by kernel_rfl) rfl ?_; clear M; intro gw w1 M)) <;> (try conv => arg 5; simp only [Act.put, List.setIfInBounds_toArray, setC]))
  go_loopw [8] (fun iv wr => ∃ k : Nat, k ≤ 16 ∧ iv = .int .i64 k ∧ Mem [] w wr [.row gw (ws (W.take k ++ List.replicate (64 - k) 0)), .row gr (ws (List.replicate 8 0)), .row gk (ws K), .row gh (ws h.words)]) (fun iv _ => 16 - (intOf iv).toNat)
  case atStart => exact ⟨0, by omega, rfl, M⟩
  case round =>
    clear M
    obtain ⟨k, hk, rfl, M⟩ := hrel
    by_cases hlt : k < 16
    · have e1 : (s.getD (4 * k) 0).toUInt32 * 16777216 + (s.getD (4 * k + 1) 0).toUInt32 * 65536 + (s.getD (4 * k + 2) 0).toUInt32 * 256 + (s.getD (4 * k + 3) 0).toUInt32 = W.getD k 0 := by
        rw [EW.out, wordBE', ← take4 s k (by omega), wl_getD s 64 k (by omega), nextW_low s k hlt]; rfl
      have E1 := Lib.hid e1; clear e1
      go_wp2_with ((first | ((with_reducible show Code.wp _ (Code.region 5 _ _) _ _ _); go_must (refine region_det [(0, false), (1, false), (2, false), (3, false), (4, false), (8, false), (9, false), (10, false), (11, false), (12, false), (17, false), (18, false), (19, false), (20, false), (21, false), (26, false), (27, false), (28, false), (29, false), (30, false), (5, false), (6, false), (7, false), (13, false), (14, false), (15, false), (16, false), (22, false), (23, false), (24, false), (25, false), (31, false), (32, false), (33, false), (34, false), (35, true)] [(29, .int), (36, .int), (37, .int), (45, .int), (46, .int), (54, .int), (55, .int), (32, .int), (33, .int), (40, .int), (41, .int), (34, .int), (42, .int), (49, .int), (50, .int), (43, .int), (51, .int), (58, .int), (52, .int), (59, .int)] (by kernel_rfl) (by kernel_rfl) rfl (by kernel_rfl) ?_; replace M := M.drew; simp only [reord, opAt, List.map_cons, List.map_nil, List.getElem?_toArray, List.getElem?_cons_zero, List.getElem?_cons_succ, Option.getD_some])) | ((with_reducible show wpList _ _ _ (Oper.mk _ (Op.load _ _) _ _ _ _ :: _) _ _); go_must (refine w_loadX M _ _ rfl S (by simp) rfl rfl (by decide +kernel) _ rfl (by omega) ?_)) | ((with_reducible show Seg _ _ _ _); go_must (first | refine Seg.intro ⟨fun h => absurd rfl h, ?_⟩ | refine Seg.intro ⟨fun _ => ixA, ?_⟩ | refine Seg.intro ⟨ndA, atA, ?_⟩)) | ((with_reducible show OnlyN _ _ _ _ _); refine OnlyN.intro (by kernel_rfl) ?_) | ((with_reducible refine tGuard ?_); first | refine gdS ?_ | (refine gdC ?_ ?_ <;> (intro hgd; rw [hgd]; try (exfalso; simp at hgd; omega)))) | ((with_reducible refine tConv _ 70 9 ?_); go_must (refine cvB ?_)) | ((with_reducible refine tLoad ?_); go_must (refine ldW ?_)) | ((with_reducible refine tStore ?_); go_must (refine stW ?_; clear M; intro w1 M; (try simp only [setC] at M))) | ((with_reducible refine tBox _ ?_); (refine bxA M ?_; clear M; intro g w1 M))) <;> (try conv => arg 5; simp only [Act.put, List.setIfInBounds_toArray, setC]))
      go_roundw
      case rel => exact ⟨k + 1, by omega, by go_num, by rw [← setTake32 W 64 k wlen (by omega) _ E1.out]; simpa only [List.getD_eq_getElem?_getD] using M⟩
      case measure => simp [intOf]; omega
    · obtain rfl : k = 16 := by omega
      rw [show ((16 : Nat) : Int) = 16 from rfl]
      go_wp2_with fail
      go_loopw [9] (fun iv wr => ∃ j : Nat, j ≤ 48 ∧ iv = .int .i64 (j + 16) ∧ Mem [] w wr [.row gw (ws (W.take (j + 16) ++ List.replicate (64 - (j + 16)) 0)), .row gr (ws (List.replicate 8 0)), .row gk (ws K), .row gh (ws h.words)]) (fun iv _ => 64 - (intOf iv).toNat)
      case atStart => exact ⟨0, by omega, rfl, M⟩
      case round =>
        clear M
        obtain ⟨j, hj, rfl, M⟩ := hrel
        by_cases hlt : j < 48
        · go_wp2_with ((first | ((with_reducible show Code.wp _ (Code.region 11 _ _) _ _ _); go_must (have MR := M; refine region_lowc [(0, false), (1, false), (2, false), (3, false), (5, false), (7, false), (10, false), (11, false), (14, false), (15, false), (16, false), (19, false), (21, false), (24, false), (25, false), (4, false), (17, false), (6, true), (8, true), (9, false), (12, false), (13, false), (18, false), (20, true), (22, true), (23, false), (26, false), (27, false), (28, false), (29, true)] [(75, .int), (84, .int), (88, .int), (98, .int), (80, .int), (82, .int), (83, .int), (85, .int), (78, .int), (86, .int), (87, .int), (91, .int), (94, .int), (96, .int), (97, .int), (99, .int), (92, .int), (100, .int)] [(4, _), (17, _)] (IxOk MR [0]) 29 (by kernel_rfl) (by kernel_rfl) rfl (by kernel_rfl) (lowA MR 0 j (lowA MR 0 (j+9) lows_nil)) (ixOk_self MR _) ?_; replace M := M.drew; simp only [planC, opAt, List.getElem?_toArray, List.getElem?_cons_zero, List.getElem?_cons_succ, Option.getD_some])) | (go_at_call 163; go_must (refine (refrot_c _ _ _ (by decide) (by decide)).mono ?_; rintro e w1 ⟨rfl, rfl⟩)) | ((with_reducible show Seg _ _ _ _); go_must (first | refine Seg.intro ⟨fun h => absurd rfl h, ?_⟩ | refine Seg.intro ⟨fun _ => ixA, ?_⟩ | refine Seg.intro ⟨ndA, atA, ?_⟩)) | ((with_reducible show OnlyN _ _ _ _ _); refine OnlyN.intro (by kernel_rfl) ?_) | ((with_reducible refine tGuard ?_); first | refine gdS ?_ | (refine gdC ?_ ?_ <;> (intro hgd; rw [hgd]; try (exfalso; simp at hgd; omega)))) | ((with_reducible refine tConv _ 70 9 ?_); go_must (refine cvB ?_)) | ((with_reducible refine tLoad ?_); go_must (refine ldW ?_)) | ((with_reducible refine tStore ?_); go_must (refine stW ?_; clear M; intro w1 M; (try simp only [setC] at M))) | ((with_reducible refine tBox _ ?_); (refine bxA M ?_; clear M; intro g w1 M))) <;> (try conv => arg 5; simp only [Act.put, List.setIfInBounds_toArray, setC]))
          have gd : ∀ m, m < j + 16 → (W.take (j + 16) ++ List.replicate (48 - j) 0)[m]?.getD 0 = W.getD m 0 := fun m hm => by
            rw [List.getElem?_append_left (by rw [List.length_take]; omega), List.getElem?_take, if_pos hm, List.getD_eq_getElem?_getD]
          rw [gd j (by omega), gd (j + 1) (by omega), gd (j + 9) (by omega), gd (j + 14) (by omega), show 64 - (j + 16) = 48 - j by omega] at M
          have e2 : W.getD j 0 + (ror (W.getD (j + 1) 0) 7 ^^^ ror (W.getD (j + 1) 0) 18 ^^^ W.getD (j + 1) 0 >>> 3) + W.getD (j + 9) 0 + (ror (W.getD (j + 14) 0) 17 ^^^ ror (W.getD (j + 14) 0) 19 ^^^ W.getD (j + 14) 0 >>> 10) = W.getD (j + 16) 0 := by
            have hg : ∀ m, m < j + 16 → (wl s (j + 16)).getD m 0 = W.getD m 0 := fun m hm => by
              rw [EW.out, wl_getD s 64 m (by omega), wl_getD s (j + 16) m hm]
            have hr : W.getD (j + 16) 0 = nextW s (wl s (j + 16)) := by rw [EW.out, wl_getD s 64 (j + 16) (by omega)]
            rw [hr, nextW_high s (j + 16) (by omega), hg _ (by omega), hg _ (by omega), hg _ (by omega), hg _ (by omega), show j + 16 - 16 = j by omega, show j + 16 - 15 = j + 1 by omega, show j + 16 - 7 = j + 9 by omega, show j + 16 - 2 = j + 14 by omega]
            rfl
          go_roundw
          case rel => exact ⟨j + 1, by omega, by go_num, by rw [show j + 1 + 16 = j + 16 + 1 by omega, ← setTake32 W 64 (j + 16) wlen (by omega) _ e2, show 64 - (j + 16) = 48 - j by omega]; exact M⟩
          case measure => simp [intOf]; omega
        · obtain rfl : j = 48 := by omega
          rw [show 48 + 16 = 64 from rfl, List.take_of_length_le (by omega), Nat.sub_self, List.replicate_zero, List.append_nil] at M
          go_wp2_with ((first | ((with_reducible refine tAlloc (some 12) 213 ?_); refine w_alloc M _ rfl rfl (.agg (Array.replicate 8 (.int .u32 0))) (ws (List.replicate 8 (0 : UInt32))) (by kernel_rfl) rfl ?_; clear M; intro gv w1 M) | ((with_reducible refine tGuard ?_); first | refine gdS ?_ | (refine gdC ?_ ?_ <;> (intro hgd; rw [hgd]; try (exfalso; simp at hgd; omega)))) | ((with_reducible refine tConv _ 70 9 ?_); go_must (refine cvB ?_)) | ((with_reducible refine tLoad ?_); go_must (refine ldW ?_)) | ((with_reducible refine tStore ?_); go_must (refine stW ?_; clear M; intro w1 M; (try simp only [setC] at M))) | ((with_reducible refine tBox _ ?_); (refine bxA M ?_; clear M; intro g w1 M))) <;> (try conv => arg 5; simp only [Act.put, List.setIfInBounds_toArray, setC]))
          try rw [show ((48 : Nat) : Int) + 16 = 64 from rfl]
          go_loopw [13] (fun iv wr => ∃ k : Nat, k ≤ 64 ∧ iv = .int .i64 k ∧ Mem [] w wr [.row gv (ws (rndN h K W k).words), .row gw (ws W), .row gr (ws (List.replicate 8 0)), .row gk (ws K), .row gh (ws h.words)]) (fun iv _ => 64 - (intOf iv).toNat)
          case atStart => exact ⟨0, by omega, rfl, M⟩
          case round =>
            clear M
            obtain ⟨k, hk, rfl, M⟩ := hrel
            obtain ⟨r, er⟩ : ∃ r, r = rndN h K W k := ⟨_, rfl⟩
            rw [← er] at M
            have ER := Lib.hid er; clear er
            by_cases hlt : k < 64
            · go_wp2_with ((first | ((with_reducible show Code.wp _ (Code.region 16 _ _) _ _ _); go_must (refine region_det [(0, false), (2, false), (4, false), (6, false), (8, false), (10, false), (1, false), (12, false), (3, false), (13, false), (5, false), (14, false), (7, false), (15, false), (9, false), (16, false), (11, false), (17, false)] [] (by kernel_rfl) (by kernel_rfl) rfl (by kernel_rfl) ?_; replace M := M.drew; simp only [reord, opAt, List.map_cons, List.map_nil, List.getElem?_toArray, List.getElem?_cons_zero, List.getElem?_cons_succ, Option.getD_some])) | ((with_reducible show Code.wp _ (Code.region 17 _ _) _ _ _); go_must (have MR := M; refine region_lowc [(0, false), (2, false), (4, false), (7, false), (11, false), (12, false), (13, false), (14, false), (15, false), (16, false), (17, false), (18, false), (20, false), (21, false), (24, false), (25, false), (1, false), (22, false), (26, false), (3, true), (5, true), (6, false), (8, true), (9, false), (10, false), (19, false), (23, false), (27, false), (28, false)] [(131, .int), (132, .int), (134, .int), (135, .int), (136, .int), (133, .int), (137, .int), (123, .int), (125, .int), (126, .int), (128, .int), (121, .int), (129, .int), (130, .int), (138, .int), (139, .int), (142, .int), (143, .int), (146, .int)] [(1, _), (22, _), (26, _)] (IxOk MR [0, 3, 1]) 29 (by kernel_rfl) (by kernel_rfl) rfl (by kernel_rfl) (lowA MR 0 7 (lowA MR 3 k (lowA MR 1 k lows_nil))) (ixOk_self MR _) ?_; replace M := M.drew; simp only [planC, opAt, List.getElem?_toArray, List.getElem?_cons_zero, List.getElem?_cons_succ, Option.getD_some])) | (go_at_call 163; go_must (refine (refrot_c _ _ _ (by decide) (by decide)).mono ?_; rintro e w1 ⟨rfl, rfl⟩)) | ((with_reducible show Seg _ _ _ _); go_must (first | refine Seg.intro ⟨fun h => absurd rfl h, ?_⟩ | refine Seg.intro ⟨fun _ => ixA, ?_⟩ | refine Seg.intro ⟨ndA, atA, ?_⟩)) | ((with_reducible show OnlyN _ _ _ _ _); refine OnlyN.intro (by kernel_rfl) ?_) | ((with_reducible refine tGuard ?_); first | refine gdS ?_ | (refine gdC ?_ ?_ <;> (intro hgd; rw [hgd]; try (exfalso; simp at hgd; omega)))) | ((with_reducible refine tConv _ 70 9 ?_); go_must (refine cvB ?_)) | ((with_reducible refine tLoad ?_); go_must (refine ldW ?_)) | ((with_reducible refine tStore ?_); go_must (refine stW ?_; clear M; intro w1 M; (try simp only [setC] at M))) | ((with_reducible refine tBox _ ?_); (refine bxA M ?_; clear M; intro g w1 M))) <;> (try conv => arg 5; simp only [Act.put, List.setIfInBounds_toArray, setC]))
              have e3 : (4294967295 : UInt32) ^^^ r.e = ~~~ r.e := by
                rw [show (4294967295 : UInt32) = -1 from rfl]; apply UInt32.eq_of_toBitVec_eq; simp
              have eK : K[k] = K.getD k 0 := by rw [List.getD_eq_getElem?_getD, List.getElem?_eq_getElem (by omega)]; rfl
              have eW : W[k] = W.getD k 0 := by rw [List.getD_eq_getElem?_getD, List.getElem?_eq_getElem (by omega)]; rfl
              rw [e3, eK, eW] at M
              go_roundw
              case rel => exact ⟨k + 1, by omega, by go_num, by rw [rndN, ← ER.out]; exact M⟩
              case measure => simp [intOf]; omega
            · obtain rfl : k = 64 := by omega
              rw [show ((64 : Nat) : Int) = 64 from rfl]
              have lr := words_len r
              have lh := words_len h
              go_wp2_with fail
              go_loopw [22] (fun iv wr => ∃ k : Nat, k ≤ 8 ∧ iv = .int .i64 k ∧ Mem [] w wr [.row gv (ws (((h.add r).words).take k ++ r.words.drop k)), .row gw (ws W), .row gr (ws (List.replicate 8 0)), .row gk (ws K), .row gh (ws h.words)]) (fun iv _ => 8 - (intOf iv).toNat)
              case atStart => exact ⟨0, by omega, rfl, M⟩
              case round =>
                clear M
                obtain ⟨k, hk, rfl, M⟩ := hrel
                have la := words_len (h.add r)
                by_cases hlt : k < 8
                · go_wp2_with ((first | ((with_reducible show Code.wp _ (Code.region 23 _ _) _ _ _); go_must (refine region_det [(0, false), (1, false), (2, false), (4, false), (5, false), (3, false), (6, false), (7, false), (8, false), (9, true)] [(189, .int), (192, .int)] (by kernel_rfl) (by kernel_rfl) rfl (by kernel_rfl) ?_; replace M := M.drew; simp only [reord, opAt, List.map_cons, List.map_nil, List.getElem?_toArray, List.getElem?_cons_zero, List.getElem?_cons_succ, Option.getD_some])) | ((with_reducible show Seg _ _ _ _); go_must (first | refine Seg.intro ⟨fun h => absurd rfl h, ?_⟩ | refine Seg.intro ⟨fun _ => ixA, ?_⟩ | refine Seg.intro ⟨ndA, atA, ?_⟩)) | ((with_reducible show OnlyN _ _ _ _ _); refine OnlyN.intro (by kernel_rfl) ?_) | ((with_reducible refine tGuard ?_); first | refine gdS ?_ | (refine gdC ?_ ?_ <;> (intro hgd; rw [hgd]; try (exfalso; simp at hgd; omega)))) | ((with_reducible refine tConv _ 70 9 ?_); go_must (refine cvB ?_)) | ((with_reducible refine tLoad ?_); go_must (refine ldW ?_)) | ((with_reducible refine tStore ?_); go_must (refine stW ?_; clear M; intro w1 M; (try simp only [setC] at M))) | ((with_reducible refine tBox _ ?_); (refine bxA M ?_; clear M; intro g w1 M))) <;> (try conv => arg 5; simp only [Act.put, List.setIfInBounds_toArray, setC]))
                  rw [mixSet (h.add r).words r.words k (r.words[k] + h.words[k]) (by omega) (by omega) (add_words h r k hlt (by omega) (by omega))] at M
                  go_roundw
                  case rel => exact ⟨k + 1, by omega, by go_num, M⟩
                  case measure => simp [intOf]; omega
                · obtain rfl : k = 8 := by omega
                  rw [List.take_of_length_le (by omega), List.drop_eq_nil_of_le (by omega), List.append_nil] at M
                  go_wp2_with ((first | ((with_reducible refine tGuard ?_); first | refine gdS ?_ | (refine gdC ?_ ?_ <;> (intro hgd; rw [hgd]; try (exfalso; simp at hgd; omega)))) | ((with_reducible refine tConv _ 70 9 ?_); go_must (refine cvB ?_)) | ((with_reducible refine tLoad ?_); go_must (refine ldW ?_)) | ((with_reducible refine tStore ?_); go_must (refine stW ?_; clear M; intro w1 M; (try simp only [setC] at M))) | ((with_reducible refine tBox _ ?_); (refine bxA M ?_; clear M; intro g w1 M))) <;> (try conv => arg 5; simp only [Act.put, List.setIfInBounds_toArray, setC]))
                  refine bodyPost_ret (results_row rfl _ _ gr 0 (ws (h.add r).words) _ rfl (M.ok 2 _ rfl).2.1 Tryz.underlying213 rfl (by kernel_rfl)) rfl ⟨?_, M.below⟩
                  rw [ER.out, EW.out]; rfl
end Go.Proofs.YtidadhbaomieiaaGreat
