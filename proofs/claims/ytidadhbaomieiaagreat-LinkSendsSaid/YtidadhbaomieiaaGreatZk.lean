/- Texts of this seat, put together: AesB, AesC, AesS, OutNew, SealW. Each begins with a remark that says what is proved in it, and under which conditions. -/
import Derived.Test.YtidadhbaomieiaaGreatY
import Derived.Test.YtidadhbaomieiaaGreatZe
import Derived.Test.YtidadhbaomieiaaGreatZf
import Derived.Test.YtidadhbaomieiaaGreatZj
set_option maxRecDepth 100000
set_option maxHeartbeats 16000000
namespace Go
namespace TL
theorem foldl_off (o : Nat) (l : List Value) : ∀ (k : Nat) (C : Array Value), (l.zipIdx k).foldl (fun cs x => cs.setIfInBounds (o + x.2) x.1) C = (l.zipIdx (o + k)).foldl (fun cs x => cs.setIfInBounds x.2 x.1) C := by
 induction l with
 | nil => intro k C; rfl
 | cons v t ih => intro k C; rw [List.zipIdx_cons, List.zipIdx_cons, List.foldl_cons, List.foldl_cons, ih]; rfl
theorem foldl_at (o : Nat) (l : List Value) (C : Array Value) (h : o + l.length ≤ C.size) : (l.zipIdx.foldl (fun cs x => cs.setIfInBounds (o + x.2) x.1) C).toList = C.toList.take o ++ l ++ C.toList.drop (o + l.length) := by
 rw [foldl_off, Nat.add_zero]; exact foldl_set l o C h
theorem copy_step (key s : List UInt8) (k : Nat) (hk : k < 8) (hl : key.length = 32) :
  (key.take (4 * k) ++ (List.replicate (240 - 4 * k) 0 ++ s)).take (k * 4) ++ ((((key.drop (4 * k)).take (32 - 4 * k))).take 4 ++ (key.take (4 * k) ++ (List.replicate (240 - 4 * k) 0 ++ s)).drop (k * 4 + 4)) = key.take (4 * (k + 1)) ++ (List.replicate (240 - 4 * (k + 1)) 0 ++ s) := by
 have e1 : (key.take (4 * k)).length = 4 * k := by simp; omega
 rw [show k * 4 = 4 * k by omega, List.take_left' e1, ← List.drop_drop, List.drop_left' e1, List.take_take, Nat.min_eq_left yE, ← List.append_assoc, show 4 * (k + 1) = 4 * k + 4 by omega, List.take_add]
 congr 1
 rw [show 240 - 4 * k = 4 + (240 - (4 * k + 4)) by omega, ← List.replicate_append_replicate, List.append_assoc, List.drop_left' (by simp)]
theorem Mem.take1 {F : List Nat} {w0 w : World} {c : Chunk} {L : List Chunk} (M : Mem F w0 w (c :: L)) : Mem F w0 w [c] :=
 M.pick _ (fun i => i) (fun _ _ _ _ h => h) fun i c' h => by
  cases i with
  | zero => simpa using h
  | succ i => simp at h
theorem take_in (W s : List UInt8) (m : Nat) (h : m + 4 ≤ W.length) : ((W ++ s).drop m).take 4 = (W.drop m).take 4 := by
 rw [List.drop_append_of_le_length yE, List.take_append_of_le_length (by simp; omega)]
theorem set_in (W s : List UInt8) (m : Nat) (v : UInt8) (h : m < W.length) : (W ++ s).set m v = W.set m v ++ s := by
 rw [List.set_append_left _ _ h]
theorem nth_in (W s : List UInt8) (m : Nat) (h : m < W.length) : nth (W ++ s) m = nth W m := by
 unfold nth; simp only [List.getD_eq_getElem?_getD]; rw [List.getElem?_append_left h]
theorem nth_out (W s : List UInt8) (n m : Nat) (h : W.length = n) : nth (W ++ s) (n + m) = nth s m := by
 unfold nth; simp only [List.getD_eq_getElem?_getD]; rw [List.getElem?_append_right yE, h, Nat.add_sub_cancel_left]
theorem nth_at (l : List UInt8) (k : Nat) (h : k < l.length) : l[k] = nth l k := by unfold nth; simp [List.getElem?_eq_getElem h]
theorem nth_at' (l : List UInt8) (k : Nat) : l[k]?.getD 0 = nth l k := by unfold nth; rw [List.getD_eq_getElem?_getD]
end TL
end Go
namespace Go.Proofs.YtidadhbaomieiaaGreat
open Go.RowKit Go.TL
theorem schedule_c (key : List UInt8) (w : World) (hk : key.length = 32) :
  Calls Tryz.prog 148 #[.agg (bs key).toArray] w fun e w' => ∃ g, e = .returned (.pointer (some ⟨g, 0, none⟩)) ∧ Mem [] w w' [.row g (bs (schL boxL key ++ boxL))] := by
 have M := Mem.start [] w
 have B := box_c
 have hs := boxL_len
 obtain ⟨s, es⟩ : ∃ s, s = boxL := ⟨_, rfl⟩
 rw [← es] at B hs
 rw [← es]
 replace B := Lib.hid B
 clear es
 have hbs : (bs s).length = 256 := by rw [bs_length, hs]
 go_enter Tryz.func148, Tryz.ntmps148
 go_wp2_with ((first | ((with_reducible refine tBox (some 1) ?_); refine w_box M _ _ rfl rfl _ rfl (bs key) rfl ?_; clear M; intro gk w1 M) | (go_at_call 176; (refine (B.out _).mono ?_; rintro e w1 ⟨rfl, hb⟩; replace M := M.call hb; clear hb)) | ((with_reducible refine tBox (some 12) ?_); refine w_box M _ _ rfl rfl _ rfl (_) rfl ?_; clear M; intro g w1 M) | ((with_reducible refine tM rfl ?_); refine mB ?_; try (clear M; (first | intro g w1 M | intro w1 M); try simp only [setC] at M)) | ((with_reducible refine tGuard ?_); refine gdC ?_ ?_ <;> (intro hgd; rw [hgd]; try (exfalso; simp at hgd; omega)))) <;> (try conv => arg 5; simp only [Act.put, List.setIfInBounds_toArray, setC]))
 have hz : Tryz.zeroCells261.toList = bs (List.replicate 496 0) := by kernel_rfl
 have e := foldl_at 240 (bs s) Tryz.zeroCells261 (by rw [hbs]; decide +kernel)
 have e2 : (bs (List.replicate 496 0)).take 240 ++ bs s ++ (bs (List.replicate 496 0)).drop (240 + (bs s).length) = bs (key.take (4 * 0) ++ (List.replicate (240 - 4 * 0) 0 ++ s)) := by
  rw [hbs, List.drop_eq_nil_of_le (by rw [bs_length, List.length_replicate]; omega), List.append_nil]
  simp [bs]
 rw [hz, e2] at e
 rw [e] at M
 clear e e2 hz
 go_loopw [13] (fun kv wr => ∃ k : Nat, k ≤ 8 ∧ kv = .int .i64 k ∧ Mem [] w wr [.row g (bs (key.take (4 * k) ++ (List.replicate (240 - 4 * k) 0 ++ s))), .row gk (bs key)]) (fun kv _ => 8 - (intOf kv).toNat)
 case atStart => exact ⟨0, by omega, rfl, M⟩
 case round =>
  clear M
  obtain ⟨k, hk8, rfl, M⟩ := hrel
  by_cases hlt : k < 8
  ·have CS := copy_step key s k hlt hk
   have hl : (key.take (4 * k) ++ (List.replicate (240 - 4 * k) 0 ++ s)).length = 496 := by simp; omega
   obtain ⟨l, el⟩ : ∃ l, l = key.take (4 * k) ++ (List.replicate (240 - 4 * k) 0 ++ s) := ⟨_, rfl⟩
   rw [← el] at M CS hl
   replace CS := Lib.hid CS
   clear el
   have h4 : 4 * (k : Int) ≤ 32 := by omega
   have h5 : 0 ≤ 4 * (k : Int) := by omega
   have h6 : (4 * (k : Int)).toNat = 4 * k := by omega
   go_wp2_with ((first | ((with_reducible show Code.wp _ (Code.region 5 _ _) _ _ _); (refine region_det [(0, false), (1, false), (2, false), (3, false), (4, false), (5, false), (6, false), (7, false), (8, false), (9, true)] [(16, .ptr), (22, .int)] yC yC rfl yC ?_; replace M := M.drew; simp only [reord, opAt, List.map_cons, List.map_nil, List.getElem?_toArray, List.getElem?_cons_zero, List.getElem?_cons_succ, Option.getD_some])) | ((with_reducible show wpList _ _ _ (Oper.mk _ (Op.call ⟨Callee.builtin Builtin.copy, _, _⟩) _ _ _ _ :: _) _ _); (refine w_copyB M 0 bytesT _ _ _ rfl rfl rfl rfl rfl (row_sees (M.ok 1 _ rfl) yE (Nat.le_refl _) (by simp only [maxLen]; omega)) 4 (by simp; omega) yE ?_; clear M; intro w1 M; simp only [List.set_cons_zero] at M)) | ((with_reducible refine tM rfl ?_); refine mB ?_; try (clear M; (first | intro g w1 M | intro w1 M); try simp only [setC] at M)) | ((with_reducible first | show Seg _ _ _ _ | show OnlyN _ _ _ _ _); refine rA ?_) | ((with_reducible refine tGuard ?_); refine gdC ?_ ?_ <;> (intro hgd; rw [hgd]; try (exfalso; simp at hgd; omega)))) <;> (try conv => arg 5; simp only [Act.put, List.setIfInBounds_toArray, setC]))
   rw [CS.out] at M
   go_roundw
   case rel => exact ⟨k + 1, by omega, by go_num, M⟩
   case measure => simp [intOf]; omega
  ·obtain rfl : k = 8 := by omega
   have e : key.take (4 * 8) ++ (List.replicate (240 - 4 * 8) 0 ++ s) = (schS s key 0).1 ++ s := by
    rw [List.take_of_length_le yE, ← List.append_assoc]; rfl
   rw [e] at M
   have e0 : (schS s key 0).2 = 1 := rfl
   clear e
   go_wp2_with ((first | ((with_reducible refine tM rfl ?_); refine mB ?_; try (clear M; (first | intro g w1 M | intro w1 M); try simp only [setC] at M)) | ((with_reducible refine tGuard ?_); refine gdC ?_ ?_ <;> (intro hgd; rw [hgd]; try (exfalso; simp at hgd; omega)))) <;> (try conv => arg 5; simp only [Act.put, List.setIfInBounds_toArray, setC]))
   rw [show ((8 : Nat) : Int) = 8 from rfl]
   go_loopw [5, 6] (fun pv iv wr => ∃ n : Nat, n ≤ 52 ∧ pv = .int .u8 (I8 (schS s key n).2) ∧ iv = .int .i64 (n + 8) ∧ Mem [] w wr [.row g (bs ((schS s key n).1 ++ s)), .row gk (bs key)]) (fun _ iv _ => 60 - (intOf iv).toNat)
   case atStart => exact ⟨0, by omega, rfl, rfl, M⟩
   case round =>
    clear M e0
    obtain ⟨n, hn, rfl, rfl, M⟩ := hrel
    have hW := schS_len s key hk n
    obtain ⟨⟨W, pw⟩, ex⟩ : ∃ x, x = schS s key n := ⟨_, rfl⟩
    rw [← ex] at M hW
    rw [← ex]
    simp only at M hW
    simp only
    have EX := Lib.hid (show schS s key (n + 1) = schW s n (W, pw) by rw [ex]; rfl)
    have EX0 := Lib.hid ex
    clear ex
    by_cases hlt : n < 52
    ·have hWs : (W ++ s).length = 496 := by rw [List.length_append, hW, hs]
     have ht := take_in W s ((n + 8 - 1) * 4) yE
     have ht2 : (W.drop ((n + 8 - 1) * 4)).take 4 = word1 W (n + 8) := by unfold word1; rw [Nat.mul_comm]
     rw [ht2] at ht
     have hl1 := word1_len hW (show 1 ≤ n + 8 by omega) yE
     obtain ⟨t1, e1⟩ : ∃ t, t = word1 W (n + 8) := ⟨_, rfl⟩
     have E2 : word2 W (n + 8) = if n % 8 = 0 then rotT t1 else t1 := by unfold word2; rw [← e1]; simp
     have E3 : word3 s W (n + 8) = if n % 4 = 0 then iterN (subT s) 4 (word2 W (n + 8)) else word2 W (n + 8) := by unfold word3; simp [show (n + 8) % 4 = n % 4 by omega]
     have E4 : word4 s W pw (n + 8) = if n % 8 = 0 then (word3 s W (n + 8)).set 0 (nth (word3 s W (n + 8)) 0 ^^^ pw) else word3 s W (n + 8) := by unfold word4; simp
     have EP : powI pw (n + 8) = if n % 8 = 0 then tw pw else pw := by unfold powI; simp
     rw [← e1] at ht hl1
     clear ht2 e1
     have hlX : (List.take 4 (List.drop ((n + 8 - 1) * 4) (W ++ s))).length = 4 := by rw [ht]; exact hl1
     have hlY : (bs (List.take 4 (List.drop ((n + 8 - 1) * 4) (W ++ s)))).length = 4 := by rw [bs_length, hlX]
     have q : ∀ j, j < 4 → nth t1 j = (W ++ s)[(n + 7) * 4 + j]?.getD 0 := fun j hj => by
      rw [← ht]; unfold nth; rw [List.getD_eq_getElem?_getD, List.getElem?_take, if_pos hj, List.getElem?_drop, show n + 8 - 1 = n + 7 by omega]
     by_cases h4 : n % 4 = 0
     ·rw [if_pos h4] at E3
      have h4' : ((n : Int) + 8) % 4 = 0 := by omega
      by_cases h8 : n % 8 = 0
      ·rw [if_pos h8] at E2 E4 EP
       have e2 : bs (rotT t1) = [.int .u8 (I8 ((W ++ s)[(n + 7) * 4 + 1]?.getD 0)), .int .u8 (I8 ((W ++ s)[(n + 7) * 4 + 2]?.getD 0)), .int .u8 (I8 ((W ++ s)[(n + 7) * 4 + 3]?.getD 0)), .int .u8 (I8 ((W ++ s)[(n + 7) * 4]?.getD 0))] := by
        unfold rotT; rw [q 1 yE, q 2 yE, q 3 yE, q 0 yE]; rfl
       replace e2 := Lib.hid e2
       rw [E2] at E3
       replace E3 := Lib.hid E3
       replace E4 := Lib.hid E4
       replace EP := Lib.hid EP
       replace q := Lib.hid q
       clear E2
       have h8' : ((n : Int) + 8) % 8 = 0 := by omega
       go_wp2_with ((first | ((with_reducible refine tAlloc (some 7) 258 ?_); refine w_alloc M _ rfl rfl (.agg (Array.replicate 4 (.int .u8 0))) (bs (List.replicate 4 (0 : UInt8))) yC rfl ?_; clear M; intro gt w1 M) | (go_at_call 177; (refine (twice_c _ _).mono ?_; rintro e w1 ⟨rfl, rfl⟩)) | ((with_reducible refine tLoad ?_); refine w_at _ _ rfl yI ?_; intro hx; (first | refine w_load M _ _ _ rfl yQ hx rfl yA (by exact rfl) ?_ | refine w_loadB M _ _ _ rfl yQ hx rfl yA yJ ?_ | refine w_loadH M _ _ _ rfl yQ hx rfl yA yO yA ?_ | refine w_loadR M _ _ _ rfl yQ hx rfl yA yC ?_ | refine w_loadM M _ _ _ rfl yQ hx rfl yA 4 yA yJ ?_); clear hx) | ((with_reducible refine tM rfl ?_); refine mB ?_; try (clear M; (first | intro g w1 M | intro w1 M); try simp only [setC] at M)) | ((with_reducible refine tGuard ?_); refine gdC ?_ ?_ <;> (intro hgd; rw [hgd]; try (exfalso; simp at hgd; omega)))) <;> (try conv => arg 5; simp only [Act.put, List.setIfInBounds_toArray, setC]))
       rw [← e2.out] at M
       have hl2 : (rotT t1).length = 4 := rfl
       obtain ⟨t2, e3⟩ : ∃ t, t = rotT t1 := ⟨_, rfl⟩
       rw [← e3] at M hl2 E3
       clear e3 e2 ht hlX hlY q
       go_loopw [53] (fun kv wr => ∃ k : Nat, k ≤ 4 ∧ kv = .int .i64 k ∧ Mem [] w wr [.row gt (bs (iterN (subT s) k t2)), .row g (bs (W ++ s)), .row gk (bs key)]) (fun kv _ => 4 - (intOf kv).toNat)
       case atStart => exact ⟨0, by omega, rfl, M⟩
       case round =>
        clear M
        obtain ⟨k, hk4, rfl, M⟩ := hrel
        obtain ⟨d, ed⟩ : ∃ d, d = iterN (subT s) k t2 := ⟨_, rfl⟩
        have hd : d.length = 4 := by rw [ed, iterN_len _ (fun _ _ => subT_len _ _ _)]; exact hl2
        rw [← ed] at M
        have ED := Lib.hid ed
        clear ed
        by_cases hlt4 : k < 4
        ·obtain ⟨q, eq⟩ : ∃ q, q = nth d k := ⟨_, rfl⟩
         have hq0 := (I8_bd q).1
         have hq1 := (I8_bd q).2
         have hq2 := I8_toNat q
         have hq3 := q.toNat_lt
         have hq4 : q.toNat < 256 := hq3
         have hd1 : d.getD k 0 = q := eq.symm
         have hd2 : d[k]?.getD 0 = q := by rw [nth_at', eq]
         have hd3 : d[k] = q := by rw [nth_at, eq]
         have EQ := Lib.hid eq
         clear eq hq3
         go_wp2_with ((first | ((with_reducible show Code.wp _ (Code.region 18 _ _) _ _ _); (have MR := M; refine region_lowc [(0, false), (1, false), (2, false), (3, false), (5, false), (6, false), (4, false), (7, false), (8, false), (9, false), (10, true)] [(57, .ptr)] [(4, _), (8, _)] (IxOk MR [0, 1]) 10 yC yC rfl yC (lowA MR 0 k (lowA MR 1 (240+q.toNat) lows_nil)) (ixOk_self MR _) ?_; replace M := M.drew; simp only [planC, opAt, List.getElem?_toArray, List.getElem?_cons_zero, List.getElem?_cons_succ, Option.getD_some])) | ((with_reducible refine tM rfl ?_); refine mB ?_; try (clear M; (first | intro g w1 M | intro w1 M); try simp only [setC] at M)) | ((with_reducible first | show Seg _ _ _ _ | show OnlyN _ _ _ _ _); refine rA ?_) | ((with_reducible refine tGuard ?_); refine gdC ?_ ?_ <;> (intro hgd; rw [hgd]; try (exfalso; simp at hgd; omega)))) <;> (try conv => arg 5; simp only [Act.put, List.setIfInBounds_toArray, setC]))
         rw [show (W ++ s).getD (240 + q.toNat) 0 = nth s q.toNat from nth_out W s 240 _ hW] at M
         go_roundw
         case rel => exact ⟨k + 1, by omega, by go_num, by
          rw [iterN_succ, ← ED.out]; unfold subT; rw [← EQ.out]; exact M⟩
         case measure => simp [intOf]; omega
        ·obtain rfl : k = 4 := by omega
         replace E3 := E3.out.trans ED.out.symm
         replace E4 := E4.out
         rw [E3] at E4
         replace E4 := Lib.hid E4
         clear E3 ED
         go_wp2_with ((first | ((with_reducible refine tAlloc (some 7) 258 ?_); refine w_alloc M _ rfl rfl (.agg (Array.replicate 4 (.int .u8 0))) (bs (List.replicate 4 (0 : UInt8))) yC rfl ?_; clear M; intro gt w1 M) | (go_at_call 177; (refine (twice_c _ _).mono ?_; rintro e w1 ⟨rfl, rfl⟩)) | ((with_reducible refine tLoad ?_); refine w_at _ _ rfl yI ?_; intro hx; (first | refine w_load M _ _ _ rfl yQ hx rfl yA (by exact rfl) ?_ | refine w_loadB M _ _ _ rfl yQ hx rfl yA yJ ?_ | refine w_loadH M _ _ _ rfl yQ hx rfl yA yO yA ?_ | refine w_loadR M _ _ _ rfl yQ hx rfl yA yC ?_ | refine w_loadM M _ _ _ rfl yQ hx rfl yA 4 yA yJ ?_); clear hx) | ((with_reducible refine tM rfl ?_); refine mB ?_; try (clear M; (first | intro g w1 M | intro w1 M); try simp only [setC] at M)) | ((with_reducible refine tGuard ?_); refine gdC ?_ ?_ <;> (intro hgd; rw [hgd]; try (exfalso; simp at hgd; omega)))) <;> (try conv => arg 5; simp only [Act.put, List.setIfInBounds_toArray, setC]))
         rw [nth_at d 0 yE] at M
         obtain ⟨t4, e4⟩ : ∃ t, t = d.set 0 (nth d 0 ^^^ pw) := ⟨_, rfl⟩
         have ht4 : t4.length = 4 := by rw [e4, List.length_set]; exact hd
         rw [← e4] at M E4
         clear e4
         go_loopw [77] (fun kv wr => ∃ k : Nat, k ≤ 4 ∧ kv = .int .i64 k ∧ Mem [] w wr [.row gt (bs t4), .row g (bs (iterN (addT t4 (n + 8)) k W ++ s)), .row gk (bs key)]) (fun kv _ => 4 - (intOf kv).toNat)
         case atStart => exact ⟨0, by omega, rfl, M⟩
         case round =>
          clear M
          obtain ⟨k, hk4, rfl, M⟩ := hrel
          obtain ⟨V, eV⟩ : ∃ V, V = iterN (addT t4 (n + 8)) k W := ⟨_, rfl⟩
          have hV : V.length = 240 := by rw [eV, iterN_len _ (addT_len _ _)]; exact hW
          have hVs : (V ++ s).length = 496 := by rw [List.length_append, hV, hs]
          rw [← eV] at M
          have EV := Lib.hid eV
          clear eV
          by_cases hlt4 : k < 4
          ·go_wp2_with ((first | ((with_reducible show Code.wp _ (Code.region 26 _ _) _ _ _); (refine region_det [(0, false), (1, false), (2, false), (3, false), (4, false), (5, false), (6, false), (7, false), (8, false), (9, false), (10, false), (12, false), (13, false), (16, false), (17, false), (18, false), (11, false), (14, false), (15, false), (19, false), (20, true)] [(84, .int), (83, .ptr), (80, .ptr), (91, .int), (94, .int)] yC yC rfl yC ?_; replace M := M.drew; simp only [reord, opAt, List.map_cons, List.map_nil, List.getElem?_toArray, List.getElem?_cons_zero, List.getElem?_cons_succ, Option.getD_some])) | ((with_reducible refine tM rfl ?_); refine mB ?_; try (clear M; (first | intro g w1 M | intro w1 M); try simp only [setC] at M)) | ((with_reducible first | show Seg _ _ _ _ | show OnlyN _ _ _ _ _); refine rA ?_) | ((with_reducible refine tGuard ?_); refine gdC ?_ ?_ <;> (intro hgd; rw [hgd]; try (exfalso; simp at hgd; omega)))) <;> (try conv => arg 5; simp only [Act.put, List.setIfInBounds_toArray, setC]))
           have q1 : addT t4 (n + 8) k V = V.set ((n + 8) * 4 + k) (nth V (4 * n + k) ^^^ nth t4 k) := by unfold addT; rw [Nat.mul_comm 4 (n + 8), Nat.add_sub_cancel]
           have q2 : (V ++ s)[n * 4 + k]?.getD 0 = nth V (4 * n + k) := by rw [nth_at', nth_in _ _ _ yE, Nat.mul_comm]
           rw [q2, nth_at t4 k yE, set_in V s _ _ yE, ← q1] at M
           go_roundw
           case rel => exact ⟨k + 1, by omega, by go_num, by rw [iterN_succ, ← EV.out]; exact M⟩
           case measure => simp [intOf]; omega
          ·obtain rfl : k = 4 := by omega
           go_wp2_with ((first | ((with_reducible refine tM rfl ?_); refine mB ?_; try (clear M; (first | intro g w1 M | intro w1 M); try simp only [setC] at M)) | ((with_reducible refine tGuard ?_); refine gdC ?_ ?_ <;> (intro hgd; rw [hgd]; try (exfalso; simp at hgd; omega)))) <;> (try conv => arg 5; simp only [Act.put, List.setIfInBounds_toArray, setC]))
           go_roundw
           case rel => exact ⟨n + 1, by omega, by rw [EX.out]; show _ = Value.int .u8 (I8 (powI pw (n + 8))); rw [EP.out], by go_num, by
            rw [EX.out]; show Mem [] w _ [.row g (bs (iterN (addT (word4 s W pw (n + 8)) (n + 8)) 4 W ++ s)), .row gk (bs key)]
            rw [E4.out, ← EV.out]; exact M.tail⟩
           case measure => simp [intOf]; omega
      ·rw [if_neg h8] at E2 E4 EP
       have hl2 := hl1
       obtain ⟨t2, e3⟩ : ∃ t, t = t1 := ⟨_, rfl⟩
       rw [E2, ← e3] at E3
       rw [← e3] at hl2
       replace E3 := Lib.hid E3
       replace E4 := Lib.hid E4
       replace EP := Lib.hid EP
       clear E2 q
       have h8' : ¬ ((n : Int) + 8) % 8 = 0 := by omega
       go_wp2_with ((first | ((with_reducible refine tAlloc (some 7) 258 ?_); refine w_alloc M _ rfl rfl (.agg (Array.replicate 4 (.int .u8 0))) (bs (List.replicate 4 (0 : UInt8))) yC rfl ?_; clear M; intro gt w1 M) | (go_at_call 177; (refine (twice_c _ _).mono ?_; rintro e w1 ⟨rfl, rfl⟩)) | ((with_reducible refine tLoad ?_); refine w_at _ _ rfl yI ?_; intro hx; (first | refine w_load M _ _ _ rfl yQ hx rfl yA (by exact rfl) ?_ | refine w_loadB M _ _ _ rfl yQ hx rfl yA yJ ?_ | refine w_loadH M _ _ _ rfl yQ hx rfl yA yO yA ?_ | refine w_loadR M _ _ _ rfl yQ hx rfl yA yC ?_ | refine w_loadM M _ _ _ rfl yQ hx rfl yA 4 yA yJ ?_); clear hx) | ((with_reducible refine tM rfl ?_); refine mB ?_; try (clear M; (first | intro g w1 M | intro w1 M); try simp only [setC] at M)) | ((with_reducible refine tGuard ?_); refine gdC ?_ ?_ <;> (intro hgd; rw [hgd]; try (exfalso; simp at hgd; omega)))) <;> (try conv => arg 5; simp only [Act.put, List.setIfInBounds_toArray, setC]))
       rw [ht, ← e3] at M
       clear e3 ht hlX hlY
       go_loopw [53] (fun kv wr => ∃ k : Nat, k ≤ 4 ∧ kv = .int .i64 k ∧ Mem [] w wr [.row gt (bs (iterN (subT s) k t2)), .row g (bs (W ++ s)), .row gk (bs key)]) (fun kv _ => 4 - (intOf kv).toNat)
       case atStart => exact ⟨0, by omega, rfl, M⟩
       case round =>
        clear M
        obtain ⟨k, hk4, rfl, M⟩ := hrel
        obtain ⟨d, ed⟩ : ∃ d, d = iterN (subT s) k t2 := ⟨_, rfl⟩
        have hd : d.length = 4 := by rw [ed, iterN_len _ (fun _ _ => subT_len _ _ _)]; exact hl2
        rw [← ed] at M
        have ED := Lib.hid ed
        clear ed
        by_cases hlt4 : k < 4
        ·obtain ⟨q, eq⟩ : ∃ q, q = nth d k := ⟨_, rfl⟩
         have hq0 := (I8_bd q).1
         have hq1 := (I8_bd q).2
         have hq2 := I8_toNat q
         have hq3 := q.toNat_lt
         have hq4 : q.toNat < 256 := hq3
         have hd1 : d.getD k 0 = q := eq.symm
         have hd2 : d[k]?.getD 0 = q := by rw [nth_at', eq]
         have hd3 : d[k] = q := by rw [nth_at, eq]
         have EQ := Lib.hid eq
         clear eq hq3
         go_wp2_with ((first | ((with_reducible show Code.wp _ (Code.region 18 _ _) _ _ _); (have MR := M; refine region_lowc [(0, false), (1, false), (2, false), (3, false), (5, false), (6, false), (4, false), (7, false), (8, false), (9, false), (10, true)] [(57, .ptr)] [(4, _), (8, _)] (IxOk MR [0, 1]) 10 yC yC rfl yC (lowA MR 0 k (lowA MR 1 (240+q.toNat) lows_nil)) (ixOk_self MR _) ?_; replace M := M.drew; simp only [planC, opAt, List.getElem?_toArray, List.getElem?_cons_zero, List.getElem?_cons_succ, Option.getD_some])) | ((with_reducible refine tM rfl ?_); refine mB ?_; try (clear M; (first | intro g w1 M | intro w1 M); try simp only [setC] at M)) | ((with_reducible first | show Seg _ _ _ _ | show OnlyN _ _ _ _ _); refine rA ?_) | ((with_reducible refine tGuard ?_); refine gdC ?_ ?_ <;> (intro hgd; rw [hgd]; try (exfalso; simp at hgd; omega)))) <;> (try conv => arg 5; simp only [Act.put, List.setIfInBounds_toArray, setC]))
         rw [show (W ++ s).getD (240 + q.toNat) 0 = nth s q.toNat from nth_out W s 240 _ hW] at M
         go_roundw
         case rel => exact ⟨k + 1, by omega, by go_num, by
          rw [iterN_succ, ← ED.out]; unfold subT; rw [← EQ.out]; exact M⟩
         case measure => simp [intOf]; omega
        ·obtain rfl : k = 4 := by omega
         replace E3 := E3.out.trans ED.out.symm
         replace E4 := E4.out
         rw [E3] at E4
         replace E4 := Lib.hid E4
         clear E3 ED
         go_wp2_with ((first | ((with_reducible refine tAlloc (some 7) 258 ?_); refine w_alloc M _ rfl rfl (.agg (Array.replicate 4 (.int .u8 0))) (bs (List.replicate 4 (0 : UInt8))) yC rfl ?_; clear M; intro gt w1 M) | (go_at_call 177; (refine (twice_c _ _).mono ?_; rintro e w1 ⟨rfl, rfl⟩)) | ((with_reducible refine tLoad ?_); refine w_at _ _ rfl yI ?_; intro hx; (first | refine w_load M _ _ _ rfl yQ hx rfl yA (by exact rfl) ?_ | refine w_loadB M _ _ _ rfl yQ hx rfl yA yJ ?_ | refine w_loadH M _ _ _ rfl yQ hx rfl yA yO yA ?_ | refine w_loadR M _ _ _ rfl yQ hx rfl yA yC ?_ | refine w_loadM M _ _ _ rfl yQ hx rfl yA 4 yA yJ ?_); clear hx) | ((with_reducible refine tM rfl ?_); refine mB ?_; try (clear M; (first | intro g w1 M | intro w1 M); try simp only [setC] at M)) | ((with_reducible refine tGuard ?_); refine gdC ?_ ?_ <;> (intro hgd; rw [hgd]; try (exfalso; simp at hgd; omega)))) <;> (try conv => arg 5; simp only [Act.put, List.setIfInBounds_toArray, setC]))
         obtain ⟨t4, e4⟩ : ∃ t, t = d := ⟨_, rfl⟩
         have ht4 : t4.length = 4 := by rw [e4]; exact hd
         rw [← e4] at M E4
         clear e4
         go_loopw [77] (fun kv wr => ∃ k : Nat, k ≤ 4 ∧ kv = .int .i64 k ∧ Mem [] w wr [.row gt (bs t4), .row g (bs (iterN (addT t4 (n + 8)) k W ++ s)), .row gk (bs key)]) (fun kv _ => 4 - (intOf kv).toNat)
         case atStart => exact ⟨0, by omega, rfl, M⟩
         case round =>
          clear M
          obtain ⟨k, hk4, rfl, M⟩ := hrel
          obtain ⟨V, eV⟩ : ∃ V, V = iterN (addT t4 (n + 8)) k W := ⟨_, rfl⟩
          have hV : V.length = 240 := by rw [eV, iterN_len _ (addT_len _ _)]; exact hW
          have hVs : (V ++ s).length = 496 := by rw [List.length_append, hV, hs]
          rw [← eV] at M
          have EV := Lib.hid eV
          clear eV
          by_cases hlt4 : k < 4
          ·go_wp2_with ((first | ((with_reducible show Code.wp _ (Code.region 26 _ _) _ _ _); (refine region_det [(0, false), (1, false), (2, false), (3, false), (4, false), (5, false), (6, false), (7, false), (8, false), (9, false), (10, false), (12, false), (13, false), (16, false), (17, false), (18, false), (11, false), (14, false), (15, false), (19, false), (20, true)] [(84, .int), (83, .ptr), (80, .ptr), (91, .int), (94, .int)] yC yC rfl yC ?_; replace M := M.drew; simp only [reord, opAt, List.map_cons, List.map_nil, List.getElem?_toArray, List.getElem?_cons_zero, List.getElem?_cons_succ, Option.getD_some])) | ((with_reducible refine tM rfl ?_); refine mB ?_; try (clear M; (first | intro g w1 M | intro w1 M); try simp only [setC] at M)) | ((with_reducible first | show Seg _ _ _ _ | show OnlyN _ _ _ _ _); refine rA ?_) | ((with_reducible refine tGuard ?_); refine gdC ?_ ?_ <;> (intro hgd; rw [hgd]; try (exfalso; simp at hgd; omega)))) <;> (try conv => arg 5; simp only [Act.put, List.setIfInBounds_toArray, setC]))
           have q1 : addT t4 (n + 8) k V = V.set ((n + 8) * 4 + k) (nth V (4 * n + k) ^^^ nth t4 k) := by unfold addT; rw [Nat.mul_comm 4 (n + 8), Nat.add_sub_cancel]
           have q2 : (V ++ s)[n * 4 + k]?.getD 0 = nth V (4 * n + k) := by rw [nth_at', nth_in _ _ _ yE, Nat.mul_comm]
           rw [q2, nth_at t4 k yE, set_in V s _ _ yE, ← q1] at M
           go_roundw
           case rel => exact ⟨k + 1, by omega, by go_num, by rw [iterN_succ, ← EV.out]; exact M⟩
           case measure => simp [intOf]; omega
          ·obtain rfl : k = 4 := by omega
           go_wp2_with ((first | ((with_reducible refine tM rfl ?_); refine mB ?_; try (clear M; (first | intro g w1 M | intro w1 M); try simp only [setC] at M)) | ((with_reducible refine tGuard ?_); refine gdC ?_ ?_ <;> (intro hgd; rw [hgd]; try (exfalso; simp at hgd; omega)))) <;> (try conv => arg 5; simp only [Act.put, List.setIfInBounds_toArray, setC]))
           go_roundw
           case rel => exact ⟨n + 1, by omega, by rw [EX.out]; show _ = Value.int .u8 (I8 (powI pw (n + 8))); rw [EP.out], by go_num, by
            rw [EX.out]; show Mem [] w _ [.row g (bs (iterN (addT (word4 s W pw (n + 8)) (n + 8)) 4 W ++ s)), .row gk (bs key)]
            rw [E4.out, ← EV.out]; exact M.tail⟩
           case measure => simp [intOf]; omega
     ·rw [if_neg h4] at E3
      have h8 : ¬ n % 8 = 0 := by omega
      rw [if_neg h8] at E2 E4 EP
      rw [E2] at E3
      rw [E3] at E4
      have h4' : ¬ ((n : Int) + 8) % 4 = 0 := by omega
      have h8' : ¬ ((n : Int) + 8) % 8 = 0 := by omega
      obtain ⟨t4, e4⟩ : ∃ t, t = t1 := ⟨_, rfl⟩
      have ht4 : t4.length = 4 := by rw [e4]; exact hl1
      rw [← e4] at E4
      replace E4 := Lib.hid E4
      replace EP := Lib.hid EP
      clear E2 E3 q
      go_wp2_with ((first | ((with_reducible refine tAlloc (some 7) 258 ?_); refine w_alloc M _ rfl rfl (.agg (Array.replicate 4 (.int .u8 0))) (bs (List.replicate 4 (0 : UInt8))) yC rfl ?_; clear M; intro gt w1 M) | (go_at_call 177; (refine (twice_c _ _).mono ?_; rintro e w1 ⟨rfl, rfl⟩)) | ((with_reducible refine tLoad ?_); refine w_at _ _ rfl yI ?_; intro hx; (first | refine w_load M _ _ _ rfl yQ hx rfl yA (by exact rfl) ?_ | refine w_loadB M _ _ _ rfl yQ hx rfl yA yJ ?_ | refine w_loadH M _ _ _ rfl yQ hx rfl yA yO yA ?_ | refine w_loadR M _ _ _ rfl yQ hx rfl yA yC ?_ | refine w_loadM M _ _ _ rfl yQ hx rfl yA 4 yA yJ ?_); clear hx) | ((with_reducible refine tM rfl ?_); refine mB ?_; try (clear M; (first | intro g w1 M | intro w1 M); try simp only [setC] at M)) | ((with_reducible refine tGuard ?_); refine gdC ?_ ?_ <;> (intro hgd; rw [hgd]; try (exfalso; simp at hgd; omega)))) <;> (try conv => arg 5; simp only [Act.put, List.setIfInBounds_toArray, setC]))
      rw [ht, ← e4] at M
      clear e4 ht hlX hlY
      go_loopw [77] (fun kv wr => ∃ k : Nat, k ≤ 4 ∧ kv = .int .i64 k ∧ Mem [] w wr [.row gt (bs t4), .row g (bs (iterN (addT t4 (n + 8)) k W ++ s)), .row gk (bs key)]) (fun kv _ => 4 - (intOf kv).toNat)
      case atStart => exact ⟨0, by omega, rfl, M⟩
      case round =>
       clear M
       obtain ⟨k, hk4, rfl, M⟩ := hrel
       obtain ⟨V, eV⟩ : ∃ V, V = iterN (addT t4 (n + 8)) k W := ⟨_, rfl⟩
       have hV : V.length = 240 := by rw [eV, iterN_len _ (addT_len _ _)]; exact hW
       have hVs : (V ++ s).length = 496 := by rw [List.length_append, hV, hs]
       rw [← eV] at M
       have EV := Lib.hid eV
       clear eV
       by_cases hlt4 : k < 4
       ·go_wp2_with ((first | ((with_reducible show Code.wp _ (Code.region 26 _ _) _ _ _); (refine region_det [(0, false), (1, false), (2, false), (3, false), (4, false), (5, false), (6, false), (7, false), (8, false), (9, false), (10, false), (12, false), (13, false), (16, false), (17, false), (18, false), (11, false), (14, false), (15, false), (19, false), (20, true)] [(84, .int), (83, .ptr), (80, .ptr), (91, .int), (94, .int)] yC yC rfl yC ?_; replace M := M.drew; simp only [reord, opAt, List.map_cons, List.map_nil, List.getElem?_toArray, List.getElem?_cons_zero, List.getElem?_cons_succ, Option.getD_some])) | ((with_reducible refine tM rfl ?_); refine mB ?_; try (clear M; (first | intro g w1 M | intro w1 M); try simp only [setC] at M)) | ((with_reducible first | show Seg _ _ _ _ | show OnlyN _ _ _ _ _); refine rA ?_) | ((with_reducible refine tGuard ?_); refine gdC ?_ ?_ <;> (intro hgd; rw [hgd]; try (exfalso; simp at hgd; omega)))) <;> (try conv => arg 5; simp only [Act.put, List.setIfInBounds_toArray, setC]))
        have q1 : addT t4 (n + 8) k V = V.set ((n + 8) * 4 + k) (nth V (4 * n + k) ^^^ nth t4 k) := by unfold addT; rw [Nat.mul_comm 4 (n + 8), Nat.add_sub_cancel]
        have q2 : (V ++ s)[n * 4 + k]?.getD 0 = nth V (4 * n + k) := by rw [nth_at', nth_in _ _ _ yE, Nat.mul_comm]
        rw [q2, nth_at t4 k yE, set_in V s _ _ yE, ← q1] at M
        go_roundw
        case rel => exact ⟨k + 1, by omega, by go_num, by rw [iterN_succ, ← EV.out]; exact M⟩
        case measure => simp [intOf]; omega
       ·obtain rfl : k = 4 := by omega
        go_wp2_with ((first | ((with_reducible refine tM rfl ?_); refine mB ?_; try (clear M; (first | intro g w1 M | intro w1 M); try simp only [setC] at M)) | ((with_reducible refine tGuard ?_); refine gdC ?_ ?_ <;> (intro hgd; rw [hgd]; try (exfalso; simp at hgd; omega)))) <;> (try conv => arg 5; simp only [Act.put, List.setIfInBounds_toArray, setC]))
        go_roundw
        case rel => exact ⟨n + 1, by omega, by rw [EX.out]; show _ = Value.int .u8 (I8 (powI pw (n + 8))); rw [EP.out], by go_num, by
         rw [EX.out]; show Mem [] w _ [.row g (bs (iterN (addT (word4 s W pw (n + 8)) (n + 8)) 4 W ++ s)), .row gk (bs key)]
         rw [E4.out, ← EV.out]; exact M.tail⟩
        case measure => simp [intOf]; omega
    ·obtain rfl : n = 52 := by omega
     have e : schL s key = W := by unfold schL; rw [← EX0.out]
     go_wp2_with ((first | ((with_reducible refine tM rfl ?_); refine mB ?_; try (clear M; (first | intro g w1 M | intro w1 M); try simp only [setC] at M)) | ((with_reducible refine tGuard ?_); refine gdC ?_ ?_ <;> (intro hgd; rw [hgd]; try (exfalso; simp at hgd; omega)))) <;> (try conv => arg 5; simp only [Act.put, List.setIfInBounds_toArray, setC]))
     go_ret
     exact ⟨g, rfl, by rw [e]; exact M.take1⟩
end Go.Proofs.YtidadhbaomieiaaGreat

namespace Go.Proofs.YtidadhbaomieiaaGreat
open Go.RowKit Go.TL
theorem block_c (gc : Nat) (s W b : List UInt8) (w : World) (R : (Chunk.row gc (bs (W ++ s))).ok w) (hW : W.length = 240) (hs : s.length = 256) (hb : b.length = 16) :
  Calls Tryz.prog 150 #[.pointer (some ⟨gc, 0, none⟩), .agg (bs b).toArray] w fun e w' => e = .returned (.agg (bs (blockL s W b)).toArray) ∧ Below w.heap.size w w' := by
 have M := Mem.start [] w
 have hWs : (W ++ s).length = 496 := by rw [List.length_append, hW, hs]
 have hz : (List.replicate 16 (0 : UInt8)).length = 16 := List.length_replicate
 have ha0 : (addL W b 0).length = 16 := by rw [addL_len]; exact hb
 have A0 := fun (w : World) (RR : (Chunk.row gc (bs (W ++ s))).ok w) => add_c gc s W b 0 0 rfl w RR hW hs hb yE
 have BL : blockL s W b = iterN (roundL s W) 14 (addL W b 0) := rfl
 have IV : ∀ n, (iterN (roundL s W) n (addL W b 0)).length = 16 := fun n => iterN_inv _ (fun l => l.length = 16) (fun n x _ => roundL_len s W n x) n _ ha0
 obtain ⟨a0, e0⟩ : ∃ a, a = addL W b 0 := ⟨_, rfl⟩
 rw [← e0] at ha0 A0 BL IV
 obtain ⟨bl, ebl⟩ : ∃ x, x = blockL s W b := ⟨_, rfl⟩
 rw [← ebl] at BL
 rw [← ebl]
 replace A0 := Lib.hid A0
 replace BL := Lib.hid BL
 replace IV := Lib.hid IV
 clear e0 ebl
 go_enter Tryz.func150, Tryz.ntmps150
 go_wp2_with ((first | ((with_reducible refine tBox (some 3) ?_); refine w_box M _ _ rfl rfl _ rfl (bs b) rfl ?_; clear M; intro gb w1 M) | ((with_reducible refine tAlloc (some 4) 234 ?_); refine w_alloc M _ rfl rfl (.agg (Array.replicate 16 (.int .u8 0))) (bs (List.replicate 16 (0 : UInt8))) yC rfl ?_; clear M; intro go w1 M) | (go_at_call 178; (refine (A0.out _ (M.stays R)).mono ?_; rintro e w1 ⟨rfl, hb⟩; replace M := M.call hb; clear hb)) | ((with_reducible refine tM rfl ?_); refine mB ?_; try (clear M; (first | intro g w1 M | intro w1 M); try simp only [setC] at M)) | ((with_reducible refine tGuard ?_); refine gdC ?_ ?_ <;> (intro hgd; rw [hgd]; try (exfalso; simp at hgd; omega)))) <;> (try conv => arg 5; simp only [Act.put, List.setIfInBounds_toArray, setC]))
 go_loopw [5] (fun kv wr => ∃ n : Nat, n ≤ 14 ∧ kv = .int .i64 ((n : Int) + 1) ∧ Mem [] w wr [.row go (bs (List.replicate 16 0)), .row gb (bs (iterN (roundL s W) n a0))]) (fun kv _ => 15 - (intOf kv).toNat)
 case atStart => exact ⟨0, by omega, rfl, M⟩
 case round =>
  clear M
  obtain ⟨n, hn, rfl, M⟩ := hrel
  have hd := IV.out n
  obtain ⟨d, ed⟩ : ∃ d, d = iterN (roundL s W) n a0 := ⟨_, rfl⟩
  rw [← ed] at M hd
  have ED := Lib.hid ed
  clear ed
  by_cases hlt : n < 14
  ·go_wp2_with ((first | ((with_reducible refine tAlloc (some 6) 234 ?_); refine w_alloc M _ rfl rfl (.agg (Array.replicate 16 (.int .u8 0))) (bs (List.replicate 16 (0 : UInt8))) yC rfl ?_; clear M; intro gt w1 M) | ((with_reducible refine tM rfl ?_); refine mB ?_; try (clear M; (first | intro g w1 M | intro w1 M); try simp only [setC] at M)) | ((with_reducible refine tGuard ?_); refine gdC ?_ ?_ <;> (intro hgd; rw [hgd]; try (exfalso; simp at hgd; omega)))) <;> (try conv => arg 5; simp only [Act.put, List.setIfInBounds_toArray, setC]))
   go_loopw [15] (fun kv wr => ∃ k : Nat, k ≤ 16 ∧ kv = .int .i64 k ∧ Mem [] w wr [.row gt (bs (iterN (subB s d) k (List.replicate 16 0))), .row go (bs (List.replicate 16 0)), .row gb (bs d)]) (fun kv _ => 16 - (intOf kv).toNat)
   case atStart => exact ⟨0, by omega, rfl, M⟩
   case round =>
    clear M
    obtain ⟨k, hk16, rfl, M⟩ := hrel
    have ht : (iterN (subB s d) k (List.replicate 16 0)).length = 16 := by rw [iterN_len _ (fun n s => by unfold subB; rw [List.length_set])]; exact List.length_replicate
    obtain ⟨t, et⟩ : ∃ t, t = iterN (subB s d) k (List.replicate 16 0) := ⟨_, rfl⟩
    rw [← et] at M ht
    have ET := Lib.hid et
    clear et
    by_cases hlt16 : k < 16
    ·have hj : (k + 4 * (k % 4)) % 16 < d.length := by omega
     obtain ⟨q, eq⟩ : ∃ q, q = nth d ((k + 4 * (k % 4)) % 16) := ⟨_, rfl⟩
     have hq0 := (I8_bd q).1
     have hq1 := (I8_bd q).2
     have hq2 := I8_toNat q
     have hq3 := q.toNat_lt
     have hq4 : q.toNat < 256 := hq3
     have hd1 : d.getD ((k + 4 * (k % 4)) % 16) 0 = q := eq.symm
     have hd2 : d[(k + 4 * (k % 4)) % 16]?.getD 0 = q := by rw [nth_at', eq]
     have hd3 : d[(k + 4 * (k % 4)) % 16] = q := by rw [nth_at, eq]
     have EQ := Lib.hid eq
     clear eq hq3
     go_wp2_with ((first | ((with_reducible show Code.wp _ (Code.region 9 _ _) _ _ _); (refine region_det [(0, false), (1, false), (2, false), (3, false), (4, false), (5, false), (6, false), (7, false), (8, false), (10, false), (11, false), (9, false), (12, false), (13, false), (14, false), (15, true)] [(21, .int), (22, .int), (20, .int), (23, .int), (24, .int), (19, .ptr)] yC yC rfl yC ?_; replace M := M.drew; simp only [reord, opAt, List.map_cons, List.map_nil, List.getElem?_toArray, List.getElem?_cons_zero, List.getElem?_cons_succ, Option.getD_some])) | ((with_reducible refine tLoad ?_); refine w_at _ _ rfl yI ?_; intro hx; (first | refine w_rowB M R _ _ rfl hx rfl yA yJ ?_); clear hx) | ((with_reducible refine tM rfl ?_); refine mB ?_; try (clear M; (first | intro g w1 M | intro w1 M); try simp only [setC] at M)) | ((with_reducible first | show Seg _ _ _ _ | show OnlyN _ _ _ _ _); refine rA ?_) | ((with_reducible refine tGuard ?_); refine gdC ?_ ?_ <;> (intro hgd; rw [hgd]; try (exfalso; simp at hgd; omega)))) <;> (try conv => arg 5; simp only [Act.put, List.setIfInBounds_toArray, setC]))
     rw [show (W ++ s).getD (240 + q.toNat) 0 = nth s q.toNat from nth_out W s 240 _ hW] at M
     go_roundw
     case rel => exact ⟨k + 1, by omega, by go_num, by rw [iterN_succ, ← ET.out]; unfold subB; rw [← EQ.out]; exact M⟩
     case measure => simp [intOf]; omega
    ·obtain rfl : k = 16 := by omega
     have e : t = subL s d := ET.out
     have hsl := subL_len s d
     rw [e] at M
     obtain ⟨t', e'⟩ : ∃ t, t = subL s d := ⟨_, rfl⟩
     rw [← e'] at M hsl
     have ER : roundL s W n d = addL W (if n + 1 < 14 then mixL t' else t') (n + 1) := by rw [e']; rfl
     clear e e' ht ET
     have MX := fun w => mix_c t' w hsl
     have AD := fun (m : List UInt8) (hm : m.length = 16) (w : World) (RR : (Chunk.row gc (bs (W ++ s))).ok w) => add_c gc s W m (n + 1) ((n : Int) + 1) yE w RR hW hs hm yE
     by_cases h14 : n + 1 < 14
     ·rw [if_pos h14] at ER
      have hml := mixL_len t'
      obtain ⟨m, em⟩ : ∃ m, m = mixL t' := ⟨_, rfl⟩
      rw [← em] at ER MX hml
      replace AD := AD m hml
      have hal : (addL W m (n + 1)).length = 16 := by rw [addL_len]; exact hml
      obtain ⟨a, ea⟩ : ∃ a, a = addL W m (n + 1) := ⟨_, rfl⟩
      rw [← ea] at ER AD hal
      replace ER := Lib.hid fun _ : Unit => ER
      replace MX := Lib.hid MX
      replace AD := Lib.hid AD
      clear ea em
      go_wp2_with ((first | (go_at_call 178; (refine (AD.out _ (M.stays R)).mono ?_; rintro e w1 ⟨rfl, hb⟩; replace M := M.call hb; clear hb)) | (go_at_call 179; (refine (MX.out _).mono ?_; rintro e w1 ⟨rfl, hb⟩; replace M := M.call hb; clear hb)) | ((with_reducible refine tM rfl ?_); refine mB ?_; try (clear M; (first | intro g w1 M | intro w1 M); try simp only [setC] at M)) | ((with_reducible refine tGuard ?_); refine gdC ?_ ?_ <;> (intro hgd; rw [hgd]; try (exfalso; simp at hgd; omega)))) <;> (try conv => arg 5; simp only [Act.put, List.setIfInBounds_toArray, setC]))
      go_roundw
      case rel => exact ⟨n + 1, by omega, by go_num, by rw [iterN_succ, ← ED.out, ER.out ()]; exact M.tail⟩
      case measure => simp [intOf]; omega
     ·rw [if_neg h14] at ER
      replace AD := AD t' hsl
      have hal : (addL W t' (n + 1)).length = 16 := by rw [addL_len]; exact hsl
      obtain ⟨a, ea⟩ : ∃ a, a = addL W t' (n + 1) := ⟨_, rfl⟩
      rw [← ea] at ER AD hal
      replace ER := Lib.hid fun _ : Unit => ER
      replace AD := Lib.hid AD
      clear ea MX
      go_wp2_with ((first | (go_at_call 178; (refine (AD.out _ (M.stays R)).mono ?_; rintro e w1 ⟨rfl, hb⟩; replace M := M.call hb; clear hb)) | ((with_reducible refine tM rfl ?_); refine mB ?_; try (clear M; (first | intro g w1 M | intro w1 M); try simp only [setC] at M)) | ((with_reducible refine tGuard ?_); refine gdC ?_ ?_ <;> (intro hgd; rw [hgd]; try (exfalso; simp at hgd; omega)))) <;> (try conv => arg 5; simp only [Act.put, List.setIfInBounds_toArray, setC]))
      go_roundw
      case rel => exact ⟨n + 1, by omega, by go_num, by rw [iterN_succ, ← ED.out, ER.out ()]; exact M.tail⟩
      case measure => simp [intOf]; omega
  ·obtain rfl : n = 14 := by omega
   have e : bl = d := BL.out.trans ED.out.symm
   go_wp2_with ((first | ((with_reducible refine tM rfl ?_); refine mB ?_; try (clear M; (first | intro g w1 M | intro w1 M); try simp only [setC] at M)) | ((with_reducible refine tGuard ?_); refine gdC ?_ ?_ <;> (intro hgd; rw [hgd]; try (exfalso; simp at hgd; omega)))) <;> (try conv => arg 5; simp only [Act.put, List.setIfInBounds_toArray, setC]))
   exact bodyPost_ret (results_row rfl _ _ go 0 (bs d) _ rfl (M.ok 0 _ rfl).2.1 Tryz.underlying234 rfl (by rw [bs_length, hd]; kernel_rfl)) rfl ⟨by rw [e], M.below⟩
end Go.Proofs.YtidadhbaomieiaaGreat

namespace Go
namespace TL
theorem sees_of {w : World} {v : Value} {n : Nat} {l : List UInt8} (h : (Chunk.sl 1 v n (bs l)).ok w) (e : n = l.length) : SeesB w v l := by subst e; exact Own.sees h
theorem nonce_in (nonce : List UInt8) (h : nonce.length = 12) : (List.replicate 16 (0 : UInt8)).take 0 ++ ((((nonce.drop 0).take 12)).take 12 ++ (List.replicate 16 0).drop (0 + 12)) = nonce ++ List.replicate 4 0 := by
 have e : (nonce.take 12).take 12 = nonce := by rw [List.take_take, Nat.min_self, List.take_of_length_le yE]
 rw [List.take_zero, List.nil_append, List.drop_zero, e]; rfl
theorem count_in (nonce big : List UInt8) (h : nonce.length = 12) (hb : big.length = 4) : (nonce ++ List.replicate 4 (0 : UInt8)).take 12 ++ (big.take 4 ++ (nonce ++ List.replicate 4 0).drop (12 + 4)) = nonce ++ big := by
 rw [List.take_left' h, List.take_of_length_le yE, List.drop_eq_nil_of_le (by simp; omega), List.append_nil]
end TL
end Go
namespace Go.Proofs.YtidadhbaomieiaaGreat
open Go.RowKit Go.TL
theorem Stream_c (key nonce text : List UInt8) (w : World) (hk : key.length = 32) (hn : nonce.length = 12) (ht : text.length ≤ 1000000) :
  Calls Tryz.prog 109 #[.agg (bs key).toArray, .agg (bs nonce).toArray, .string (mkS text)] w fun e w' => e = .returned (.string (mkS (streamL key nonce text))) ∧ Below w.heap.size w w' := by
 have M := Mem.start [] w
 have SC := fun w => schedule_c key w hk
 have hs := boxL_len
 have hW := schL_len boxL key hk
 have SL : streamL key nonce text = strN boxL (schL boxL key) nonce ((text.length + 15) / 16) text := rfl
 obtain ⟨W, eW⟩ : ∃ W, W = schL boxL key := ⟨_, rfl⟩
 rw [← eW] at SC hW SL
 obtain ⟨s, es⟩ : ∃ s, s = boxL := ⟨_, rfl⟩
 rw [← es] at SC hs SL
 obtain ⟨r, er⟩ : ∃ r, r = streamL key nonce text := ⟨_, rfl⟩
 rw [← er] at SL
 rw [← er]
 replace SL := Lib.hid fun _ : Unit => SL
 replace SC := Lib.hid SC
 clear eW es er
 obtain ⟨N, eN⟩ : ∃ N, N = text.length := ⟨_, rfl⟩
 have hWs : (W ++ s).length = 496 := by rw [List.length_append, hW, hs]
 have SN : ∀ n, (strN s W nonce n text).length = N := fun n => by rw [strN_len]; exact eN.symm
 replace SN := Lib.hid SN
 go_enter Tryz.func109, Tryz.ntmps109
 go_wp2_with ((first | ((with_reducible refine tBox (some 3) ?_); refine w_box M _ _ rfl rfl _ rfl (bs key) rfl ?_; clear M; intro gk w1 M) | ((with_reducible refine tBox (some 4) ?_); refine w_box M _ _ rfl rfl _ rfl (bs nonce) rfl ?_; clear M; intro gn w1 M) | (go_at_call 148; (refine (SC.out _).mono ?_; rintro e w1 ⟨gc, rfl, MP⟩; replace M := M.join MP; clear MP; simp only [List.cons_append, List.nil_append] at M)) | ((with_reducible refine tConv (some 16) 9 70 ?_); (refine w_bytes M _ _ _ _ rfl rfl rfl Tryz.underlying9 Tryz.underlying70 Tryz.underlying5 (by first | omega | (simp; omega)) ?_; clear M; intro gb capgb w1 hcapgb M)) | ((with_reducible refine tM rfl ?_); refine mB ?_; try (clear M; (first | intro g w1 M | intro w1 M); try simp only [setC] at M)) | ((with_reducible refine tGuard ?_); refine gdC ?_ ?_ <;> (intro hgd; rw [hgd]; try (exfalso; simp at hgd; omega)))) <;> (try conv => arg 5; simp only [Act.put, List.setIfInBounds_toArray, setC]))
 rw [← eN] at M
 rw [← eN]
 have hc2 : N ≤ capgb := by omega
 have hN : N ≤ 1000000 := by omega
 replace eN := Lib.hid fun _ : Unit => eN
 clear ht
 clear hcapgb
 go_loopw [9] (fun kv wr => ∃ n : Nat, 16 * n < N + 16 ∧ kv = .int .i64 (16 * (n : Int)) ∧ Mem [] w wr [.sl 1 (.slice (some ⟨gb, 0, none⟩) N capgb) N (bs (strN s W nonce n text)), .row gc (bs (W ++ s)), .row gn (bs nonce), .row gk (bs key)]) (fun kv _ => N + 16 - (intOf kv).toNat)
 case atStart => exact ⟨0, by omega, rfl, M⟩
 case round =>
  clear M
  obtain ⟨n, hn16, rfl, M⟩ := hrel
  have hd := SN.out n
  obtain ⟨d, ed⟩ : ∃ d, d = strN s W nonce n text := ⟨_, rfl⟩
  rw [← ed] at M hd
  have ED := Lib.hid fun _ : Unit => ed
  clear ed
  by_cases hlt : 16 * n < N
  ·have hI : (16 * (n : Int)) < (N : Int) := by omega
   have SE : strB s W nonce n d = iterN (xorB (blockL s W (nonce ++ bigB (UInt64.ofNat n) 4)) (16 * n)) (min 16 (d.length - 16 * n)) d := rfl
   have hbig := bigB_length (UInt64.ofNat n) 4
   have CI := count_in nonce (bigB (UInt64.ofNat n) 4) hn hbig
   have AP := fun (w : World) hok => aesPutc (.slice none 0 0) [] (UInt64.ofNat n) 4 w hok yE (by simp)
   rw [List.nil_append] at AP
   obtain ⟨big, ebig⟩ : ∃ b, b = bigB (UInt64.ofNat n) 4 := ⟨_, rfl⟩
   rw [← ebig] at SE hbig CI AP
   rw [hbig] at AP
   clear ebig
   have BC := fun (w : World) RR => block_c gc s W (nonce ++ big) w RR hW hs (by rw [List.length_append, hn, hbig])
   have hol := blockL_len s W (nonce ++ big) (by rw [List.length_append, hn, hbig])
   obtain ⟨o, eo⟩ : ∃ o, o = blockL s W (nonce ++ big) := ⟨_, rfl⟩
   rw [← eo] at SE BC hol
   clear eo
   have NI := nonce_in nonce hn
   have hin1 : (nonce ++ List.replicate 4 (0 : UInt8)).length = 16 := by simp [hn]
   have hin2 : (nonce ++ big).length = 16 := by rw [List.length_append, hn, hbig]
   replace SE := Lib.hid fun _ : Unit => SE
   replace CI := Lib.hid fun _ : Unit => CI
   replace NI := Lib.hid fun _ : Unit => NI
   replace AP := Lib.hid AP
   replace BC := Lib.hid BC
   have hz : (List.replicate 16 (0 : UInt8)).length = 16 := List.length_replicate
   have hq : (16 * (n : Int)) / 16 = n := by omega
   go_wp2_with ((first | ((with_reducible refine tAlloc (some 10) 234 ?_); refine w_alloc M _ rfl rfl (.agg (Array.replicate 16 (.int .u8 0))) (bs (List.replicate 16 (0 : UInt8))) yC rfl ?_; clear M; intro gi w1 M) | ((with_reducible show Code.wp _ (Code.region 7 _ _) _ _ _); (refine region_det [(0, false), (1, false), (2, true)] [] yC yC rfl yC ?_; replace M := M.drew; simp only [reord, opAt, List.map_cons, List.map_nil, List.getElem?_toArray, List.getElem?_cons_zero, List.getElem?_cons_succ, Option.getD_some])) | ((with_reducible show Code.wp _ (Code.region 8 _ _) _ _ _); (refine region_det [(0, false), (1, false), (2, false), (3, false), (4, true), (5, true)] [(27, .int), (28, .int)] yC yC rfl yC ?_; replace M := M.drew; simp only [reord, opAt, List.map_cons, List.map_nil, List.getElem?_toArray, List.getElem?_cons_zero, List.getElem?_cons_succ, Option.getD_some])) | ((with_reducible show wpList _ _ _ (Oper.mk _ (Op.call ⟨Callee.builtin Builtin.copy, _, _⟩) _ _ _ _ :: _) _ _); (first | (refine w_copyB M 0 bytesT _ _ _ rfl rfl rfl rfl rfl (row_sees (M.ok 3 _ rfl) yE (Nat.le_refl _) (by simp only [maxLen]; omega)) 12 (by simp; omega) yE ?_; clear M; intro w1 M; simp only [List.set_cons_zero] at M; rw [NI.out ()] at M) | (refine w_copyB M 1 bytesT _ _ _ rfl rfl rfl rfl rfl (sees_of (M.ok 0 _ rfl) hbig.symm) 4 yE yE ?_; clear M; intro w1 M; simp only [List.set_cons_succ, List.set_cons_zero] at M; rw [CI.out ()] at M; replace M := M.tail))) | (go_at_call 149; (replace M := M.nil 1; refine (AP.out _ (M.ok 0 _ rfl)).mono ?_; rintro e w1 ⟨p, c, rfl, U⟩; replace M := M.upd 0 rfl U; clear U; simp only [List.set_cons_zero] at M)) | (go_at_call 150; (refine (BC.out _ (M.ok 2 _ rfl)).mono ?_; rintro e w1 ⟨rfl, hb⟩; replace M := M.call hb; clear hb)) | ((with_reducible refine tAlloc (some 11) 234 ?_); refine w_alloc M _ rfl rfl (.agg (Array.replicate 16 (.int .u8 0))) (bs (List.replicate 16 (0 : UInt8))) yC rfl ?_; clear M; intro go w1 M) | ((with_reducible refine tM rfl ?_); refine mB ?_; try (clear M; (first | intro g w1 M | intro w1 M); try simp only [setC] at M)) | ((with_reducible first | show Seg _ _ _ _ | show OnlyN _ _ _ _ _); refine rA ?_) | ((with_reducible refine tGuard ?_); refine gdC ?_ ?_ <;> (intro hgd; rw [hgd]; try (exfalso; simp at hgd; omega)))) <;> (try conv => arg 5; simp only [Act.put, List.setIfInBounds_toArray, setC]))
   all_goals
    obtain ⟨c', hc1, hc3, hc4, hc5, hc7⟩ : ∃ c' : Nat, c' = min 16 (N - 16 * n) ∧ 16 * n + c' ≤ N ∧ c' ≤ 16 ∧ (16 * (n : Int) + 16 ≤ N → c' = 16) ∧ (N ≤ 16 * n + c' ∨ c' = 16) := ⟨_, rfl, by omega, by omega, by omega, by omega⟩
    replace SE := SE.out ()
    rw [hd, ← hc1] at SE
    replace SE := Lib.hid fun _ : Unit => SE
    clear hc1
    go_loopw [40] (fun kv wr => ∃ k : Nat, k ≤ c' ∧ kv = .int .i64 k ∧ Mem [] w wr [.row go (bs o), .row gi (bs (nonce ++ big)), .sl 1 (.slice (some ⟨gb, 0, none⟩) N capgb) N (bs (iterN (xorB o (16 * n)) k d)), .row gc (bs (W ++ s)), .row gn (bs nonce), .row gk (bs key)]) (fun kv _ => c' - (intOf kv).toNat)
    case atStart => exact ⟨0, by omega, rfl, M⟩
    case round =>
     clear M
     obtain ⟨k, hkc, rfl, M⟩ := hrel
     have hx := iterN_len _ (xorB_len o (16 * n)) k d
     obtain ⟨x, ex⟩ : ∃ x, x = iterN (xorB o (16 * n)) k d := ⟨_, rfl⟩
     rw [← ex] at M hx
     rw [hd] at hx
     have EX := Lib.hid fun _ : Unit => ex
     clear ex
     by_cases hltk : k < c'
     ·have hb1 : (k : Int) < 16 := by omega
      have hb2 : (k : Int) < N - 16 * n := by omega
      go_wp2_with ((first | ((with_reducible show Code.wp _ (Code.region 13 _ _) _ _ _); (refine region_det [(0, false), (1, false), (2, false), (3, false), (4, false), (6, false), (7, false), (5, false), (8, false), (9, false), (10, false), (11, true)] [(44, .int), (45, .int), (48, .int), (51, .int)] yC yC rfl yC ?_; replace M := M.drew; simp only [reord, opAt, List.map_cons, List.map_nil, List.getElem?_toArray, List.getElem?_cons_zero, List.getElem?_cons_succ, Option.getD_some])) | ((with_reducible show wpList _ _ _ (Oper.mk _ (Op.load _ _) _ _ _ _ :: _) _ _); refine w_at _ _ rfl yF ?_; intro hx; refine w_slB M 2 _ _ rfl rfl hx rfl yA (16 * n + k) yT yE ?_; clear hx) | ((with_reducible show wpList _ _ _ (Oper.mk _ (Op.store _ _ _) _ _ _ _ :: _) _ _); refine w_at2 _ _ _ rfl yF yF ?_; intro hx hy; refine w_slSetB M 2 _ _ _ rfl rfl hx rfl hy yA (16 * n + k) yT yE ?_; clear hx hy M; intro w1 M; simp only [List.set_cons_succ, List.set_cons_zero] at M) | ((with_reducible refine tM rfl ?_); refine mB ?_; try (clear M; (first | intro g w1 M | intro w1 M); try simp only [setC] at M)) | ((with_reducible first | show Seg _ _ _ _ | show OnlyN _ _ _ _ _); refine rA ?_) | ((with_reducible refine tGuard ?_); refine gdC ?_ ?_ <;> (intro hgd; rw [hgd]; try (exfalso; simp at hgd; omega)))) <;> (try conv => arg 5; simp only [Act.put, List.setIfInBounds_toArray, setC]))
      rw [nth_at' x, nth_at' o] at M
      go_roundw
      case rel => exact ⟨k + 1, by omega, by go_num, by rw [iterN_succ, ← EX.out ()]; exact M⟩
      case measure => simp [intOf]; omega
     ·obtain rfl : k = c' := by omega
      have eB : x = strB s W nonce n d := (EX.out ()).trans (SE.out ()).symm
      have eN1 : strN s W nonce (n + 1) text = x := by rw [eB, ED.out ()]; rfl
      replace eN1 := Lib.hid fun _ : Unit => eN1
      clear eB EX SE
      go_wp2_with ((first | ((with_reducible refine tM rfl ?_); refine mB ?_; try (clear M; (first | intro g w1 M | intro w1 M); try simp only [setC] at M)) | ((with_reducible refine tGuard ?_); refine gdC ?_ ?_ <;> (intro hgd; rw [hgd]; try (exfalso; simp at hgd; omega)))) <;> (try conv => arg 5; simp only [Act.put, List.setIfInBounds_toArray, setC]))
      go_roundw
      case rel => exact ⟨n + 1, by omega, by go_num, by rw [eN1.out ()]; exact M.tail.tail⟩
      case measure => simp [intOf]; omega
  ·have eR : r = d := by
    rw [SL.out (), ED.out (), ← eN.out (), show (N + 15) / 16 = n by omega]
   replace eR := Lib.hid fun _ : Unit => eR
   go_wp2_with ((first | ((with_reducible show wpList _ _ _ (Oper.mk _ (Op.convert _ _ _) _ _ _ _ :: _) _ _); (refine w_string M 0 _ _ _ _ rfl rfl rfl hd.symm rfl Tryz.underlying70 Tryz.underlying5 Tryz.underlying9 ?_)) | ((with_reducible refine tM rfl ?_); refine mB ?_; try (clear M; (first | intro g w1 M | intro w1 M); try simp only [setC] at M)) | ((with_reducible refine tGuard ?_); refine gdC ?_ ?_ <;> (intro hgd; rw [hgd]; try (exfalso; simp at hgd; omega)))) <;> (try conv => arg 5; simp only [Act.put, List.setIfInBounds_toArray, setC]))
   go_ret
   exact ⟨congrArg (fun x => Ending.returned (.string (mkS x))) (eR.out ()).symm, M.below⟩
end Go.Proofs.YtidadhbaomieiaaGreat

namespace Go
namespace TL
open Go.RowKit
theorem Mem.outNew {F : List Nat} {w0 w : World} {g : Nat} {L : List Chunk} (M : Mem F w0 w (.row g [.slice none 0 0] :: L)) : Mem F w0 w (outC g (.slice none 0 0) [] :: L) := by
 have M2 := M.nil 1
 have M3 : Mem F w0 w (.row g [.slice none 0 0] :: .sl 1 (.slice none 0 0) ([] : List UInt8).length (bs []) :: L) := by
  refine M2.pick _ (fun i => if i = 0 then 1 else if i = 1 then 0 else i) ?_ ?_
  ·intro i j hi hj h
   by_cases i0 : i = 0 <;> by_cases i1 : i = 1 <;> by_cases j0 : j = 0 <;> by_cases j1 : j = 1 <;> simp_all <;> omega
  ·intro i c h
   match i with
   | 0 => exact h
   | 1 => exact h
   | i + 2 => simpa using h
 exact M3.outShut
end TL
end Go

namespace Go
namespace TL
open Go.RowKit
def envC (k : Int) (b : UInt32) (n : UInt64) (d t : List UInt8) : List Value := .int .i64 k :: .int .u32 (I32 b) :: .int .u64 (I64 n) :: .string (mkS d) :: bs t
def zeroT : List UInt8 := List.replicate 32 0
theorem zeroT_len : zeroT.length = 32 := List.length_replicate
theorem envC_len (k : Int) (b : UInt32) (n : UInt64) (d t : List UInt8) : (envC k b n d t).length = t.length + 4 := by unfold envC; simp only [List.length_cons, bs_length]
theorem envC_one (k : Int) (b : UInt32) (n : UInt64) (d t : List UInt8) : ∀ v ∈ envC k b n d t, v.oneCell' = true := by
 intro v hv
 unfold envC at hv
 simp only [List.mem_cons] at hv
 rcases hv with rfl | rfl | rfl | rfl | hv
 ·rfl
 ·rfl
 ·rfl
 ·rfl
 ·exact bs_one _ v hv
section
variable {P : Program} {ops : Array Oper} {rest : List Oper} {o : Oper} {a : Act} {w w0 : World} {Q : Exit → Act → World → Prop} {F : List Nat} {L : List Chunk} {g : Nat} {k : Int} {b : UInt32} {n : UInt64} {d tg : List UInt8}
theorem w_loadE (M : Mem F w0 w L) (i : Nat) (t : TypeId) (x : Operand) (ho : o.op = .load t x) (hi : L[i]? = some (.row g (envC k b n d tg))) (hx : a.eval x = .pointer (some ⟨g, 0, none⟩)) (hw : Region.wanted o (yielded ops a.tmps) = true)
  (ht : rowT P t = true) (hn : (P.info? t).map (·.size) = some 36) (hg : tg.length = 32) (h : wpList P ops Q rest (a.put o.dst (.agg (envC k b n d tg).toArray)) w) : wpList P ops Q (o :: rest) a w :=
 w_loadR M i t x ho hi hx hw ht (by rw [envC_len, hg]; exact hn) h
theorem w_loadTag (M : Mem F w0 w L) (i : Nat) (t : TypeId) (x : Operand) (ho : o.op = .load t x) (hi : L[i]? = some (.row g (envC k b n d tg))) (hx : a.eval x = .pointer (some ⟨g, 4, none⟩)) (hw : Region.wanted o (yielded ops a.tmps) = true)
  (ht : rowT P t = true) (hn : (P.info? t).map (·.size) = some 32) (hg : tg.length = 32) (h : wpList P ops Q rest (a.put o.dst (.agg (bs tg).toArray)) w) : wpList P ops Q (o :: rest) a w :=
 w_loadA M i t x ho hi hx hw ht [.int .i64 k, .int .u32 (I32 b), .int .u64 (I64 n), .string (mkS d)] (bs tg) [] (by rw [List.append_nil]; rfl) rfl (by rw [bs_length, hg]; exact hn) h
theorem w_storeE (M : Mem F w0 w L) (i : Nat) (t : TypeId) (x y : Operand) (ho : o.op = .store t x y) {k' : Int} {b' : UInt32} {n' : UInt64} {d' tg' : List UInt8} (hi : L[i]? = some (.row g (envC k' b' n' d' tg'))) (hx : a.eval x = .pointer (some ⟨g, 0, none⟩)) (hw : Region.wanted o (yielded ops a.tmps) = true)
  {C : Array Value} (hy : a.eval y = .agg C) (hC : C = (envC k b n d tg).toArray) (hn : (P.info? t).map (·.size) = some 36) (hg : tg.length = 32) (hg' : tg'.length = 32)
  (h : ∀ w' : World, Mem F w0 w' (L.set i (.row g (envC k b n d tg))) → wpList P ops Q rest (a.put o.dst undef) w') : wpList P ops Q (o :: rest) a w :=
 w_storeR M i t x y ho hi hx hw (envC k b n d tg) hy hC (by rw [envC_len, hg]; exact hn) (envC_one _ _ _ _ _) (by rw [envC_len, envC_len, hg, hg']) h
theorem w_storeTag (M : Mem F w0 w L) (i : Nat) (t : TypeId) (x y : Operand) (ho : o.op = .store t x y) {tg' : List UInt8} (hi : L[i]? = some (.row g (envC k b n d tg'))) (hx : a.eval x = .pointer (some ⟨g, 4, none⟩)) (hw : Region.wanted o (yielded ops a.tmps) = true)
  (hy : a.eval y = .agg (bs tg).toArray) (hn : (P.info? t).map (·.size) = some 32) (hg : tg.length = 32) (hg' : tg'.length = 32)
  (h : ∀ w' : World, Mem F w0 w' (L.set i (.row g (envC k b n d tg))) → wpList P ops Q rest (a.put o.dst undef) w') : wpList P ops Q (o :: rest) a w := by
 refine w_storeA M i t x y ho hi hx hw (bs tg) hy rfl (by rw [bs_length, hg]; exact hn) (bs_one _) [.int .i64 k, .int .u32 (I32 b), .int .u64 (I64 n), .string (mkS d)] (bs tg') [] (by rw [List.append_nil]; rfl) rfl (by rw [bs_length, bs_length, hg, hg']) ?_
 intro w' M'
 rw [List.append_nil] at M'
 exact h w' M'
theorem w_storeData (M : Mem F w0 w L) (i : Nat) (t : TypeId) (x y : Operand) (ho : o.op = .store t x y) {d' : List UInt8} (hi : L[i]? = some (.row g (envC k b n d' tg))) (hx : a.eval x = .pointer (some ⟨g, 3, none⟩)) (hw : Region.wanted o (yielded ops a.tmps) = true)
  (hy : a.eval y = .string (mkS d)) (hn : (P.info? t).map (·.size) = some 1)
  (h : ∀ w' : World, Mem F w0 w' (L.set i (.row g (envC k b n d tg))) → wpList P ops Q rest (a.put o.dst undef) w') : wpList P ops Q (o :: rest) a w :=
 w_store M i t x y ho hi hx hw hy rfl rfl hn (by rw [envC_len]; omega) fun w' M' => h w' M'
theorem w_storeNum (M : Mem F w0 w L) (i : Nat) (t : TypeId) (x y : Operand) (ho : o.op = .store t x y) {n' : UInt64} (hi : L[i]? = some (.row g (envC k b n' d tg))) (hx : a.eval x = .pointer (some ⟨g, 2, none⟩)) (hw : Region.wanted o (yielded ops a.tmps) = true)
  (hy : a.eval y = .int .u64 (I64 n)) (hn : (P.info? t).map (·.size) = some 1)
  (h : ∀ w' : World, Mem F w0 w' (L.set i (.row g (envC k b n d tg))) → wpList P ops Q rest (a.put o.dst undef) w') : wpList P ops Q (o :: rest) a w :=
 w_store M i t x y ho hi hx hw hy rfl rfl hn (by rw [envC_len]; omega) fun w' M' => h w' M'
theorem w_storeTagB (M : Mem F w0 w L) (i : Nat) (t : TypeId) (x y : Operand) (ho : o.op = .store t x y) (hi : L[i]? = some (.row g (envC k b n d tg))) {off : Nat} (hx : a.eval x = .pointer (some ⟨g, off, none⟩)) (hw : Region.wanted o (yielded ops a.tmps) = true)
  {c : UInt8} (hy : a.eval y = .int .u8 (I8 c)) (hn : (P.info? t).map (·.size) = some 1) (j : Nat) (hoff : off = 4 + j) (hlt : j < tg.length)
  (h : ∀ w' : World, Mem F w0 w' (L.set i (.row g (envC k b n d (tg.set j c)))) → wpList P ops Q rest (a.put o.dst undef) w') : wpList P ops Q (o :: rest) a w := by
 refine w_store M i t x y ho hi hx hw hy rfl rfl hn (by rw [envC_len]; omega) fun w' M' => h w' ?_
 have e : (envC k b n d tg).set off (.int .u8 (I8 c)) = envC k b n d (tg.set j c) := by
  rw [hoff, Nat.add_comm]
  show .int .i64 k :: .int .u32 (I32 b) :: .int .u64 (I64 n) :: .string (mkS d) :: (bs tg).set j (vb c) = _
  rw [← bs_set]; rfl
 rw [← e]; exact M'
theorem seesTag {w : World} (h : (Chunk.row g (envC k b n d tg)).ok w) (hg : tg.length = 32) : SeesB w (.slice (some ⟨g, 4, none⟩) 32 32) tg := by
 refine ⟨by simp [hg], .inr ⟨g, 4, 32, by rw [hg], h.1, by omega, by decide, ?_⟩⟩
 have := rangeAt_drop h.2.1 4
 rw [Nat.zero_add] at this
 exact this
theorem w_stringTag (M : Mem F w0 w L) (i : Nat) (src dst e : TypeId) (x : Operand) (ho : o.op = .convert src dst x) (hw : Region.wanted o (yielded ops a.tmps) = true) (hi : L[i]? = some (.row g (envC k b n d tg))) (hx : a.eval x = .slice (some ⟨g, 4, none⟩) 32 32)
  (hg : tg.length = 32) (hs : P.underlying src = some (.slice e)) (he : P.underlying e = some (.int .u8)) (hd : P.underlying dst = some .string)
  (h : wpList P ops Q rest (a.put o.dst (.string (mkS tg))) w) : wpList P ops Q (o :: rest) a w :=
 wpW hw fun _ hK => by
  have hr := SeesB.run_string (P := P) (seesTag (M.ok i _ hi) hg) src dst e hs he hd w (grownBy_refl _ _)
  unfold Oper.wp execOp
  simp only [ho, hx, Sem.run_bind, hr, Result.andThen_ok]
  exact hK _ _ h
theorem stab_strTag (M : Mem F w0 w L) {is : List Nat} (i : Nat) {src dst e : TypeId} {x : Operand} (ho : o.op = .convert src dst x) (hi : L[i]? = some (.row g (envC k b n d tg))) (hin : i ∈ is) (hg : tg.length = 32) (hs : P.underlying src = some (.slice e)) (he : P.underlying e = some (.int .u8)) (hd : P.underlying dst = some .string) : Stab P (IxOk M is) o (.slice (some ⟨g, 4, none⟩) 32 32) :=
 stab_conv ho _ tg (fun _ hw => seesTag (hw.2 i hin _ hi) hg) hs he hd
theorem stab_env (M : Mem F w0 w L) {is : List Nat} (i : Nat) {t : TypeId} {x : Operand} (ho : o.op = .load t x) (hi : L[i]? = some (.row g (envC k b n d tg))) (hin : i ∈ is) (ht : rowT P t = true) (hn : (P.info? t).map (·.size) = some 36) (hg : tg.length = 32) : Stab P (IxOk M is) o (.pointer (some ⟨g, 0, none⟩)) :=
 stab_ixR M i ho hi hin ht (by rw [envC_len, hg]; exact hn)
theorem stab_tag (M : Mem F w0 w L) {is : List Nat} (i : Nat) {t : TypeId} {x : Operand} (ho : o.op = .load t x) (hi : L[i]? = some (.row g (envC k b n d tg))) (hin : i ∈ is) (ht : rowT P t = true) (hn : (P.info? t).map (·.size) = some 32) (hg : tg.length = 32) : Stab P (IxOk M is) o (.pointer (some ⟨g, 4, none⟩)) :=
 stab_ixA M i 4 ho hi hin ht [.int .i64 k, .int .u32 (I32 b), .int .u64 (I64 n), .string (mkS d)] (bs tg) [] (by rw [List.append_nil]; rfl) rfl (by rw [bs_length, hg]; exact hn)
end
theorem results_two {P : Program} {fn : Func} {p q : Tmp} {ty : TypeId} (h : fn.results = #[.cell p ty, .tmp q]) (tmps : Array Value) (w : World) (b o : Nat) (cs : List Value) (d : TypeDesc) (z : Value)
  (hp : tmps.getD p undef = .pointer (some ⟨b, o, none⟩)) (hz : tmps.getD q undef = z) (hc : w.rangeAt b o cs) (hu : P.underlying ty = some d) (hd : d.isRow = true) (hi : (P.info? ty).map (·.size) = some cs.length) :
  (results fn tmps).run P w = .ok (.tuple #[.agg cs.toArray, z]) w := by
 have hp' : tmps[p]?.getD undef = .pointer (some ⟨b, o, none⟩) := by simpa using hp
 have hz' : tmps[q]?.getD undef = z := by simpa using hz
 simp [results, h, hp', hz', asAddr, run_loadVar_mid w b o ty cs d hc hu hd hi]
end TL
end Go
