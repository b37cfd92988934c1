/- Texts of this seat, put together: AesB, AesC, AesS, SealW, SealA, SealR, RingL, RingA, RingB, RingC, SealB. Each begins with a remark that says what is proved in it, and under which conditions. -/
import Derived.Test.YtidadhbaomieiaaGreatZb
import Derived.Test.YtidadhbaomieiaaGreatZc
import Derived.Test.YtidadhbaomieiaaGreatZd
import Derived.Test.YtidadhbaomieiaaGreatZe
/- The walk of a key's schedule. Conditions: lengths. -/
namespace Go
namespace TL
theorem foldl_off (o : Nat) (l : List Value) : ∀ (k : Nat) (C : Array Value), (l.zipIdx k).foldl (fun cs x => cs.setIfInBounds (o + x.2) x.1) C = (l.zipIdx (o + k)).foldl (fun cs x => cs.setIfInBounds x.2 x.1) C := by
  induction l with
  | nil => intro k C; rfl
  | cons v t ih => intro k C; rw [List.zipIdx_cons, List.zipIdx_cons, List.foldl_cons, List.foldl_cons, ih]; rfl
theorem foldl_at (o : Nat) (l : List Value) (C : Array Value) (h : o + l.length ≤ C.size) : (l.zipIdx.foldl (fun cs x => cs.setIfInBounds (o + x.2) x.1) C).toList = C.toList.take o ++ l ++ C.toList.drop (o + l.length) := by
  rw [foldl_off, Nat.add_zero]; exact foldl_set l o C h
theorem copy_step (key s : List UInt8) (k : Nat) (hk : k < 8) (hl : key.length = 32) :
    (key.take (4 * k) ++ (List.replicate (240 - 4 * k) 0 ++ s)).take (k * 4) ++ ((((key.drop (4 * k)).take (32 - 4 * k))).take 4 ++ (key.take (4 * k) ++ (List.replicate (240 - 4 * k) 0 ++ s)).drop (k * 4 + 4)) = key.take (4 * (k + 1)) ++ (List.replicate (240 - 4 * (k + 1)) 0 ++ s) := by
  have e1 : (key.take (4 * k)).length = 4 * k := by simp; omega
  rw [show k * 4 = 4 * k by omega, List.take_left' e1, ← List.drop_drop, List.drop_left' e1, List.take_take, Nat.min_eq_left (by omega), ← List.append_assoc, show 4 * (k + 1) = 4 * k + 4 by omega, List.take_add]
  congr 1
  rw [show 240 - 4 * k = 4 + (240 - (4 * k + 4)) by omega, ← List.replicate_append_replicate, List.append_assoc, List.drop_left' (by simp)]
theorem Mem.take1 {F : List Nat} {w0 w : World} {c : Chunk} {L : List Chunk} (M : Mem F w0 w (c :: L)) : Mem F w0 w [c] :=
  M.pick _ (fun i => i) (fun _ _ _ _ h => h) fun i c' h => by
    cases i with
    | zero => simpa using h
    | succ i => simp at h
theorem take_in (W s : List UInt8) (m : Nat) (h : m + 4 ≤ W.length) : ((W ++ s).drop m).take 4 = (W.drop m).take 4 := by
  rw [List.drop_append_of_le_length (by omega), List.take_append_of_le_length (by simp; omega)]
theorem set_in (W s : List UInt8) (m : Nat) (v : UInt8) (h : m < W.length) : (W ++ s).set m v = W.set m v ++ s := by
  rw [List.set_append_left _ _ h]
theorem nth_in (W s : List UInt8) (m : Nat) (h : m < W.length) : nth (W ++ s) m = nth W m := by
  unfold nth; simp only [List.getD_eq_getElem?_getD]; rw [List.getElem?_append_left h]
theorem nth_out (W s : List UInt8) (n m : Nat) (h : W.length = n) : nth (W ++ s) (n + m) = nth s m := by
  unfold nth; simp only [List.getD_eq_getElem?_getD]; rw [List.getElem?_append_right (by omega), h, Nat.add_sub_cancel_left]
theorem nth_at (l : List UInt8) (k : Nat) (h : k < l.length) : l[k] = nth l k := by unfold nth; simp [List.getElem?_eq_getElem h]
theorem nth_at' (l : List UInt8) (k : Nat) : l[k]?.getD 0 = nth l k := by unfold nth; rw [List.getD_eq_getElem?_getD]
end TL
end Go
namespace Go.Proofs.YtidadhbaomieiaaGreat
open Go.RowKit Go.TL
set_option maxRecDepth 100000 in
set_option maxHeartbeats 4000000 in
theorem schedule_c (key : List UInt8) (w : World) (hk : key.length = 32) :
    Calls Tryz.prog 148 #[.agg (bs key).toArray] w fun e w' => ∃ g, e = .returned (.pointer (some ⟨g, 0, none⟩)) ∧ Mem [] w w' [.row g (bs (schL boxL key ++ boxL))] := by
  have M := Mem.start [] w
  have B := box_c
  have hs := boxL_len
  obtain ⟨s, es⟩ : ∃ s, s = boxL := ⟨_, rfl⟩
  rw [← es] at B hs
  rw [← es]
  replace B := Lib.hid B
  clear es
  have hbs : (bs s).length = 256 := by rw [bs_length, hs]
  go_enter Tryz.func148, Tryz.ntmps148
  go_wp2_with ((first | ((with_reducible refine tBox (some 1) ?_); refine w_box M _ _ rfl rfl _ rfl (bs key) rfl ?_; clear M; intro gk w1 M) | (go_at_call 176; go_must (refine (B.out _).mono ?_; rintro e w1 ⟨rfl, hb⟩; replace M := M.call hb; clear hb)) | ((with_reducible refine tBox (some 12) ?_); refine w_box M _ _ rfl rfl _ rfl (_) rfl ?_; clear M; intro g w1 M) | ((with_reducible refine tGuard ?_); first | refine gdS ?_ | (refine gdC ?_ ?_ <;> (intro hgd; rw [hgd]; try (exfalso; simp at hgd; omega)))) | ((with_reducible refine tConv _ 70 9 ?_); go_must (refine cvB ?_)) | ((with_reducible refine tLoad ?_); go_must (refine ldB ?_)) | ((with_reducible refine tStore ?_); go_must (refine stB ?_; clear M; intro w1 M; (try simp only [setC] at M))) | ((with_reducible refine tBox _ ?_); (refine bxA M ?_; clear M; intro g w1 M))) <;> (try conv => arg 5; simp only [Act.put, List.setIfInBounds_toArray, setC]))
  have hz : Tryz.zeroCells261.toList = bs (List.replicate 496 0) := by kernel_rfl
  have e := foldl_at 240 (bs s) Tryz.zeroCells261 (by rw [hbs]; decide +kernel)
  have e2 : (bs (List.replicate 496 0)).take 240 ++ bs s ++ (bs (List.replicate 496 0)).drop (240 + (bs s).length) = bs (key.take (4 * 0) ++ (List.replicate (240 - 4 * 0) 0 ++ s)) := by
    rw [hbs, List.drop_eq_nil_of_le (by rw [bs_length, List.length_replicate]; omega), List.append_nil]
    simp [bs]
  rw [hz, e2] at e
  rw [e] at M
  clear e e2 hz
  go_loopw [13] (fun kv wr => ∃ k : Nat, k ≤ 8 ∧ kv = .int .i64 k ∧ Mem [] w wr [.row g (bs (key.take (4 * k) ++ (List.replicate (240 - 4 * k) 0 ++ s))), .row gk (bs key)]) (fun kv _ => 8 - (intOf kv).toNat)
  case atStart => exact ⟨0, by omega, rfl, M⟩
  case round =>
    clear M
    obtain ⟨k, hk8, rfl, M⟩ := hrel
    by_cases hlt : k < 8
    · have CS := copy_step key s k hlt hk
      have hl : (key.take (4 * k) ++ (List.replicate (240 - 4 * k) 0 ++ s)).length = 496 := by simp; omega
      obtain ⟨l, el⟩ : ∃ l, l = key.take (4 * k) ++ (List.replicate (240 - 4 * k) 0 ++ s) := ⟨_, rfl⟩
      rw [← el] at M CS hl
      replace CS := Lib.hid CS
      clear el
      have h4 : 4 * (k : Int) ≤ 32 := by omega
      have h5 : 0 ≤ 4 * (k : Int) := by omega
      have h6 : (4 * (k : Int)).toNat = 4 * k := by omega
      go_wp2_with ((first | ((with_reducible show Code.wp _ (Code.region 5 _ _) _ _ _); go_must (refine region_det [(0, false), (1, false), (2, false), (3, false), (4, false), (5, false), (6, false), (7, false), (8, false), (9, true)] [(16, .ptr), (22, .int)] (by kernel_rfl) (by kernel_rfl) rfl (by kernel_rfl) ?_; replace M := M.drew; simp only [reord, opAt, List.map_cons, List.map_nil, List.getElem?_toArray, List.getElem?_cons_zero, List.getElem?_cons_succ, Option.getD_some])) | ((with_reducible show wpList _ _ _ (Oper.mk _ (Op.call ⟨Callee.builtin Builtin.copy, _, _⟩) _ _ _ _ :: _) _ _); go_must (refine w_copyB M 0 bytesT _ _ _ rfl rfl rfl rfl rfl (row_sees (M.ok 1 _ rfl) (by omega) (Nat.le_refl _) (by simp only [maxLen]; omega)) 4 (by simp; omega) (by omega) ?_; clear M; intro w1 M; simp only [List.set_cons_zero] at M)) | ((with_reducible show Seg _ _ _ _); go_must (first | refine Seg.intro ⟨fun h => absurd rfl h, ?_⟩ | refine Seg.intro ⟨fun _ => ixA, ?_⟩ | refine Seg.intro ⟨ndA, atA, ?_⟩)) | ((with_reducible show OnlyN _ _ _ _ _); refine OnlyN.intro (by kernel_rfl) ?_) | ((with_reducible refine tGuard ?_); first | refine gdS ?_ | (refine gdC ?_ ?_ <;> (intro hgd; rw [hgd]; try (exfalso; simp at hgd; omega)))) | ((with_reducible refine tConv _ 70 9 ?_); go_must (refine cvB ?_)) | ((with_reducible refine tLoad ?_); go_must (refine ldB ?_)) | ((with_reducible refine tStore ?_); go_must (refine stB ?_; clear M; intro w1 M; (try simp only [setC] at M))) | ((with_reducible refine tBox _ ?_); (refine bxA M ?_; clear M; intro g w1 M))) <;> (try conv => arg 5; simp only [Act.put, List.setIfInBounds_toArray, setC]))
      rw [CS.out] at M
      go_roundw
      case rel => exact ⟨k + 1, by omega, by go_num, M⟩
      case measure => simp [intOf]; omega
    · obtain rfl : k = 8 := by omega
      have e : key.take (4 * 8) ++ (List.replicate (240 - 4 * 8) 0 ++ s) = (schS s key 0).1 ++ s := by
        rw [List.take_of_length_le (by omega), ← List.append_assoc]; rfl
      rw [e] at M
      have e0 : (schS s key 0).2 = 1 := rfl
      clear e
      go_wp2_with ((first | ((with_reducible refine tGuard ?_); first | refine gdS ?_ | (refine gdC ?_ ?_ <;> (intro hgd; rw [hgd]; try (exfalso; simp at hgd; omega)))) | ((with_reducible refine tConv _ 70 9 ?_); go_must (refine cvB ?_)) | ((with_reducible refine tLoad ?_); go_must (refine ldB ?_)) | ((with_reducible refine tStore ?_); go_must (refine stB ?_; clear M; intro w1 M; (try simp only [setC] at M))) | ((with_reducible refine tBox _ ?_); (refine bxA M ?_; clear M; intro g w1 M))) <;> (try conv => arg 5; simp only [Act.put, List.setIfInBounds_toArray, setC]))
      rw [show ((8 : Nat) : Int) = 8 from rfl]
      go_loopw [5, 6] (fun pv iv wr => ∃ n : Nat, n ≤ 52 ∧ pv = .int .u8 (I8 (schS s key n).2) ∧ iv = .int .i64 (n + 8) ∧ Mem [] w wr [.row g (bs ((schS s key n).1 ++ s)), .row gk (bs key)]) (fun _ iv _ => 60 - (intOf iv).toNat)
      case atStart => exact ⟨0, by omega, rfl, rfl, M⟩
      case round =>
        clear M e0
        obtain ⟨n, hn, rfl, rfl, M⟩ := hrel
        have hW := schS_len s key hk n
        obtain ⟨⟨W, pw⟩, ex⟩ : ∃ x, x = schS s key n := ⟨_, rfl⟩
        rw [← ex] at M hW
        rw [← ex]
        simp only at M hW
        simp only
        have EX := Lib.hid (show schS s key (n + 1) = schW s n (W, pw) by rw [ex]; rfl)
        have EX0 := Lib.hid ex
        clear ex
        by_cases hlt : n < 52
        · have hWs : (W ++ s).length = 496 := by rw [List.length_append, hW, hs]
          have ht := take_in W s ((n + 8 - 1) * 4) (by omega)
          have ht2 : (W.drop ((n + 8 - 1) * 4)).take 4 = word1 W (n + 8) := by unfold word1; rw [Nat.mul_comm]
          rw [ht2] at ht
          have hl1 := word1_len hW (show 1 ≤ n + 8 by omega) (by omega)
          obtain ⟨t1, e1⟩ : ∃ t, t = word1 W (n + 8) := ⟨_, rfl⟩
          have E2 : word2 W (n + 8) = if n % 8 = 0 then rotT t1 else t1 := by unfold word2; rw [← e1]; simp
          have E3 : word3 s W (n + 8) = if n % 4 = 0 then iterN (subT s) 4 (word2 W (n + 8)) else word2 W (n + 8) := by unfold word3; simp [show (n + 8) % 4 = n % 4 by omega]
          have E4 : word4 s W pw (n + 8) = if n % 8 = 0 then (word3 s W (n + 8)).set 0 (nth (word3 s W (n + 8)) 0 ^^^ pw) else word3 s W (n + 8) := by unfold word4; simp
          have EP : powI pw (n + 8) = if n % 8 = 0 then tw pw else pw := by unfold powI; simp
          rw [← e1] at ht hl1
          clear ht2 e1
          have hlX : (List.take 4 (List.drop ((n + 8 - 1) * 4) (W ++ s))).length = 4 := by rw [ht]; exact hl1
          have hlY : (bs (List.take 4 (List.drop ((n + 8 - 1) * 4) (W ++ s)))).length = 4 := by rw [bs_length, hlX]
          have q : ∀ j, j < 4 → nth t1 j = (W ++ s)[(n + 7) * 4 + j]?.getD 0 := fun j hj => by
            rw [← ht]; unfold nth; rw [List.getD_eq_getElem?_getD, List.getElem?_take, if_pos hj, List.getElem?_drop, show n + 8 - 1 = n + 7 by omega]
          by_cases h4 : n % 4 = 0
          · rw [if_pos h4] at E3
            have h4' : ((n : Int) + 8) % 4 = 0 := by omega
            by_cases h8 : n % 8 = 0
            · rw [if_pos h8] at E2 E4 EP
              have e2 : bs (rotT t1) = [.int .u8 (I8 ((W ++ s)[(n + 7) * 4 + 1]?.getD 0)), .int .u8 (I8 ((W ++ s)[(n + 7) * 4 + 2]?.getD 0)), .int .u8 (I8 ((W ++ s)[(n + 7) * 4 + 3]?.getD 0)), .int .u8 (I8 ((W ++ s)[(n + 7) * 4]?.getD 0))] := by
                unfold rotT; rw [q 1 (by omega), q 2 (by omega), q 3 (by omega), q 0 (by omega)]; rfl
              replace e2 := Lib.hid e2
              rw [E2] at E3
              replace E3 := Lib.hid E3
              replace E4 := Lib.hid E4
              replace EP := Lib.hid EP
              replace q := Lib.hid q
              clear E2
              have h8' : ((n : Int) + 8) % 8 = 0 := by omega
              go_wp2_with ((first | ((with_reducible refine tAlloc (some 7) 258 ?_); refine w_alloc M _ rfl rfl (.agg (Array.replicate 4 (.int .u8 0))) (bs (List.replicate 4 (0 : UInt8))) (by kernel_rfl) rfl ?_; clear M; intro gt w1 M) | (go_at_call 177; go_must (refine (twice_c _ _).mono ?_; rintro e w1 ⟨rfl, rfl⟩)) | ((with_reducible refine tGuard ?_); first | refine gdS ?_ | (refine gdC ?_ ?_ <;> (intro hgd; rw [hgd]; try (exfalso; simp at hgd; omega)))) | ((with_reducible refine tConv _ 70 9 ?_); go_must (refine cvB ?_)) | ((with_reducible refine tLoad ?_); go_must (refine w_at _ _ rfl (by exact ev_tmp rfl) ?_; intro hx; (first | refine w_load M _ _ _ rfl (by first | exact at0 | exact at1 | exact at2) hx rfl (by decide +kernel) (by exact rfl) ?_ | refine w_loadB M _ _ _ rfl (by first | exact at0 | exact at1 | exact at2) hx rfl (by decide +kernel) (by first | assumption | omega | (simp; omega)) ?_ | refine w_loadH M _ _ _ rfl (by first | exact at0 | exact at1 | exact at2) hx rfl (by decide +kernel) (by first | assumption | exact lenI | exact lenS ‹_› | rfl) (by decide +kernel) ?_ | refine w_loadR M _ _ _ rfl (by first | exact at0 | exact at1 | exact at2) hx rfl (by decide +kernel) (by kernel_rfl) ?_ | refine w_loadM M _ _ _ rfl (by first | exact at0 | exact at1 | exact at2) hx rfl (by decide +kernel) 4 (by decide +kernel) (by first | assumption | omega | (simp; omega)) ?_); clear hx)) | ((with_reducible refine tStore ?_); go_must (refine stB ?_; clear M; intro w1 M; (try simp only [setC] at M))) | ((with_reducible refine tBox _ ?_); (refine bxA M ?_; clear M; intro g w1 M))) <;> (try conv => arg 5; simp only [Act.put, List.setIfInBounds_toArray, setC]))
              rw [← e2.out] at M
              have hl2 : (rotT t1).length = 4 := rfl
              obtain ⟨t2, e3⟩ : ∃ t, t = rotT t1 := ⟨_, rfl⟩
              rw [← e3] at M hl2 E3
              clear e3 e2 ht hlX hlY q
              go_loopw [53] (fun kv wr => ∃ k : Nat, k ≤ 4 ∧ kv = .int .i64 k ∧ Mem [] w wr [.row gt (bs (iterN (subT s) k t2)), .row g (bs (W ++ s)), .row gk (bs key)]) (fun kv _ => 4 - (intOf kv).toNat)
              case atStart => exact ⟨0, by omega, rfl, M⟩
              case round =>
                clear M
                obtain ⟨k, hk4, rfl, M⟩ := hrel
                obtain ⟨d, ed⟩ : ∃ d, d = iterN (subT s) k t2 := ⟨_, rfl⟩
                have hd : d.length = 4 := by rw [ed, iterN_len _ (fun _ _ => subT_len _ _ _)]; exact hl2
                rw [← ed] at M
                have ED := Lib.hid ed
                clear ed
                by_cases hlt4 : k < 4
                · obtain ⟨q, eq⟩ : ∃ q, q = nth d k := ⟨_, rfl⟩
                  have hq0 := (I8_bd q).1
                  have hq1 := (I8_bd q).2
                  have hq2 := I8_toNat q
                  have hq3 := q.toNat_lt
                  have hq4 : q.toNat < 256 := hq3
                  have hd1 : d.getD k 0 = q := eq.symm
                  have hd2 : d[k]?.getD 0 = q := by rw [nth_at', eq]
                  have hd3 : d[k] = q := by rw [nth_at, eq]
                  have EQ := Lib.hid eq
                  clear eq hq3
                  go_wp2_with ((first | ((with_reducible show Code.wp _ (Code.region 18 _ _) _ _ _); go_must (have MR := M; refine region_lowc [(0, false), (1, false), (2, false), (3, false), (5, false), (6, false), (4, false), (7, false), (8, false), (9, false), (10, true)] [(57, .ptr)] [(4, _), (8, _)] (IxOk MR [0, 1]) 10 (by kernel_rfl) (by kernel_rfl) rfl (by kernel_rfl) (lowA MR 0 k (lowA MR 1 (240+q.toNat) lows_nil)) (ixOk_self MR _) ?_; replace M := M.drew; simp only [planC, opAt, List.getElem?_toArray, List.getElem?_cons_zero, List.getElem?_cons_succ, Option.getD_some])) | ((with_reducible show Seg _ _ _ _); go_must (first | refine Seg.intro ⟨fun h => absurd rfl h, ?_⟩ | refine Seg.intro ⟨fun _ => ixA, ?_⟩ | refine Seg.intro ⟨ndA, atA, ?_⟩)) | ((with_reducible show OnlyN _ _ _ _ _); refine OnlyN.intro (by kernel_rfl) ?_) | ((with_reducible refine tGuard ?_); first | refine gdS ?_ | (refine gdC ?_ ?_ <;> (intro hgd; rw [hgd]; try (exfalso; simp at hgd; omega)))) | ((with_reducible refine tConv _ 70 9 ?_); go_must (refine cvB ?_)) | ((with_reducible refine tLoad ?_); go_must (refine ldB ?_)) | ((with_reducible refine tStore ?_); go_must (refine stB ?_; clear M; intro w1 M; (try simp only [setC] at M))) | ((with_reducible refine tBox _ ?_); (refine bxA M ?_; clear M; intro g w1 M))) <;> (try conv => arg 5; simp only [Act.put, List.setIfInBounds_toArray, setC]))
                  rw [show (W ++ s).getD (240 + q.toNat) 0 = nth s q.toNat from nth_out W s 240 _ hW] at M
                  go_roundw
                  case rel => exact ⟨k + 1, by omega, by go_num, by
                    rw [iterN_succ, ← ED.out]; unfold subT; rw [← EQ.out]; exact M⟩
                  case measure => simp [intOf]; omega
                · obtain rfl : k = 4 := by omega
                  replace E3 := E3.out.trans ED.out.symm
                  replace E4 := E4.out
                  rw [E3] at E4
                  replace E4 := Lib.hid E4
                  clear E3 ED
                  go_wp2_with ((first | ((with_reducible refine tAlloc (some 7) 258 ?_); refine w_alloc M _ rfl rfl (.agg (Array.replicate 4 (.int .u8 0))) (bs (List.replicate 4 (0 : UInt8))) (by kernel_rfl) rfl ?_; clear M; intro gt w1 M) | (go_at_call 177; go_must (refine (twice_c _ _).mono ?_; rintro e w1 ⟨rfl, rfl⟩)) | ((with_reducible refine tGuard ?_); first | refine gdS ?_ | (refine gdC ?_ ?_ <;> (intro hgd; rw [hgd]; try (exfalso; simp at hgd; omega)))) | ((with_reducible refine tConv _ 70 9 ?_); go_must (refine cvB ?_)) | ((with_reducible refine tLoad ?_); go_must (refine w_at _ _ rfl (by exact ev_tmp rfl) ?_; intro hx; (first | refine w_load M _ _ _ rfl (by first | exact at0 | exact at1 | exact at2) hx rfl (by decide +kernel) (by exact rfl) ?_ | refine w_loadB M _ _ _ rfl (by first | exact at0 | exact at1 | exact at2) hx rfl (by decide +kernel) (by first | assumption | omega | (simp; omega)) ?_ | refine w_loadH M _ _ _ rfl (by first | exact at0 | exact at1 | exact at2) hx rfl (by decide +kernel) (by first | assumption | exact lenI | exact lenS ‹_› | rfl) (by decide +kernel) ?_ | refine w_loadR M _ _ _ rfl (by first | exact at0 | exact at1 | exact at2) hx rfl (by decide +kernel) (by kernel_rfl) ?_ | refine w_loadM M _ _ _ rfl (by first | exact at0 | exact at1 | exact at2) hx rfl (by decide +kernel) 4 (by decide +kernel) (by first | assumption | omega | (simp; omega)) ?_); clear hx)) | ((with_reducible refine tStore ?_); go_must (refine stB ?_; clear M; intro w1 M; (try simp only [setC] at M))) | ((with_reducible refine tBox _ ?_); (refine bxA M ?_; clear M; intro g w1 M))) <;> (try conv => arg 5; simp only [Act.put, List.setIfInBounds_toArray, setC]))
                  rw [nth_at d 0 (by omega)] at M
                  obtain ⟨t4, e4⟩ : ∃ t, t = d.set 0 (nth d 0 ^^^ pw) := ⟨_, rfl⟩
                  have ht4 : t4.length = 4 := by rw [e4, List.length_set]; exact hd
                  rw [← e4] at M E4
                  clear e4
                  go_loopw [77] (fun kv wr => ∃ k : Nat, k ≤ 4 ∧ kv = .int .i64 k ∧ Mem [] w wr [.row gt (bs t4), .row g (bs (iterN (addT t4 (n + 8)) k W ++ s)), .row gk (bs key)]) (fun kv _ => 4 - (intOf kv).toNat)
                  case atStart => exact ⟨0, by omega, rfl, M⟩
                  case round =>
                    clear M
                    obtain ⟨k, hk4, rfl, M⟩ := hrel
                    obtain ⟨V, eV⟩ : ∃ V, V = iterN (addT t4 (n + 8)) k W := ⟨_, rfl⟩
                    have hV : V.length = 240 := by rw [eV, iterN_len _ (addT_len _ _)]; exact hW
                    have hVs : (V ++ s).length = 496 := by rw [List.length_append, hV, hs]
                    rw [← eV] at M
                    have EV := Lib.hid eV
                    clear eV
                    by_cases hlt4 : k < 4
                    · go_wp2_with ((first | ((with_reducible show Code.wp _ (Code.region 26 _ _) _ _ _); go_must (refine region_det [(0, false), (1, false), (2, false), (3, false), (4, false), (5, false), (6, false), (7, false), (8, false), (9, false), (10, false), (12, false), (13, false), (16, false), (17, false), (18, false), (11, false), (14, false), (15, false), (19, false), (20, true)] [(84, .int), (83, .ptr), (80, .ptr), (91, .int), (94, .int)] (by kernel_rfl) (by kernel_rfl) rfl (by kernel_rfl) ?_; replace M := M.drew; simp only [reord, opAt, List.map_cons, List.map_nil, List.getElem?_toArray, List.getElem?_cons_zero, List.getElem?_cons_succ, Option.getD_some])) | ((with_reducible show Seg _ _ _ _); go_must (first | refine Seg.intro ⟨fun h => absurd rfl h, ?_⟩ | refine Seg.intro ⟨fun _ => ixA, ?_⟩ | refine Seg.intro ⟨ndA, atA, ?_⟩)) | ((with_reducible show OnlyN _ _ _ _ _); refine OnlyN.intro (by kernel_rfl) ?_) | ((with_reducible refine tGuard ?_); first | refine gdS ?_ | (refine gdC ?_ ?_ <;> (intro hgd; rw [hgd]; try (exfalso; simp at hgd; omega)))) | ((with_reducible refine tConv _ 70 9 ?_); go_must (refine cvB ?_)) | ((with_reducible refine tLoad ?_); go_must (refine ldB ?_)) | ((with_reducible refine tStore ?_); go_must (refine stB ?_; clear M; intro w1 M; (try simp only [setC] at M))) | ((with_reducible refine tBox _ ?_); (refine bxA M ?_; clear M; intro g w1 M))) <;> (try conv => arg 5; simp only [Act.put, List.setIfInBounds_toArray, setC]))
                      have q1 : addT t4 (n + 8) k V = V.set ((n + 8) * 4 + k) (nth V (4 * n + k) ^^^ nth t4 k) := by unfold addT; rw [Nat.mul_comm 4 (n + 8), Nat.add_sub_cancel]
                      have q2 : (V ++ s)[n * 4 + k]?.getD 0 = nth V (4 * n + k) := by rw [nth_at', nth_in _ _ _ (by omega), Nat.mul_comm]
                      rw [q2, nth_at t4 k (by omega), set_in V s _ _ (by omega), ← q1] at M
                      go_roundw
                      case rel => exact ⟨k + 1, by omega, by go_num, by rw [iterN_succ, ← EV.out]; exact M⟩
                      case measure => simp [intOf]; omega
                    · obtain rfl : k = 4 := by omega
                      go_wp2_with ((first | ((with_reducible refine tGuard ?_); first | refine gdS ?_ | (refine gdC ?_ ?_ <;> (intro hgd; rw [hgd]; try (exfalso; simp at hgd; omega)))) | ((with_reducible refine tConv _ 70 9 ?_); go_must (refine cvB ?_)) | ((with_reducible refine tLoad ?_); go_must (refine ldB ?_)) | ((with_reducible refine tStore ?_); go_must (refine stB ?_; clear M; intro w1 M; (try simp only [setC] at M))) | ((with_reducible refine tBox _ ?_); (refine bxA M ?_; clear M; intro g w1 M))) <;> (try conv => arg 5; simp only [Act.put, List.setIfInBounds_toArray, setC]))
                      go_roundw
                      case rel => exact ⟨n + 1, by omega, by rw [EX.out]; show _ = Value.int .u8 (I8 (powI pw (n + 8))); rw [EP.out], by go_num, by
                        rw [EX.out]; show Mem [] w _ [.row g (bs (iterN (addT (word4 s W pw (n + 8)) (n + 8)) 4 W ++ s)), .row gk (bs key)]
                        rw [E4.out, ← EV.out]; exact M.tail⟩
                      case measure => simp [intOf]; omega
            · rw [if_neg h8] at E2 E4 EP
              have hl2 := hl1
              obtain ⟨t2, e3⟩ : ∃ t, t = t1 := ⟨_, rfl⟩
              rw [E2, ← e3] at E3
              rw [← e3] at hl2
              replace E3 := Lib.hid E3
              replace E4 := Lib.hid E4
              replace EP := Lib.hid EP
              clear E2 q
              have h8' : ¬ ((n : Int) + 8) % 8 = 0 := by omega
              go_wp2_with ((first | ((with_reducible refine tAlloc (some 7) 258 ?_); refine w_alloc M _ rfl rfl (.agg (Array.replicate 4 (.int .u8 0))) (bs (List.replicate 4 (0 : UInt8))) (by kernel_rfl) rfl ?_; clear M; intro gt w1 M) | (go_at_call 177; go_must (refine (twice_c _ _).mono ?_; rintro e w1 ⟨rfl, rfl⟩)) | ((with_reducible refine tGuard ?_); first | refine gdS ?_ | (refine gdC ?_ ?_ <;> (intro hgd; rw [hgd]; try (exfalso; simp at hgd; omega)))) | ((with_reducible refine tConv _ 70 9 ?_); go_must (refine cvB ?_)) | ((with_reducible refine tLoad ?_); go_must (refine w_at _ _ rfl (by exact ev_tmp rfl) ?_; intro hx; (first | refine w_load M _ _ _ rfl (by first | exact at0 | exact at1 | exact at2) hx rfl (by decide +kernel) (by exact rfl) ?_ | refine w_loadB M _ _ _ rfl (by first | exact at0 | exact at1 | exact at2) hx rfl (by decide +kernel) (by first | assumption | omega | (simp; omega)) ?_ | refine w_loadH M _ _ _ rfl (by first | exact at0 | exact at1 | exact at2) hx rfl (by decide +kernel) (by first | assumption | exact lenI | exact lenS ‹_› | rfl) (by decide +kernel) ?_ | refine w_loadR M _ _ _ rfl (by first | exact at0 | exact at1 | exact at2) hx rfl (by decide +kernel) (by kernel_rfl) ?_ | refine w_loadM M _ _ _ rfl (by first | exact at0 | exact at1 | exact at2) hx rfl (by decide +kernel) 4 (by decide +kernel) (by first | assumption | omega | (simp; omega)) ?_); clear hx)) | ((with_reducible refine tStore ?_); go_must (refine stB ?_; clear M; intro w1 M; (try simp only [setC] at M))) | ((with_reducible refine tBox _ ?_); (refine bxA M ?_; clear M; intro g w1 M))) <;> (try conv => arg 5; simp only [Act.put, List.setIfInBounds_toArray, setC]))
              rw [ht, ← e3] at M
              clear e3 ht hlX hlY
              go_loopw [53] (fun kv wr => ∃ k : Nat, k ≤ 4 ∧ kv = .int .i64 k ∧ Mem [] w wr [.row gt (bs (iterN (subT s) k t2)), .row g (bs (W ++ s)), .row gk (bs key)]) (fun kv _ => 4 - (intOf kv).toNat)
              case atStart => exact ⟨0, by omega, rfl, M⟩
              case round =>
                clear M
                obtain ⟨k, hk4, rfl, M⟩ := hrel
                obtain ⟨d, ed⟩ : ∃ d, d = iterN (subT s) k t2 := ⟨_, rfl⟩
                have hd : d.length = 4 := by rw [ed, iterN_len _ (fun _ _ => subT_len _ _ _)]; exact hl2
                rw [← ed] at M
                have ED := Lib.hid ed
                clear ed
                by_cases hlt4 : k < 4
                · obtain ⟨q, eq⟩ : ∃ q, q = nth d k := ⟨_, rfl⟩
                  have hq0 := (I8_bd q).1
                  have hq1 := (I8_bd q).2
                  have hq2 := I8_toNat q
                  have hq3 := q.toNat_lt
                  have hq4 : q.toNat < 256 := hq3
                  have hd1 : d.getD k 0 = q := eq.symm
                  have hd2 : d[k]?.getD 0 = q := by rw [nth_at', eq]
                  have hd3 : d[k] = q := by rw [nth_at, eq]
                  have EQ := Lib.hid eq
                  clear eq hq3
                  go_wp2_with ((first | ((with_reducible show Code.wp _ (Code.region 18 _ _) _ _ _); go_must (have MR := M; refine region_lowc [(0, false), (1, false), (2, false), (3, false), (5, false), (6, false), (4, false), (7, false), (8, false), (9, false), (10, true)] [(57, .ptr)] [(4, _), (8, _)] (IxOk MR [0, 1]) 10 (by kernel_rfl) (by kernel_rfl) rfl (by kernel_rfl) (lowA MR 0 k (lowA MR 1 (240+q.toNat) lows_nil)) (ixOk_self MR _) ?_; replace M := M.drew; simp only [planC, opAt, List.getElem?_toArray, List.getElem?_cons_zero, List.getElem?_cons_succ, Option.getD_some])) | ((with_reducible show Seg _ _ _ _); go_must (first | refine Seg.intro ⟨fun h => absurd rfl h, ?_⟩ | refine Seg.intro ⟨fun _ => ixA, ?_⟩ | refine Seg.intro ⟨ndA, atA, ?_⟩)) | ((with_reducible show OnlyN _ _ _ _ _); refine OnlyN.intro (by kernel_rfl) ?_) | ((with_reducible refine tGuard ?_); first | refine gdS ?_ | (refine gdC ?_ ?_ <;> (intro hgd; rw [hgd]; try (exfalso; simp at hgd; omega)))) | ((with_reducible refine tConv _ 70 9 ?_); go_must (refine cvB ?_)) | ((with_reducible refine tLoad ?_); go_must (refine ldB ?_)) | ((with_reducible refine tStore ?_); go_must (refine stB ?_; clear M; intro w1 M; (try simp only [setC] at M))) | ((with_reducible refine tBox _ ?_); (refine bxA M ?_; clear M; intro g w1 M))) <;> (try conv => arg 5; simp only [Act.put, List.setIfInBounds_toArray, setC]))
                  rw [show (W ++ s).getD (240 + q.toNat) 0 = nth s q.toNat from nth_out W s 240 _ hW] at M
                  go_roundw
                  case rel => exact ⟨k + 1, by omega, by go_num, by
                    rw [iterN_succ, ← ED.out]; unfold subT; rw [← EQ.out]; exact M⟩
                  case measure => simp [intOf]; omega
                · obtain rfl : k = 4 := by omega
                  replace E3 := E3.out.trans ED.out.symm
                  replace E4 := E4.out
                  rw [E3] at E4
                  replace E4 := Lib.hid E4
                  clear E3 ED
                  go_wp2_with ((first | ((with_reducible refine tAlloc (some 7) 258 ?_); refine w_alloc M _ rfl rfl (.agg (Array.replicate 4 (.int .u8 0))) (bs (List.replicate 4 (0 : UInt8))) (by kernel_rfl) rfl ?_; clear M; intro gt w1 M) | (go_at_call 177; go_must (refine (twice_c _ _).mono ?_; rintro e w1 ⟨rfl, rfl⟩)) | ((with_reducible refine tGuard ?_); first | refine gdS ?_ | (refine gdC ?_ ?_ <;> (intro hgd; rw [hgd]; try (exfalso; simp at hgd; omega)))) | ((with_reducible refine tConv _ 70 9 ?_); go_must (refine cvB ?_)) | ((with_reducible refine tLoad ?_); go_must (refine w_at _ _ rfl (by exact ev_tmp rfl) ?_; intro hx; (first | refine w_load M _ _ _ rfl (by first | exact at0 | exact at1 | exact at2) hx rfl (by decide +kernel) (by exact rfl) ?_ | refine w_loadB M _ _ _ rfl (by first | exact at0 | exact at1 | exact at2) hx rfl (by decide +kernel) (by first | assumption | omega | (simp; omega)) ?_ | refine w_loadH M _ _ _ rfl (by first | exact at0 | exact at1 | exact at2) hx rfl (by decide +kernel) (by first | assumption | exact lenI | exact lenS ‹_› | rfl) (by decide +kernel) ?_ | refine w_loadR M _ _ _ rfl (by first | exact at0 | exact at1 | exact at2) hx rfl (by decide +kernel) (by kernel_rfl) ?_ | refine w_loadM M _ _ _ rfl (by first | exact at0 | exact at1 | exact at2) hx rfl (by decide +kernel) 4 (by decide +kernel) (by first | assumption | omega | (simp; omega)) ?_); clear hx)) | ((with_reducible refine tStore ?_); go_must (refine stB ?_; clear M; intro w1 M; (try simp only [setC] at M))) | ((with_reducible refine tBox _ ?_); (refine bxA M ?_; clear M; intro g w1 M))) <;> (try conv => arg 5; simp only [Act.put, List.setIfInBounds_toArray, setC]))
                  obtain ⟨t4, e4⟩ : ∃ t, t = d := ⟨_, rfl⟩
                  have ht4 : t4.length = 4 := by rw [e4]; exact hd
                  rw [← e4] at M E4
                  clear e4
                  go_loopw [77] (fun kv wr => ∃ k : Nat, k ≤ 4 ∧ kv = .int .i64 k ∧ Mem [] w wr [.row gt (bs t4), .row g (bs (iterN (addT t4 (n + 8)) k W ++ s)), .row gk (bs key)]) (fun kv _ => 4 - (intOf kv).toNat)
                  case atStart => exact ⟨0, by omega, rfl, M⟩
                  case round =>
                    clear M
                    obtain ⟨k, hk4, rfl, M⟩ := hrel
                    obtain ⟨V, eV⟩ : ∃ V, V = iterN (addT t4 (n + 8)) k W := ⟨_, rfl⟩
                    have hV : V.length = 240 := by rw [eV, iterN_len _ (addT_len _ _)]; exact hW
                    have hVs : (V ++ s).length = 496 := by rw [List.length_append, hV, hs]
                    rw [← eV] at M
                    have EV := Lib.hid eV
                    clear eV
                    by_cases hlt4 : k < 4
                    · go_wp2_with ((first | ((with_reducible show Code.wp _ (Code.region 26 _ _) _ _ _); go_must (refine region_det [(0, false), (1, false), (2, false), (3, false), (4, false), (5, false), (6, false), (7, false), (8, false), (9, false), (10, false), (12, false), (13, false), (16, false), (17, false), (18, false), (11, false), (14, false), (15, false), (19, false), (20, true)] [(84, .int), (83, .ptr), (80, .ptr), (91, .int), (94, .int)] (by kernel_rfl) (by kernel_rfl) rfl (by kernel_rfl) ?_; replace M := M.drew; simp only [reord, opAt, List.map_cons, List.map_nil, List.getElem?_toArray, List.getElem?_cons_zero, List.getElem?_cons_succ, Option.getD_some])) | ((with_reducible show Seg _ _ _ _); go_must (first | refine Seg.intro ⟨fun h => absurd rfl h, ?_⟩ | refine Seg.intro ⟨fun _ => ixA, ?_⟩ | refine Seg.intro ⟨ndA, atA, ?_⟩)) | ((with_reducible show OnlyN _ _ _ _ _); refine OnlyN.intro (by kernel_rfl) ?_) | ((with_reducible refine tGuard ?_); first | refine gdS ?_ | (refine gdC ?_ ?_ <;> (intro hgd; rw [hgd]; try (exfalso; simp at hgd; omega)))) | ((with_reducible refine tConv _ 70 9 ?_); go_must (refine cvB ?_)) | ((with_reducible refine tLoad ?_); go_must (refine ldB ?_)) | ((with_reducible refine tStore ?_); go_must (refine stB ?_; clear M; intro w1 M; (try simp only [setC] at M))) | ((with_reducible refine tBox _ ?_); (refine bxA M ?_; clear M; intro g w1 M))) <;> (try conv => arg 5; simp only [Act.put, List.setIfInBounds_toArray, setC]))
                      have q1 : addT t4 (n + 8) k V = V.set ((n + 8) * 4 + k) (nth V (4 * n + k) ^^^ nth t4 k) := by unfold addT; rw [Nat.mul_comm 4 (n + 8), Nat.add_sub_cancel]
                      have q2 : (V ++ s)[n * 4 + k]?.getD 0 = nth V (4 * n + k) := by rw [nth_at', nth_in _ _ _ (by omega), Nat.mul_comm]
                      rw [q2, nth_at t4 k (by omega), set_in V s _ _ (by omega), ← q1] at M
                      go_roundw
                      case rel => exact ⟨k + 1, by omega, by go_num, by rw [iterN_succ, ← EV.out]; exact M⟩
                      case measure => simp [intOf]; omega
                    · obtain rfl : k = 4 := by omega
                      go_wp2_with ((first | ((with_reducible refine tGuard ?_); first | refine gdS ?_ | (refine gdC ?_ ?_ <;> (intro hgd; rw [hgd]; try (exfalso; simp at hgd; omega)))) | ((with_reducible refine tConv _ 70 9 ?_); go_must (refine cvB ?_)) | ((with_reducible refine tLoad ?_); go_must (refine ldB ?_)) | ((with_reducible refine tStore ?_); go_must (refine stB ?_; clear M; intro w1 M; (try simp only [setC] at M))) | ((with_reducible refine tBox _ ?_); (refine bxA M ?_; clear M; intro g w1 M))) <;> (try conv => arg 5; simp only [Act.put, List.setIfInBounds_toArray, setC]))
                      go_roundw
                      case rel => exact ⟨n + 1, by omega, by rw [EX.out]; show _ = Value.int .u8 (I8 (powI pw (n + 8))); rw [EP.out], by go_num, by
                        rw [EX.out]; show Mem [] w _ [.row g (bs (iterN (addT (word4 s W pw (n + 8)) (n + 8)) 4 W ++ s)), .row gk (bs key)]
                        rw [E4.out, ← EV.out]; exact M.tail⟩
                      case measure => simp [intOf]; omega
          · rw [if_neg h4] at E3
            have h8 : ¬ n % 8 = 0 := by omega
            rw [if_neg h8] at E2 E4 EP
            rw [E2] at E3
            rw [E3] at E4
            have h4' : ¬ ((n : Int) + 8) % 4 = 0 := by omega
            have h8' : ¬ ((n : Int) + 8) % 8 = 0 := by omega
            obtain ⟨t4, e4⟩ : ∃ t, t = t1 := ⟨_, rfl⟩
            have ht4 : t4.length = 4 := by rw [e4]; exact hl1
            rw [← e4] at E4
            replace E4 := Lib.hid E4
            replace EP := Lib.hid EP
            clear E2 E3 q
            go_wp2_with ((first | ((with_reducible refine tAlloc (some 7) 258 ?_); refine w_alloc M _ rfl rfl (.agg (Array.replicate 4 (.int .u8 0))) (bs (List.replicate 4 (0 : UInt8))) (by kernel_rfl) rfl ?_; clear M; intro gt w1 M) | (go_at_call 177; go_must (refine (twice_c _ _).mono ?_; rintro e w1 ⟨rfl, rfl⟩)) | ((with_reducible refine tGuard ?_); first | refine gdS ?_ | (refine gdC ?_ ?_ <;> (intro hgd; rw [hgd]; try (exfalso; simp at hgd; omega)))) | ((with_reducible refine tConv _ 70 9 ?_); go_must (refine cvB ?_)) | ((with_reducible refine tLoad ?_); go_must (refine w_at _ _ rfl (by exact ev_tmp rfl) ?_; intro hx; (first | refine w_load M _ _ _ rfl (by first | exact at0 | exact at1 | exact at2) hx rfl (by decide +kernel) (by exact rfl) ?_ | refine w_loadB M _ _ _ rfl (by first | exact at0 | exact at1 | exact at2) hx rfl (by decide +kernel) (by first | assumption | omega | (simp; omega)) ?_ | refine w_loadH M _ _ _ rfl (by first | exact at0 | exact at1 | exact at2) hx rfl (by decide +kernel) (by first | assumption | exact lenI | exact lenS ‹_› | rfl) (by decide +kernel) ?_ | refine w_loadR M _ _ _ rfl (by first | exact at0 | exact at1 | exact at2) hx rfl (by decide +kernel) (by kernel_rfl) ?_ | refine w_loadM M _ _ _ rfl (by first | exact at0 | exact at1 | exact at2) hx rfl (by decide +kernel) 4 (by decide +kernel) (by first | assumption | omega | (simp; omega)) ?_); clear hx)) | ((with_reducible refine tStore ?_); go_must (refine stB ?_; clear M; intro w1 M; (try simp only [setC] at M))) | ((with_reducible refine tBox _ ?_); (refine bxA M ?_; clear M; intro g w1 M))) <;> (try conv => arg 5; simp only [Act.put, List.setIfInBounds_toArray, setC]))
            rw [ht, ← e4] at M
            clear e4 ht hlX hlY
            go_loopw [77] (fun kv wr => ∃ k : Nat, k ≤ 4 ∧ kv = .int .i64 k ∧ Mem [] w wr [.row gt (bs t4), .row g (bs (iterN (addT t4 (n + 8)) k W ++ s)), .row gk (bs key)]) (fun kv _ => 4 - (intOf kv).toNat)
            case atStart => exact ⟨0, by omega, rfl, M⟩
            case round =>
              clear M
              obtain ⟨k, hk4, rfl, M⟩ := hrel
              obtain ⟨V, eV⟩ : ∃ V, V = iterN (addT t4 (n + 8)) k W := ⟨_, rfl⟩
              have hV : V.length = 240 := by rw [eV, iterN_len _ (addT_len _ _)]; exact hW
              have hVs : (V ++ s).length = 496 := by rw [List.length_append, hV, hs]
              rw [← eV] at M
              have EV := Lib.hid eV
              clear eV
              by_cases hlt4 : k < 4
              · go_wp2_with ((first | ((with_reducible show Code.wp _ (Code.region 26 _ _) _ _ _); go_must (refine region_det [(0, false), (1, false), (2, false), (3, false), (4, false), (5, false), (6, false), (7, false), (8, false), (9, false), (10, false), (12, false), (13, false), (16, false), (17, false), (18, false), (11, false), (14, false), (15, false), (19, false), (20, true)] [(84, .int), (83, .ptr), (80, .ptr), (91, .int), (94, .int)] (by kernel_rfl) (by kernel_rfl) rfl (by kernel_rfl) ?_; replace M := M.drew; simp only [reord, opAt, List.map_cons, List.map_nil, List.getElem?_toArray, List.getElem?_cons_zero, List.getElem?_cons_succ, Option.getD_some])) | ((with_reducible show Seg _ _ _ _); go_must (first | refine Seg.intro ⟨fun h => absurd rfl h, ?_⟩ | refine Seg.intro ⟨fun _ => ixA, ?_⟩ | refine Seg.intro ⟨ndA, atA, ?_⟩)) | ((with_reducible show OnlyN _ _ _ _ _); refine OnlyN.intro (by kernel_rfl) ?_) | ((with_reducible refine tGuard ?_); first | refine gdS ?_ | (refine gdC ?_ ?_ <;> (intro hgd; rw [hgd]; try (exfalso; simp at hgd; omega)))) | ((with_reducible refine tConv _ 70 9 ?_); go_must (refine cvB ?_)) | ((with_reducible refine tLoad ?_); go_must (refine ldB ?_)) | ((with_reducible refine tStore ?_); go_must (refine stB ?_; clear M; intro w1 M; (try simp only [setC] at M))) | ((with_reducible refine tBox _ ?_); (refine bxA M ?_; clear M; intro g w1 M))) <;> (try conv => arg 5; simp only [Act.put, List.setIfInBounds_toArray, setC]))
                have q1 : addT t4 (n + 8) k V = V.set ((n + 8) * 4 + k) (nth V (4 * n + k) ^^^ nth t4 k) := by unfold addT; rw [Nat.mul_comm 4 (n + 8), Nat.add_sub_cancel]
                have q2 : (V ++ s)[n * 4 + k]?.getD 0 = nth V (4 * n + k) := by rw [nth_at', nth_in _ _ _ (by omega), Nat.mul_comm]
                rw [q2, nth_at t4 k (by omega), set_in V s _ _ (by omega), ← q1] at M
                go_roundw
                case rel => exact ⟨k + 1, by omega, by go_num, by rw [iterN_succ, ← EV.out]; exact M⟩
                case measure => simp [intOf]; omega
              · obtain rfl : k = 4 := by omega
                go_wp2_with ((first | ((with_reducible refine tGuard ?_); first | refine gdS ?_ | (refine gdC ?_ ?_ <;> (intro hgd; rw [hgd]; try (exfalso; simp at hgd; omega)))) | ((with_reducible refine tConv _ 70 9 ?_); go_must (refine cvB ?_)) | ((with_reducible refine tLoad ?_); go_must (refine ldB ?_)) | ((with_reducible refine tStore ?_); go_must (refine stB ?_; clear M; intro w1 M; (try simp only [setC] at M))) | ((with_reducible refine tBox _ ?_); (refine bxA M ?_; clear M; intro g w1 M))) <;> (try conv => arg 5; simp only [Act.put, List.setIfInBounds_toArray, setC]))
                go_roundw
                case rel => exact ⟨n + 1, by omega, by rw [EX.out]; show _ = Value.int .u8 (I8 (powI pw (n + 8))); rw [EP.out], by go_num, by
                  rw [EX.out]; show Mem [] w _ [.row g (bs (iterN (addT (word4 s W pw (n + 8)) (n + 8)) 4 W ++ s)), .row gk (bs key)]
                  rw [E4.out, ← EV.out]; exact M.tail⟩
                case measure => simp [intOf]; omega
        · obtain rfl : n = 52 := by omega
          have e : schL s key = W := by unfold schL; rw [← EX0.out]
          go_wp2_with ((first | ((with_reducible refine tGuard ?_); first | refine gdS ?_ | (refine gdC ?_ ?_ <;> (intro hgd; rw [hgd]; try (exfalso; simp at hgd; omega)))) | ((with_reducible refine tConv _ 70 9 ?_); go_must (refine cvB ?_)) | ((with_reducible refine tLoad ?_); go_must (refine ldB ?_)) | ((with_reducible refine tStore ?_); go_must (refine stB ?_; clear M; intro w1 M; (try simp only [setC] at M))) | ((with_reducible refine tBox _ ?_); (refine bxA M ?_; clear M; intro g w1 M))) <;> (try conv => arg 5; simp only [Act.put, List.setIfInBounds_toArray, setC]))
          go_ret
          exact ⟨g, rfl, by rw [e]; exact M.take1⟩
end Go.Proofs.YtidadhbaomieiaaGreat

/- The walk of what enciphers one block. Conditions: lengths. -/
namespace Go.Proofs.YtidadhbaomieiaaGreat
open Go.RowKit Go.TL
set_option maxRecDepth 100000 in
set_option maxHeartbeats 4000000 in
theorem block_c (gc : Nat) (s W b : List UInt8) (w : World) (R : (Chunk.row gc (bs (W ++ s))).ok w) (hW : W.length = 240) (hs : s.length = 256) (hb : b.length = 16) :
    Calls Tryz.prog 150 #[.pointer (some ⟨gc, 0, none⟩), .agg (bs b).toArray] w fun e w' => e = .returned (.agg (bs (blockL s W b)).toArray) ∧ Below w.heap.size w w' := by
  have M := Mem.start [] w
  have hWs : (W ++ s).length = 496 := by rw [List.length_append, hW, hs]
  have hz : (List.replicate 16 (0 : UInt8)).length = 16 := List.length_replicate
  have ha0 : (addL W b 0).length = 16 := by rw [addL_len]; exact hb
  have A0 := fun (w : World) (RR : (Chunk.row gc (bs (W ++ s))).ok w) => add_c gc s W b 0 0 rfl w RR hW hs hb (by omega)
  have BL : blockL s W b = iterN (roundL s W) 14 (addL W b 0) := rfl
  have IV : ∀ n, (iterN (roundL s W) n (addL W b 0)).length = 16 := fun n => iterN_inv _ (fun l => l.length = 16) (fun n x _ => roundL_len s W n x) n _ ha0
  obtain ⟨a0, e0⟩ : ∃ a, a = addL W b 0 := ⟨_, rfl⟩
  rw [← e0] at ha0 A0 BL IV
  obtain ⟨bl, ebl⟩ : ∃ x, x = blockL s W b := ⟨_, rfl⟩
  rw [← ebl] at BL
  rw [← ebl]
  replace A0 := Lib.hid A0
  replace BL := Lib.hid BL
  replace IV := Lib.hid IV
  clear e0 ebl
  go_enter Tryz.func150, Tryz.ntmps150
  go_wp2_with ((first | ((with_reducible refine tBox (some 3) ?_); refine w_box M _ _ rfl rfl _ rfl (bs b) rfl ?_; clear M; intro gb w1 M) | ((with_reducible refine tAlloc (some 4) 234 ?_); refine w_alloc M _ rfl rfl (.agg (Array.replicate 16 (.int .u8 0))) (bs (List.replicate 16 (0 : UInt8))) (by kernel_rfl) rfl ?_; clear M; intro go w1 M) | (go_at_call 178; go_must (refine (A0.out _ (M.stays R)).mono ?_; rintro e w1 ⟨rfl, hb⟩; replace M := M.call hb; clear hb)) | ((with_reducible refine tGuard ?_); first | refine gdS ?_ | (refine gdC ?_ ?_ <;> (intro hgd; rw [hgd]; try (exfalso; simp at hgd; omega)))) | ((with_reducible refine tConv _ 70 9 ?_); go_must (refine cvB ?_)) | ((with_reducible refine tLoad ?_); go_must (refine ldB ?_)) | ((with_reducible refine tStore ?_); go_must (refine stB ?_; clear M; intro w1 M; (try simp only [setC] at M))) | ((with_reducible refine tBox _ ?_); (refine bxA M ?_; clear M; intro g w1 M))) <;> (try conv => arg 5; simp only [Act.put, List.setIfInBounds_toArray, setC]))
  go_loopw [5] (fun kv wr => ∃ n : Nat, n ≤ 14 ∧ kv = .int .i64 ((n : Int) + 1) ∧ Mem [] w wr [.row go (bs (List.replicate 16 0)), .row gb (bs (iterN (roundL s W) n a0))]) (fun kv _ => 15 - (intOf kv).toNat)
  case atStart => exact ⟨0, by omega, rfl, M⟩
  case round =>
    clear M
    obtain ⟨n, hn, rfl, M⟩ := hrel
    have hd := IV.out n
    obtain ⟨d, ed⟩ : ∃ d, d = iterN (roundL s W) n a0 := ⟨_, rfl⟩
    rw [← ed] at M hd
    have ED := Lib.hid ed
    clear ed
    by_cases hlt : n < 14
    · go_wp2_with ((first | ((with_reducible refine tAlloc (some 6) 234 ?_); refine w_alloc M _ rfl rfl (.agg (Array.replicate 16 (.int .u8 0))) (bs (List.replicate 16 (0 : UInt8))) (by kernel_rfl) rfl ?_; clear M; intro gt w1 M) | ((with_reducible refine tGuard ?_); first | refine gdS ?_ | (refine gdC ?_ ?_ <;> (intro hgd; rw [hgd]; try (exfalso; simp at hgd; omega)))) | ((with_reducible refine tConv _ 70 9 ?_); go_must (refine cvB ?_)) | ((with_reducible refine tLoad ?_); go_must (refine ldB ?_)) | ((with_reducible refine tStore ?_); go_must (refine stB ?_; clear M; intro w1 M; (try simp only [setC] at M))) | ((with_reducible refine tBox _ ?_); (refine bxA M ?_; clear M; intro g w1 M))) <;> (try conv => arg 5; simp only [Act.put, List.setIfInBounds_toArray, setC]))
      go_loopw [15] (fun kv wr => ∃ k : Nat, k ≤ 16 ∧ kv = .int .i64 k ∧ Mem [] w wr [.row gt (bs (iterN (subB s d) k (List.replicate 16 0))), .row go (bs (List.replicate 16 0)), .row gb (bs d)]) (fun kv _ => 16 - (intOf kv).toNat)
      case atStart => exact ⟨0, by omega, rfl, M⟩
      case round =>
        clear M
        obtain ⟨k, hk16, rfl, M⟩ := hrel
        have ht : (iterN (subB s d) k (List.replicate 16 0)).length = 16 := by rw [iterN_len _ (fun n s => by unfold subB; rw [List.length_set])]; exact List.length_replicate
        obtain ⟨t, et⟩ : ∃ t, t = iterN (subB s d) k (List.replicate 16 0) := ⟨_, rfl⟩
        rw [← et] at M ht
        have ET := Lib.hid et
        clear et
        by_cases hlt16 : k < 16
        · have hj : (k + 4 * (k % 4)) % 16 < d.length := by omega
          obtain ⟨q, eq⟩ : ∃ q, q = nth d ((k + 4 * (k % 4)) % 16) := ⟨_, rfl⟩
          have hq0 := (I8_bd q).1
          have hq1 := (I8_bd q).2
          have hq2 := I8_toNat q
          have hq3 := q.toNat_lt
          have hq4 : q.toNat < 256 := hq3
          have hd1 : d.getD ((k + 4 * (k % 4)) % 16) 0 = q := eq.symm
          have hd2 : d[(k + 4 * (k % 4)) % 16]?.getD 0 = q := by rw [nth_at', eq]
          have hd3 : d[(k + 4 * (k % 4)) % 16] = q := by rw [nth_at, eq]
          have EQ := Lib.hid eq
          clear eq hq3
          go_wp2_with ((first | ((with_reducible show Code.wp _ (Code.region 9 _ _) _ _ _); go_must (refine region_det [(0, false), (1, false), (2, false), (3, false), (4, false), (5, false), (6, false), (7, false), (8, false), (10, false), (11, false), (9, false), (12, false), (13, false), (14, false), (15, true)] [(21, .int), (22, .int), (20, .int), (23, .int), (24, .int), (19, .ptr)] (by kernel_rfl) (by kernel_rfl) rfl (by kernel_rfl) ?_; replace M := M.drew; simp only [reord, opAt, List.map_cons, List.map_nil, List.getElem?_toArray, List.getElem?_cons_zero, List.getElem?_cons_succ, Option.getD_some])) | ((with_reducible refine tLoad ?_); refine w_at _ _ rfl (by exact ev_tmp rfl) ?_; intro hx; (first | refine w_rowB M R _ _ rfl hx rfl (by decide +kernel) (by first | assumption | omega | (simp; omega)) ?_); clear hx) | ((with_reducible show Seg _ _ _ _); go_must (first | refine Seg.intro ⟨fun h => absurd rfl h, ?_⟩ | refine Seg.intro ⟨fun _ => ixA, ?_⟩ | refine Seg.intro ⟨ndA, atA, ?_⟩)) | ((with_reducible show OnlyN _ _ _ _ _); refine OnlyN.intro (by kernel_rfl) ?_) | ((with_reducible refine tGuard ?_); first | refine gdS ?_ | (refine gdC ?_ ?_ <;> (intro hgd; rw [hgd]; try (exfalso; simp at hgd; omega)))) | ((with_reducible refine tConv _ 70 9 ?_); go_must (refine cvB ?_)) | ((with_reducible refine tLoad ?_); go_must (refine ldB ?_)) | ((with_reducible refine tStore ?_); go_must (refine stB ?_; clear M; intro w1 M; (try simp only [setC] at M))) | ((with_reducible refine tBox _ ?_); (refine bxA M ?_; clear M; intro g w1 M))) <;> (try conv => arg 5; simp only [Act.put, List.setIfInBounds_toArray, setC]))
          rw [show (W ++ s).getD (240 + q.toNat) 0 = nth s q.toNat from nth_out W s 240 _ hW] at M
          go_roundw
          case rel => exact ⟨k + 1, by omega, by go_num, by rw [iterN_succ, ← ET.out]; unfold subB; rw [← EQ.out]; exact M⟩
          case measure => simp [intOf]; omega
        · obtain rfl : k = 16 := by omega
          have e : t = subL s d := ET.out
          have hsl := subL_len s d
          rw [e] at M
          obtain ⟨t', e'⟩ : ∃ t, t = subL s d := ⟨_, rfl⟩
          rw [← e'] at M hsl
          have ER : roundL s W n d = addL W (if n + 1 < 14 then mixL t' else t') (n + 1) := by rw [e']; rfl
          clear e e' ht ET
          have MX := fun w => mix_c t' w hsl
          have AD := fun (m : List UInt8) (hm : m.length = 16) (w : World) (RR : (Chunk.row gc (bs (W ++ s))).ok w) => add_c gc s W m (n + 1) ((n : Int) + 1) (by omega) w RR hW hs hm (by omega)
          by_cases h14 : n + 1 < 14
          · rw [if_pos h14] at ER
            have hml := mixL_len t'
            obtain ⟨m, em⟩ : ∃ m, m = mixL t' := ⟨_, rfl⟩
            rw [← em] at ER MX hml
            replace AD := AD m hml
            have hal : (addL W m (n + 1)).length = 16 := by rw [addL_len]; exact hml
            obtain ⟨a, ea⟩ : ∃ a, a = addL W m (n + 1) := ⟨_, rfl⟩
            rw [← ea] at ER AD hal
            replace ER := Lib.hid fun _ : Unit => ER
            replace MX := Lib.hid MX
            replace AD := Lib.hid AD
            clear ea em
            go_wp2_with ((first | (go_at_call 178; go_must (refine (AD.out _ (M.stays R)).mono ?_; rintro e w1 ⟨rfl, hb⟩; replace M := M.call hb; clear hb)) | (go_at_call 179; go_must (refine (MX.out _).mono ?_; rintro e w1 ⟨rfl, hb⟩; replace M := M.call hb; clear hb)) | ((with_reducible refine tGuard ?_); first | refine gdS ?_ | (refine gdC ?_ ?_ <;> (intro hgd; rw [hgd]; try (exfalso; simp at hgd; omega)))) | ((with_reducible refine tConv _ 70 9 ?_); go_must (refine cvB ?_)) | ((with_reducible refine tLoad ?_); go_must (refine ldB ?_)) | ((with_reducible refine tStore ?_); go_must (refine stB ?_; clear M; intro w1 M; (try simp only [setC] at M))) | ((with_reducible refine tBox _ ?_); (refine bxA M ?_; clear M; intro g w1 M))) <;> (try conv => arg 5; simp only [Act.put, List.setIfInBounds_toArray, setC]))
            go_roundw
            case rel => exact ⟨n + 1, by omega, by go_num, by rw [iterN_succ, ← ED.out, ER.out ()]; exact M.tail⟩
            case measure => simp [intOf]; omega
          · rw [if_neg h14] at ER
            replace AD := AD t' hsl
            have hal : (addL W t' (n + 1)).length = 16 := by rw [addL_len]; exact hsl
            obtain ⟨a, ea⟩ : ∃ a, a = addL W t' (n + 1) := ⟨_, rfl⟩
            rw [← ea] at ER AD hal
            replace ER := Lib.hid fun _ : Unit => ER
            replace AD := Lib.hid AD
            clear ea MX
            go_wp2_with ((first | (go_at_call 178; go_must (refine (AD.out _ (M.stays R)).mono ?_; rintro e w1 ⟨rfl, hb⟩; replace M := M.call hb; clear hb)) | ((with_reducible refine tGuard ?_); first | refine gdS ?_ | (refine gdC ?_ ?_ <;> (intro hgd; rw [hgd]; try (exfalso; simp at hgd; omega)))) | ((with_reducible refine tConv _ 70 9 ?_); go_must (refine cvB ?_)) | ((with_reducible refine tLoad ?_); go_must (refine ldB ?_)) | ((with_reducible refine tStore ?_); go_must (refine stB ?_; clear M; intro w1 M; (try simp only [setC] at M))) | ((with_reducible refine tBox _ ?_); (refine bxA M ?_; clear M; intro g w1 M))) <;> (try conv => arg 5; simp only [Act.put, List.setIfInBounds_toArray, setC]))
            go_roundw
            case rel => exact ⟨n + 1, by omega, by go_num, by rw [iterN_succ, ← ED.out, ER.out ()]; exact M.tail⟩
            case measure => simp [intOf]; omega
    · obtain rfl : n = 14 := by omega
      have e : bl = d := BL.out.trans ED.out.symm
      go_wp2_with ((first | ((with_reducible refine tGuard ?_); first | refine gdS ?_ | (refine gdC ?_ ?_ <;> (intro hgd; rw [hgd]; try (exfalso; simp at hgd; omega)))) | ((with_reducible refine tConv _ 70 9 ?_); go_must (refine cvB ?_)) | ((with_reducible refine tLoad ?_); go_must (refine ldB ?_)) | ((with_reducible refine tStore ?_); go_must (refine stB ?_; clear M; intro w1 M; (try simp only [setC] at M))) | ((with_reducible refine tBox _ ?_); (refine bxA M ?_; clear M; intro g w1 M))) <;> (try conv => arg 5; simp only [Act.put, List.setIfInBounds_toArray, setC]))
      exact bodyPost_ret (results_row rfl _ _ go 0 (bs d) _ rfl (M.ok 0 _ rfl).2.1 Tryz.underlying234 rfl (by rw [bs_length, hd]; kernel_rfl)) rfl ⟨by rw [e], M.below⟩
end Go.Proofs.YtidadhbaomieiaaGreat

/- The walk of aes.Stream. Conditions: lengths. -/
namespace Go
namespace TL
theorem sees_of {w : World} {v : Value} {n : Nat} {l : List UInt8} (h : (Chunk.sl 1 v n (bs l)).ok w) (e : n = l.length) : SeesB w v l := by subst e; exact Own.sees h
theorem nonce_in (nonce : List UInt8) (h : nonce.length = 12) : (List.replicate 16 (0 : UInt8)).take 0 ++ ((((nonce.drop 0).take 12)).take 12 ++ (List.replicate 16 0).drop (0 + 12)) = nonce ++ List.replicate 4 0 := by
  have e : (nonce.take 12).take 12 = nonce := by rw [List.take_take, Nat.min_self, List.take_of_length_le (by omega)]
  rw [List.take_zero, List.nil_append, List.drop_zero, e]; rfl
theorem count_in (nonce big : List UInt8) (h : nonce.length = 12) (hb : big.length = 4) : (nonce ++ List.replicate 4 (0 : UInt8)).take 12 ++ (big.take 4 ++ (nonce ++ List.replicate 4 0).drop (12 + 4)) = nonce ++ big := by
  rw [List.take_left' h, List.take_of_length_le (by omega), List.drop_eq_nil_of_le (by simp; omega), List.append_nil]
end TL
end Go
namespace Go.Proofs.YtidadhbaomieiaaGreat
open Go.RowKit Go.TL
set_option maxRecDepth 100000 in
set_option maxHeartbeats 4000000 in
theorem Stream_c (key nonce text : List UInt8) (w : World) (hk : key.length = 32) (hn : nonce.length = 12) (ht : text.length ≤ 1000000) :
    Calls Tryz.prog 109 #[.agg (bs key).toArray, .agg (bs nonce).toArray, .string (mkS text)] w fun e w' => e = .returned (.string (mkS (streamL key nonce text))) ∧ Below w.heap.size w w' := by
  have M := Mem.start [] w
  have SC := fun w => schedule_c key w hk
  have hs := boxL_len
  have hW := schL_len boxL key hk
  have SL : streamL key nonce text = strN boxL (schL boxL key) nonce ((text.length + 15) / 16) text := rfl
  obtain ⟨W, eW⟩ : ∃ W, W = schL boxL key := ⟨_, rfl⟩
  rw [← eW] at SC hW SL
  obtain ⟨s, es⟩ : ∃ s, s = boxL := ⟨_, rfl⟩
  rw [← es] at SC hs SL
  obtain ⟨r, er⟩ : ∃ r, r = streamL key nonce text := ⟨_, rfl⟩
  rw [← er] at SL
  rw [← er]
  replace SL := Lib.hid fun _ : Unit => SL
  replace SC := Lib.hid SC
  clear eW es er
  obtain ⟨N, eN⟩ : ∃ N, N = text.length := ⟨_, rfl⟩
  have hWs : (W ++ s).length = 496 := by rw [List.length_append, hW, hs]
  have SN : ∀ n, (strN s W nonce n text).length = N := fun n => by rw [strN_len]; exact eN.symm
  replace SN := Lib.hid SN
  go_enter Tryz.func109, Tryz.ntmps109
  go_wp2_with ((first | ((with_reducible refine tBox (some 3) ?_); refine w_box M _ _ rfl rfl _ rfl (bs key) rfl ?_; clear M; intro gk w1 M) | ((with_reducible refine tBox (some 4) ?_); refine w_box M _ _ rfl rfl _ rfl (bs nonce) rfl ?_; clear M; intro gn w1 M) | (go_at_call 148; go_must (refine (SC.out _).mono ?_; rintro e w1 ⟨gc, rfl, MP⟩; replace M := M.join MP; clear MP; simp only [List.cons_append, List.nil_append] at M)) | ((with_reducible refine tConv (some 16) 9 70 ?_); go_must (refine w_bytes M _ _ _ _ rfl rfl rfl Tryz.underlying9 Tryz.underlying70 Tryz.underlying5 (by first | omega | (simp; omega)) ?_; clear M; intro gb capgb w1 hcapgb M)) | ((with_reducible refine tGuard ?_); first | refine gdS ?_ | (refine gdC ?_ ?_ <;> (intro hgd; rw [hgd]; try (exfalso; simp at hgd; omega)))) | ((with_reducible refine tConv _ 70 9 ?_); go_must (refine cvB ?_)) | ((with_reducible refine tLoad ?_); go_must (refine ldB ?_)) | ((with_reducible refine tStore ?_); go_must (refine stB ?_; clear M; intro w1 M; (try simp only [setC] at M))) | ((with_reducible refine tBox _ ?_); (refine bxA M ?_; clear M; intro g w1 M))) <;> (try conv => arg 5; simp only [Act.put, List.setIfInBounds_toArray, setC]))
  rw [← eN] at M
  rw [← eN]
  have hc2 : N ≤ capgb := by omega
  have hN : N ≤ 1000000 := by omega
  replace eN := Lib.hid fun _ : Unit => eN
  clear ht
  clear hcapgb
  go_loopw [9] (fun kv wr => ∃ n : Nat, 16 * n < N + 16 ∧ kv = .int .i64 (16 * (n : Int)) ∧ Mem [] w wr [.sl 1 (.slice (some ⟨gb, 0, none⟩) N capgb) N (bs (strN s W nonce n text)), .row gc (bs (W ++ s)), .row gn (bs nonce), .row gk (bs key)]) (fun kv _ => N + 16 - (intOf kv).toNat)
  case atStart => exact ⟨0, by omega, rfl, M⟩
  case round =>
    clear M
    obtain ⟨n, hn16, rfl, M⟩ := hrel
    have hd := SN.out n
    obtain ⟨d, ed⟩ : ∃ d, d = strN s W nonce n text := ⟨_, rfl⟩
    rw [← ed] at M hd
    have ED := Lib.hid fun _ : Unit => ed
    clear ed
    by_cases hlt : 16 * n < N
    · have hI : (16 * (n : Int)) < (N : Int) := by omega
      have SE : strB s W nonce n d = iterN (xorB (blockL s W (nonce ++ bigB (UInt64.ofNat n) 4)) (16 * n)) (min 16 (d.length - 16 * n)) d := rfl
      have hbig := bigB_length (UInt64.ofNat n) 4
      have CI := count_in nonce (bigB (UInt64.ofNat n) 4) hn hbig
      have AP := fun (w : World) hok => aesPutc (.slice none 0 0) [] (UInt64.ofNat n) 4 w hok (by omega) (by simp)
      rw [List.nil_append] at AP
      obtain ⟨big, ebig⟩ : ∃ b, b = bigB (UInt64.ofNat n) 4 := ⟨_, rfl⟩
      rw [← ebig] at SE hbig CI AP
      rw [hbig] at AP
      clear ebig
      have BC := fun (w : World) RR => block_c gc s W (nonce ++ big) w RR hW hs (by rw [List.length_append, hn, hbig])
      have hol := blockL_len s W (nonce ++ big) (by rw [List.length_append, hn, hbig])
      obtain ⟨o, eo⟩ : ∃ o, o = blockL s W (nonce ++ big) := ⟨_, rfl⟩
      rw [← eo] at SE BC hol
      clear eo
      have NI := nonce_in nonce hn
      have hin1 : (nonce ++ List.replicate 4 (0 : UInt8)).length = 16 := by simp [hn]
      have hin2 : (nonce ++ big).length = 16 := by rw [List.length_append, hn, hbig]
      replace SE := Lib.hid fun _ : Unit => SE
      replace CI := Lib.hid fun _ : Unit => CI
      replace NI := Lib.hid fun _ : Unit => NI
      replace AP := Lib.hid AP
      replace BC := Lib.hid BC
      have hz : (List.replicate 16 (0 : UInt8)).length = 16 := List.length_replicate
      have hq : (16 * (n : Int)) / 16 = n := by omega
      go_wp2_with ((first | ((with_reducible refine tAlloc (some 10) 234 ?_); refine w_alloc M _ rfl rfl (.agg (Array.replicate 16 (.int .u8 0))) (bs (List.replicate 16 (0 : UInt8))) (by kernel_rfl) rfl ?_; clear M; intro gi w1 M) | ((with_reducible show Code.wp _ (Code.region 7 _ _) _ _ _); go_must (refine region_det [(0, false), (1, false), (2, true)] [] (by kernel_rfl) (by kernel_rfl) rfl (by kernel_rfl) ?_; replace M := M.drew; simp only [reord, opAt, List.map_cons, List.map_nil, List.getElem?_toArray, List.getElem?_cons_zero, List.getElem?_cons_succ, Option.getD_some])) | ((with_reducible show Code.wp _ (Code.region 8 _ _) _ _ _); go_must (refine region_det [(0, false), (1, false), (2, false), (3, false), (4, true), (5, true)] [(27, .int), (28, .int)] (by kernel_rfl) (by kernel_rfl) rfl (by kernel_rfl) ?_; replace M := M.drew; simp only [reord, opAt, List.map_cons, List.map_nil, List.getElem?_toArray, List.getElem?_cons_zero, List.getElem?_cons_succ, Option.getD_some])) | ((with_reducible show wpList _ _ _ (Oper.mk _ (Op.call ⟨Callee.builtin Builtin.copy, _, _⟩) _ _ _ _ :: _) _ _); go_must (first | (refine w_copyB M 0 bytesT _ _ _ rfl rfl rfl rfl rfl (row_sees (M.ok 3 _ rfl) (by omega) (Nat.le_refl _) (by simp only [maxLen]; omega)) 12 (by simp; omega) (by omega) ?_; clear M; intro w1 M; simp only [List.set_cons_zero] at M; rw [NI.out ()] at M) | (refine w_copyB M 1 bytesT _ _ _ rfl rfl rfl rfl rfl (sees_of (M.ok 0 _ rfl) hbig.symm) 4 (by omega) (by omega) ?_; clear M; intro w1 M; simp only [List.set_cons_succ, List.set_cons_zero] at M; rw [CI.out ()] at M; replace M := M.tail))) | (go_at_call 149; go_must (replace M := M.nil 1; refine (AP.out _ (M.ok 0 _ rfl)).mono ?_; rintro e w1 ⟨p, c, rfl, U⟩; replace M := M.upd 0 rfl U; clear U; simp only [List.set_cons_zero] at M)) | (go_at_call 150; go_must (refine (BC.out _ (M.ok 2 _ rfl)).mono ?_; rintro e w1 ⟨rfl, hb⟩; replace M := M.call hb; clear hb)) | ((with_reducible refine tAlloc (some 11) 234 ?_); refine w_alloc M _ rfl rfl (.agg (Array.replicate 16 (.int .u8 0))) (bs (List.replicate 16 (0 : UInt8))) (by kernel_rfl) rfl ?_; clear M; intro go w1 M) | ((with_reducible show Seg _ _ _ _); go_must (first | refine Seg.intro ⟨fun h => absurd rfl h, ?_⟩ | refine Seg.intro ⟨fun _ => ixA, ?_⟩ | refine Seg.intro ⟨ndA, atA, ?_⟩)) | ((with_reducible show OnlyN _ _ _ _ _); refine OnlyN.intro (by kernel_rfl) ?_) | ((with_reducible refine tGuard ?_); first | refine gdS ?_ | (refine gdC ?_ ?_ <;> (intro hgd; rw [hgd]; try (exfalso; simp at hgd; omega)))) | ((with_reducible refine tConv _ 70 9 ?_); go_must (refine cvB ?_)) | ((with_reducible refine tLoad ?_); go_must (refine ldB ?_)) | ((with_reducible refine tStore ?_); go_must (refine stB ?_; clear M; intro w1 M; (try simp only [setC] at M))) | ((with_reducible refine tBox _ ?_); (refine bxA M ?_; clear M; intro g w1 M))) <;> (try conv => arg 5; simp only [Act.put, List.setIfInBounds_toArray, setC]))
      all_goals
        obtain ⟨c', hc1, hc3, hc4, hc5, hc7⟩ : ∃ c' : Nat, c' = min 16 (N - 16 * n) ∧ 16 * n + c' ≤ N ∧ c' ≤ 16 ∧ (16 * (n : Int) + 16 ≤ N → c' = 16) ∧ (N ≤ 16 * n + c' ∨ c' = 16) := ⟨_, rfl, by omega, by omega, by omega, by omega⟩
        replace SE := SE.out ()
        rw [hd, ← hc1] at SE
        replace SE := Lib.hid fun _ : Unit => SE
        clear hc1
        go_loopw [40] (fun kv wr => ∃ k : Nat, k ≤ c' ∧ kv = .int .i64 k ∧ Mem [] w wr [.row go (bs o), .row gi (bs (nonce ++ big)), .sl 1 (.slice (some ⟨gb, 0, none⟩) N capgb) N (bs (iterN (xorB o (16 * n)) k d)), .row gc (bs (W ++ s)), .row gn (bs nonce), .row gk (bs key)]) (fun kv _ => c' - (intOf kv).toNat)
        case atStart => exact ⟨0, by omega, rfl, M⟩
        case round =>
          clear M
          obtain ⟨k, hkc, rfl, M⟩ := hrel
          have hx := iterN_len _ (xorB_len o (16 * n)) k d
          obtain ⟨x, ex⟩ : ∃ x, x = iterN (xorB o (16 * n)) k d := ⟨_, rfl⟩
          rw [← ex] at M hx
          rw [hd] at hx
          have EX := Lib.hid fun _ : Unit => ex
          clear ex
          by_cases hltk : k < c'
          · have hb1 : (k : Int) < 16 := by omega
            have hb2 : (k : Int) < N - 16 * n := by omega
            go_wp2_with ((first | ((with_reducible show Code.wp _ (Code.region 13 _ _) _ _ _); go_must (refine region_det [(0, false), (1, false), (2, false), (3, false), (4, false), (6, false), (7, false), (5, false), (8, false), (9, false), (10, false), (11, true)] [(44, .int), (45, .int), (48, .int), (51, .int)] (by kernel_rfl) (by kernel_rfl) rfl (by kernel_rfl) ?_; replace M := M.drew; simp only [reord, opAt, List.map_cons, List.map_nil, List.getElem?_toArray, List.getElem?_cons_zero, List.getElem?_cons_succ, Option.getD_some])) | ((with_reducible show wpList _ _ _ (Oper.mk _ (Op.load _ _) _ _ _ _ :: _) _ _); refine w_at _ _ rfl (by first | exact ev_tmp rfl | exact ev_const) ?_; intro hx; refine w_slB M 2 _ _ rfl rfl hx rfl (by decide +kernel) (16 * n + k) (by first | rfl | omega) (by omega) ?_; clear hx) | ((with_reducible show wpList _ _ _ (Oper.mk _ (Op.store _ _ _) _ _ _ _ :: _) _ _); refine w_at2 _ _ _ rfl (by first | exact ev_tmp rfl | exact ev_const) (by first | exact ev_tmp rfl | exact ev_const) ?_; intro hx hy; refine w_slSetB M 2 _ _ _ rfl rfl hx rfl hy (by decide +kernel) (16 * n + k) (by first | rfl | omega) (by omega) ?_; clear hx hy M; intro w1 M; simp only [List.set_cons_succ, List.set_cons_zero] at M) | ((with_reducible show Seg _ _ _ _); go_must (first | refine Seg.intro ⟨fun h => absurd rfl h, ?_⟩ | refine Seg.intro ⟨fun _ => ixA, ?_⟩ | refine Seg.intro ⟨ndA, atA, ?_⟩)) | ((with_reducible show OnlyN _ _ _ _ _); refine OnlyN.intro (by kernel_rfl) ?_) | ((with_reducible refine tGuard ?_); first | refine gdS ?_ | (refine gdC ?_ ?_ <;> (intro hgd; rw [hgd]; try (exfalso; simp at hgd; omega)))) | ((with_reducible refine tConv _ 70 9 ?_); go_must (refine cvB ?_)) | ((with_reducible refine tLoad ?_); go_must (refine ldB ?_)) | ((with_reducible refine tStore ?_); go_must (refine stB ?_; clear M; intro w1 M; (try simp only [setC] at M))) | ((with_reducible refine tBox _ ?_); (refine bxA M ?_; clear M; intro g w1 M))) <;> (try conv => arg 5; simp only [Act.put, List.setIfInBounds_toArray, setC]))
            rw [nth_at' x, nth_at' o] at M
            go_roundw
            case rel => exact ⟨k + 1, by omega, by go_num, by rw [iterN_succ, ← EX.out ()]; exact M⟩
            case measure => simp [intOf]; omega
          · obtain rfl : k = c' := by omega
            have eB : x = strB s W nonce n d := (EX.out ()).trans (SE.out ()).symm
            have eN1 : strN s W nonce (n + 1) text = x := by rw [eB, ED.out ()]; rfl
            replace eN1 := Lib.hid fun _ : Unit => eN1
            clear eB EX SE
            go_wp2_with ((first | ((with_reducible refine tGuard ?_); first | refine gdS ?_ | (refine gdC ?_ ?_ <;> (intro hgd; rw [hgd]; try (exfalso; simp at hgd; omega)))) | ((with_reducible refine tConv _ 70 9 ?_); go_must (refine cvB ?_)) | ((with_reducible refine tLoad ?_); go_must (refine ldB ?_)) | ((with_reducible refine tStore ?_); go_must (refine stB ?_; clear M; intro w1 M; (try simp only [setC] at M))) | ((with_reducible refine tBox _ ?_); (refine bxA M ?_; clear M; intro g w1 M))) <;> (try conv => arg 5; simp only [Act.put, List.setIfInBounds_toArray, setC]))
            go_roundw
            case rel => exact ⟨n + 1, by omega, by go_num, by rw [eN1.out ()]; exact M.tail.tail⟩
            case measure => simp [intOf]; omega
    · have eR : r = d := by
        rw [SL.out (), ED.out (), ← eN.out (), show (N + 15) / 16 = n by omega]
      replace eR := Lib.hid fun _ : Unit => eR
      go_wp2_with ((first | ((with_reducible show wpList _ _ _ (Oper.mk _ (Op.convert _ _ _) _ _ _ _ :: _) _ _); go_must (refine w_string M 0 _ _ _ _ rfl rfl rfl hd.symm rfl Tryz.underlying70 Tryz.underlying5 Tryz.underlying9 ?_)) | ((with_reducible refine tGuard ?_); first | refine gdS ?_ | (refine gdC ?_ ?_ <;> (intro hgd; rw [hgd]; try (exfalso; simp at hgd; omega)))) | ((with_reducible refine tConv _ 70 9 ?_); go_must (refine cvB ?_)) | ((with_reducible refine tLoad ?_); go_must (refine ldB ?_)) | ((with_reducible refine tStore ?_); go_must (refine stB ?_; clear M; intro w1 M; (try simp only [setC] at M))) | ((with_reducible refine tBox _ ?_); (refine bxA M ?_; clear M; intro g w1 M))) <;> (try conv => arg 5; simp only [Act.put, List.setIfInBounds_toArray, setC]))
      go_ret
      exact ⟨congrArg (fun x => Ending.returned (.string (mkS x))) (eR.out ()).symm, M.below⟩
end Go.Proofs.YtidadhbaomieiaaGreat

/- Envelopes in memory: their cells, and what may be done to them. No conditions but those each law names. -/
namespace Go
namespace TL
open Go.RowKit
def envC (k : Int) (b : UInt32) (n : UInt64) (d t : List UInt8) : List Value := .int .i64 k :: .int .u32 (I32 b) :: .int .u64 (I64 n) :: .string (mkS d) :: bs t
def zeroT : List UInt8 := List.replicate 32 0
theorem zeroT_len : zeroT.length = 32 := List.length_replicate
theorem envC_len (k : Int) (b : UInt32) (n : UInt64) (d t : List UInt8) : (envC k b n d t).length = t.length + 4 := by unfold envC; simp only [List.length_cons, bs_length]
theorem envC_one (k : Int) (b : UInt32) (n : UInt64) (d t : List UInt8) : ∀ v ∈ envC k b n d t, v.oneCell' = true := by
  intro v hv
  unfold envC at hv
  simp only [List.mem_cons] at hv
  rcases hv with rfl | rfl | rfl | rfl | hv
  · rfl
  · rfl
  · rfl
  · rfl
  · exact bs_one _ v hv
section
variable {P : Program} {ops : Array Oper} {rest : List Oper} {o : Oper} {a : Act} {w w0 : World} {Q : Exit → Act → World → Prop} {F : List Nat} {L : List Chunk} {g : Nat} {k : Int} {b : UInt32} {n : UInt64} {d tg : List UInt8}
theorem w_loadE (M : Mem F w0 w L) (i : Nat) (t : TypeId) (x : Operand) (ho : o.op = .load t x) (hi : L[i]? = some (.row g (envC k b n d tg))) (hx : a.eval x = .pointer (some ⟨g, 0, none⟩)) (hw : Region.wanted o (yielded ops a.tmps) = true)
    (ht : rowT P t = true) (hn : (P.info? t).map (·.size) = some 36) (hg : tg.length = 32) (h : wpList P ops Q rest (a.put o.dst (.agg (envC k b n d tg).toArray)) w) : wpList P ops Q (o :: rest) a w :=
  w_loadR M i t x ho hi hx hw ht (by rw [envC_len, hg]; exact hn) h
theorem w_loadTag (M : Mem F w0 w L) (i : Nat) (t : TypeId) (x : Operand) (ho : o.op = .load t x) (hi : L[i]? = some (.row g (envC k b n d tg))) (hx : a.eval x = .pointer (some ⟨g, 4, none⟩)) (hw : Region.wanted o (yielded ops a.tmps) = true)
    (ht : rowT P t = true) (hn : (P.info? t).map (·.size) = some 32) (hg : tg.length = 32) (h : wpList P ops Q rest (a.put o.dst (.agg (bs tg).toArray)) w) : wpList P ops Q (o :: rest) a w :=
  w_loadA M i t x ho hi hx hw ht [.int .i64 k, .int .u32 (I32 b), .int .u64 (I64 n), .string (mkS d)] (bs tg) [] (by rw [List.append_nil]; rfl) rfl (by rw [bs_length, hg]; exact hn) h
theorem w_storeE (M : Mem F w0 w L) (i : Nat) (t : TypeId) (x y : Operand) (ho : o.op = .store t x y) {k' : Int} {b' : UInt32} {n' : UInt64} {d' tg' : List UInt8} (hi : L[i]? = some (.row g (envC k' b' n' d' tg'))) (hx : a.eval x = .pointer (some ⟨g, 0, none⟩)) (hw : Region.wanted o (yielded ops a.tmps) = true)
    {C : Array Value} (hy : a.eval y = .agg C) (hC : C = (envC k b n d tg).toArray) (hn : (P.info? t).map (·.size) = some 36) (hg : tg.length = 32) (hg' : tg'.length = 32)
    (h : ∀ w' : World, Mem F w0 w' (L.set i (.row g (envC k b n d tg))) → wpList P ops Q rest (a.put o.dst undef) w') : wpList P ops Q (o :: rest) a w :=
  w_storeR M i t x y ho hi hx hw (envC k b n d tg) hy hC (by rw [envC_len, hg]; exact hn) (envC_one _ _ _ _ _) (by rw [envC_len, envC_len, hg, hg']) h
theorem w_storeTag (M : Mem F w0 w L) (i : Nat) (t : TypeId) (x y : Operand) (ho : o.op = .store t x y) {tg' : List UInt8} (hi : L[i]? = some (.row g (envC k b n d tg'))) (hx : a.eval x = .pointer (some ⟨g, 4, none⟩)) (hw : Region.wanted o (yielded ops a.tmps) = true)
    (hy : a.eval y = .agg (bs tg).toArray) (hn : (P.info? t).map (·.size) = some 32) (hg : tg.length = 32) (hg' : tg'.length = 32)
    (h : ∀ w' : World, Mem F w0 w' (L.set i (.row g (envC k b n d tg))) → wpList P ops Q rest (a.put o.dst undef) w') : wpList P ops Q (o :: rest) a w := by
  refine w_storeA M i t x y ho hi hx hw (bs tg) hy rfl (by rw [bs_length, hg]; exact hn) (bs_one _) [.int .i64 k, .int .u32 (I32 b), .int .u64 (I64 n), .string (mkS d)] (bs tg') [] (by rw [List.append_nil]; rfl) rfl (by rw [bs_length, bs_length, hg, hg']) ?_
  intro w' M'
  rw [List.append_nil] at M'
  exact h w' M'
theorem w_storeData (M : Mem F w0 w L) (i : Nat) (t : TypeId) (x y : Operand) (ho : o.op = .store t x y) {d' : List UInt8} (hi : L[i]? = some (.row g (envC k b n d' tg))) (hx : a.eval x = .pointer (some ⟨g, 3, none⟩)) (hw : Region.wanted o (yielded ops a.tmps) = true)
    (hy : a.eval y = .string (mkS d)) (hn : (P.info? t).map (·.size) = some 1)
    (h : ∀ w' : World, Mem F w0 w' (L.set i (.row g (envC k b n d tg))) → wpList P ops Q rest (a.put o.dst undef) w') : wpList P ops Q (o :: rest) a w :=
  w_store M i t x y ho hi hx hw hy rfl rfl hn (by rw [envC_len]; omega) fun w' M' => h w' M'
theorem w_storeNum (M : Mem F w0 w L) (i : Nat) (t : TypeId) (x y : Operand) (ho : o.op = .store t x y) {n' : UInt64} (hi : L[i]? = some (.row g (envC k b n' d tg))) (hx : a.eval x = .pointer (some ⟨g, 2, none⟩)) (hw : Region.wanted o (yielded ops a.tmps) = true)
    (hy : a.eval y = .int .u64 (I64 n)) (hn : (P.info? t).map (·.size) = some 1)
    (h : ∀ w' : World, Mem F w0 w' (L.set i (.row g (envC k b n d tg))) → wpList P ops Q rest (a.put o.dst undef) w') : wpList P ops Q (o :: rest) a w :=
  w_store M i t x y ho hi hx hw hy rfl rfl hn (by rw [envC_len]; omega) fun w' M' => h w' M'
theorem w_storeTagB (M : Mem F w0 w L) (i : Nat) (t : TypeId) (x y : Operand) (ho : o.op = .store t x y) (hi : L[i]? = some (.row g (envC k b n d tg))) {off : Nat} (hx : a.eval x = .pointer (some ⟨g, off, none⟩)) (hw : Region.wanted o (yielded ops a.tmps) = true)
    {c : UInt8} (hy : a.eval y = .int .u8 (I8 c)) (hn : (P.info? t).map (·.size) = some 1) (j : Nat) (hoff : off = 4 + j) (hlt : j < tg.length)
    (h : ∀ w' : World, Mem F w0 w' (L.set i (.row g (envC k b n d (tg.set j c)))) → wpList P ops Q rest (a.put o.dst undef) w') : wpList P ops Q (o :: rest) a w := by
  refine w_store M i t x y ho hi hx hw hy rfl rfl hn (by rw [envC_len]; omega) fun w' M' => h w' ?_
  have e : (envC k b n d tg).set off (.int .u8 (I8 c)) = envC k b n d (tg.set j c) := by
    rw [hoff, Nat.add_comm]
    show .int .i64 k :: .int .u32 (I32 b) :: .int .u64 (I64 n) :: .string (mkS d) :: (bs tg).set j (vb c) = _
    rw [← bs_set]; rfl
  rw [← e]; exact M'
theorem seesTag {w : World} (h : (Chunk.row g (envC k b n d tg)).ok w) (hg : tg.length = 32) : SeesB w (.slice (some ⟨g, 4, none⟩) 32 32) tg := by
  refine ⟨by simp [hg], .inr ⟨g, 4, 32, by rw [hg], h.1, by omega, by decide, ?_⟩⟩
  have := rangeAt_drop h.2.1 4
  rw [Nat.zero_add] at this
  exact this
theorem w_stringTag (M : Mem F w0 w L) (i : Nat) (src dst e : TypeId) (x : Operand) (ho : o.op = .convert src dst x) (hw : Region.wanted o (yielded ops a.tmps) = true) (hi : L[i]? = some (.row g (envC k b n d tg))) (hx : a.eval x = .slice (some ⟨g, 4, none⟩) 32 32)
    (hg : tg.length = 32) (hs : P.underlying src = some (.slice e)) (he : P.underlying e = some (.int .u8)) (hd : P.underlying dst = some .string)
    (h : wpList P ops Q rest (a.put o.dst (.string (mkS tg))) w) : wpList P ops Q (o :: rest) a w :=
  wpW hw fun _ hK => by
    have hr := SeesB.run_string (P := P) (seesTag (M.ok i _ hi) hg) src dst e hs he hd w (grownBy_refl _ _)
    unfold Oper.wp execOp
    simp only [ho, hx, Sem.run_bind, hr, Result.andThen_ok]
    exact hK _ _ h
theorem stab_strTag (M : Mem F w0 w L) {is : List Nat} (i : Nat) {src dst e : TypeId} {x : Operand} (ho : o.op = .convert src dst x) (hi : L[i]? = some (.row g (envC k b n d tg))) (hin : i ∈ is) (hg : tg.length = 32) (hs : P.underlying src = some (.slice e)) (he : P.underlying e = some (.int .u8)) (hd : P.underlying dst = some .string) : Stab P (IxOk M is) o (.slice (some ⟨g, 4, none⟩) 32 32) :=
  stab_conv ho _ tg (fun _ hw => seesTag (hw.2 i hin _ hi) hg) hs he hd
theorem stab_env (M : Mem F w0 w L) {is : List Nat} (i : Nat) {t : TypeId} {x : Operand} (ho : o.op = .load t x) (hi : L[i]? = some (.row g (envC k b n d tg))) (hin : i ∈ is) (ht : rowT P t = true) (hn : (P.info? t).map (·.size) = some 36) (hg : tg.length = 32) : Stab P (IxOk M is) o (.pointer (some ⟨g, 0, none⟩)) :=
  stab_ixR M i ho hi hin ht (by rw [envC_len, hg]; exact hn)
theorem stab_tag (M : Mem F w0 w L) {is : List Nat} (i : Nat) {t : TypeId} {x : Operand} (ho : o.op = .load t x) (hi : L[i]? = some (.row g (envC k b n d tg))) (hin : i ∈ is) (ht : rowT P t = true) (hn : (P.info? t).map (·.size) = some 32) (hg : tg.length = 32) : Stab P (IxOk M is) o (.pointer (some ⟨g, 4, none⟩)) :=
  stab_ixA M i 4 ho hi hin ht [.int .i64 k, .int .u32 (I32 b), .int .u64 (I64 n), .string (mkS d)] (bs tg) [] (by rw [List.append_nil]; rfl) rfl (by rw [bs_length, hg]; exact hn)
end
theorem results_two {P : Program} {fn : Func} {p q : Tmp} {ty : TypeId} (h : fn.results = #[.cell p ty, .tmp q]) (tmps : Array Value) (w : World) (b o : Nat) (cs : List Value) (d : TypeDesc) (z : Value)
    (hp : tmps.getD p undef = .pointer (some ⟨b, o, none⟩)) (hz : tmps.getD q undef = z) (hc : w.rangeAt b o cs) (hu : P.underlying ty = some d) (hd : d.isRow = true) (hi : (P.info? ty).map (·.size) = some cs.length) :
    (results fn tmps).run P w = .ok (.tuple #[.agg cs.toArray, z]) w := by
  have hp' : tmps[p]?.getD undef = .pointer (some ⟨b, o, none⟩) := by simpa using hp
  have hz' : tmps[q]?.getD undef = z := by simpa using hz
  simp [results, h, hp', hz', asAddr, run_loadVar_mid w b o ty cs d hc hu hd hi]
end TL
end Go

/- The walks of package seal's inner functions: right, numbers, stream, tag. Conditions: lengths. -/
namespace Go
namespace TL
def rightE (k : Int) (d : List UInt8) : Bool := decide (0 ≤ k) && (decide (k ≤ 1048576) && decide ((d.length : Int) ≤ 8192))
def headL (k : Nat) (b : UInt32) (n : UInt64) : List UInt8 := numL k ++ (numL b.toNat ++ numL n.toNat)
def nonceL (b : UInt32) (n : UInt64) : List UInt8 := bigB b.toUInt64 4 ++ bigB n 8
theorem nonceL_len (b : UInt32) (n : UInt64) : (nonceL b n).length = 12 := by unfold nonceL; rw [List.length_append, bigB_length, bigB_length]
def encL : List UInt8 := [101, 110, 99]
def macT : List UInt8 := [109, 97, 99]
def sealL (key : List UInt8) (b : UInt32) (n : UInt64) (text : List UInt8) : List UInt8 := streamL (macL key encL) (nonceL b n) text
def tagL (key : List UInt8) (k : Nat) (b : UInt32) (n : UInt64) (about data : List UInt8) : List UInt8 := macL (macL key macT) (headL k b n ++ (textL about ++ textL data))
theorem headL_len (k : Nat) (b : UInt32) (n : UInt64) (h : k < 18446744073709551616) : (headL k b n).length ≤ 30 := by
  have h1 := numL_length_le k h
  have h2 := numL_length_le b.toNat (by have := b.toNat_lt; omega)
  have h3 := numL_length_le n.toNat (by have := n.toNat_lt; omega)
  unfold headL; simp only [List.length_append]; omega
end TL
end Go
namespace Go.Proofs.YtidadhbaomieiaaGreat
open Go.RowKit Go.TL
set_option maxRecDepth 100000 in
set_option maxHeartbeats 2000000 in
theorem sealRight_c (k : Int) (b : UInt32) (n : UInt64) (d t : List UInt8) (w : World) :
    Calls Tryz.prog 74 #[.agg (envC k b n d t).toArray] w fun e w' => e = .returned (.bool (rightE k d)) ∧ Below w.heap.size w w' := by
  have M := Mem.start [] w
  unfold rightE
  by_cases h1 : 0 ≤ k
  · by_cases h2 : k ≤ 1048576
    · by_cases h3 : (d.length : Int) ≤ 8192
      · rw [decide_eq_true h1, decide_eq_true h2, decide_eq_true h3]
        go_enter Tryz.func74, Tryz.ntmps74
        go_wp2_with ((first | ((with_reducible refine tBox (some 1) ?_); refine w_box M _ _ rfl rfl _ rfl (envC k b n d t) rfl ?_; clear M; intro gx w1 M) | ((with_reducible refine tGuard ?_); (with_reducible refine w_stripE ?_ ?_); (focus (refine ⟨_, rfl, ?_⟩; first | (with_reducible rfl) | exact decide_eq_false (by omega) | exact decide_eq_true (by omega)))) | ((with_reducible refine tGuard ?_); first | ((with_reducible refine w_skip1 ?_ ?_); (focus (refine ⟨_, rfl, ?_⟩; first | (with_reducible rfl) | exact decide_eq_false (by omega) | exact decide_eq_true (by omega)))) | ((with_reducible refine w_skip0 ?_ ?_); (focus (refine ⟨_, rfl, ?_⟩; first | (with_reducible rfl) | exact decide_eq_false (by omega) | exact decide_eq_true (by omega))))) | ((with_reducible refine tGuard ?_); refine gdS ?_) | fail | ((with_reducible refine tLoad ?_); go_must (refine ldS ?_)) | ((with_reducible refine tStore ?_); go_must (refine stS ?_; clear M; intro w1 M; (try simp only [setC] at M))) | ((with_reducible refine tBox _ ?_); (refine bxA M ?_; clear M; intro g w1 M))) <;> (try conv => arg 5; simp only [Act.put, List.setIfInBounds_toArray, setC]))
        go_ret
        exact ⟨rfl, M.below⟩
      · rw [decide_eq_true h1, decide_eq_true h2, decide_eq_false h3]
        go_enter Tryz.func74, Tryz.ntmps74
        go_wp2_with ((first | ((with_reducible refine tBox (some 1) ?_); refine w_box M _ _ rfl rfl _ rfl (envC k b n d t) rfl ?_; clear M; intro gx w1 M) | ((with_reducible refine tGuard ?_); (with_reducible refine w_stripE ?_ ?_); (focus (refine ⟨_, rfl, ?_⟩; first | (with_reducible rfl) | exact decide_eq_false (by omega) | exact decide_eq_true (by omega)))) | ((with_reducible refine tGuard ?_); first | ((with_reducible refine w_skip1 ?_ ?_); (focus (refine ⟨_, rfl, ?_⟩; first | (with_reducible rfl) | exact decide_eq_false (by omega) | exact decide_eq_true (by omega)))) | ((with_reducible refine w_skip0 ?_ ?_); (focus (refine ⟨_, rfl, ?_⟩; first | (with_reducible rfl) | exact decide_eq_false (by omega) | exact decide_eq_true (by omega))))) | ((with_reducible refine tGuard ?_); refine gdS ?_) | fail | ((with_reducible refine tLoad ?_); go_must (refine ldS ?_)) | ((with_reducible refine tStore ?_); go_must (refine stS ?_; clear M; intro w1 M; (try simp only [setC] at M))) | ((with_reducible refine tBox _ ?_); (refine bxA M ?_; clear M; intro g w1 M))) <;> (try conv => arg 5; simp only [Act.put, List.setIfInBounds_toArray, setC]))
        go_ret
        exact ⟨rfl, M.below⟩
    · rw [decide_eq_true h1, decide_eq_false h2]
      go_enter Tryz.func74, Tryz.ntmps74
      go_wp2_with ((first | ((with_reducible refine tBox (some 1) ?_); refine w_box M _ _ rfl rfl _ rfl (envC k b n d t) rfl ?_; clear M; intro gx w1 M) | ((with_reducible refine tGuard ?_); (with_reducible refine w_stripE ?_ ?_); (focus (refine ⟨_, rfl, ?_⟩; first | (with_reducible rfl) | exact decide_eq_false (by omega) | exact decide_eq_true (by omega)))) | ((with_reducible refine tGuard ?_); first | ((with_reducible refine w_skip1 ?_ ?_); (focus (refine ⟨_, rfl, ?_⟩; first | (with_reducible rfl) | exact decide_eq_false (by omega) | exact decide_eq_true (by omega)))) | ((with_reducible refine w_skip0 ?_ ?_); (focus (refine ⟨_, rfl, ?_⟩; first | (with_reducible rfl) | exact decide_eq_false (by omega) | exact decide_eq_true (by omega))))) | ((with_reducible refine tGuard ?_); refine gdS ?_) | fail | ((with_reducible refine tLoad ?_); go_must (refine ldS ?_)) | ((with_reducible refine tStore ?_); go_must (refine stS ?_; clear M; intro w1 M; (try simp only [setC] at M))) | ((with_reducible refine tBox _ ?_); (refine bxA M ?_; clear M; intro g w1 M))) <;> (try conv => arg 5; simp only [Act.put, List.setIfInBounds_toArray, setC]))
      go_ret
      exact ⟨rfl, M.below⟩
  · rw [decide_eq_false h1]
    go_enter Tryz.func74, Tryz.ntmps74
    go_wp2_with ((first | ((with_reducible refine tBox (some 1) ?_); refine w_box M _ _ rfl rfl _ rfl (envC k b n d t) rfl ?_; clear M; intro gx w1 M) | ((with_reducible refine tGuard ?_); (with_reducible refine w_stripE ?_ ?_); (focus (refine ⟨_, rfl, ?_⟩; first | (with_reducible rfl) | exact decide_eq_false (by omega) | exact decide_eq_true (by omega)))) | ((with_reducible refine tGuard ?_); first | ((with_reducible refine w_skip1 ?_ ?_); (focus (refine ⟨_, rfl, ?_⟩; first | (with_reducible rfl) | exact decide_eq_false (by omega) | exact decide_eq_true (by omega)))) | ((with_reducible refine w_skip0 ?_ ?_); (focus (refine ⟨_, rfl, ?_⟩; first | (with_reducible rfl) | exact decide_eq_false (by omega) | exact decide_eq_true (by omega))))) | ((with_reducible refine tGuard ?_); refine gdS ?_) | fail | ((with_reducible refine tLoad ?_); go_must (refine ldS ?_)) | ((with_reducible refine tStore ?_); go_must (refine stS ?_; clear M; intro w1 M; (try simp only [setC] at M))) | ((with_reducible refine tBox _ ?_); (refine bxA M ?_; clear M; intro g w1 M))) <;> (try conv => arg 5; simp only [Act.put, List.setIfInBounds_toArray, setC]))
    go_ret
    exact ⟨rfl, M.below⟩
set_option maxRecDepth 100000 in
set_option maxHeartbeats 400000 in
theorem numbers_c (g : Nat) (v : Value) (l : List UInt8) (k : Nat) (b : UInt32) (n : UInt64) (d t : List UInt8) (w : World) (hk : k ≤ 1048576) (hl : l.length ≤ 1000000) (ho : (outC g v l).ok w) :
    Calls Tryz.prog 79 #[.pointer (some ⟨g, 0, none⟩), .agg (envC k b n d t).toArray] w fun e w' => e = .returned (.tuple #[]) ∧ ∃ v', Upd w (outC g v l) w' (outC g v' (l ++ headL k b n)) := by
  have M := Mem.start1 ho
  have h1 := numL_length_le k (by omega)
  have h2 := numL_length_le b.toNat (by have := b.toNat_lt; omega)
  have hb := b.toNat_lt
  have hn := n.toNat_lt
  have e1 := I64_nat k (by omega)
  have e2 : I64 b.toUInt64 = ((b.toNat : Nat) : Int) := by rw [I64_eq, UInt32.toNat_toUInt64]
  replace e2 := Lib.hid fun _ : Unit => e2
  go_enter Tryz.func79, Tryz.ntmps79
  go_wp2_with ((first | ((with_reducible refine tBox (some 3) ?_); refine w_box M _ _ rfl rfl _ rfl (envC k b n d t) rfl ?_; clear M; intro gx w1 M) | (go_at_call 113; go_must (first | (with_reducible refine (Num_c _ _ _ k (k : Int) rfl _ (by omega) (by first | omega | (simp only [List.length_append]; omega)) (M.ok 1 _ rfl)).mono ?_) | (with_reducible refine (Num_c _ _ _ b.toNat (I64 b.toUInt64) (e2.out ()) _ (by omega) (by first | omega | (simp only [List.length_append]; omega)) (M.ok 1 _ rfl)).mono ?_) | (with_reducible refine (Num_c _ _ _ n.toNat (I64 n) (I64_eq n) _ (by omega) (by first | omega | (simp only [List.length_append]; omega)) (M.ok 1 _ rfl)).mono ?_)); rintro e w2 ⟨rfl, v1, U⟩; replace M := M.upd 1 rfl U; clear U) | ((with_reducible refine tGuard ?_); first | refine gdS ?_ | (refine gdC ?_ ?_ <;> (intro hgd; rw [hgd]; try (exfalso; simp at hgd; omega)))) | fail | ((with_reducible refine tLoad ?_); go_must (refine ldS ?_)) | ((with_reducible refine tStore ?_); go_must (refine stS ?_; clear M; intro w1 M; (try simp only [setC] at M))) | ((with_reducible refine tBox _ ?_); (refine bxA M ?_; clear M; intro g w1 M))) <;> (try conv => arg 5; simp only [Act.put, List.setIfInBounds_toArray, setC]))
  simp only [List.append_assoc] at M
  exact bodyPost_end (results_none rfl _ _ _) rfl ⟨rfl, _, (M.tail).upd1 0 rfl⟩
set_option maxRecDepth 100000 in
set_option maxHeartbeats 2000000 in
theorem sealStream_c (key : List UInt8) (k : Int) (b : UInt32) (n : UInt64) (d t text : List UInt8) (w : World) (hk : key.length = 32) (hx : text.length ≤ 1000000) :
    Calls Tryz.prog 75 #[.agg (bs key).toArray, .agg (envC k b n d t).toArray, .string (mkS text)] w fun e w' => e = .returned (.string (mkS (sealL key b n text))) ∧ Below w.heap.size w w' := by
  have M := Mem.start [] w
  have KC := fun w => Key_c key encL w hk (by decide)
  have SE : sealL key b n text = streamL (macL key encL) (nonceL b n) text := rfl
  have hm := macL_len key encL
  have SC := fun w => Stream_c (macL key encL) (nonceL b n) text w hm (nonceL_len b n) hx
  have A1 := fun (w : World) hok => sealPutc (.slice none 0 0) [] b.toUInt64 4 w hok (by omega) (by simp)
  have A2 := fun v (w : World) hok => sealPutc v (bigB b.toUInt64 4) n 8 w hok (by omega) (by rw [bigB_length]; omega)
  have hb1 := bigB_length b.toUInt64 4
  have hn0 := nonceL_len b n
  have hno : bigB b.toUInt64 4 ++ bigB n 8 = nonceL b n := rfl
  rw [hno] at A2
  rw [List.nil_append, show ((4 : Nat) : Int) = 4 from rfl] at A1
  rw [show ((8 : Nat) : Int) = 8 from rfl] at A2
  obtain ⟨m, em⟩ : ∃ m, m = macL key encL := ⟨_, rfl⟩
  rw [← em] at KC SE hm SC
  obtain ⟨nn, enn⟩ : ∃ x, x = nonceL b n := ⟨_, rfl⟩
  rw [← enn] at SE SC A2 hn0
  obtain ⟨b4, eb4⟩ : ∃ x, x = bigB b.toUInt64 4 := ⟨_, rfl⟩
  rw [← eb4] at A1 A2 hb1
  rw [hb1] at A1 A2
  rw [hn0] at A2
  obtain ⟨r, er⟩ : ∃ x, x = sealL key b n text := ⟨_, rfl⟩
  rw [SE] at er
  rw [← er] at SC
  have ER := Lib.hid fun _ : Unit => (show sealL key b n text = r from SE.trans er.symm)
  replace KC := Lib.hid KC
  replace SC := Lib.hid SC
  replace A1 := Lib.hid A1
  replace A2 := Lib.hid A2
  clear em enn eb4 er SE hno
  go_enter Tryz.func75, Tryz.ntmps75
  have NI := Lib.hid fun _ : Unit => (show (List.replicate 12 (0 : UInt8)).take 0 ++ (nn.take 12 ++ (List.replicate 12 0).drop (0 + 12)) = nn by rw [List.take_zero, List.nil_append, List.take_of_length_le (by omega)]; simp)
  have hz : (List.replicate 12 (0 : UInt8)).length = 12 := List.length_replicate
  go_wp2_with ((first | ((with_reducible refine tBox (some 3) ?_); refine w_box M _ _ rfl rfl _ rfl (bs key) rfl ?_; clear M; intro gk w1 M) | ((with_reducible refine tBox (some 4) ?_); refine w_box M _ _ rfl rfl _ rfl (envC k b n d t) rfl ?_; clear M; intro gx w1 M) | ((with_reducible refine tAlloc (some 7) 194 ?_); refine w_alloc M _ rfl rfl (.agg (Array.replicate 12 (.int .u8 0))) (bs (List.replicate 12 (0 : UInt8))) (by kernel_rfl) rfl ?_; clear M; intro gn w1 M) | ((with_reducible show Code.wp _ (Code.region 2 _ _) _ _ _); go_must (have MR := M; refine region_lowc [(0, false), (1, false), (5, false), (2, false), (3, false), (6, false), (4, true), (7, true), (8, true)] [(10, .int)] [(2, _), (6, _)] (IxOk MR [1]) 9 (by kernel_rfl) (by kernel_rfl) rfl (by kernel_rfl) (lowA MR 1 1 (lowA MR 1 2 lows_nil)) (ixOk_self MR _) ?_; replace M := M.drew; simp only [planC, opAt, List.getElem?_toArray, List.getElem?_cons_zero, List.getElem?_cons_succ, Option.getD_some])) | ((with_reducible show Code.wp _ (Code.region 3 _ _) _ _ _); go_must (have MR := M; refine region_lowc [(3, false), (0, false), (2, false), (1, true), (4, true), (5, false)] [] [(0, _), (2, _)] (IxOk MR [2, 0]) 6 (by kernel_rfl) (by kernel_rfl) rfl (by kernel_rfl) (lowA MR 2 0 (lowA MR 0 0 lows_nil)) (ixOk_self MR _) ?_; replace M := M.drew; simp only [planC, opAt, List.getElem?_toArray, List.getElem?_cons_zero, List.getElem?_cons_succ, Option.getD_some])) | (go_at_call 108; go_must (first | (replace M := M.nil 1; with_reducible refine (A1.out _ (M.ok 0 _ rfl)).mono ?_; rintro e w1 ⟨p1, c1, rfl, U⟩; replace M := M.upd 0 rfl U; clear U; simp only [List.set_cons_zero] at M) | (with_reducible refine (A2.out _ _ (M.ok 0 _ rfl)).mono ?_; rintro e w1 ⟨p2, c2, rfl, U⟩; replace M := M.upd 0 rfl U; clear U; simp only [List.set_cons_zero] at M))) | ((with_reducible show wpList _ _ _ (Oper.mk _ (Op.call ⟨Callee.builtin Builtin.copy, _, _⟩) _ _ _ _ :: _) _ _); go_must (refine w_copyB M 1 bytesT _ _ _ rfl rfl rfl rfl rfl (sees_of (M.ok 0 _ rfl) hn0.symm) 12 (by omega) (by omega) ?_; clear M; intro w1 M; simp only [List.set_cons_succ, List.set_cons_zero] at M; rw [NI.out ()] at M; replace M := M.tail)) | (go_at_call 110; go_must (refine (KC.out _).mono ?_; rintro e w1 ⟨rfl, hb⟩; replace M := M.call hb; clear hb)) | (go_at_call 109; go_must (refine (SC.out _).mono ?_; rintro e w1 ⟨rfl, hb⟩; replace M := M.call hb; clear hb)) | ((with_reducible show Seg _ _ _ _); go_must (first | refine Seg.intro ⟨fun h => absurd rfl h, ?_⟩ | refine Seg.intro ⟨fun _ => ixA, ?_⟩ | refine Seg.intro ⟨ndA, atA, ?_⟩)) | ((with_reducible show OnlyN _ _ _ _ _); refine OnlyN.intro (by kernel_rfl) ?_) | ((with_reducible refine tGuard ?_); first | refine gdS ?_ | (refine gdC ?_ ?_ <;> (intro hgd; rw [hgd]; try (exfalso; simp at hgd; omega)))) | ((with_reducible refine tConv _ 70 9 ?_); go_must (refine cvB ?_)) | ((with_reducible refine tLoad ?_); go_must (refine ldB ?_)) | ((with_reducible refine tStore ?_); go_must (refine stB ?_; clear M; intro w1 M; (try simp only [setC] at M))) | ((with_reducible refine tBox _ ?_); (refine bxA M ?_; clear M; intro g w1 M))) <;> (try conv => arg 5; simp only [Act.put, List.setIfInBounds_toArray, setC]))
  go_ret
  exact ⟨congrArg (fun x => Ending.returned (.string (mkS x))) (ER.out ()).symm, M.below⟩
set_option maxRecDepth 100000 in
set_option maxHeartbeats 2000000 in
theorem sealTag_c (key : List UInt8) (k : Nat) (b : UInt32) (n : UInt64) (d t about : List UInt8) (w : World) (hk : key.length = 32) (ht : t.length = 32) (hkk : k ≤ 1048576) (ha : about.length ≤ 100000) (hd : d.length ≤ 100000) :
    Calls Tryz.prog 76 #[.agg (bs key).toArray, .agg (envC k b n d t).toArray, .string (mkS about)] w fun e w' => e = .returned (.agg (bs (tagL key k b n about d)).toArray) ∧ Below w.heap.size w w' := by
  have M := Mem.start [] w
  have KC := fun w => Key_c key macT w hk (by decide)
  have SE : tagL key k b n about d = macL (macL key macT) (headL k b n ++ (textL about ++ textL d)) := rfl
  have hm := macL_len key macT
  have hh := headL_len k b n (by omega)
  have hta : (textL about).length ≤ 100010 := by unfold textL; have := numL_length_le about.length (by omega); simp; omega
  have htd : (textL d).length ≤ 100010 := by unfold textL; have := numL_length_le d.length (by omega); simp; omega
  have NC := fun (g : Nat) (v : Value) (w : World) hok => numbers_c g v [] k b n d t w hkk (by simp) hok
  have T1 := fun (g : Nat) (v : Value) (w : World) hok => Out_Text_c g v (headL k b n) about w (by omega) (by omega) hok
  have T2 := fun (g : Nat) (v : Value) (w : World) hok => Out_Text_c g v (headL k b n ++ textL about) d w (by omega) (by simp; omega) hok
  have TC := fun w => Tag_c (macL key macT) (headL k b n ++ (textL about ++ textL d)) w (by omega) (by simp; omega)
  rw [List.append_assoc] at T2
  rw [List.nil_append] at NC
  obtain ⟨m, em⟩ : ∃ m, m = macL key macT := ⟨_, rfl⟩
  rw [← em] at KC SE hm TC
  obtain ⟨h0, eh⟩ : ∃ x, x = headL k b n := ⟨_, rfl⟩
  rw [← eh] at SE NC T1 T2 TC hh
  obtain ⟨u2, eu⟩ : ∃ x, x = h0 ++ (textL about ++ textL d) := ⟨_, rfl⟩
  rw [← eu] at SE T2 TC
  obtain ⟨u1, eu1⟩ : ∃ x, x = h0 ++ textL about := ⟨_, rfl⟩
  rw [← eu1] at T1 T2
  obtain ⟨r, er⟩ : ∃ x, x = macL m u2 := ⟨_, rfl⟩
  have hr : r.length = 32 := by rw [er]; exact macL_len _ _
  rw [← er] at SE TC
  have ER := Lib.hid fun _ : Unit => SE
  replace KC := Lib.hid KC
  replace NC := Lib.hid NC
  replace T1 := Lib.hid T1
  replace T2 := Lib.hid T2
  replace TC := Lib.hid TC
  clear em eh eu eu1 er SE hta htd hh
  go_enter Tryz.func76, Tryz.ntmps76
  go_wp2_with ((first | ((with_reducible refine tBox (some 3) ?_); refine w_box M _ _ rfl rfl _ rfl (bs key) rfl ?_; clear M; intro gk w1 M) | ((with_reducible refine tBox (some 4) ?_); refine w_box M _ _ rfl rfl _ rfl (envC k b n d t) rfl ?_; clear M; intro gx w1 M) | ((with_reducible refine tAlloc (some 6) 64 ?_); refine w_alloc M _ rfl rfl (.agg (Array.replicate 32 (.int .u8 0))) (bs (List.replicate 32 (0 : UInt8))) (by kernel_rfl) rfl ?_; clear M; intro gr w1 M) | (((with_reducible refine tAlloc (some 7) 155 ?_); refine w_alloc M _ rfl rfl (.agg #[.slice none 0 0]) ([.slice none 0 0]) (by kernel_rfl) rfl ?_; clear M; intro go w1 M); replace M := M.outNew) | ((with_reducible refine tAlloc (some 8) 50 ?_); refine w_alloc M _ rfl rfl (.agg (Array.replicate 32 (.int .u8 0))) (bs (List.replicate 32 (0 : UInt8))) (by kernel_rfl) rfl ?_; clear M; intro gm w1 M) | (go_at_call 79; go_must (refine (NC.out _ _ _ (M.ok 0 _ rfl)).mono ?_; rintro e w2 ⟨rfl, v1, U⟩; replace M := M.upd 0 rfl U; clear U; simp only [List.set_cons_zero] at M)) | (go_at_call 80; go_must ((first | (with_reducible refine (T1.out _ _ _ (M.ok 0 _ rfl)).mono ?_) | (with_reducible refine (T2.out _ _ _ (M.ok 0 _ rfl)).mono ?_)); rintro e w2 ⟨rfl, v2, U⟩; replace M := M.upd 0 rfl U; clear U; simp only [List.set_cons_zero] at M)) | (go_at_call 110; go_must (refine (KC.out _).mono ?_; rintro e w1 ⟨rfl, hb⟩; replace M := M.call hb; clear hb)) | (go_at_call 47; go_must (refine (TC.out _).mono ?_; rintro e w1 ⟨rfl, hb⟩; replace M := M.call hb; clear hb)) | (go_at_call 81; go_must (refine (Out_String_c _ _ _ _ (M.ok 1 _ rfl)).mono ?_; rintro e w1 ⟨rfl, rfl⟩)) | ((with_reducible show Code.wp _ (Code.region 6 _ _) _ _ _); go_must (have MR := M; refine region_lowc [(0, false), (1, false), (2, true), (3, true), (4, true)] [] [(1, _)] (IxOk MR [0]) 4 (by kernel_rfl) (by kernel_rfl) rfl (by kernel_rfl) (lowA MR 0 0 lows_nil) (ixOk_self MR _) ?_; replace M := M.drew; simp only [planC, opAt, List.getElem?_toArray, List.getElem?_cons_zero, List.getElem?_cons_succ, Option.getD_some])) | ((with_reducible refine tLoad ?_); refine w_at _ _ rfl (by exact ev_tmp rfl) ?_; intro hx; (first | refine w_loadE M _ _ _ rfl (by first | exact at2 | exact at3) hx rfl (by decide +kernel) (by decide +kernel) (by first | assumption | exact zeroT_len | exact macL_len _ _) ?_ | refine w_loadTag M _ _ _ rfl (by first | exact at2 | exact at3) hx rfl (by decide +kernel) (by decide +kernel) (by first | assumption | exact zeroT_len | exact macL_len _ _) ?_); clear hx) | ((with_reducible refine tStore ?_); refine w_at2 _ _ _ rfl (by first | exact ev_tmp rfl | exact ev_const) (by first | exact ev_tmp rfl | exact ev_const) ?_; intro hx hy; (first | refine w_storeE M _ _ _ _ rfl (by first | exact at2 | exact at3) hx rfl hy rfl (by decide +kernel) (by first | assumption | exact zeroT_len | exact macL_len _ _) (by first | assumption | exact zeroT_len | exact macL_len _ _) ?_ | refine w_storeE (k := 0) (b := 0) (n := 0) (d := []) (tg := zeroT) M _ _ _ _ rfl (by first | exact at2 | exact at3) hx rfl hy rfl (by decide +kernel) zeroT_len (by first | assumption | exact zeroT_len | exact macL_len _ _) ?_ | refine w_storeE (tg := zeroT) M _ _ _ _ rfl (by first | exact at2 | exact at3) hx rfl hy rfl (by decide +kernel) zeroT_len (by first | assumption | exact zeroT_len | exact macL_len _ _) ?_ | refine w_storeTag M _ _ _ _ rfl (by first | exact at2 | exact at3) hx rfl hy (by decide +kernel) (by first | assumption | exact zeroT_len | exact macL_len _ _) (by first | assumption | exact zeroT_len | exact macL_len _ _) ?_ | refine w_storeData M _ _ _ _ rfl (by first | exact at2 | exact at3) hx rfl hy (by decide +kernel) ?_ | refine w_storeNum M _ _ _ _ rfl (by first | exact at2 | exact at3) hx rfl hy (by decide +kernel) ?_); clear hx hy M; intro w1 M; (try simp only [setC] at M)) | ((with_reducible refine tConv _ 70 9 ?_); (first | refine w_stringTag M _ _ _ _ _ rfl rfl (by first | exact at2 | exact at3) rfl (by first | assumption | exact zeroT_len | exact macL_len _ _) Tryz.underlying70 Tryz.underlying5 Tryz.underlying9 ?_)) | ((with_reducible show Seg _ _ _ _); go_must (first | refine Seg.intro ⟨fun h => absurd rfl h, ?_⟩ | refine Seg.intro ⟨fun _ => ixA, ?_⟩ | refine Seg.intro ⟨ndA, atA, ?_⟩)) | ((with_reducible show OnlyN _ _ _ _ _); refine OnlyN.intro (by kernel_rfl) ?_) | ((with_reducible refine tGuard ?_); first | refine gdS ?_ | (refine gdC ?_ ?_ <;> (intro hgd; rw [hgd]; try (exfalso; simp at hgd; omega)))) | ((with_reducible refine tConv _ 70 9 ?_); go_must (refine cvB ?_)) | ((with_reducible refine tLoad ?_); go_must (refine ldB ?_)) | ((with_reducible refine tStore ?_); go_must (refine stB ?_; clear M; intro w1 M; (try simp only [setC] at M))) | ((with_reducible refine tBox _ ?_); (refine bxA M ?_; clear M; intro g w1 M))) <;> (try conv => arg 5; simp only [Act.put, List.setIfInBounds_toArray, setC]))
  exact bodyPost_ret (results_row rfl _ _ gr 0 (bs r) _ rfl (M.ok 2 _ rfl).2.1 Tryz.underlying64 rfl (by rw [bs_length, hr]; kernel_rfl)) rfl ⟨congrArg (fun x => Ending.returned (.agg (bs x).toArray)) (ER.out ()).symm, M.below⟩
end Go.Proofs.YtidadhbaomieiaaGreat

/- Plain laws of an envelope's bytes: read back, cut, only. No program in this text. No conditions but those each lemma names. -/
namespace Go
namespace TL
structure Env where
  k : Nat
  b : UInt32
  n : UInt64
  d : List UInt8
  t : List UInt8
def zeroE : Env := ⟨0, 0, 0, [], List.replicate 32 0⟩
def envB (x : Env) : List UInt8 := numL x.k ++ (numL x.b.toNat ++ (numL x.n.toNat ++ (textL x.d ++ x.t)))
def rightEnv (x : Env) : Prop := x.k ≤ 1048576 ∧ x.d.length ≤ 8192 ∧ x.t.length = 32
def tagS (x0 : InS) : Nat → InS × List UInt8
  | 0 => (x0, List.replicate 32 0)
  | n + 1 => ((tagS x0 n).1.byte.2, (tagS x0 n).2.set n (UInt8.ofNat (tagS x0 n).1.byte.1))
theorem tagS_succ (x0 : InS) (n : Nat) : tagS x0 (n + 1) = ((tagS x0 n).1.byte.2, (tagS x0 n).2.set n (UInt8.ofNat (tagS x0 n).1.byte.1)) := rfl
theorem tagS_len (x0 : InS) : ∀ n, (tagS x0 n).2.length = 32
  | 0 => List.length_replicate
  | n + 1 => by rw [tagS_succ, List.length_set]; exact tagS_len x0 n
theorem tagS_fit {x0 : InS} (h : x0.fit) : ∀ n, (tagS x0 n).1.fit
  | 0 => h
  | n + 1 => InS.byte_fit (tagS_fit h n)
structure Nums where
  k : Nat
  b : Nat
  n : Nat
  d : List UInt8
  x : InS
def numsS (s : List UInt8) : Nums :=
  let a := (InS.mk s 0 0).most 1048576
  let b := a.2.most 4294967295
  let c := b.2.most maxU
  let d := c.2.text 8192
  ⟨a.1, b.1, c.1, d.1, d.2⟩
def readS (s : List UInt8) : Env × Nat :=
  let a := numsS s
  let e := tagS a.x 32
  if e.1.fin = 0 then (⟨a.k, UInt32.ofNat a.b, UInt64.ofNat a.n, a.d, e.2⟩, 0) else (zeroE, e.1.fin)
theorem readS_zero {s : List UInt8} (h : (readS s).2 ≠ 0) : readS s = (zeroE, (readS s).2) := by
  unfold readS at h ⊢
  simp only at h ⊢
  by_cases e : (tagS (numsS s).x 32).1.fin = 0
  · rw [if_pos e] at h; exact absurd rfl h
  · rw [if_neg e]
theorem byte_has (x : InS) : ∃ q : UInt8, x.byte.1 = q.toNat := by
  unfold InS.byte
  split
  · split
    · exact ⟨0, rfl⟩
    · rename_i b _ _; exact ⟨b, rfl⟩
  · exact ⟨0, rfl⟩
theorem byte_cons (b : UInt8) (r : List UInt8) (k : Nat) : (InS.mk (b :: r) k 0).byte = (b.toNat, ⟨r, k + 1, 0⟩) := rfl
theorem byte_bad {x : InS} (h : x.err ≠ 0) : x.byte = (0, x) := by unfold InS.byte; rw [if_neg h]
theorem byte_ok {x : InS} (h : x.byte.2.err = 0) : x.err = 0 ∧ x.rest = UInt8.ofNat x.byte.1 :: x.byte.2.rest := by
  obtain ⟨rest, read, err⟩ := x
  by_cases e : err = 0
  · subst e
    cases rest with
    | nil => cases h
    | cons b r => rw [byte_cons]; exact ⟨rfl, by rw [UInt8.ofNat_toNat]⟩
  · rw [byte_bad e] at h; exact absurd h e
theorem set_take_succ (l : List UInt8) (j : Nat) (v : UInt8) (h : j < l.length) : (l.set j v).take (j + 1) = l.take j ++ [v] := by
  rw [List.take_succ_eq_append_getElem (by simpa using h), List.getElem_set_self, List.take_set_of_le (Nat.le_refl j)]
theorem tagS_back (t r : List UInt8) (k : Nat) (ht : t.length = 32) : ∀ n, n ≤ 32 → (tagS ⟨t ++ r, k, 0⟩ n).1 = ⟨t.drop n ++ r, k + n, 0⟩ ∧ (tagS ⟨t ++ r, k, 0⟩ n).2.take n = t.take n
  | 0, _ => ⟨rfl, rfl⟩
  | n + 1, h => by
    obtain ⟨h1, h2⟩ := tagS_back t r k ht n (by omega)
    have hd : t.drop n = t[n] :: t.drop (n + 1) := List.drop_eq_getElem_cons (by omega)
    have hl := tagS_len ⟨t ++ r, k, 0⟩ n
    rw [tagS_succ, h1, hd, List.cons_append, byte_cons]
    refine ⟨rfl, ?_⟩
    rw [set_take_succ _ _ _ (by omega), h2, UInt8.ofNat_toNat, List.take_succ_eq_append_getElem (by omega)]
theorem tagS_only {x : InS} : ∀ n, n ≤ 32 → (tagS x n).1.err = 0 → x.err = 0 ∧ x.rest = (tagS x n).2.take n ++ (tagS x n).1.rest
  | 0, _, h => ⟨h, rfl⟩
  | n + 1, hn, h => by
    rw [tagS_succ] at h ⊢
    obtain ⟨e1, e2⟩ := byte_ok h
    obtain ⟨h1, h2⟩ := tagS_only n (by omega) e1
    have hl := tagS_len x n
    refine ⟨h1, ?_⟩
    rw [set_take_succ _ _ _ (by omega), h2, e2]
    simp
theorem nums_back (x : Env) (h : rightEnv x) (r : List UInt8) : ∃ k, numsS (numL x.k ++ (numL x.b.toNat ++ (numL x.n.toNat ++ (textL x.d ++ r)))) = ⟨x.k, x.b.toNat, x.n.toNat, x.d, ⟨r, k, 0⟩⟩ := by
  obtain ⟨h1, h2, _⟩ := h
  have hb := x.b.toNat_lt
  have hn := x.n.toNat_lt
  unfold numsS
  simp only
  rw [most_num h1 (by omega)]
  simp only
  rw [most_num (by omega) (by omega)]
  simp only
  rw [most_num (by unfold maxU; omega) (by omega)]
  simp only
  rw [text_text h2 (by omega)]
  exact ⟨_, rfl⟩
theorem read_env (x : Env) (h : rightEnv x) (r : List UInt8) : readS (envB x ++ r) = if r = [] then (x, 0) else (zeroE, 8) := by
  have e : envB x ++ r = numL x.k ++ (numL x.b.toNat ++ (numL x.n.toNat ++ (textL x.d ++ (x.t ++ r)))) := by unfold envB; simp only [List.append_assoc]
  obtain ⟨k, hk⟩ := nums_back x h (x.t ++ r)
  obtain ⟨t1, t2⟩ := tagS_back x.t r k h.2.2 32 (Nat.le_refl _)
  have hl := tagS_len ⟨x.t ++ r, k, 0⟩ 32
  rw [List.take_of_length_le (by omega), List.take_of_length_le (by have := h.2.2; omega)] at t2
  rw [List.drop_eq_nil_of_le (by have := h.2.2; omega), List.nil_append] at t1
  unfold readS
  rw [e, hk]
  simp only
  rw [t1, t2]
  by_cases hr : r = []
  · subst hr
    have hf : (InS.mk [] (k + 32) 0).fin = 0 := rfl
    rw [if_pos rfl, if_pos hf, UInt32.ofNat_toNat, UInt64.ofNat_toNat]
  · have hf : (InS.mk r (k + 32) 0).fin = 8 := by unfold InS.fin; rw [if_pos rfl, if_neg (by simpa using hr)]
    rw [if_neg hr, hf, if_neg (by decide)]
theorem read_envonly {s : List UInt8} (h : (readS s).2 = 0) : s = envB (readS s).1 ∧ rightEnv (readS s).1 := by
  obtain ⟨⟨a, x1⟩, e1⟩ : ∃ R, R = (InS.mk s 0 0).most 1048576 := ⟨_, rfl⟩
  obtain ⟨⟨b, x2⟩, e2⟩ : ∃ R, R = x1.most 4294967295 := ⟨_, rfl⟩
  obtain ⟨⟨c, x3⟩, e3⟩ : ∃ R, R = x2.most maxU := ⟨_, rfl⟩
  obtain ⟨⟨d, x4⟩, e4⟩ : ∃ R, R = x3.text 8192 := ⟨_, rfl⟩
  have en : numsS s = ⟨a, b, c, d, x4⟩ := by unfold numsS; simp only [← e1, ← e2, ← e3, ← e4]
  have g := fun h => tagS_only (x := x4) 32 (Nat.le_refl _) h
  have hl := tagS_len x4 32
  obtain ⟨⟨x5, t⟩, e5⟩ : ∃ R, R = tagS x4 32 := ⟨_, rfl⟩
  rw [← e5] at g hl
  simp only at g hl
  have er : readS s = if x5.fin = 0 then (⟨a, UInt32.ofNat b, UInt64.ofNat c, d, t⟩, 0) else (zeroE, x5.fin) := by unfold readS; simp only [en, ← e5]
  rw [er] at h ⊢
  by_cases e : x5.fin = 0
  · rw [if_pos e]
    simp only
    have he : x5.err = 0 ∧ x5.rest = [] := by
      unfold InS.fin at e
      by_cases q1 : x5.err = 0
      · rw [if_pos q1] at e
        refine ⟨q1, ?_⟩
        by_cases q2 : x5.rest.length = 0
        · simpa using q2
        · rw [if_neg q2] at e; cases e
      · rw [if_neg q1] at e; exact absurd e q1
    obtain ⟨g1, g2⟩ := g he.1
    rw [he.2, List.append_nil, List.take_of_length_le (by omega)] at g2
    have f3 : x3.err = 0 := text_err0 (m := 8192) (by rw [← e4]; exact g1)
    have f2 : x2.err = 0 := most_err0 (m := maxU) (by rw [← e3]; exact f3)
    have f1 : x1.err = 0 := most_err0 (m := 4294967295) (by rw [← e2]; exact f2)
    obtain ⟨a1, a2⟩ := most_ok e1.symm rfl f1
    obtain ⟨b1, b2⟩ := most_ok e2.symm f1 f2
    obtain ⟨c1, c2⟩ := most_ok e3.symm f2 f3
    obtain ⟨d1, d2⟩ := text_ok e4.symm f3 g1
    rw [maxU_eq] at c2
    refine ⟨?_, a2, d2, hl⟩
    unfold envB
    simp only
    rw [UInt32.toNat_ofNat', UInt64.toNat_ofNat', Nat.mod_eq_of_lt (by omega), Nat.mod_eq_of_lt (by omega), ← g2, ← d1, ← c1, ← b1]
    exact a1
  · rw [if_neg e] at h; exact absurd h e
end TL
end Go

/- Plain: what a ring computes: its keys, what it wraps and opens. No program in this text. Conditions: lengths. -/
namespace Go
namespace TL
def ringT : List UInt8 := [114, 105, 110, 103]
def ringU (m : List UInt8) (u : UInt64) : List UInt8 := macL m (ringT ++ bigB u 8)
def ringK (m : List UInt8) (k : Nat) : List UInt8 := ringU m (w64 (k : Int))
theorem ringK_len (m : List UInt8) (k : Nat) : (ringK m k).length = 32 := macL_length _ _
structure RingS where
  m : List UInt8
  c : Nat
  b : UInt32
  n : UInt64
def RingS.env (R : RingS) (about text : List UInt8) : Env :=
  ⟨R.c, R.b, R.n, sealL (ringK R.m R.c) R.b R.n text, tagL (ringK R.m R.c) R.c R.b R.n about (sealL (ringK R.m R.c) R.b R.n text)⟩
def openL (m : List UInt8) (c : Nat) (s about : List UInt8) : List UInt8 × Nat :=
  if (readS s).2 ≠ 0 then ([], (readS s).2) else if c < (readS s).1.k then ([], 20) else
    if (readS s).1.t = tagL (ringK m (readS s).1.k) (readS s).1.k (readS s).1.b (readS s).1.n about (readS s).1.d then (sealL (ringK m (readS s).1.k) (readS s).1.b (readS s).1.n (readS s).1.d, 0) else ([], 13)
theorem RingS.env_right {R : RingS} (about text : List UInt8) (hc : R.c ≤ 1048576) (ht : text.length ≤ 8192) : rightEnv (R.env about text) :=
  ⟨hc, by show (sealL _ _ _ _).length ≤ 8192; unfold sealL; rw [streamL_len]; exact ht, macL_length _ _⟩
theorem RingS.env_bytes (R : RingS) (about text : List UInt8) :
    headL R.c R.b R.n ++ (textL (sealL (ringK R.m R.c) R.b R.n text) ++ tagL (ringK R.m R.c) R.c R.b R.n about (sealL (ringK R.m R.c) R.b R.n text)) = envB (R.env about text) := by
  unfold headL envB RingS.env; simp only [List.append_assoc]
theorem envB_length {x : Env} (h : rightEnv x) : (envB x).length ≤ 8600 := by
  obtain ⟨k, b, n, d, t⟩ := x
  obtain ⟨h1, h2, h3⟩ := h
  simp only at h1 h2 h3
  have e : envB ⟨k, b, n, d, t⟩ = headL k b n ++ (textL d ++ t) := by unfold headL envB; simp only [List.append_assoc]
  rw [e]
  have a1 := headL_len k b n (by omega)
  have a2 : (textL d).length ≤ 8210 := by unfold textL; have := numL_length_le d.length (by omega); simp; omega
  simp only [List.length_append]; omega
theorem RingS.read {R : RingS} (about text : List UInt8) (hc : R.c ≤ 1048576) (ht : text.length ≤ 8192) : readS (envB (R.env about text)) = (R.env about text, 0) := by
  have h := read_env (R.env about text) (RingS.env_right about text hc ht) []
  rw [List.append_nil, if_pos rfl] at h
  exact h
theorem openL_ok {R : RingS} (about text : List UInt8) (hc : R.c ≤ 1048576) (ht : text.length ≤ 8192) {c : Nat} (h : R.c ≤ c) : openL R.m c (envB (R.env about text)) about = (text, 0) := by
  unfold openL
  rw [RingS.read about text hc ht]
  simp only
  rw [if_neg (by simp), if_neg (by show ¬ c < R.c; omega)]
  have e : sealL (ringK R.m R.c) R.b R.n (sealL (ringK R.m R.c) R.b R.n text) = text := streamL_twice _ _ _
  show (if tagL (ringK R.m R.c) R.c R.b R.n about (sealL (ringK R.m R.c) R.b R.n text) = tagL (ringK R.m R.c) R.c R.b R.n about (sealL (ringK R.m R.c) R.b R.n text) then (sealL (ringK R.m R.c) R.b R.n (sealL (ringK R.m R.c) R.b R.n text), 0) else ([], 13)) = (text, 0)
  rw [if_pos rfl, e]
theorem openL_bad {m : List UInt8} {c : Nat} {s about : List UInt8} (h : (readS s).2 ≠ 0) : openL m c s about = ([], (readS s).2) := by
  unfold openL; rw [if_pos h]
theorem openL_far {m : List UInt8} {c : Nat} {s about : List UInt8} (h : (readS s).2 = 0) (hk : c < (readS s).1.k) : openL m c s about = ([], 20) := by
  unfold openL; rw [if_neg (by simpa using h), if_pos hk]
theorem openL_len (m : List UInt8) (c : Nat) (s about : List UInt8) : (openL m c s about).1.length ≤ 8192 := by
  unfold openL
  split
  · simp
  split
  · simp
  split
  · rename_i h _ _
    have hr := (read_envonly (s := s) (by simpa using h)).2.2.1
    show (sealL _ _ _ _).length ≤ 8192
    unfold sealL; rw [streamL_len]; exact hr
  · simp
end TL
end Go

/- The walks of ring.putBig, ring.Key and of a ring's key, made when it is first asked for. Conditions: the key's number, the master's length. -/
namespace Go
namespace TL
abbrev ringC (R : RingS) (gm : Nat) : List Value := [.string (mkS R.m), .int .i64 R.c, .int .u32 (I32 R.b), .int .u64 (I64 R.n), .map (some gm)]
def slotR (m : List UInt8) (x : Int × Nat) : Chunk := .row x.2 (onceR 1 0 (bs (ringU m (w64 x.1))))
def keysC (m : List UInt8) (gm : Nat) (l : List (Int × Nat)) : Chunk := grp [.blk gm (mapO l), grp (l.map (slotR m))]
def IsKeys (m : List UInt8) (gm : Nat) (K : Chunk) : Prop := ∃ l, K = keysC m gm l
theorem keys_join {m : List UInt8} {gm go : Nat} {l : List (Int × Nat)} {i : Int} {F : List Nat} {w0 w : World} {x1 x2 x3 x4 : Chunk} (M : Mem F w0 w [.row go (onceR 1 0 (bs (ringU m (w64 i)))), x1, x2, x3, x4, .blk gm (mapO (l ++ [(i, go)])), grp (l.map (slotR m))]) :
    Mem F w0 w [.blk gm (mapO (l ++ [(i, go)])), grp ((l ++ [(i, go)]).map (slotR m))] := by
  have M1 : Mem F w0 w [grp (l.map (slotR m)), .row go (onceR 1 0 (bs (ringU m (w64 i)))), .blk gm (mapO (l ++ [(i, go)]))] :=
    M.pick _ (fun i => if i = 0 then 6 else if i = 1 then 0 else 5) (by intro i j hi hj; simp at hi hj; rcases (by omega : i = 0 ∨ i = 1 ∨ i = 2) with rfl | rfl | rfl <;> rcases (by omega : j = 0 ∨ j = 1 ∨ j = 2) with rfl | rfl | rfl <;> simp) (by
      intro i c h
      match i, h with
      | 0, h => simpa using h
      | 1, h => simpa using h
      | 2, h => simpa using h)
  have M2 := (M1.opened rfl).shut ((l ++ [(i, go)]).map (slotR m)) [.blk gm (mapO (l ++ [(i, go)]))] (by simp [slotR])
  exact M2.pick _ (fun i => 1 - i) (by intro i j hi hj h; simp at hi hj; omega) (by
      intro i c h
      match i, h with
      | 0, h => simpa using h
      | 1, h => simpa using h)
section
variable {P : Program} {ops : Array Oper} {rest : List Oper} {o : Oper} {a : Act} {w w0 : World} {Q : Exit → Act → World → Prop} {g : Nat}
theorem w_okA {cs : List Value} (R' : (Chunk.row g cs).ok w) (t : TypeId) (x : Operand) (ho : o.op = .load t x) {off : Nat} (hx : a.eval x = .pointer (some ⟨g, off, none⟩)) (hw : Region.wanted o (yielded ops a.tmps) = true)
    (ht : rowT P t = true) (pre mid post : List Value) (hcs : cs = pre ++ (mid ++ post)) (hpre : pre.length = off) (hn : (P.info? t).map (·.size) = some mid.length) (h : wpList P ops Q rest (a.put o.dst (.agg mid.toArray)) w) : wpList P ops Q (o :: rest) a w := by
  exact wpW hw fun _ hK => by
    unfold rowT at ht
    cases hu : P.underlying t with
    | none => simp [hu] at ht
    | some d =>
      simp only [hu] at ht
      refine wp_load_mid t x ho g off hx mid d ?_ hu ht hn (hK _ _ h)
      intro j v hv
      have hj : j < mid.length := (List.getElem?_eq_some_iff.1 hv).1
      refine rowCell R' ?_
      rw [hcs, ← hpre, List.getElem?_append_right (by omega), Nat.add_sub_cancel_left, List.getElem?_append_left hj]; exact hv
end
end TL
end Go
namespace Go.Proofs.YtidadhbaomieiaaGreat
open Go.RowKit Go.TL
set_option maxRecDepth 100000 in
set_option maxHeartbeats 400000 in
theorem ringPut (base : Nat) (v : Value) (l : List UInt8) (x : UInt64) (n : Nat) (w : World) (hown : OwnB w base v l) (hbase : base ≤ w.heap.size) (hn : n ≤ 8) (hl : l.length ≤ 1000000000000) :
    Calls Tryz.prog 46 #[v, .int .u64 (I64 x), .int .i64 n] w fun e w' => ∃ v', e = .returned v' ∧ OwnB w' base v' (l ++ bigB x n) ∧ w.grownBy w' v.ownBlock ∧ FreshOr w v v' := by
  go_enter Tryz.func46, Tryz.ntmps46
  go_wp2
  go_loopw [0, 7] (fun b i wr => ∃ (j : Nat) (done : List UInt8), j ≤ n ∧ i = .int .i64 ((j : Int) - 1) ∧ done.length ≤ 8 ∧ done ++ bigB x j = bigB x n ∧ OwnB wr base b (l ++ done) ∧ w.grownBy wr v.ownBlock ∧ FreshOr w v b) (fun _ i _ => (intOf i + 1).toNat)
  case atStart => exact ⟨n, [], by omega, rfl, by simp, rfl, by simpa using hown, grownBy_refl _ _, .inl rfl⟩
  case round =>
    obtain ⟨j, done, hj, rfl, hd, H, ho, hg, hf⟩ := hrel
    have H' := Lib.hid H; clear H
    have ho' := Lib.hid ho; clear ho
    have hg' := Lib.hid hg; clear hg
    have hf' := Lib.hid hf; clear hf
    cases j with
    | zero =>
      go_wp2
      go_ret
      have hx : done = bigB x n := by have := H'.out; simpa [bigB] using this
      subst hx
      exact ⟨_, rfl, ho'.out, hg'.out, hf'.out⟩
    | succ i =>
      have e : ((i + 1 : Nat) : Int) - 1 = i := by omega
      rw [e]; clear e
      have b1 : 8 * (i : Int) ≤ 63 := by omega
      have b0 : 0 ≤ 8 * (i : Int) := by omega
      go_wp2_with (at_builtin; refine wpList_append_new bytesT rfl (.tmp 14) (.tmp 20) rfl base wr [_] _ _ rfl u0 (l ++ done) rfl ho'.out rfl ?_ ?_ ?_)
      · simp; omega
      · have := hg'.out.size; omega
      · intro v' w1 hown1 hg1 hf1
        have hg2 := Lib.hid (grow_step hg'.out hf'.out hg1)
        have hf2 := Lib.hid (fresh_trans hg'.out.size hf'.out hf1)
        have hown2 := Lib.hid hown1
        clear hown1 hg1 hf1
        go_wp2
        go_roundw
        case rel => exact ⟨i, done ++ [(x >>> (8 * UInt64.ofNat i)).toUInt8], by omega, by go_num, by have := bigB_length x n; rw [← H'.out] at this; simp [bigB, bigB_length] at this ⊢; omega, by rw [← H'.out]; simp [bigB], hown2.out, hg2.out, hf2.out⟩
        case measure => simp [intOf]
theorem ringPutc (v : Value) (l : List UInt8) (x : UInt64) (n : Nat) (w : World) (hok : (Chunk.sl 1 v l.length (bs l)).ok w) (hn : n ≤ 8) (hl : l.length ≤ 1000000000000) :
    Calls Tryz.prog 46 #[v, .int .u64 (I64 x), .int .i64 n] w fun e w' => ∃ p cap, e = .returned (.slice p (l ++ bigB x n).length cap) ∧ Upd w (.sl 1 v l.length (bs l)) w' (.sl 1 (.slice p (l ++ bigB x n).length cap) (l ++ bigB x n).length (bs (l ++ bigB x n))) :=
  (ringPut 0 v l x n w hok (Nat.zero_le _) hn hl).mono fun e w' h => by
    obtain ⟨v', rfl, ho, hg, hf⟩ := h
    obtain ⟨p, cap, rfl⟩ := Own.form0 ho
    refine ⟨p, cap, rfl, Kept.grown hg, ho, fun k hk => ?_⟩
    simp only [Chunk.fp, Option.mem_toList] at hk ⊢
    rcases hf with hf | ⟨g, h1, h2⟩
    · exact .inl (by rw [← hf]; exact hk)
    · rw [h1] at hk; cases hk; exact .inr h2
set_option maxRecDepth 100000 in
set_option maxHeartbeats 2000000 in
theorem ringKey_c (m : List UInt8) (i : Int) (w : World) (hm : m.length ≤ 1000000) :
    Calls Tryz.prog 21 #[.string (mkS m), .int .i64 i] w fun e w' => e = .returned (.agg (bs (ringU m (w64 i))).toArray) ∧ Below w.heap.size w w' := by
  have M := Mem.start [] w
  have A1 := fun v (w : World) hok => ringPutc v ringT (w64 i) 8 w hok (by omega) (by decide)
  have TC := fun w => Tag_c m (ringT ++ bigB (w64 i) 8) w (by omega) (by rw [List.length_append, bigB_length]; decide)
  have hl : (ringT ++ bigB (w64 i) 8).length = 12 := by rw [List.length_append, bigB_length]; rfl
  have SE : ringU m (w64 i) = macL m (ringT ++ bigB (w64 i) 8) := rfl
  have hr : (macL m (ringT ++ bigB (w64 i) 8)).length = 32 := macL_len _ _
  obtain ⟨r, er⟩ : ∃ r, r = macL m (ringT ++ bigB (w64 i) 8) := ⟨_, rfl⟩
  rw [← er] at SE TC hr
  rw [SE]
  obtain ⟨q, eq⟩ : ∃ q, q = ringT ++ bigB (w64 i) 8 := ⟨_, rfl⟩
  rw [← eq] at TC A1 hl
  have A2 : ∀ (v : Value) (w : World), (Chunk.sl 1 v 4 (bs [114, 105, 110, 103])).ok w → Calls Tryz.prog 46 #[v, .int .u64 (I64 (w64 i)), .int .i64 8] w fun e w' => ∃ p cap, e = .returned (.slice p q.length cap) ∧ Upd w (.sl 1 v 4 (bs [114, 105, 110, 103])) w' (.sl 1 (.slice p q.length cap) q.length (bs q)) := A1
  replace A2 := Lib.hid A2
  replace TC := Lib.hid TC
  clear er eq A1 SE
  clear hl
  go_enter Tryz.func21, Tryz.ntmps21
  go_wp2_with ((first | ((with_reducible refine tAlloc (some 4) 50 ?_); refine w_alloc M _ rfl rfl (.agg (Array.replicate 32 (.int .u8 0))) (bs (List.replicate 32 (0 : UInt8))) (by kernel_rfl) rfl ?_; clear M; intro gr w1 M) | ((with_reducible show wpList _ _ _ (Oper.mk _ (Op.buildSlice 70 4 _) _ _ _ _ :: _) _ _); go_must (refine w_lit4 bytesT (b0 := 114) (b1 := 105) (b2 := 110) (b3 := 103) _ _ _ _ rfl rfl rfl rfl rfl rfl ?_; intro g wm eg ew; replace eg := Lib.hid eg; replace ew := Lib.hid ew)) | ((with_reducible show wpList _ _ _ (Oper.mk _ (Op.convert 70 70 _) _ _ _ _ :: _) _ _); go_must (refine w_mark (l := [114, 105, 110, 103]) M eg.out ew.out _ rfl rfl Tryz.underlying70 Tryz.underlying5 rfl (by decide) rfl ?_; clear M eg ew; intro w1 M)) | (go_at_call 46; go_must (with_reducible refine (A2.out _ _ (M.ok 0 _ rfl)).mono ?_; rintro e w1 ⟨p1, c1, rfl, U⟩; replace M := M.upd 0 rfl U; clear U; simp only [List.set_cons_zero] at M)) | (go_at_call 47; go_must (refine (TC.out _).mono ?_; rintro e w1 ⟨rfl, hb⟩; replace M := M.call hb; clear hb)) | ((with_reducible refine tGuard ?_); first | refine gdS ?_ | (refine gdC ?_ ?_ <;> (intro hgd; rw [hgd]; try (exfalso; simp at hgd; omega)))) | ((with_reducible refine tConv _ 70 9 ?_); go_must (refine cvB ?_)) | ((with_reducible refine tLoad ?_); go_must (refine ldB ?_)) | ((with_reducible refine tStore ?_); go_must (refine stB ?_; clear M; intro w1 M; (try simp only [setC] at M))) | ((with_reducible refine tBox _ ?_); (refine bxA M ?_; clear M; intro g w1 M))) <;> (try conv => arg 5; simp only [Act.put, List.setIfInBounds_toArray, setC]))
  exact bodyPost_ret (results_row rfl _ _ gr 0 (bs r) _ rfl (M.ok 1 _ rfl).2.1 Tryz.underlying50 rfl (by rw [bs_length, hr]; kernel_rfl)) rfl ⟨rfl, M.below⟩
set_option maxRecDepth 100000 in
set_option maxHeartbeats 2000000 in
theorem key1_c {F : List Nat} {w0 w : World} {R : RingS} {g gm go gs gi gv : Nat} {i : Int} {z : List UInt8} {x : Chunk} {L : List Chunk} (hm : R.m.length ≤ 1000000) (RR : (Chunk.row g (ringC R gm)).ok w0) (nR : g ∉ F) (hz : z.length = 32)
    (M : Mem F w0 w (.row go (onceR 0 1 (bs z)) :: .row gs [.pointer (some ⟨go, 0, none⟩)] :: x :: .row gi [.int .i64 i] :: .row gv [.pointer (some ⟨g, 0, none⟩)] :: L)) :
    Calls Tryz.prog 78 #[.pointer (some ⟨gv, 0, none⟩), .pointer (some ⟨gi, 0, none⟩), .pointer (some ⟨gs, 0, none⟩)] w fun e w' => e = .returned (.tuple #[]) ∧ Mem F w0 w' (.row go (onceR 0 1 (bs (ringU R.m (w64 i)))) :: .row gs [.pointer (some ⟨go, 0, none⟩)] :: x :: .row gi [.int .i64 i] :: .row gv [.pointer (some ⟨g, 0, none⟩)] :: L) := by
  have KC := fun w => ringKey_c R.m i w hm
  have hr : (ringU R.m (w64 i)).length = 32 := macL_len _ _
  obtain ⟨r, er⟩ : ∃ r, r = ringU R.m (w64 i) := ⟨_, rfl⟩
  rw [← er] at KC hr ⊢
  replace KC := Lib.hid KC
  clear er
  go_enter Tryz.func78, Tryz.ntmps78
  go_wp2_with ((first | ((with_reducible show Code.wp _ (Code.region 0 _ _) _ _ _); go_must (have MR := M; refine region_lowc [(0, false), (1, false), (2, false), (3, false), (4, false), (5, false), (6, true), (7, true), (8, false), (9, true)] [(4, .ptr)] [(0, _), (1, _), (4, _), (5, _)] (IxOk MR [1, 4, 3]) 9 (by kernel_rfl) (by kernel_rfl) rfl (by kernel_rfl) (lowA MR 1 0 (lowA MR 4 0 (lows_cons (stab_rowF MR RR nR 0 rfl (by decide +kernel) rfl) (lowA MR 3 0 lows_nil)))) (ixOk_self MR _) ?_; replace M := M.drew; simp only [planC, opAt, List.getElem?_toArray, List.getElem?_cons_zero, List.getElem?_cons_succ, Option.getD_some])) | (go_at_call 21; go_must (refine (KC.out _).mono ?_; rintro e w1 ⟨rfl, hb⟩; replace M := M.call hb; clear hb)) | ((with_reducible show wpList _ _ _ (Oper.mk _ (Op.store 50 _ _) _ _ _ _ :: _) _ _); go_must (refine w_storeA M 0 _ _ _ rfl rfl rfl rfl (bs r) rfl rfl (by rw [bs_length, hr]; kernel_rfl) (bs_one r) [.int .u32 0, .int .i32 1, .int .u32 0] (bs z) [] (by simp) rfl (by rw [bs_length, bs_length, hr, hz]) ?_; clear M; intro w1 M; simp only [setC, List.append_nil, List.cons_append, List.nil_append] at M)) | ((with_reducible refine tLoad ?_); refine w_at _ _ rfl (by exact ev_tmp rfl) ?_; intro hx; (first | refine w_rowF M RR nR _ _ rfl hx rfl (by decide +kernel) (by exact rfl) ?_); clear hx) | ((with_reducible show Seg _ _ _ _); go_must (first | refine Seg.intro ⟨fun h => absurd rfl h, ?_⟩ | refine Seg.intro ⟨fun _ => ixA, ?_⟩ | refine Seg.intro ⟨ndA, atA, ?_⟩)) | ((with_reducible show OnlyN _ _ _ _ _); refine OnlyN.intro (by kernel_rfl) ?_) | ((with_reducible refine tGuard ?_); first | refine gdS ?_ | (refine gdC ?_ ?_ <;> (intro hgd; rw [hgd]; try (exfalso; simp at hgd; omega)))) | fail | ((with_reducible refine tLoad ?_); go_must (refine ldS ?_)) | ((with_reducible refine tStore ?_); go_must (refine stS ?_; clear M; intro w1 M; (try simp only [setC] at M))) | ((with_reducible refine tBox _ ?_); (refine bxA M ?_; clear M; intro g w1 M))) <;> (try conv => arg 5; simp only [Act.put, List.setIfInBounds_toArray, setC]))
  exact bodyPost_end (results_none rfl _ _ _) rfl ⟨rfl, M⟩
end Go.Proofs.YtidadhbaomieiaaGreat

/- The walk of a ring's key, made when it is first asked for. Conditions: the master's length. -/
namespace Go.Proofs.YtidadhbaomieiaaGreat
open Go.RowKit Go.TL
set_option maxRecDepth 100000 in
set_option maxHeartbeats 4000000 in
theorem ringkey_c (R : RingS) (g gm : Nat) (K : Chunk) (i : Int) (w : World) (hm : R.m.length ≤ 1000000) (RR : (Chunk.row g (ringC R gm)).ok w) (nR : g ∉ K.fp) (hK : K.ok w) (IK : IsKeys R.m gm K) :
    Calls Tryz.prog 40 #[.pointer (some ⟨g, 0, none⟩), .int .i64 i] w fun e w' => e = .returned (.agg (bs (ringU R.m (w64 i))).toArray) ∧ ∃ K', IsKeys R.m gm K' ∧ Upd w K w' K' := by
  obtain ⟨l, rfl⟩ := IK
  have M : Mem (keysC R.m gm l).fp w w [.blk gm (mapO l), grp (l.map (slotR R.m))] := Mem.startG hK
  have hmf : ∀ (fn : Fn) (first cap : Array Value) (w : World), (Instr.makeFunc fn first cap).run Tryz.prog w = .ok (.func fn first cap) w := fun _ _ _ _ => rfl
  have hr : (ringU R.m (w64 i)).length = 32 := macL_len _ _
  obtain ⟨F, eF⟩ : ∃ F, F = (keysC R.m gm l).fp := ⟨_, rfl⟩
  rw [← eF] at M nR
  have EF := Lib.hid fun _ : Unit => eF
  have hz0 : (List.replicate 32 (0 : UInt8)).length = 32 := List.length_replicate
  clear eF hK
  cases hl : lookP l i with
  | none =>
    have HL := Lib.hid hl
    clear hl
    have KU : ∀ (w' : World) (go : Nat) (x1 x2 x3 x4 : Chunk), Mem F w w' [.row go (onceR 1 0 (bs (ringU R.m (w64 i)))), x1, x2, x3, x4, .blk gm (mapO (l ++ [(i, go)])), grp (l.map (slotR R.m))] → ∃ K', IsKeys R.m gm K' ∧ Upd w (keysC R.m gm l) w' K' := by
      intro w' go x1 x2 x3 x4 M
      rw [EF.out ()] at M
      exact ⟨keysC R.m gm (l ++ [(i, go)]), ⟨_, rfl⟩, (keys_join M).updG [] rfl⟩
    replace KU := Lib.hid KU
    clear EF
    go_enter Tryz.func40, Tryz.ntmps40
    go_wp2_with ((first | ((with_reducible refine tBox (some 2) ?_); refine w_box M _ _ rfl rfl _ rfl ([.pointer (some ⟨g, 0, none⟩)]) rfl ?_; clear M; intro gv w1 M) | ((with_reducible refine tBox (some 3) ?_); refine w_box M _ _ rfl rfl _ rfl ([.int .i64 i]) rfl ?_; clear M; intro gi w1 M) | ((with_reducible refine tAlloc (some 4) 50 ?_); refine w_alloc M _ rfl rfl (.agg (Array.replicate 32 (.int .u8 0))) (bs (List.replicate 32 (0 : UInt8))) (by kernel_rfl) rfl ?_; clear M; intro gt w1 M) | ((with_reducible refine tAlloc (some 5) 140 ?_); refine w_alloc M _ rfl rfl (.pointer none) ([.pointer none]) (by kernel_rfl) rfl ?_; clear M; intro gs w1 M) | ((with_reducible refine tBox (some 19) ?_); refine w_box M _ _ rfl rfl _ rfl (onceR 0 0 (bs (List.replicate 32 0))) rfl ?_; clear M; intro go w1 M) | ((with_reducible show Code.wp _ (Code.region 1 _ _) _ _ _); go_must (have MR := M; refine region_fork (.rd 0 (.rd 1 (.rd 2 (.rd 3 (.rd 4 (.alt 5 (.rd 6 (.rd 7 (.rd 8 (.wr 9 (.wr 10 (.rd 11 .nil)))))) (.wr 9 (.wr 5 (.rd 6 (.rd 7 (.rd 8 (.wr 10 (.rd 11 .nil))))))))))))) [(8, .ptr)] [(0, _), (3, _), (4, _)] (IxOk MR [2, 1]) 12 (by kernel_rfl) (by kernel_rfl) rfl (by kernel_rfl) (lowA MR 2 0 (lows_cons (stab_rowF MR RR nR 4 rfl (by decide +kernel) rfl) (lowA MR 1 0 lows_nil))) (ixOk_self MR _) ?_; replace M := M.drew; simp only [planT, opAt, List.getElem?_toArray, List.getElem?_cons_zero, List.getElem?_cons_succ, Option.getD_some])) | ((with_reducible show Code.wp _ (Code.region 4 _ _) _ _ _); go_must (have MR := M; refine region_lowc [(0, false), (1, false), (2, false), (3, false), (4, false), (5, false), (6, true)] [(20, .ptr)] [(0, _), (3, _), (4, _), (5, _)] (IxOk MR [4, 3, 1]) 6 (by kernel_rfl) (by kernel_rfl) rfl (by kernel_rfl) (lowA MR 4 0 (lows_cons (stab_rowF MR RR nR 4 rfl (by decide +kernel) rfl) (lowA MR 3 0 (lowA MR 1 0 lows_nil)))) (ixOk_self MR _) ?_; replace M := M.drew; simp only [planC, opAt, List.getElem?_toArray, List.getElem?_cons_zero, List.getElem?_cons_succ, Option.getD_some])) | ((with_reducible show wpList _ _ _ (Oper.mk _ (Op.lookup _ _ _ true) _ _ _ _ :: _) _ _); go_must (first | refine w_lookNo M 3 _ _ _ rfl rfl Tryz.underlying88 Tryz.underlying3 (by kernel_rfl) rfl rfl rfl HL.out ?_ | refine w_lookNo M 4 _ _ _ rfl rfl Tryz.underlying88 Tryz.underlying3 (by kernel_rfl) rfl rfl rfl HL.out ?_)) | ((with_reducible show wpList _ _ _ (Oper.mk _ (Op.mapUpdate _ _ _ _) _ _ _ _ :: _) _ _); go_must (refine w_mapNew M 5 _ _ _ _ rfl rfl Tryz.underlying88 Tryz.underlying3 rfl rfl rfl rfl HL.out ?_; clear M; intro w1 M; simp only [setC] at M)) | (go_at_call 77; go_must (refine (do_first M (fun w1 M1 => key1_c hm RR nR hz0 M1)).mono ?_; rintro e w1 ⟨rfl, M2⟩; replace M := M2; clear M2)) | ((with_reducible show wpList _ _ _ (Oper.mk _ (Op.load 50 _) _ _ _ _ :: _) _ _); go_must (refine w_loadA M 0 _ _ rfl rfl rfl rfl (by decide +kernel) [.int .u32 1, .int .i32 0, .int .u32 0] (bs (ringU R.m (w64 i))) [] (by simp) rfl (by rw [bs_length, hr]; kernel_rfl) ?_)) | ((with_reducible refine tLoad ?_); refine w_at _ _ rfl (by exact ev_tmp rfl) ?_; intro hx; (first | refine w_rowF M RR nR _ _ rfl hx rfl (by decide +kernel) (by exact rfl) ?_); clear hx) | (with_reducible refine Seg.alt ?_ ?_) | ((with_reducible show Seg _ _ _ _); go_must (first | refine Seg.intro ⟨fun h => absurd rfl h, ?_⟩ | refine Seg.intro ⟨fun _ => ixA, ?_⟩ | refine Seg.intro ⟨ndA, atA, ?_⟩)) | ((with_reducible show OnlyN _ _ _ _ _); refine OnlyN.intro (by kernel_rfl) ?_) | ((with_reducible refine tGuard ?_); first | refine gdS ?_ | (refine gdC ?_ ?_ <;> (intro hgd; rw [hgd]; try (exfalso; simp at hgd; omega)))) | ((with_reducible refine tConv _ 70 9 ?_); go_must (refine cvB ?_)) | ((with_reducible refine tLoad ?_); go_must (refine ldB ?_)) | ((with_reducible refine tStore ?_); go_must (refine stB ?_; clear M; intro w1 M; (try simp only [setC] at M))) | ((with_reducible refine tBox _ ?_); (refine bxA M ?_; clear M; intro g w1 M))) <;> (try conv => arg 5; simp only [Act.put, List.setIfInBounds_toArray, setC]))
    all_goals exact bodyPost_ret (results_row rfl _ _ gt 0 (bs (ringU R.m (w64 i))) _ rfl (M.ok 2 _ rfl).2.1 Tryz.underlying50 rfl (by rw [bs_length, hr]; kernel_rfl)) rfl ⟨rfl, KU.out _ _ _ _ _ _ M⟩
  | some go =>
    obtain ⟨j, hj⟩ := lookP_mem hl
    have SO : ∀ (w' : World) (L : List Chunk) (n : Nat), Mem F w w' L → L[n]? = some (grp (l.map (slotR R.m))) → (Chunk.row go (onceR 1 0 (bs (ringU R.m (w64 i))))).ok w' := fun w' L n M h => (M.ok n _ h).2.1.1 j _ (by rw [List.getElem?_map, hj]; rfl)
    replace SO := Lib.hid SO
    have HL := Lib.hid hl
    clear hl hj
    have KU : ∀ (w' : World) (x1 x2 x3 x4 : Chunk), Mem F w w' [x1, x2, x3, x4, .blk gm (mapO l), grp (l.map (slotR R.m))] → ∃ K', IsKeys R.m gm K' ∧ Upd w (keysC R.m gm l) w' K' := by
      intro w' x1 x2 x3 x4 M
      rw [EF.out ()] at M
      exact ⟨keysC R.m gm l, ⟨_, rfl⟩, M.tail.tail.tail.tail.updG [] rfl⟩
    replace KU := Lib.hid KU
    clear EF
    go_enter Tryz.func40, Tryz.ntmps40
    go_wp2_with ((first | ((with_reducible refine tBox (some 2) ?_); refine w_box M _ _ rfl rfl _ rfl ([.pointer (some ⟨g, 0, none⟩)]) rfl ?_; clear M; intro gv w1 M) | ((with_reducible refine tBox (some 3) ?_); refine w_box M _ _ rfl rfl _ rfl ([.int .i64 i]) rfl ?_; clear M; intro gi w1 M) | ((with_reducible refine tAlloc (some 4) 50 ?_); refine w_alloc M _ rfl rfl (.agg (Array.replicate 32 (.int .u8 0))) (bs (List.replicate 32 (0 : UInt8))) (by kernel_rfl) rfl ?_; clear M; intro gt w1 M) | ((with_reducible refine tAlloc (some 5) 140 ?_); refine w_alloc M _ rfl rfl (.pointer none) ([.pointer none]) (by kernel_rfl) rfl ?_; clear M; intro gs w1 M) | ((with_reducible show Code.wp _ (Code.region 1 _ _) _ _ _); go_must (have MR := M; refine region_fork (.rd 0 (.rd 1 (.rd 2 (.rd 3 (.rd 4 (.alt 5 (.rd 6 (.rd 7 (.rd 8 (.wr 9 (.wr 10 (.rd 11 .nil)))))) (.wr 9 (.wr 5 (.rd 6 (.rd 7 (.rd 8 (.wr 10 (.rd 11 .nil))))))))))))) [(8, .ptr)] [(0, _), (3, _), (4, _)] (IxOk MR [2, 1]) 12 (by kernel_rfl) (by kernel_rfl) rfl (by kernel_rfl) (lowA MR 2 0 (lows_cons (stab_rowF MR RR nR 4 rfl (by decide +kernel) rfl) (lowA MR 1 0 lows_nil))) (ixOk_self MR _) ?_; replace M := M.drew; simp only [planT, opAt, List.getElem?_toArray, List.getElem?_cons_zero, List.getElem?_cons_succ, Option.getD_some])) | ((with_reducible show wpList _ _ _ (Oper.mk _ (Op.lookup _ _ _ true) _ _ _ _ :: _) _ _); go_must (first | refine w_lookYes M 3 _ _ _ rfl rfl Tryz.underlying88 Tryz.underlying3 rfl rfl rfl HL.out ?_ | refine w_lookYes M 4 _ _ _ rfl rfl Tryz.underlying88 Tryz.underlying3 rfl rfl rfl HL.out ?_)) | (go_at_call 77; go_must (refine (do_done (d := 1) (by decide) _ (rowCell (SO.out _ _ 5 M rfl) rfl)).mono ?_; rintro e w1 ⟨rfl, rfl⟩)) | ((with_reducible show wpList _ _ _ (Oper.mk _ (Op.load 50 _) _ _ _ _ :: _) _ _); go_must (refine w_okA (SO.out _ _ 5 M rfl) _ _ rfl rfl rfl (by decide +kernel) [.int .u32 1, .int .i32 0, .int .u32 0] (bs (ringU R.m (w64 i))) [] (by simp) rfl (by rw [bs_length, hr]; kernel_rfl) ?_)) | ((with_reducible refine tLoad ?_); refine w_at _ _ rfl (by exact ev_tmp rfl) ?_; intro hx; (first | refine w_rowF M RR nR _ _ rfl hx rfl (by decide +kernel) (by exact rfl) ?_); clear hx) | (with_reducible refine Seg.alt ?_ ?_) | ((with_reducible show Seg _ _ _ _); go_must (first | refine Seg.intro ⟨fun h => absurd rfl h, ?_⟩ | refine Seg.intro ⟨fun _ => ixA, ?_⟩ | refine Seg.intro ⟨ndA, atA, ?_⟩)) | ((with_reducible show OnlyN _ _ _ _ _); refine OnlyN.intro (by kernel_rfl) ?_) | ((with_reducible refine tGuard ?_); first | refine gdS ?_ | (refine gdC ?_ ?_ <;> (intro hgd; rw [hgd]; try (exfalso; simp at hgd; omega)))) | ((with_reducible refine tConv _ 70 9 ?_); go_must (refine cvB ?_)) | ((with_reducible refine tLoad ?_); go_must (refine ldB ?_)) | ((with_reducible refine tStore ?_); go_must (refine stB ?_; clear M; intro w1 M; (try simp only [setC] at M))) | ((with_reducible refine tBox _ ?_); (refine bxA M ?_; clear M; intro g w1 M))) <;> (try conv => arg 5; simp only [Act.put, List.setIfInBounds_toArray, setC]))
    all_goals exact bodyPost_ret (results_row rfl _ _ gt 0 (bs (ringU R.m (w64 i))) _ rfl (M.ok 1 _ rfl).2.1 Tryz.underlying50 rfl (by rw [bs_length, hr]; kernel_rfl)) rfl ⟨rfl, KU.out _ _ _ _ _ M⟩
end Go.Proofs.YtidadhbaomieiaaGreat

/- The walks of a ring's methods: New, none, Current, Rotate, Count. Conditions: the current key's number. -/
namespace Go.Proofs.YtidadhbaomieiaaGreat
open Go.RowKit Go.TL
def IsRing (g : Nat) (R : RingS) (c : Chunk) : Prop := ∃ gm K, IsKeys R.m gm K ∧ c = grp [.row g (ringC R gm), K]
theorem map_eql_nil {P : Program} {t k e : TypeId} (ht : P.underlying t = some (.map k e)) (g : Nat) (w : World) : (binOp .eql t (.map (some g)) (.map none)).run P w = .ok (.bool false) w := by
  have h : (Op.equalIn (9999 + 1) t (.map (some g)) (.map none)).run P w = .ok false w := by
    unfold Op.equalIn
    simp [run_underlying ht]
  have h' : (Op.equalIn Op.maxDepth t (.map (some g)) (.map none)).run P w = .ok false w := h
  unfold binOp Op.equal
  simp [h']
section
variable {g gm : Nat} {R : RingS} {K c : Chunk} {w : World}
theorem ring_row (h : (grp [.row g (ringC R gm), K]).ok w) : (Chunk.row g (ringC R gm)).ok w := h.2.1.1 0 _ rfl
set_option maxRecDepth 100000 in
set_option maxHeartbeats 2000000 in
theorem ringNone_no (RR : (Chunk.row g (ringC R gm)).ok w) : Calls Tryz.prog 37 #[.pointer (some ⟨g, 0, none⟩)] w fun e w' => e = .returned (.bool false) ∧ w = w' := by
  have M := Mem.start [] w
  have nR : g ∉ ([] : List Nat) := by simp
  have hme := fun g w => map_eql_nil (P := Tryz.prog) Tryz.underlying88 g w
  go_enter Tryz.func37, Tryz.ntmps37
  go_wp2_with ((first | ((with_reducible refine tLoad ?_); refine w_at _ _ rfl (by exact ev_tmp rfl) ?_; intro hx; (first | refine w_rowF M RR nR _ _ rfl hx rfl (by decide +kernel) (by exact rfl) ?_); clear hx) | ((with_reducible refine tGuard ?_); first | refine gdS ?_ | (refine gdC ?_ ?_ <;> (intro hgd; rw [hgd]; try (exfalso; simp at hgd; omega)))) | fail | ((with_reducible refine tLoad ?_); go_must (refine ldS ?_)) | ((with_reducible refine tStore ?_); go_must (refine stS ?_; clear M; intro w1 M; (try simp only [setC] at M))) | ((with_reducible refine tBox _ ?_); (refine bxA M ?_; clear M; intro g w1 M))) <;> (try conv => arg 5; simp only [Act.put, List.setIfInBounds_toArray, setC]))
  go_ret
  exact ⟨rfl, rfl⟩
set_option maxRecDepth 100000 in
set_option maxHeartbeats 2000000 in
theorem Count_c (h : c.ok w) (I : IsRing g R c) : Calls Tryz.prog 19 #[.pointer (some ⟨g, 0, none⟩)] w fun e w' => e = .returned (.tuple #[.int .u32 (I32 R.b), .int .u64 (I64 R.n)]) ∧ Below w.heap.size w w' := by
  obtain ⟨gm, K, _, rfl⟩ := I
  have RR := ring_row h
  have M := Mem.start [] w
  have nR : g ∉ ([] : List Nat) := by simp
  go_enter Tryz.func19, Tryz.ntmps19
  go_wp2_with ((first | (go_at_call 37; go_must (refine (ringNone_no RR).mono ?_; rintro e w1 ⟨rfl, rfl⟩)) | ((with_reducible show Code.wp _ (Code.region 3 _ _) _ _ _); go_must (have MR := M; refine region_lowc [(0, false), (1, false), (2, false), (4, false), (5, false), (6, false), (3, false), (7, true), (8, false), (9, false)] [(6, .ptr), (10, .ptr)] [(3, _)] (IxOk MR []) 10 (by kernel_rfl) (by kernel_rfl) rfl (by kernel_rfl) (lows_cons (stab_rowF MR RR nR 2 rfl (by decide +kernel) rfl) lows_nil) (ixOk_self MR _) ?_; replace M := M.drew; simp only [planC, opAt, List.getElem?_toArray, List.getElem?_cons_zero, List.getElem?_cons_succ, Option.getD_some])) | (go_at_call 38; go_must (refine (u64Load_c _ (I64 R.n) _ (rowCell (M.staysF RR (by simp)) rfl)).mono ?_; rintro e w1 ⟨rfl, rfl⟩)) | ((with_reducible refine tLoad ?_); refine w_at _ _ rfl (by exact ev_tmp rfl) ?_; intro hx; (first | refine w_rowF M RR nR _ _ rfl hx rfl (by decide +kernel) (by exact rfl) ?_); clear hx) | ((with_reducible show Seg _ _ _ _); go_must (first | refine Seg.intro ⟨fun h => absurd rfl h, ?_⟩ | refine Seg.intro ⟨fun _ => ixA, ?_⟩ | refine Seg.intro ⟨ndA, atA, ?_⟩)) | ((with_reducible show OnlyN _ _ _ _ _); refine OnlyN.intro (by kernel_rfl) ?_) | ((with_reducible refine tGuard ?_); first | refine gdS ?_ | (refine gdC ?_ ?_ <;> (intro hgd; rw [hgd]; try (exfalso; simp at hgd; omega)))) | fail | ((with_reducible refine tLoad ?_); go_must (refine ldS ?_)) | ((with_reducible refine tStore ?_); go_must (refine stS ?_; clear M; intro w1 M; (try simp only [setC] at M))) | ((with_reducible refine tBox _ ?_); (refine bxA M ?_; clear M; intro g w1 M))) <;> (try conv => arg 5; simp only [Act.put, List.setIfInBounds_toArray, setC]))
  go_ret2
  exact ⟨rfl, M.below⟩
end
theorem new_join {F : List Nat} {w0 w : World} {g gm : Nat} {R : RingS} (M : Mem F w0 w [.row g (ringC R gm), .blk gm (mapO [])]) : ∃ c, IsRing g R c ∧ Mem F w0 w [c] := by
  have M1 := M.shut [] _ rfl
  have M2 : Mem F w0 w [.blk gm (mapO []), grp [], .row g (ringC R gm)] := M1.pick _ (fun i => if i = 0 then 2 else if i = 1 then 0 else 1) (by intro i j hi hj; simp at hi hj; rcases (by omega : i = 0 ∨ i = 1 ∨ i = 2) with rfl | rfl | rfl <;> rcases (by omega : j = 0 ∨ j = 1 ∨ j = 2) with rfl | rfl | rfl <;> simp) (by
      intro i c h
      match i, h with
      | 0, h => simpa using h
      | 1, h => simpa using h
      | 2, h => simpa using h)
  have M3 := M2.shut [.blk gm (mapO []), grp []] _ rfl
  have M4 : Mem F w0 w [.row g (ringC R gm), keysC R.m gm []] := M3.pick _ (fun i => 1 - i) (by intro i j hi hj h; simp at hi hj; omega) (by
      intro i c h
      match i, h with
      | 0, h => simpa using h
      | 1, h => simpa [keysC] using h)
  exact ⟨_, ⟨gm, _, ⟨_, rfl⟩, rfl⟩, M4.shut [.row g (ringC R gm), keysC R.m gm []] [] rfl⟩
set_option maxRecDepth 100000 in
set_option maxHeartbeats 2000000 in
theorem New_ok (m : List UInt8) (c : Nat) (b : UInt32) (w : World) (hc : c ≤ 1048576) : Calls Tryz.prog 12 #[.string (mkS m), .int .i64 c, .int .u32 (I32 b)] w fun e w' => ∃ g C, e = .returned (.tuple #[.pointer (some ⟨g, 0, none⟩), .int .i64 0]) ∧ IsRing g ⟨m, c, b, 0⟩ C ∧ Mem [] w w' [C] := by
  have M := Mem.start [] w
  go_enter Tryz.func12, Tryz.ntmps12
  go_wp2_with ((first | ((with_reducible refine tGuard ?_); (with_reducible refine w_stripE ?_ ?_); (focus (refine ⟨_, rfl, ?_⟩; first | (with_reducible rfl) | exact decide_eq_false (by omega) | exact decide_eq_true (by omega)))) | ((with_reducible refine tGuard ?_); first | ((with_reducible refine w_skip1 ?_ ?_); (focus (refine ⟨_, rfl, ?_⟩; first | (with_reducible rfl) | exact decide_eq_false (by omega) | exact decide_eq_true (by omega)))) | ((with_reducible refine w_skip0 ?_ ?_); (focus (refine ⟨_, rfl, ?_⟩; first | (with_reducible rfl) | exact decide_eq_false (by omega) | exact decide_eq_true (by omega))))) | ((with_reducible show wpList _ _ _ (Oper.mk _ (Op.makeMap _ none) _ _ _ _ :: _) _ _); go_must (refine w_makeMap M _ rfl rfl ?_; clear M; intro gm w1 M)) | ((with_reducible refine tBox (some 19) ?_); refine w_box M _ _ rfl rfl _ rfl (ringC ⟨m, c, b, 0⟩ gm) rfl ?_; clear M; intro g w1 M) | ((with_reducible refine tGuard ?_); first | refine gdS ?_ | (refine gdC ?_ ?_ <;> (intro hgd; rw [hgd]; try (exfalso; simp at hgd; omega)))) | fail | ((with_reducible refine tLoad ?_); go_must (refine ldS ?_)) | ((with_reducible refine tStore ?_); go_must (refine stS ?_; clear M; intro w1 M; (try simp only [setC] at M))) | ((with_reducible refine tBox _ ?_); (refine bxA M ?_; clear M; intro g w1 M))) <;> (try conv => arg 5; simp only [Act.put, List.setIfInBounds_toArray, setC]))
  obtain ⟨C, IC, MC⟩ := new_join M
  go_ret2
  exact ⟨_, _, rfl, IC, MC⟩
end Go.Proofs.YtidadhbaomieiaaGreat

/- The walks of seal.Close, Open and Bytes. Conditions: lengths. -/
namespace Go
namespace TL
theorem rightE_k {k : Int} {d : List UInt8} (h : rightE k d = true) : 0 ≤ k ∧ k ≤ 1048576 ∧ d.length ≤ 8192 := by
  unfold rightE at h
  simp only [Bool.and_eq_true, decide_eq_true_eq] at h
  omega
end TL
end Go
namespace Go.Proofs.YtidadhbaomieiaaGreat
open Go.RowKit Go.TL
set_option maxRecDepth 100000 in
set_option maxHeartbeats 2000000 in
theorem Close_ok (key : List UInt8) (k : Nat) (b : UInt32) (n : UInt64) (about text : List UInt8) (w : World) (hk : key.length = 32) (h : k ≤ 1048576) (hx : text.length ≤ 8192) (ha : about.length ≤ 100000) :
    Calls Tryz.prog 39 #[.agg (bs key).toArray, .int .i64 k, .int .u32 (I32 b), .int .u64 (I64 n), .string (mkS about), .string (mkS text)] w fun e w' => e = .returned (.tuple #[.agg (envC k b n (sealL key b n text) (tagL key k b n about (sealL key b n text))).toArray, .int .i64 0]) ∧ Below w.heap.size w w' := by
  have M := Mem.start [] w
  have R := fun w => sealRight_c k b n [] zeroT w
  have e1 : rightE (k : Int) [] = true := by unfold rightE; simp; omega
  rw [e1] at R
  clear e1
  have SC := fun w => sealStream_c key k b n [] zeroT text w hk (by omega)
  have hsl : (sealL key b n text).length ≤ 100000 := by unfold sealL; rw [streamL_len]; omega
  have TC := fun w => sealTag_c key k b n (sealL key b n text) zeroT about w hk zeroT_len h ha hsl
  have hr : (tagL key k b n about (sealL key b n text)).length = 32 := macL_len _ _
  obtain ⟨s, es⟩ : ∃ s, s = sealL key b n text := ⟨_, rfl⟩
  rw [← es] at SC TC hr
  rw [← es]
  obtain ⟨t, et⟩ : ∃ t, t = tagL key k b n about s := ⟨_, rfl⟩
  rw [← et] at TC hr
  rw [← et]
  replace R := Lib.hid R
  replace SC := Lib.hid SC
  replace TC := Lib.hid TC
  clear es et hsl
  have hx' : (text.length : Int) ≤ 8192 := by omega
  go_enter Tryz.func39, Tryz.ntmps39
  go_wp2_with ((first | (go_at_call 75; go_must (refine (SC.out _).mono ?_; rintro e w1 ⟨rfl, hb⟩; replace M := M.call hb; clear hb)) | (go_at_call 76; go_must (refine (TC.out _).mono ?_; rintro e w1 ⟨rfl, hb⟩; replace M := M.call hb; clear hb)) | ((with_reducible refine tBox (some 6) ?_); refine w_box M _ _ rfl rfl _ rfl (bs key) rfl ?_; clear M; intro gk w1 M) | ((with_reducible refine tAlloc (some 12) 75 ?_); refine w_alloc M _ rfl rfl (.agg (envC 0 0 0 [] zeroT).toArray) (envC 0 0 0 [] zeroT) (by kernel_rfl) rfl ?_; clear M; intro gr w1 M) | ((with_reducible refine tAlloc (some 14) 75 ?_); refine w_alloc M _ rfl rfl (.agg (envC 0 0 0 [] zeroT).toArray) (envC 0 0 0 [] zeroT) (by kernel_rfl) rfl ?_; clear M; intro gx w1 M) | (go_at_call 74; go_must (refine (R.out _).mono ?_; rintro e w1 ⟨rfl, hb⟩; replace M := M.call hb; clear hb)) | ((with_reducible refine tLoad ?_); refine w_at _ _ rfl (by exact ev_tmp rfl) ?_; intro hx; (first | refine w_loadE M _ _ _ rfl (by first | exact at0 | exact at1) hx rfl (by decide +kernel) (by decide +kernel) (by first | assumption | exact zeroT_len | exact macL_len _ _) ?_ | refine w_loadTag M _ _ _ rfl (by first | exact at0 | exact at1) hx rfl (by decide +kernel) (by decide +kernel) (by first | assumption | exact zeroT_len | exact macL_len _ _) ?_); clear hx) | ((with_reducible refine tStore ?_); refine w_at2 _ _ _ rfl (by first | exact ev_tmp rfl | exact ev_const) (by first | exact ev_tmp rfl | exact ev_const) ?_; intro hx hy; (first | refine w_storeE M _ _ _ _ rfl (by first | exact at0 | exact at1) hx rfl hy rfl (by decide +kernel) (by first | assumption | exact zeroT_len | exact macL_len _ _) (by first | assumption | exact zeroT_len | exact macL_len _ _) ?_ | refine w_storeE (k := 0) (b := 0) (n := 0) (d := []) (tg := zeroT) M _ _ _ _ rfl (by first | exact at0 | exact at1) hx rfl hy rfl (by decide +kernel) zeroT_len (by first | assumption | exact zeroT_len | exact macL_len _ _) ?_ | refine w_storeE (tg := zeroT) M _ _ _ _ rfl (by first | exact at0 | exact at1) hx rfl hy rfl (by decide +kernel) zeroT_len (by first | assumption | exact zeroT_len | exact macL_len _ _) ?_ | refine w_storeTag M _ _ _ _ rfl (by first | exact at0 | exact at1) hx rfl hy (by decide +kernel) (by first | assumption | exact zeroT_len | exact macL_len _ _) (by first | assumption | exact zeroT_len | exact macL_len _ _) ?_ | refine w_storeData M _ _ _ _ rfl (by first | exact at0 | exact at1) hx rfl hy (by decide +kernel) ?_ | refine w_storeNum M _ _ _ _ rfl (by first | exact at0 | exact at1) hx rfl hy (by decide +kernel) ?_); clear hx hy M; intro w1 M; (try simp only [setC] at M)) | ((with_reducible refine tConv _ 70 9 ?_); (first | refine w_stringTag M _ _ _ _ _ rfl rfl (by first | exact at0 | exact at1) rfl (by first | assumption | exact zeroT_len | exact macL_len _ _) Tryz.underlying70 Tryz.underlying5 Tryz.underlying9 ?_)) | ((with_reducible refine tGuard ?_); first | refine gdS ?_ | (refine gdC ?_ ?_ <;> (intro hgd; rw [hgd]; try (exfalso; simp at hgd; omega)))) | ((with_reducible refine tConv _ 70 9 ?_); go_must (refine cvB ?_)) | ((with_reducible refine tLoad ?_); go_must (refine ldB ?_)) | ((with_reducible refine tStore ?_); go_must (refine stB ?_; clear M; intro w1 M; (try simp only [setC] at M))) | ((with_reducible refine tBox _ ?_); (refine bxA M ?_; clear M; intro g w1 M))) <;> (try conv => arg 5; simp only [Act.put, List.setIfInBounds_toArray, setC]))
  exact bodyPost_ret (results_two rfl _ _ gr 0 (envC k b n s t) _ (.int .i64 0) rfl rfl (M.ok 1 _ rfl).2.1 Tryz.underlying75 rfl (by rw [envC_len, hr]; kernel_rfl)) rfl ⟨rfl, M.below⟩
set_option maxRecDepth 100000 in
set_option maxHeartbeats 2000000 in
theorem Open_mac (key : List UInt8) (k : Nat) (b : UInt32) (n : UInt64) (d t about : List UInt8) (w : World) (hk : key.length = 32) (ht : t.length = 32) (h : rightE k d = true) (ha : about.length ≤ 100000) (hne : t ≠ tagL key k b n about d) :
    Calls Tryz.prog 43 #[.agg (bs key).toArray, .agg (envC k b n d t).toArray, .string (mkS about)] w fun e w' => e = .returned (.tuple #[.string (mkS []), .int .i64 13]) ∧ Below w.heap.size w w' := by
  have M := Mem.start [] w
  have R := fun w => sealRight_c k b n d t w
  obtain ⟨_, hkk, hdd⟩ := rightE_k h
  have TC := fun w => sealTag_c key k b n d t about w hk ht (by omega) ha (by omega)
  have hr : (tagL key k b n about d).length = 32 := macL_len _ _
  obtain ⟨u, eu⟩ : ∃ u, u = tagL key k b n about d := ⟨_, rfl⟩
  rw [← eu] at TC hr hne
  have EC := fun w => Equal_c t u ht hr w
  rw [beq_eq_false_iff_ne.2 hne] at EC
  rw [h] at R
  replace R := Lib.hid R
  replace TC := Lib.hid TC
  replace EC := Lib.hid EC
  clear h eu hne
  go_enter Tryz.func43, Tryz.ntmps43
  go_wp2_with ((first | ((with_reducible refine tBox (some 3) ?_); refine w_box M _ _ rfl rfl _ rfl (bs key) rfl ?_; clear M; intro gk w1 M) | ((with_reducible refine tBox (some 4) ?_); refine w_box M _ _ rfl rfl _ rfl (envC k b n d t) rfl ?_; clear M; intro gx w1 M) | (go_at_call 74; go_must (refine (R.out _).mono ?_; rintro e w1 ⟨rfl, hb⟩; replace M := M.call hb; clear hb)) | (go_at_call 76; go_must (refine (TC.out _).mono ?_; rintro e w1 ⟨rfl, hb⟩; replace M := M.call hb; clear hb)) | (go_at_call 83; go_must (refine (EC.out _).mono ?_; rintro e w1 ⟨rfl, hb⟩; replace M := M.call hb; clear hb)) | ((with_reducible show Code.wp _ (Code.region 3 _ _) _ _ _); go_must (have MR := M; refine region_lowc [(0, false), (4, false), (1, false), (2, false), (3, false), (5, true), (6, true), (7, false), (8, false)] [] [(1, _), (2, _), (3, _)] (IxOk MR [0, 1]) 9 (by kernel_rfl) (by kernel_rfl) rfl (by kernel_rfl) (lows_cons (stab_tag MR 0 rfl rfl (by decide) (by decide +kernel) (by decide +kernel) (by first | assumption | exact zeroT_len)) (lowA MR 1 0 (lows_cons (stab_env MR 0 rfl rfl (by decide) (by decide +kernel) (by decide +kernel) (by first | assumption | exact zeroT_len)) lows_nil))) (ixOk_self MR _) ?_; replace M := M.drew; simp only [planC, opAt, List.getElem?_toArray, List.getElem?_cons_zero, List.getElem?_cons_succ, Option.getD_some])) | ((with_reducible refine tLoad ?_); refine w_at _ _ rfl (by exact ev_tmp rfl) ?_; intro hx; (first | refine w_loadE M _ _ _ rfl (by first | exact at0) hx rfl (by decide +kernel) (by decide +kernel) (by first | assumption | exact zeroT_len | exact macL_len _ _) ?_ | refine w_loadTag M _ _ _ rfl (by first | exact at0) hx rfl (by decide +kernel) (by decide +kernel) (by first | assumption | exact zeroT_len | exact macL_len _ _) ?_); clear hx) | ((with_reducible refine tStore ?_); refine w_at2 _ _ _ rfl (by first | exact ev_tmp rfl | exact ev_const) (by first | exact ev_tmp rfl | exact ev_const) ?_; intro hx hy; (first | refine w_storeE M _ _ _ _ rfl (by first | exact at0) hx rfl hy rfl (by decide +kernel) (by first | assumption | exact zeroT_len | exact macL_len _ _) (by first | assumption | exact zeroT_len | exact macL_len _ _) ?_ | refine w_storeE (k := 0) (b := 0) (n := 0) (d := []) (tg := zeroT) M _ _ _ _ rfl (by first | exact at0) hx rfl hy rfl (by decide +kernel) zeroT_len (by first | assumption | exact zeroT_len | exact macL_len _ _) ?_ | refine w_storeE (tg := zeroT) M _ _ _ _ rfl (by first | exact at0) hx rfl hy rfl (by decide +kernel) zeroT_len (by first | assumption | exact zeroT_len | exact macL_len _ _) ?_ | refine w_storeTag M _ _ _ _ rfl (by first | exact at0) hx rfl hy (by decide +kernel) (by first | assumption | exact zeroT_len | exact macL_len _ _) (by first | assumption | exact zeroT_len | exact macL_len _ _) ?_ | refine w_storeData M _ _ _ _ rfl (by first | exact at0) hx rfl hy (by decide +kernel) ?_ | refine w_storeNum M _ _ _ _ rfl (by first | exact at0) hx rfl hy (by decide +kernel) ?_); clear hx hy M; intro w1 M; (try simp only [setC] at M)) | ((with_reducible refine tConv _ 70 9 ?_); (first | refine w_stringTag M _ _ _ _ _ rfl rfl (by first | exact at0) rfl (by first | assumption | exact zeroT_len | exact macL_len _ _) Tryz.underlying70 Tryz.underlying5 Tryz.underlying9 ?_)) | ((with_reducible show Seg _ _ _ _); go_must (first | refine Seg.intro ⟨fun h => absurd rfl h, ?_⟩ | refine Seg.intro ⟨fun _ => ixA, ?_⟩ | refine Seg.intro ⟨ndA, atA, ?_⟩)) | ((with_reducible show OnlyN _ _ _ _ _); refine OnlyN.intro (by kernel_rfl) ?_) | ((with_reducible refine tGuard ?_); first | refine gdS ?_ | (refine gdC ?_ ?_ <;> (intro hgd; rw [hgd]; try (exfalso; simp at hgd; omega)))) | ((with_reducible refine tConv _ 70 9 ?_); go_must (refine cvB ?_)) | ((with_reducible refine tLoad ?_); go_must (refine ldB ?_)) | ((with_reducible refine tStore ?_); go_must (refine stB ?_; clear M; intro w1 M; (try simp only [setC] at M))) | ((with_reducible refine tBox _ ?_); (refine bxA M ?_; clear M; intro g w1 M))) <;> (try conv => arg 5; simp only [Act.put, List.setIfInBounds_toArray, setC]))
  go_ret2
  exact ⟨rfl, M.below⟩
set_option maxRecDepth 100000 in
set_option maxHeartbeats 2000000 in
theorem Open_ok (key : List UInt8) (k : Nat) (b : UInt32) (n : UInt64) (d about : List UInt8) (w : World) (hk : key.length = 32) (h : rightE k d = true) (ha : about.length ≤ 100000) :
    Calls Tryz.prog 43 #[.agg (bs key).toArray, .agg (envC k b n d (tagL key k b n about d)).toArray, .string (mkS about)] w fun e w' => e = .returned (.tuple #[.string (mkS (sealL key b n d)), .int .i64 0]) ∧ Below w.heap.size w w' := by
  have M := Mem.start [] w
  obtain ⟨_, hkk, hdd⟩ := rightE_k h
  have ht : (tagL key k b n about d).length = 32 := macL_len _ _
  have TC := fun w => sealTag_c key k b n d (tagL key k b n about d) about w hk ht (by omega) ha (by omega)
  obtain ⟨t, et⟩ : ∃ t, t = tagL key k b n about d := ⟨_, rfl⟩
  rw [← et] at TC ht
  rw [← et]
  have R := fun w => sealRight_c k b n d t w
  have EC := fun w => Equal_c t t ht ht w
  rw [beq_self_eq_true] at EC
  rw [h] at R
  have SC := fun w => sealStream_c key k b n d t d w hk (by omega)
  obtain ⟨s, es⟩ : ∃ s, s = sealL key b n d := ⟨_, rfl⟩
  rw [← es] at SC
  rw [← es]
  replace R := Lib.hid R
  replace TC := Lib.hid TC
  replace EC := Lib.hid EC
  replace SC := Lib.hid SC
  clear h et es
  go_enter Tryz.func43, Tryz.ntmps43
  go_wp2_with ((first | ((with_reducible refine tBox (some 3) ?_); refine w_box M _ _ rfl rfl _ rfl (bs key) rfl ?_; clear M; intro gk w1 M) | ((with_reducible refine tBox (some 4) ?_); refine w_box M _ _ rfl rfl _ rfl (envC k b n d t) rfl ?_; clear M; intro gx w1 M) | (go_at_call 74; go_must (refine (R.out _).mono ?_; rintro e w1 ⟨rfl, hb⟩; replace M := M.call hb; clear hb)) | (go_at_call 76; go_must (refine (TC.out _).mono ?_; rintro e w1 ⟨rfl, hb⟩; replace M := M.call hb; clear hb)) | (go_at_call 75; go_must (refine (SC.out _).mono ?_; rintro e w1 ⟨rfl, hb⟩; replace M := M.call hb; clear hb)) | (go_at_call 83; go_must (refine (EC.out _).mono ?_; rintro e w1 ⟨rfl, hb⟩; replace M := M.call hb; clear hb)) | ((with_reducible show Code.wp _ (Code.region 3 _ _) _ _ _); go_must (have MR := M; refine region_lowc [(0, false), (4, false), (1, false), (2, false), (3, false), (5, true), (6, true), (7, false), (8, false)] [] [(1, _), (2, _), (3, _)] (IxOk MR [0, 1]) 9 (by kernel_rfl) (by kernel_rfl) rfl (by kernel_rfl) (lows_cons (stab_tag MR 0 rfl rfl (by decide) (by decide +kernel) (by decide +kernel) (by first | assumption | exact zeroT_len)) (lowA MR 1 0 (lows_cons (stab_env MR 0 rfl rfl (by decide) (by decide +kernel) (by decide +kernel) (by first | assumption | exact zeroT_len)) lows_nil))) (ixOk_self MR _) ?_; replace M := M.drew; simp only [planC, opAt, List.getElem?_toArray, List.getElem?_cons_zero, List.getElem?_cons_succ, Option.getD_some])) | ((with_reducible refine tLoad ?_); refine w_at _ _ rfl (by exact ev_tmp rfl) ?_; intro hx; (first | refine w_loadE M _ _ _ rfl (by first | exact at0) hx rfl (by decide +kernel) (by decide +kernel) (by first | assumption | exact zeroT_len | exact macL_len _ _) ?_ | refine w_loadTag M _ _ _ rfl (by first | exact at0) hx rfl (by decide +kernel) (by decide +kernel) (by first | assumption | exact zeroT_len | exact macL_len _ _) ?_); clear hx) | ((with_reducible refine tStore ?_); refine w_at2 _ _ _ rfl (by first | exact ev_tmp rfl | exact ev_const) (by first | exact ev_tmp rfl | exact ev_const) ?_; intro hx hy; (first | refine w_storeE M _ _ _ _ rfl (by first | exact at0) hx rfl hy rfl (by decide +kernel) (by first | assumption | exact zeroT_len | exact macL_len _ _) (by first | assumption | exact zeroT_len | exact macL_len _ _) ?_ | refine w_storeE (k := 0) (b := 0) (n := 0) (d := []) (tg := zeroT) M _ _ _ _ rfl (by first | exact at0) hx rfl hy rfl (by decide +kernel) zeroT_len (by first | assumption | exact zeroT_len | exact macL_len _ _) ?_ | refine w_storeE (tg := zeroT) M _ _ _ _ rfl (by first | exact at0) hx rfl hy rfl (by decide +kernel) zeroT_len (by first | assumption | exact zeroT_len | exact macL_len _ _) ?_ | refine w_storeTag M _ _ _ _ rfl (by first | exact at0) hx rfl hy (by decide +kernel) (by first | assumption | exact zeroT_len | exact macL_len _ _) (by first | assumption | exact zeroT_len | exact macL_len _ _) ?_ | refine w_storeData M _ _ _ _ rfl (by first | exact at0) hx rfl hy (by decide +kernel) ?_ | refine w_storeNum M _ _ _ _ rfl (by first | exact at0) hx rfl hy (by decide +kernel) ?_); clear hx hy M; intro w1 M; (try simp only [setC] at M)) | ((with_reducible refine tConv _ 70 9 ?_); (first | refine w_stringTag M _ _ _ _ _ rfl rfl (by first | exact at0) rfl (by first | assumption | exact zeroT_len | exact macL_len _ _) Tryz.underlying70 Tryz.underlying5 Tryz.underlying9 ?_)) | ((with_reducible show Seg _ _ _ _); go_must (first | refine Seg.intro ⟨fun h => absurd rfl h, ?_⟩ | refine Seg.intro ⟨fun _ => ixA, ?_⟩ | refine Seg.intro ⟨ndA, atA, ?_⟩)) | ((with_reducible show OnlyN _ _ _ _ _); refine OnlyN.intro (by kernel_rfl) ?_) | ((with_reducible refine tGuard ?_); first | refine gdS ?_ | (refine gdC ?_ ?_ <;> (intro hgd; rw [hgd]; try (exfalso; simp at hgd; omega)))) | ((with_reducible refine tConv _ 70 9 ?_); go_must (refine cvB ?_)) | ((with_reducible refine tLoad ?_); go_must (refine ldB ?_)) | ((with_reducible refine tStore ?_); go_must (refine stB ?_; clear M; intro w1 M; (try simp only [setC] at M))) | ((with_reducible refine tBox _ ?_); (refine bxA M ?_; clear M; intro g w1 M))) <;> (try conv => arg 5; simp only [Act.put, List.setIfInBounds_toArray, setC]))
  go_ret2
  exact ⟨rfl, M.below⟩
set_option maxRecDepth 100000 in
set_option maxHeartbeats 2000000 in
theorem SealBytes_ok (k : Nat) (b : UInt32) (n : UInt64) (d t : List UInt8) (w : World) (ht : t.length = 32) (h : rightE k d = true) :
    Calls Tryz.prog 41 #[.agg (envC k b n d t).toArray] w fun e w' => e = .returned (.tuple #[.string (mkS (headL k b n ++ (textL d ++ t))), .int .i64 0]) ∧ Below w.heap.size w w' := by
  have M := Mem.start [] w
  have R := fun w => sealRight_c k b n d t w
  obtain ⟨_, hkk, hdd⟩ := rightE_k h
  rw [h] at R
  have hh := headL_len k b n (by omega)
  have NC := fun (g : Nat) (v : Value) (w : World) hok => numbers_c g v [] k b n d t w (by omega) (by simp) hok
  have T2 := fun (g : Nat) (v : Value) (w : World) hok => Out_Text_c g v (headL k b n) d w (by omega) (by omega) hok
  rw [List.nil_append] at NC
  rw [← List.append_assoc]
  obtain ⟨h0, eh⟩ : ∃ x, x = headL k b n := ⟨_, rfl⟩
  rw [← eh] at NC T2
  rw [← eh]
  obtain ⟨u, eu⟩ : ∃ x, x = h0 ++ textL d := ⟨_, rfl⟩
  rw [← eu] at T2
  rw [← eu]
  have hul : u.length ≤ 100000 := by rw [eu, eh, List.length_append]; unfold textL; have := numL_length_le d.length (by omega); simp; omega
  replace R := Lib.hid R
  replace NC := Lib.hid NC
  replace T2 := Lib.hid T2
  clear h eh eu hh
  go_enter Tryz.func41, Tryz.ntmps41
  go_wp2_with ((first | ((with_reducible refine tBox (some 1) ?_); refine w_box M _ _ rfl rfl _ rfl (envC k b n d t) rfl ?_; clear M; intro gx w1 M) | (((with_reducible refine tAlloc (some 4) 155 ?_); refine w_alloc M _ rfl rfl (.agg #[.slice none 0 0]) ([.slice none 0 0]) (by kernel_rfl) rfl ?_; clear M; intro go w1 M); replace M := M.outNew) | (go_at_call 74; go_must (refine (R.out _).mono ?_; rintro e w1 ⟨rfl, hb⟩; replace M := M.call hb; clear hb)) | (go_at_call 79; go_must (refine (NC.out _ _ _ (M.ok 0 _ rfl)).mono ?_; rintro e w2 ⟨rfl, v1, U⟩; replace M := M.upd 0 rfl U; clear U; simp only [List.set_cons_zero] at M)) | (go_at_call 80; go_must (refine (T2.out _ _ _ (M.ok 0 _ rfl)).mono ?_; rintro e w2 ⟨rfl, v2, U⟩; replace M := M.upd 0 rfl U; clear U; simp only [List.set_cons_zero] at M)) | (go_at_call 81; go_must (refine (Out_String_c _ _ _ _ (M.ok 0 _ rfl)).mono ?_; rintro e w1 ⟨rfl, rfl⟩)) | ((with_reducible show Code.wp _ (Code.region 6 _ _) _ _ _); go_must (have MR := M; refine region_lowc [(1, false), (2, false), (3, false), (0, true), (4, false), (5, false), (6, false)] [(13, .str), (16, .str)] [(3, _)] (IxOk MR [1]) 7 (by kernel_rfl) (by kernel_rfl) rfl (by kernel_rfl) (lows_cons (stab_strTag MR 1 rfl rfl (by decide) (by first | assumption | exact zeroT_len) Tryz.underlying70 Tryz.underlying5 Tryz.underlying9) lows_nil) (ixOk_self MR _) ?_; replace M := M.drew; simp only [planC, opAt, List.getElem?_toArray, List.getElem?_cons_zero, List.getElem?_cons_succ, Option.getD_some])) | ((with_reducible refine tLoad ?_); refine w_at _ _ rfl (by exact ev_tmp rfl) ?_; intro hx; (first | refine w_loadE M _ _ _ rfl (by first | exact at0 | exact at1) hx rfl (by decide +kernel) (by decide +kernel) (by first | assumption | exact zeroT_len | exact macL_len _ _) ?_ | refine w_loadTag M _ _ _ rfl (by first | exact at0 | exact at1) hx rfl (by decide +kernel) (by decide +kernel) (by first | assumption | exact zeroT_len | exact macL_len _ _) ?_); clear hx) | ((with_reducible refine tStore ?_); refine w_at2 _ _ _ rfl (by first | exact ev_tmp rfl | exact ev_const) (by first | exact ev_tmp rfl | exact ev_const) ?_; intro hx hy; (first | refine w_storeE M _ _ _ _ rfl (by first | exact at0 | exact at1) hx rfl hy rfl (by decide +kernel) (by first | assumption | exact zeroT_len | exact macL_len _ _) (by first | assumption | exact zeroT_len | exact macL_len _ _) ?_ | refine w_storeE (k := 0) (b := 0) (n := 0) (d := []) (tg := zeroT) M _ _ _ _ rfl (by first | exact at0 | exact at1) hx rfl hy rfl (by decide +kernel) zeroT_len (by first | assumption | exact zeroT_len | exact macL_len _ _) ?_ | refine w_storeE (tg := zeroT) M _ _ _ _ rfl (by first | exact at0 | exact at1) hx rfl hy rfl (by decide +kernel) zeroT_len (by first | assumption | exact zeroT_len | exact macL_len _ _) ?_ | refine w_storeTag M _ _ _ _ rfl (by first | exact at0 | exact at1) hx rfl hy (by decide +kernel) (by first | assumption | exact zeroT_len | exact macL_len _ _) (by first | assumption | exact zeroT_len | exact macL_len _ _) ?_ | refine w_storeData M _ _ _ _ rfl (by first | exact at0 | exact at1) hx rfl hy (by decide +kernel) ?_ | refine w_storeNum M _ _ _ _ rfl (by first | exact at0 | exact at1) hx rfl hy (by decide +kernel) ?_); clear hx hy M; intro w1 M; (try simp only [setC] at M)) | ((with_reducible refine tConv _ 70 9 ?_); (first | refine w_stringTag M _ _ _ _ _ rfl rfl (by first | exact at0 | exact at1) rfl (by first | assumption | exact zeroT_len | exact macL_len _ _) Tryz.underlying70 Tryz.underlying5 Tryz.underlying9 ?_)) | ((with_reducible show Seg _ _ _ _); go_must (first | refine Seg.intro ⟨fun h => absurd rfl h, ?_⟩ | refine Seg.intro ⟨fun _ => ixA, ?_⟩ | refine Seg.intro ⟨ndA, atA, ?_⟩)) | ((with_reducible show OnlyN _ _ _ _ _); refine OnlyN.intro (by kernel_rfl) ?_) | ((with_reducible refine tGuard ?_); first | refine gdS ?_ | (refine gdC ?_ ?_ <;> (intro hgd; rw [hgd]; try (exfalso; simp at hgd; omega)))) | ((with_reducible refine tConv _ 70 9 ?_); go_must (refine cvB ?_)) | ((with_reducible refine tLoad ?_); go_must (refine ldB ?_)) | ((with_reducible refine tStore ?_); go_must (refine stB ?_; clear M; intro w1 M; (try simp only [setC] at M))) | ((with_reducible refine tBox _ ?_); (refine bxA M ?_; clear M; intro g w1 M))) <;> (try conv => arg 5; simp only [Act.put, List.setIfInBounds_toArray, setC]))
  go_ret2
  exact ⟨rfl, M.below⟩
end Go.Proofs.YtidadhbaomieiaaGreat
