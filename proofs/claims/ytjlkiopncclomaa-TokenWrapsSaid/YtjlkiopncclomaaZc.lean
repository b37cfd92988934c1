/- Texts of this seat, put together: AesB, AesC, Gives, AesS, PackL, InL, Shelf, PackZ, Txt, PackI. Each begins with a remark that says what is proved in it, and under which conditions. -/
import Derived.Lib.BitFns
import Derived.Shelf.Strings.Builder1
import Derived.Shelf.Strings.Builder2
import Derived.Shelf.Strings.BuilderF
import Derived.Shelf.Strings.BuilderK
import Derived.Shelf.Strings.Builder2Cap
import Derived.Shelf.Strconv.Itoa0
import Derived.Shelf.Strings.Prefix
import Derived.Shelf.Bits.Mul64
import Derived.Shelf.Strings.Repeat
import Derived.Test.YtjlkiopncclomaaProg
import Derived.OwnWalk
import Derived.Test.YtjlkiopncclomaaZb
/- The walk of a key's schedule. Conditions: lengths. -/
namespace Go
namespace TL
theorem foldl_off (o : Nat) (l : List Value) : ∀ (k : Nat) (C : Array Value), (l.zipIdx k).foldl (fun cs x => cs.setIfInBounds (o + x.2) x.1) C = (l.zipIdx (o + k)).foldl (fun cs x => cs.setIfInBounds x.2 x.1) C := by
  induction l with
  | nil => intro k C; rfl
  | cons v t ih => intro k C; rw [List.zipIdx_cons, List.zipIdx_cons, List.foldl_cons, List.foldl_cons, ih]; rfl
theorem foldl_at (o : Nat) (l : List Value) (C : Array Value) (h : o + l.length ≤ C.size) : (l.zipIdx.foldl (fun cs x => cs.setIfInBounds (o + x.2) x.1) C).toList = C.toList.take o ++ l ++ C.toList.drop (o + l.length) := by
  rw [foldl_off, Nat.add_zero]; exact foldl_set l o C h
theorem copy_step (key s : List UInt8) (k : Nat) (hk : k < 8) (hl : key.length = 32) :
    (key.take (4 * k) ++ (List.replicate (240 - 4 * k) 0 ++ s)).take (k * 4) ++ ((((key.drop (4 * k)).take (32 - 4 * k))).take 4 ++ (key.take (4 * k) ++ (List.replicate (240 - 4 * k) 0 ++ s)).drop (k * 4 + 4)) = key.take (4 * (k + 1)) ++ (List.replicate (240 - 4 * (k + 1)) 0 ++ s) := by
  have e1 : (key.take (4 * k)).length = 4 * k := by simp; omega
  rw [show k * 4 = 4 * k by omega, List.take_left' e1, ← List.drop_drop, List.drop_left' e1, List.take_take, Nat.min_eq_left (by omega), ← List.append_assoc, show 4 * (k + 1) = 4 * k + 4 by omega, List.take_add]
  congr 1
  rw [show 240 - 4 * k = 4 + (240 - (4 * k + 4)) by omega, ← List.replicate_append_replicate, List.append_assoc, List.drop_left' (by simp)]
theorem Mem.take1 {F : List Nat} {w0 w : World} {c : Chunk} {L : List Chunk} (M : Mem F w0 w (c :: L)) : Mem F w0 w [c] :=
  M.pick _ (fun i => i) (fun _ _ _ _ h => h) fun i c' h => by
    cases i with
    | zero => simpa using h
    | succ i => simp at h
theorem take_in (W s : List UInt8) (m : Nat) (h : m + 4 ≤ W.length) : ((W ++ s).drop m).take 4 = (W.drop m).take 4 := by
  rw [List.drop_append_of_le_length (by omega), List.take_append_of_le_length (by simp; omega)]
theorem set_in (W s : List UInt8) (m : Nat) (v : UInt8) (h : m < W.length) : (W ++ s).set m v = W.set m v ++ s := by
  rw [List.set_append_left _ _ h]
theorem nth_in (W s : List UInt8) (m : Nat) (h : m < W.length) : nth (W ++ s) m = nth W m := by
  unfold nth; simp only [List.getD_eq_getElem?_getD]; rw [List.getElem?_append_left h]
theorem nth_out (W s : List UInt8) (n m : Nat) (h : W.length = n) : nth (W ++ s) (n + m) = nth s m := by
  unfold nth; simp only [List.getD_eq_getElem?_getD]; rw [List.getElem?_append_right (by omega), h, Nat.add_sub_cancel_left]
theorem nth_at (l : List UInt8) (k : Nat) (h : k < l.length) : l[k] = nth l k := by unfold nth; simp [List.getElem?_eq_getElem h]
theorem nth_at' (l : List UInt8) (k : Nat) : l[k]?.getD 0 = nth l k := by unfold nth; rw [List.getD_eq_getElem?_getD]
end TL
end Go
namespace Go.Proofs.Ytjlkiopncclomaa
open Go.RowKit Go.TL
set_option maxRecDepth 100000 in
set_option maxHeartbeats 4000000 in
theorem schedule_c (key : List UInt8) (w : World) (hk : key.length = 32) :
    Calls Try.prog 40 #[.agg (bs key).toArray] w fun e w' => ∃ g, e = .returned (.pointer (some ⟨g, 0, none⟩)) ∧ Mem [] w w' [.row g (bs (schL boxL key ++ boxL))] := by
  have M := Mem.start [] w
  have B := box_c
  have hs := boxL_len
  obtain ⟨s, es⟩ : ∃ s, s = boxL := ⟨_, rfl⟩
  rw [← es] at B hs
  rw [← es]
  replace B := Lib.hid B
  clear es
  have hbs : (bs s).length = 256 := by rw [bs_length, hs]
  go_enter Try.func40, Try.ntmps40
  go_wp2_with ((first | ((with_reducible refine tBox (some 1) ?_); refine w_box M _ _ rfl rfl _ rfl (bs key) rfl ?_; clear M; intro gk w1 M) | (go_at_call 77; go_must (refine (B.out _).mono ?_; rintro e w1 ⟨rfl, hb⟩; replace M := M.call hb; clear hb)) | ((with_reducible refine tBox (some 12) ?_); refine w_box M _ _ rfl rfl _ rfl (_) rfl ?_; clear M; intro g w1 M) | ((with_reducible refine tGuard ?_); first | refine w_strip rfl (by with_reducible rfl) ?_ | ((fail_if_success (refine w_lit false rfl (by with_reducible rfl) ?_)); (fail_if_success (refine w_lit true rfl (by with_reducible rfl) ?_)); refine w_case rfl ?_ ?_ <;> (intro hgd; rw [hgd]; try (exfalso; simp at hgd; omega)))) | ((with_reducible refine tConv _ 45 9 ?_); go_must (first | refine w_stringW M _ _ _ _ _ rfl rfl (by first | exact at0 | exact at1) rfl (by first | assumption | exact lenI | exact lenS ‹_› | rfl) (by decide) Try.underlying45 Try.underlying5 Try.underlying9 ?_ | refine w_string M _ _ _ _ _ rfl rfl (by first | exact at0 | exact at1) (by first | rfl | (simp; done) | assumption) rfl Try.underlying45 Try.underlying5 Try.underlying9 ?_)) | ((with_reducible refine tLoad ?_); go_must (refine w_at _ _ rfl (by exact ev_tmp rfl) ?_; intro hx; (first | refine w_load M _ _ _ rfl (by first | exact at0 | exact at1) hx rfl (by decide +kernel) (by exact rfl) ?_ | refine w_loadB M _ _ _ rfl (by first | exact at0 | exact at1) hx rfl (by decide +kernel) (by first | assumption | omega | (simp; omega)) ?_ | refine w_loadH M _ _ _ rfl (by first | exact at0 | exact at1) hx rfl (by decide +kernel) (by first | assumption | exact lenI | exact lenS ‹_› | rfl) (by decide +kernel) ?_ | refine w_loadR M _ _ _ rfl (by first | exact at0 | exact at1) hx rfl (by decide +kernel) (by kernel_rfl) ?_); clear hx)) | ((with_reducible refine tStore ?_); go_must (refine w_at2 _ _ _ rfl (by exact ev_tmp rfl) (by first | exact ev_tmp rfl | exact ev_const) ?_; intro hx hy; (first | refine w_storeB M _ _ _ _ rfl (by first | exact at0 | exact at1) hx rfl hy (by decide +kernel) (by first | assumption | omega | (simp; omega)) ?_ | refine w_storeH M _ _ _ _ rfl (by first | exact at0 | exact at1) hx rfl hy (by first | assumption | exact lenI | exact lenS ‹_› | rfl) (by decide +kernel) (by first | assumption | exact lenI | exact lenS ‹_› | rfl) ?_ | refine w_store M _ _ _ _ rfl (by first | exact at0 | exact at1) hx rfl hy rfl rfl (by decide +kernel) (by first | decide | simp | (simp; omega)) ?_ | refine w_storeR M _ _ _ _ rfl (by first | exact at0 | exact at1) hx rfl _ hy rfl (by kernel_rfl) (by simp [Value.oneCell']) (by first | rfl | assumption) ?_); clear hx hy M; intro w1 M; (try simp only [setC] at M))) | ((with_reducible refine tBox _ ?_); (refine w_box M _ _ rfl rfl _ rfl _ rfl ?_; clear M; intro g w1 M))) <;> (try conv => arg 5; simp only [Act.put, List.setIfInBounds_toArray, setC]))
  have hz : Try.zeroCells126.toList = bs (List.replicate 496 0) := by kernel_rfl
  have e := foldl_at 240 (bs s) Try.zeroCells126 (by rw [hbs]; decide +kernel)
  have e2 : (bs (List.replicate 496 0)).take 240 ++ bs s ++ (bs (List.replicate 496 0)).drop (240 + (bs s).length) = bs (key.take (4 * 0) ++ (List.replicate (240 - 4 * 0) 0 ++ s)) := by
    rw [hbs, List.drop_eq_nil_of_le (by rw [bs_length, List.length_replicate]; omega), List.append_nil]
    simp [bs]
  rw [hz, e2] at e
  rw [e] at M
  clear e e2 hz
  go_loopw [13] (fun kv wr => ∃ k : Nat, k ≤ 8 ∧ kv = .int .i64 k ∧ Mem [] w wr [.row g (bs (key.take (4 * k) ++ (List.replicate (240 - 4 * k) 0 ++ s))), .row gk (bs key)]) (fun kv _ => 8 - (intOf kv).toNat)
  case atStart => exact ⟨0, by omega, rfl, M⟩
  case round =>
    clear M
    obtain ⟨k, hk8, rfl, M⟩ := hrel
    by_cases hlt : k < 8
    · have CS := copy_step key s k hlt hk
      have hl : (key.take (4 * k) ++ (List.replicate (240 - 4 * k) 0 ++ s)).length = 496 := by simp; omega
      obtain ⟨l, el⟩ : ∃ l, l = key.take (4 * k) ++ (List.replicate (240 - 4 * k) 0 ++ s) := ⟨_, rfl⟩
      rw [← el] at M CS hl
      replace CS := Lib.hid CS
      clear el
      have h4 : 4 * (k : Int) ≤ 32 := by omega
      have h5 : 0 ≤ 4 * (k : Int) := by omega
      have h6 : (4 * (k : Int)).toNat = 4 * k := by omega
      go_wp2_with ((first | ((with_reducible show Code.wp _ (Code.region 5 _ _) _ _ _); go_must (refine region_det [(0, false), (1, false), (2, false), (3, false), (4, false), (5, false), (6, false), (7, false), (8, false), (9, true)] [(16, .ptr), (22, .int)] (by kernel_rfl) (by kernel_rfl) rfl (by kernel_rfl) ?_; replace M := M.drew; simp only [reord, opAt, List.map_cons, List.map_nil, List.getElem?_toArray, List.getElem?_cons_zero, List.getElem?_cons_succ, Option.getD_some])) | ((with_reducible show wpList _ _ _ (Oper.mk _ (Op.call ⟨Callee.builtin Builtin.copy, _, _⟩) _ _ _ _ :: _) _ _); go_must (refine w_copyB M 0 bytesT _ _ _ rfl rfl rfl rfl rfl (row_sees (M.ok 1 _ rfl) (by omega) (Nat.le_refl _) (by simp only [maxLen]; omega)) 4 (by simp; omega) (by omega) ?_; clear M; intro w1 M; simp only [List.set_cons_zero] at M)) | ((with_reducible show Seg _ _ _ _); go_must (first | refine Seg.intro ⟨fun h => absurd rfl h, ?_⟩ | refine Seg.intro ⟨fun _ => (by repeat' (first | exact ixOk_nil M.kept | refine ixOk_cons rfl (by first | exact M.ok 0 _ rfl | exact M.ok 1 _ rfl | exact M.ok 2 _ rfl | exact M.ok 3 _ rfl) ?_)), ?_⟩ | refine Seg.intro ⟨(by repeat' (first | (with_reducible exact needs_nil) | refine needs_at rfl (by first | (show Shape.ok Shape.nums _ = true; exact nums_bs _) | rfl) ?_)), (by repeat' (first | (with_reducible exact ats_nil) | refine ats_cons (by first | exact ev_tmp rfl | rfl) ?_)), ?_⟩)) | ((with_reducible show OnlyN _ _ _ _ _); refine OnlyN.intro (by kernel_rfl) ?_) | ((with_reducible refine tGuard ?_); first | refine w_strip rfl (by with_reducible rfl) ?_ | ((fail_if_success (refine w_lit false rfl (by with_reducible rfl) ?_)); (fail_if_success (refine w_lit true rfl (by with_reducible rfl) ?_)); refine w_case rfl ?_ ?_ <;> (intro hgd; rw [hgd]; try (exfalso; simp at hgd; omega)))) | ((with_reducible refine tConv _ 45 9 ?_); go_must (first | refine w_stringW M _ _ _ _ _ rfl rfl (by first | exact at0 | exact at1) rfl (by first | assumption | exact lenI | exact lenS ‹_› | rfl) (by decide) Try.underlying45 Try.underlying5 Try.underlying9 ?_ | refine w_string M _ _ _ _ _ rfl rfl (by first | exact at0 | exact at1) (by first | rfl | (simp; done) | assumption) rfl Try.underlying45 Try.underlying5 Try.underlying9 ?_)) | ((with_reducible refine tLoad ?_); go_must (refine w_at _ _ rfl (by exact ev_tmp rfl) ?_; intro hx; (first | refine w_load M _ _ _ rfl (by first | exact at0 | exact at1) hx rfl (by decide +kernel) (by exact rfl) ?_ | refine w_loadB M _ _ _ rfl (by first | exact at0 | exact at1) hx rfl (by decide +kernel) (by first | assumption | omega | (simp; omega)) ?_ | refine w_loadH M _ _ _ rfl (by first | exact at0 | exact at1) hx rfl (by decide +kernel) (by first | assumption | exact lenI | exact lenS ‹_› | rfl) (by decide +kernel) ?_ | refine w_loadR M _ _ _ rfl (by first | exact at0 | exact at1) hx rfl (by decide +kernel) (by kernel_rfl) ?_); clear hx)) | ((with_reducible refine tStore ?_); go_must (refine w_at2 _ _ _ rfl (by exact ev_tmp rfl) (by first | exact ev_tmp rfl | exact ev_const) ?_; intro hx hy; (first | refine w_storeB M _ _ _ _ rfl (by first | exact at0 | exact at1) hx rfl hy (by decide +kernel) (by first | assumption | omega | (simp; omega)) ?_ | refine w_storeH M _ _ _ _ rfl (by first | exact at0 | exact at1) hx rfl hy (by first | assumption | exact lenI | exact lenS ‹_› | rfl) (by decide +kernel) (by first | assumption | exact lenI | exact lenS ‹_› | rfl) ?_ | refine w_store M _ _ _ _ rfl (by first | exact at0 | exact at1) hx rfl hy rfl rfl (by decide +kernel) (by first | decide | simp | (simp; omega)) ?_ | refine w_storeR M _ _ _ _ rfl (by first | exact at0 | exact at1) hx rfl _ hy rfl (by kernel_rfl) (by simp [Value.oneCell']) (by first | rfl | assumption) ?_); clear hx hy M; intro w1 M; (try simp only [setC] at M))) | ((with_reducible refine tBox _ ?_); (refine w_box M _ _ rfl rfl _ rfl _ rfl ?_; clear M; intro g w1 M))) <;> (try conv => arg 5; simp only [Act.put, List.setIfInBounds_toArray, setC]))
      rw [CS.out] at M
      go_roundw
      case rel => exact ⟨k + 1, by omega, by go_num, M⟩
      case measure => simp [intOf]; omega
    · obtain rfl : k = 8 := by omega
      have e : key.take (4 * 8) ++ (List.replicate (240 - 4 * 8) 0 ++ s) = (schS s key 0).1 ++ s := by
        rw [List.take_of_length_le (by omega), ← List.append_assoc]; rfl
      rw [e] at M
      have e0 : (schS s key 0).2 = 1 := rfl
      clear e
      go_wp2_with ((first | ((with_reducible refine tGuard ?_); first | refine w_strip rfl (by with_reducible rfl) ?_ | ((fail_if_success (refine w_lit false rfl (by with_reducible rfl) ?_)); (fail_if_success (refine w_lit true rfl (by with_reducible rfl) ?_)); refine w_case rfl ?_ ?_ <;> (intro hgd; rw [hgd]; try (exfalso; simp at hgd; omega)))) | ((with_reducible refine tConv _ 45 9 ?_); go_must (first | refine w_stringW M _ _ _ _ _ rfl rfl (by first | exact at0 | exact at1) rfl (by first | assumption | exact lenI | exact lenS ‹_› | rfl) (by decide) Try.underlying45 Try.underlying5 Try.underlying9 ?_ | refine w_string M _ _ _ _ _ rfl rfl (by first | exact at0 | exact at1) (by first | rfl | (simp; done) | assumption) rfl Try.underlying45 Try.underlying5 Try.underlying9 ?_)) | ((with_reducible refine tLoad ?_); go_must (refine w_at _ _ rfl (by exact ev_tmp rfl) ?_; intro hx; (first | refine w_load M _ _ _ rfl (by first | exact at0 | exact at1) hx rfl (by decide +kernel) (by exact rfl) ?_ | refine w_loadB M _ _ _ rfl (by first | exact at0 | exact at1) hx rfl (by decide +kernel) (by first | assumption | omega | (simp; omega)) ?_ | refine w_loadH M _ _ _ rfl (by first | exact at0 | exact at1) hx rfl (by decide +kernel) (by first | assumption | exact lenI | exact lenS ‹_› | rfl) (by decide +kernel) ?_ | refine w_loadR M _ _ _ rfl (by first | exact at0 | exact at1) hx rfl (by decide +kernel) (by kernel_rfl) ?_); clear hx)) | ((with_reducible refine tStore ?_); go_must (refine w_at2 _ _ _ rfl (by exact ev_tmp rfl) (by first | exact ev_tmp rfl | exact ev_const) ?_; intro hx hy; (first | refine w_storeB M _ _ _ _ rfl (by first | exact at0 | exact at1) hx rfl hy (by decide +kernel) (by first | assumption | omega | (simp; omega)) ?_ | refine w_storeH M _ _ _ _ rfl (by first | exact at0 | exact at1) hx rfl hy (by first | assumption | exact lenI | exact lenS ‹_› | rfl) (by decide +kernel) (by first | assumption | exact lenI | exact lenS ‹_› | rfl) ?_ | refine w_store M _ _ _ _ rfl (by first | exact at0 | exact at1) hx rfl hy rfl rfl (by decide +kernel) (by first | decide | simp | (simp; omega)) ?_ | refine w_storeR M _ _ _ _ rfl (by first | exact at0 | exact at1) hx rfl _ hy rfl (by kernel_rfl) (by simp [Value.oneCell']) (by first | rfl | assumption) ?_); clear hx hy M; intro w1 M; (try simp only [setC] at M))) | ((with_reducible refine tBox _ ?_); (refine w_box M _ _ rfl rfl _ rfl _ rfl ?_; clear M; intro g w1 M))) <;> (try conv => arg 5; simp only [Act.put, List.setIfInBounds_toArray, setC]))
      rw [show ((8 : Nat) : Int) = 8 from rfl]
      go_loopw [5, 6] (fun pv iv wr => ∃ n : Nat, n ≤ 52 ∧ pv = .int .u8 (I8 (schS s key n).2) ∧ iv = .int .i64 (n + 8) ∧ Mem [] w wr [.row g (bs ((schS s key n).1 ++ s)), .row gk (bs key)]) (fun _ iv _ => 60 - (intOf iv).toNat)
      case atStart => exact ⟨0, by omega, rfl, rfl, M⟩
      case round =>
        clear M e0
        obtain ⟨n, hn, rfl, rfl, M⟩ := hrel
        have hW := schS_len s key hk n
        obtain ⟨⟨W, pw⟩, ex⟩ : ∃ x, x = schS s key n := ⟨_, rfl⟩
        rw [← ex] at M hW
        rw [← ex]
        simp only at M hW
        simp only
        have EX := Lib.hid (show schS s key (n + 1) = schW s n (W, pw) by rw [ex]; rfl)
        have EX0 := Lib.hid ex
        clear ex
        by_cases hlt : n < 52
        · have hWs : (W ++ s).length = 496 := by rw [List.length_append, hW, hs]
          have ht := take_in W s ((n + 8 - 1) * 4) (by omega)
          have ht2 : (W.drop ((n + 8 - 1) * 4)).take 4 = word1 W (n + 8) := by unfold word1; rw [Nat.mul_comm]
          rw [ht2] at ht
          have hl1 := word1_len hW (show 1 ≤ n + 8 by omega) (by omega)
          obtain ⟨t1, e1⟩ : ∃ t, t = word1 W (n + 8) := ⟨_, rfl⟩
          have E2 : word2 W (n + 8) = if n % 8 = 0 then rotT t1 else t1 := by unfold word2; rw [← e1]; simp
          have E3 : word3 s W (n + 8) = if n % 4 = 0 then iterN (subT s) 4 (word2 W (n + 8)) else word2 W (n + 8) := by unfold word3; simp [show (n + 8) % 4 = n % 4 by omega]
          have E4 : word4 s W pw (n + 8) = if n % 8 = 0 then (word3 s W (n + 8)).set 0 (nth (word3 s W (n + 8)) 0 ^^^ pw) else word3 s W (n + 8) := by unfold word4; simp
          have EP : powI pw (n + 8) = if n % 8 = 0 then tw pw else pw := by unfold powI; simp
          rw [← e1] at ht hl1
          clear ht2 e1
          have hlX : (List.take 4 (List.drop ((n + 8 - 1) * 4) (W ++ s))).length = 4 := by rw [ht]; exact hl1
          have hlY : (bs (List.take 4 (List.drop ((n + 8 - 1) * 4) (W ++ s)))).length = 4 := by rw [bs_length, hlX]
          have q : ∀ j, j < 4 → nth t1 j = (W ++ s)[(n + 7) * 4 + j]?.getD 0 := fun j hj => by
            rw [← ht]; unfold nth; rw [List.getD_eq_getElem?_getD, List.getElem?_take, if_pos hj, List.getElem?_drop, show n + 8 - 1 = n + 7 by omega]
          by_cases h4 : n % 4 = 0
          · rw [if_pos h4] at E3
            have h4' : ((n : Int) + 8) % 4 = 0 := by omega
            by_cases h8 : n % 8 = 0
            · rw [if_pos h8] at E2 E4 EP
              have e2 : bs (rotT t1) = [.int .u8 (I8 ((W ++ s)[(n + 7) * 4 + 1]?.getD 0)), .int .u8 (I8 ((W ++ s)[(n + 7) * 4 + 2]?.getD 0)), .int .u8 (I8 ((W ++ s)[(n + 7) * 4 + 3]?.getD 0)), .int .u8 (I8 ((W ++ s)[(n + 7) * 4]?.getD 0))] := by
                unfold rotT; rw [q 1 (by omega), q 2 (by omega), q 3 (by omega), q 0 (by omega)]; rfl
              replace e2 := Lib.hid e2
              rw [E2] at E3
              replace E3 := Lib.hid E3
              replace E4 := Lib.hid E4
              replace EP := Lib.hid EP
              replace q := Lib.hid q
              clear E2
              have h8' : ((n : Int) + 8) % 8 = 0 := by omega
              go_wp2_with ((first | ((with_reducible refine tAlloc (some 7) 123 ?_); refine w_alloc M _ rfl rfl (.agg (Array.replicate 4 (.int .u8 0))) (bs (List.replicate 4 (0 : UInt8))) (by kernel_rfl) rfl ?_; clear M; intro gt w1 M) | (go_at_call 78; go_must (refine (twice_c _ _).mono ?_; rintro e w1 ⟨rfl, rfl⟩)) | ((with_reducible refine tGuard ?_); first | refine w_strip rfl (by with_reducible rfl) ?_ | ((fail_if_success (refine w_lit false rfl (by with_reducible rfl) ?_)); (fail_if_success (refine w_lit true rfl (by with_reducible rfl) ?_)); refine w_case rfl ?_ ?_ <;> (intro hgd; rw [hgd]; try (exfalso; simp at hgd; omega)))) | ((with_reducible refine tConv _ 45 9 ?_); go_must (first | refine w_stringW M _ _ _ _ _ rfl rfl (by first | exact at0 | exact at1 | exact at2) rfl (by first | assumption | exact lenI | exact lenS ‹_› | rfl) (by decide) Try.underlying45 Try.underlying5 Try.underlying9 ?_ | refine w_string M _ _ _ _ _ rfl rfl (by first | exact at0 | exact at1 | exact at2) (by first | rfl | (simp; done) | assumption) rfl Try.underlying45 Try.underlying5 Try.underlying9 ?_)) | ((with_reducible refine tLoad ?_); go_must (refine w_at _ _ rfl (by exact ev_tmp rfl) ?_; intro hx; (first | refine w_load M _ _ _ rfl (by first | exact at0 | exact at1 | exact at2) hx rfl (by decide +kernel) (by exact rfl) ?_ | refine w_loadB M _ _ _ rfl (by first | exact at0 | exact at1 | exact at2) hx rfl (by decide +kernel) (by first | assumption | omega | (simp; omega)) ?_ | refine w_loadH M _ _ _ rfl (by first | exact at0 | exact at1 | exact at2) hx rfl (by decide +kernel) (by first | assumption | exact lenI | exact lenS ‹_› | rfl) (by decide +kernel) ?_ | refine w_loadR M _ _ _ rfl (by first | exact at0 | exact at1 | exact at2) hx rfl (by decide +kernel) (by kernel_rfl) ?_ | refine w_loadM M _ _ _ rfl (by first | exact at0 | exact at1 | exact at2) hx rfl (by decide +kernel) 4 (by decide +kernel) (by first | assumption | omega | (simp; omega)) ?_); clear hx)) | ((with_reducible refine tStore ?_); go_must (refine w_at2 _ _ _ rfl (by exact ev_tmp rfl) (by first | exact ev_tmp rfl | exact ev_const) ?_; intro hx hy; (first | refine w_storeB M _ _ _ _ rfl (by first | exact at0 | exact at1 | exact at2) hx rfl hy (by decide +kernel) (by first | assumption | omega | (simp; omega)) ?_ | refine w_storeH M _ _ _ _ rfl (by first | exact at0 | exact at1 | exact at2) hx rfl hy (by first | assumption | exact lenI | exact lenS ‹_› | rfl) (by decide +kernel) (by first | assumption | exact lenI | exact lenS ‹_› | rfl) ?_ | refine w_store M _ _ _ _ rfl (by first | exact at0 | exact at1 | exact at2) hx rfl hy rfl rfl (by decide +kernel) (by first | decide | simp | (simp; omega)) ?_ | refine w_storeR M _ _ _ _ rfl (by first | exact at0 | exact at1 | exact at2) hx rfl _ hy rfl (by kernel_rfl) (by simp [Value.oneCell']) (by first | rfl | assumption | exact Eq.symm (by assumption)) ?_); clear hx hy M; intro w1 M; (try simp only [setC] at M))) | ((with_reducible refine tBox _ ?_); (refine w_box M _ _ rfl rfl _ rfl _ rfl ?_; clear M; intro g w1 M))) <;> (try conv => arg 5; simp only [Act.put, List.setIfInBounds_toArray, setC]))
              rw [← e2.out] at M
              have hl2 : (rotT t1).length = 4 := rfl
              obtain ⟨t2, e3⟩ : ∃ t, t = rotT t1 := ⟨_, rfl⟩
              rw [← e3] at M hl2 E3
              clear e3 e2 ht hlX hlY q
              go_loopw [53] (fun kv wr => ∃ k : Nat, k ≤ 4 ∧ kv = .int .i64 k ∧ Mem [] w wr [.row gt (bs (iterN (subT s) k t2)), .row g (bs (W ++ s)), .row gk (bs key)]) (fun kv _ => 4 - (intOf kv).toNat)
              case atStart => exact ⟨0, by omega, rfl, M⟩
              case round =>
                clear M
                obtain ⟨k, hk4, rfl, M⟩ := hrel
                obtain ⟨d, ed⟩ : ∃ d, d = iterN (subT s) k t2 := ⟨_, rfl⟩
                have hd : d.length = 4 := by rw [ed, iterN_len _ (fun _ _ => subT_len _ _ _)]; exact hl2
                rw [← ed] at M
                have ED := Lib.hid ed
                clear ed
                by_cases hlt4 : k < 4
                · obtain ⟨q, eq⟩ : ∃ q, q = nth d k := ⟨_, rfl⟩
                  have hq0 := (I8_bd q).1
                  have hq1 := (I8_bd q).2
                  have hq2 := I8_toNat q
                  have hq3 := q.toNat_lt
                  have hq4 : q.toNat < 256 := hq3
                  have hd1 : d.getD k 0 = q := eq.symm
                  have hd2 : d[k]?.getD 0 = q := by rw [nth_at', eq]
                  have hd3 : d[k] = q := by rw [nth_at, eq]
                  have EQ := Lib.hid eq
                  clear eq hq3
                  go_wp2_with ((first | ((with_reducible show Code.wp _ (Code.region 18 _ _) _ _ _); go_must (have MR := M; refine region_lowc [(0, false), (1, false), (2, false), (3, false), (5, false), (6, false), (4, false), (7, false), (8, false), (9, false), (10, true)] [(57, .ptr)] [(4, _), (8, _)] (IxOk MR [0, 1]) 10 (by kernel_rfl) (by kernel_rfl) rfl (by kernel_rfl) (lows_cons (by first | exact stab_ix MR 0 k rfl rfl (by decide) (by decide +kernel) rfl | exact stab_ixB MR 0 k rfl rfl (by decide) (by decide +kernel) (by first | assumption | omega) | exact stab_ix32 MR 0 k rfl rfl (by decide) (by decide +kernel) (by first | assumption | omega | (simp; omega)) | exact stab_ixH MR 0 rfl rfl (by decide) (by decide +kernel) (by first | assumption | exact lenI | exact lenS ‹_› | rfl) (by decide +kernel) | exact stab_ixW32 MR 0 rfl rfl (by decide) (by decide +kernel) (by first | assumption | exact lenI | exact lenS ‹_› | rfl) (by decide +kernel) | exact stab_ixR MR 0 rfl rfl (by decide) (by decide +kernel) (by kernel_rfl) | exact stab_ixW MR 0 rfl rfl (by decide) (by first | assumption | exact lenI | exact lenS ‹_› | rfl) (by decide) Try.underlying45 Try.underlying5 Try.underlying9 | exact stab_ixS MR 0 rfl rfl (by decide) (by first | rfl | simp | assumption) Try.underlying45 Try.underlying5 Try.underlying9) (lows_cons (by first | exact stab_ix MR 1 (240+q.toNat) rfl rfl (by decide) (by decide +kernel) rfl | exact stab_ixB MR 1 (240+q.toNat) rfl rfl (by decide) (by decide +kernel) (by first | assumption | omega) | exact stab_ix32 MR 1 (240+q.toNat) rfl rfl (by decide) (by decide +kernel) (by first | assumption | omega | (simp; omega)) | exact stab_ixH MR 1 rfl rfl (by decide) (by decide +kernel) (by first | assumption | exact lenI | exact lenS ‹_› | rfl) (by decide +kernel) | exact stab_ixW32 MR 1 rfl rfl (by decide) (by decide +kernel) (by first | assumption | exact lenI | exact lenS ‹_› | rfl) (by decide +kernel) | exact stab_ixR MR 1 rfl rfl (by decide) (by decide +kernel) (by kernel_rfl) | exact stab_ixW MR 1 rfl rfl (by decide) (by first | assumption | exact lenI | exact lenS ‹_› | rfl) (by decide) Try.underlying45 Try.underlying5 Try.underlying9 | exact stab_ixS MR 1 rfl rfl (by decide) (by first | rfl | simp | assumption) Try.underlying45 Try.underlying5 Try.underlying9) lows_nil)) (ixOk_self MR _) ?_; replace M := M.drew; simp only [planC, opAt, List.getElem?_toArray, List.getElem?_cons_zero, List.getElem?_cons_succ, Option.getD_some])) | ((with_reducible show Seg _ _ _ _); go_must (first | refine Seg.intro ⟨fun h => absurd rfl h, ?_⟩ | refine Seg.intro ⟨fun _ => (by repeat' (first | exact ixOk_nil M.kept | refine ixOk_cons rfl (by first | exact M.ok 0 _ rfl | exact M.ok 1 _ rfl | exact M.ok 2 _ rfl | exact M.ok 3 _ rfl | exact M.ok 4 _ rfl) ?_)), ?_⟩ | refine Seg.intro ⟨(by repeat' (first | (with_reducible exact needs_nil) | refine needs_at rfl (by first | (show Shape.ok Shape.nums _ = true; exact nums_bs _) | rfl) ?_)), (by repeat' (first | (with_reducible exact ats_nil) | refine ats_cons (by first | exact ev_tmp rfl | rfl) ?_)), ?_⟩)) | ((with_reducible show OnlyN _ _ _ _ _); refine OnlyN.intro (by kernel_rfl) ?_) | ((with_reducible refine tGuard ?_); first | refine w_strip rfl (by with_reducible rfl) ?_ | ((fail_if_success (refine w_lit false rfl (by with_reducible rfl) ?_)); (fail_if_success (refine w_lit true rfl (by with_reducible rfl) ?_)); refine w_case rfl ?_ ?_ <;> (intro hgd; rw [hgd]; try (exfalso; simp at hgd; omega)))) | ((with_reducible refine tConv _ 45 9 ?_); go_must (first | refine w_stringW M _ _ _ _ _ rfl rfl (by first | exact at0 | exact at1 | exact at2) rfl (by first | assumption | exact lenI | exact lenS ‹_› | rfl) (by decide) Try.underlying45 Try.underlying5 Try.underlying9 ?_ | refine w_string M _ _ _ _ _ rfl rfl (by first | exact at0 | exact at1 | exact at2) (by first | rfl | (simp; done) | assumption) rfl Try.underlying45 Try.underlying5 Try.underlying9 ?_)) | ((with_reducible refine tLoad ?_); go_must (refine w_at _ _ rfl (by exact ev_tmp rfl) ?_; intro hx; (first | refine w_load M _ _ _ rfl (by first | exact at0 | exact at1 | exact at2) hx rfl (by decide +kernel) (by exact rfl) ?_ | refine w_loadB M _ _ _ rfl (by first | exact at0 | exact at1 | exact at2) hx rfl (by decide +kernel) (by first | assumption | omega | (simp; omega)) ?_ | refine w_loadH M _ _ _ rfl (by first | exact at0 | exact at1 | exact at2) hx rfl (by decide +kernel) (by first | assumption | exact lenI | exact lenS ‹_› | rfl) (by decide +kernel) ?_ | refine w_loadR M _ _ _ rfl (by first | exact at0 | exact at1 | exact at2) hx rfl (by decide +kernel) (by kernel_rfl) ?_); clear hx)) | ((with_reducible refine tStore ?_); go_must (refine w_at2 _ _ _ rfl (by exact ev_tmp rfl) (by first | exact ev_tmp rfl | exact ev_const) ?_; intro hx hy; (first | refine w_storeB M _ _ _ _ rfl (by first | exact at0 | exact at1 | exact at2) hx rfl hy (by decide +kernel) (by first | assumption | omega | (simp; omega)) ?_ | refine w_storeH M _ _ _ _ rfl (by first | exact at0 | exact at1 | exact at2) hx rfl hy (by first | assumption | exact lenI | exact lenS ‹_› | rfl) (by decide +kernel) (by first | assumption | exact lenI | exact lenS ‹_› | rfl) ?_ | refine w_store M _ _ _ _ rfl (by first | exact at0 | exact at1 | exact at2) hx rfl hy rfl rfl (by decide +kernel) (by first | decide | simp | (simp; omega)) ?_ | refine w_storeR M _ _ _ _ rfl (by first | exact at0 | exact at1 | exact at2) hx rfl _ hy rfl (by kernel_rfl) (by simp [Value.oneCell']) (by first | rfl | assumption) ?_); clear hx hy M; intro w1 M; (try simp only [setC] at M))) | ((with_reducible refine tBox _ ?_); (refine w_box M _ _ rfl rfl _ rfl _ rfl ?_; clear M; intro g w1 M))) <;> (try conv => arg 5; simp only [Act.put, List.setIfInBounds_toArray, setC]))
                  rw [show (W ++ s).getD (240 + q.toNat) 0 = nth s q.toNat from nth_out W s 240 _ hW] at M
                  go_roundw
                  case rel => exact ⟨k + 1, by omega, by go_num, by
                    rw [iterN_succ, ← ED.out]; unfold subT; rw [← EQ.out]; exact M⟩
                  case measure => simp [intOf]; omega
                · obtain rfl : k = 4 := by omega
                  replace E3 := E3.out.trans ED.out.symm
                  replace E4 := E4.out
                  rw [E3] at E4
                  replace E4 := Lib.hid E4
                  clear E3 ED
                  go_wp2_with ((first | ((with_reducible refine tAlloc (some 7) 123 ?_); refine w_alloc M _ rfl rfl (.agg (Array.replicate 4 (.int .u8 0))) (bs (List.replicate 4 (0 : UInt8))) (by kernel_rfl) rfl ?_; clear M; intro gt w1 M) | (go_at_call 78; go_must (refine (twice_c _ _).mono ?_; rintro e w1 ⟨rfl, rfl⟩)) | ((with_reducible refine tGuard ?_); first | refine w_strip rfl (by with_reducible rfl) ?_ | ((fail_if_success (refine w_lit false rfl (by with_reducible rfl) ?_)); (fail_if_success (refine w_lit true rfl (by with_reducible rfl) ?_)); refine w_case rfl ?_ ?_ <;> (intro hgd; rw [hgd]; try (exfalso; simp at hgd; omega)))) | ((with_reducible refine tConv _ 45 9 ?_); go_must (first | refine w_stringW M _ _ _ _ _ rfl rfl (by first | exact at0 | exact at1 | exact at2) rfl (by first | assumption | exact lenI | exact lenS ‹_› | rfl) (by decide) Try.underlying45 Try.underlying5 Try.underlying9 ?_ | refine w_string M _ _ _ _ _ rfl rfl (by first | exact at0 | exact at1 | exact at2) (by first | rfl | (simp; done) | assumption) rfl Try.underlying45 Try.underlying5 Try.underlying9 ?_)) | ((with_reducible refine tLoad ?_); go_must (refine w_at _ _ rfl (by exact ev_tmp rfl) ?_; intro hx; (first | refine w_load M _ _ _ rfl (by first | exact at0 | exact at1 | exact at2) hx rfl (by decide +kernel) (by exact rfl) ?_ | refine w_loadB M _ _ _ rfl (by first | exact at0 | exact at1 | exact at2) hx rfl (by decide +kernel) (by first | assumption | omega | (simp; omega)) ?_ | refine w_loadH M _ _ _ rfl (by first | exact at0 | exact at1 | exact at2) hx rfl (by decide +kernel) (by first | assumption | exact lenI | exact lenS ‹_› | rfl) (by decide +kernel) ?_ | refine w_loadR M _ _ _ rfl (by first | exact at0 | exact at1 | exact at2) hx rfl (by decide +kernel) (by kernel_rfl) ?_ | refine w_loadM M _ _ _ rfl (by first | exact at0 | exact at1 | exact at2) hx rfl (by decide +kernel) 4 (by decide +kernel) (by first | assumption | omega | (simp; omega)) ?_); clear hx)) | ((with_reducible refine tStore ?_); go_must (refine w_at2 _ _ _ rfl (by exact ev_tmp rfl) (by first | exact ev_tmp rfl | exact ev_const) ?_; intro hx hy; (first | refine w_storeB M _ _ _ _ rfl (by first | exact at0 | exact at1 | exact at2) hx rfl hy (by decide +kernel) (by first | assumption | omega | (simp; omega)) ?_ | refine w_storeH M _ _ _ _ rfl (by first | exact at0 | exact at1 | exact at2) hx rfl hy (by first | assumption | exact lenI | exact lenS ‹_› | rfl) (by decide +kernel) (by first | assumption | exact lenI | exact lenS ‹_› | rfl) ?_ | refine w_store M _ _ _ _ rfl (by first | exact at0 | exact at1 | exact at2) hx rfl hy rfl rfl (by decide +kernel) (by first | decide | simp | (simp; omega)) ?_ | refine w_storeR M _ _ _ _ rfl (by first | exact at0 | exact at1 | exact at2) hx rfl _ hy rfl (by kernel_rfl) (by simp [Value.oneCell']) (by first | rfl | assumption | exact Eq.symm (by assumption)) ?_); clear hx hy M; intro w1 M; (try simp only [setC] at M))) | ((with_reducible refine tBox _ ?_); (refine w_box M _ _ rfl rfl _ rfl _ rfl ?_; clear M; intro g w1 M))) <;> (try conv => arg 5; simp only [Act.put, List.setIfInBounds_toArray, setC]))
                  rw [nth_at d 0 (by omega)] at M
                  obtain ⟨t4, e4⟩ : ∃ t, t = d.set 0 (nth d 0 ^^^ pw) := ⟨_, rfl⟩
                  have ht4 : t4.length = 4 := by rw [e4, List.length_set]; exact hd
                  rw [← e4] at M E4
                  clear e4
                  go_loopw [77] (fun kv wr => ∃ k : Nat, k ≤ 4 ∧ kv = .int .i64 k ∧ Mem [] w wr [.row gt (bs t4), .row g (bs (iterN (addT t4 (n + 8)) k W ++ s)), .row gk (bs key)]) (fun kv _ => 4 - (intOf kv).toNat)
                  case atStart => exact ⟨0, by omega, rfl, M⟩
                  case round =>
                    clear M
                    obtain ⟨k, hk4, rfl, M⟩ := hrel
                    obtain ⟨V, eV⟩ : ∃ V, V = iterN (addT t4 (n + 8)) k W := ⟨_, rfl⟩
                    have hV : V.length = 240 := by rw [eV, iterN_len _ (addT_len _ _)]; exact hW
                    have hVs : (V ++ s).length = 496 := by rw [List.length_append, hV, hs]
                    rw [← eV] at M
                    have EV := Lib.hid eV
                    clear eV
                    by_cases hlt4 : k < 4
                    · go_wp2_with ((first | ((with_reducible show Code.wp _ (Code.region 26 _ _) _ _ _); go_must (refine region_det [(0, false), (1, false), (2, false), (3, false), (4, false), (5, false), (6, false), (7, false), (8, false), (9, false), (10, false), (12, false), (13, false), (16, false), (17, false), (18, false), (11, false), (14, false), (15, false), (19, false), (20, true)] [(84, .int), (83, .ptr), (80, .ptr), (91, .int), (94, .int)] (by kernel_rfl) (by kernel_rfl) rfl (by kernel_rfl) ?_; replace M := M.drew; simp only [reord, opAt, List.map_cons, List.map_nil, List.getElem?_toArray, List.getElem?_cons_zero, List.getElem?_cons_succ, Option.getD_some])) | ((with_reducible show Seg _ _ _ _); go_must (first | refine Seg.intro ⟨fun h => absurd rfl h, ?_⟩ | refine Seg.intro ⟨fun _ => (by repeat' (first | exact ixOk_nil M.kept | refine ixOk_cons rfl (by first | exact M.ok 0 _ rfl | exact M.ok 1 _ rfl | exact M.ok 2 _ rfl | exact M.ok 3 _ rfl | exact M.ok 4 _ rfl) ?_)), ?_⟩ | refine Seg.intro ⟨(by repeat' (first | (with_reducible exact needs_nil) | refine needs_at rfl (by first | (show Shape.ok Shape.nums _ = true; exact nums_bs _) | rfl) ?_)), (by repeat' (first | (with_reducible exact ats_nil) | refine ats_cons (by first | exact ev_tmp rfl | rfl) ?_)), ?_⟩)) | ((with_reducible show OnlyN _ _ _ _ _); refine OnlyN.intro (by kernel_rfl) ?_) | ((with_reducible refine tGuard ?_); first | refine w_strip rfl (by with_reducible rfl) ?_ | ((fail_if_success (refine w_lit false rfl (by with_reducible rfl) ?_)); (fail_if_success (refine w_lit true rfl (by with_reducible rfl) ?_)); refine w_case rfl ?_ ?_ <;> (intro hgd; rw [hgd]; try (exfalso; simp at hgd; omega)))) | ((with_reducible refine tConv _ 45 9 ?_); go_must (first | refine w_stringW M _ _ _ _ _ rfl rfl (by first | exact at0 | exact at1 | exact at2) rfl (by first | assumption | exact lenI | exact lenS ‹_› | rfl) (by decide) Try.underlying45 Try.underlying5 Try.underlying9 ?_ | refine w_string M _ _ _ _ _ rfl rfl (by first | exact at0 | exact at1 | exact at2) (by first | rfl | (simp; done) | assumption) rfl Try.underlying45 Try.underlying5 Try.underlying9 ?_)) | ((with_reducible refine tLoad ?_); go_must (refine w_at _ _ rfl (by exact ev_tmp rfl) ?_; intro hx; (first | refine w_load M _ _ _ rfl (by first | exact at0 | exact at1 | exact at2) hx rfl (by decide +kernel) (by exact rfl) ?_ | refine w_loadB M _ _ _ rfl (by first | exact at0 | exact at1 | exact at2) hx rfl (by decide +kernel) (by first | assumption | omega | (simp; omega)) ?_ | refine w_loadH M _ _ _ rfl (by first | exact at0 | exact at1 | exact at2) hx rfl (by decide +kernel) (by first | assumption | exact lenI | exact lenS ‹_› | rfl) (by decide +kernel) ?_ | refine w_loadR M _ _ _ rfl (by first | exact at0 | exact at1 | exact at2) hx rfl (by decide +kernel) (by kernel_rfl) ?_); clear hx)) | ((with_reducible refine tStore ?_); go_must (refine w_at2 _ _ _ rfl (by exact ev_tmp rfl) (by first | exact ev_tmp rfl | exact ev_const) ?_; intro hx hy; (first | refine w_storeB M _ _ _ _ rfl (by first | exact at0 | exact at1 | exact at2) hx rfl hy (by decide +kernel) (by first | assumption | omega | (simp; omega)) ?_ | refine w_storeH M _ _ _ _ rfl (by first | exact at0 | exact at1 | exact at2) hx rfl hy (by first | assumption | exact lenI | exact lenS ‹_› | rfl) (by decide +kernel) (by first | assumption | exact lenI | exact lenS ‹_› | rfl) ?_ | refine w_store M _ _ _ _ rfl (by first | exact at0 | exact at1 | exact at2) hx rfl hy rfl rfl (by decide +kernel) (by first | decide | simp | (simp; omega)) ?_ | refine w_storeR M _ _ _ _ rfl (by first | exact at0 | exact at1 | exact at2) hx rfl _ hy rfl (by kernel_rfl) (by simp [Value.oneCell']) (by first | rfl | assumption) ?_); clear hx hy M; intro w1 M; (try simp only [setC] at M))) | ((with_reducible refine tBox _ ?_); (refine w_box M _ _ rfl rfl _ rfl _ rfl ?_; clear M; intro g w1 M))) <;> (try conv => arg 5; simp only [Act.put, List.setIfInBounds_toArray, setC]))
                      have q1 : addT t4 (n + 8) k V = V.set ((n + 8) * 4 + k) (nth V (4 * n + k) ^^^ nth t4 k) := by unfold addT; rw [Nat.mul_comm 4 (n + 8), Nat.add_sub_cancel]
                      have q2 : (V ++ s)[n * 4 + k]?.getD 0 = nth V (4 * n + k) := by rw [nth_at', nth_in _ _ _ (by omega), Nat.mul_comm]
                      rw [q2, nth_at t4 k (by omega), set_in V s _ _ (by omega), ← q1] at M
                      go_roundw
                      case rel => exact ⟨k + 1, by omega, by go_num, by rw [iterN_succ, ← EV.out]; exact M⟩
                      case measure => simp [intOf]; omega
                    · obtain rfl : k = 4 := by omega
                      go_wp2_with ((first | ((with_reducible refine tGuard ?_); first | refine w_strip rfl (by with_reducible rfl) ?_ | ((fail_if_success (refine w_lit false rfl (by with_reducible rfl) ?_)); (fail_if_success (refine w_lit true rfl (by with_reducible rfl) ?_)); refine w_case rfl ?_ ?_ <;> (intro hgd; rw [hgd]; try (exfalso; simp at hgd; omega)))) | ((with_reducible refine tConv _ 45 9 ?_); go_must (first | refine w_stringW M _ _ _ _ _ rfl rfl (by first | exact at0 | exact at1 | exact at2) rfl (by first | assumption | exact lenI | exact lenS ‹_› | rfl) (by decide) Try.underlying45 Try.underlying5 Try.underlying9 ?_ | refine w_string M _ _ _ _ _ rfl rfl (by first | exact at0 | exact at1 | exact at2) (by first | rfl | (simp; done) | assumption) rfl Try.underlying45 Try.underlying5 Try.underlying9 ?_)) | ((with_reducible refine tLoad ?_); go_must (refine w_at _ _ rfl (by exact ev_tmp rfl) ?_; intro hx; (first | refine w_load M _ _ _ rfl (by first | exact at0 | exact at1 | exact at2) hx rfl (by decide +kernel) (by exact rfl) ?_ | refine w_loadB M _ _ _ rfl (by first | exact at0 | exact at1 | exact at2) hx rfl (by decide +kernel) (by first | assumption | omega | (simp; omega)) ?_ | refine w_loadH M _ _ _ rfl (by first | exact at0 | exact at1 | exact at2) hx rfl (by decide +kernel) (by first | assumption | exact lenI | exact lenS ‹_› | rfl) (by decide +kernel) ?_ | refine w_loadR M _ _ _ rfl (by first | exact at0 | exact at1 | exact at2) hx rfl (by decide +kernel) (by kernel_rfl) ?_); clear hx)) | ((with_reducible refine tStore ?_); go_must (refine w_at2 _ _ _ rfl (by exact ev_tmp rfl) (by first | exact ev_tmp rfl | exact ev_const) ?_; intro hx hy; (first | refine w_storeB M _ _ _ _ rfl (by first | exact at0 | exact at1 | exact at2) hx rfl hy (by decide +kernel) (by first | assumption | omega | (simp; omega)) ?_ | refine w_storeH M _ _ _ _ rfl (by first | exact at0 | exact at1 | exact at2) hx rfl hy (by first | assumption | exact lenI | exact lenS ‹_› | rfl) (by decide +kernel) (by first | assumption | exact lenI | exact lenS ‹_› | rfl) ?_ | refine w_store M _ _ _ _ rfl (by first | exact at0 | exact at1 | exact at2) hx rfl hy rfl rfl (by decide +kernel) (by first | decide | simp | (simp; omega)) ?_ | refine w_storeR M _ _ _ _ rfl (by first | exact at0 | exact at1 | exact at2) hx rfl _ hy rfl (by kernel_rfl) (by simp [Value.oneCell']) (by first | rfl | assumption) ?_); clear hx hy M; intro w1 M; (try simp only [setC] at M))) | ((with_reducible refine tBox _ ?_); (refine w_box M _ _ rfl rfl _ rfl _ rfl ?_; clear M; intro g w1 M))) <;> (try conv => arg 5; simp only [Act.put, List.setIfInBounds_toArray, setC]))
                      go_roundw
                      case rel => exact ⟨n + 1, by omega, by rw [EX.out]; show _ = Value.int .u8 (I8 (powI pw (n + 8))); rw [EP.out], by go_num, by
                        rw [EX.out]; show Mem [] w _ [.row g (bs (iterN (addT (word4 s W pw (n + 8)) (n + 8)) 4 W ++ s)), .row gk (bs key)]
                        rw [E4.out, ← EV.out]; exact M.tail⟩
                      case measure => simp [intOf]; omega
            · rw [if_neg h8] at E2 E4 EP
              have hl2 := hl1
              obtain ⟨t2, e3⟩ : ∃ t, t = t1 := ⟨_, rfl⟩
              rw [E2, ← e3] at E3
              rw [← e3] at hl2
              replace E3 := Lib.hid E3
              replace E4 := Lib.hid E4
              replace EP := Lib.hid EP
              clear E2 q
              have h8' : ¬ ((n : Int) + 8) % 8 = 0 := by omega
              go_wp2_with ((first | ((with_reducible refine tAlloc (some 7) 123 ?_); refine w_alloc M _ rfl rfl (.agg (Array.replicate 4 (.int .u8 0))) (bs (List.replicate 4 (0 : UInt8))) (by kernel_rfl) rfl ?_; clear M; intro gt w1 M) | (go_at_call 78; go_must (refine (twice_c _ _).mono ?_; rintro e w1 ⟨rfl, rfl⟩)) | ((with_reducible refine tGuard ?_); first | refine w_strip rfl (by with_reducible rfl) ?_ | ((fail_if_success (refine w_lit false rfl (by with_reducible rfl) ?_)); (fail_if_success (refine w_lit true rfl (by with_reducible rfl) ?_)); refine w_case rfl ?_ ?_ <;> (intro hgd; rw [hgd]; try (exfalso; simp at hgd; omega)))) | ((with_reducible refine tConv _ 45 9 ?_); go_must (first | refine w_stringW M _ _ _ _ _ rfl rfl (by first | exact at0 | exact at1 | exact at2) rfl (by first | assumption | exact lenI | exact lenS ‹_› | rfl) (by decide) Try.underlying45 Try.underlying5 Try.underlying9 ?_ | refine w_string M _ _ _ _ _ rfl rfl (by first | exact at0 | exact at1 | exact at2) (by first | rfl | (simp; done) | assumption) rfl Try.underlying45 Try.underlying5 Try.underlying9 ?_)) | ((with_reducible refine tLoad ?_); go_must (refine w_at _ _ rfl (by exact ev_tmp rfl) ?_; intro hx; (first | refine w_load M _ _ _ rfl (by first | exact at0 | exact at1 | exact at2) hx rfl (by decide +kernel) (by exact rfl) ?_ | refine w_loadB M _ _ _ rfl (by first | exact at0 | exact at1 | exact at2) hx rfl (by decide +kernel) (by first | assumption | omega | (simp; omega)) ?_ | refine w_loadH M _ _ _ rfl (by first | exact at0 | exact at1 | exact at2) hx rfl (by decide +kernel) (by first | assumption | exact lenI | exact lenS ‹_› | rfl) (by decide +kernel) ?_ | refine w_loadR M _ _ _ rfl (by first | exact at0 | exact at1 | exact at2) hx rfl (by decide +kernel) (by kernel_rfl) ?_ | refine w_loadM M _ _ _ rfl (by first | exact at0 | exact at1 | exact at2) hx rfl (by decide +kernel) 4 (by decide +kernel) (by first | assumption | omega | (simp; omega)) ?_); clear hx)) | ((with_reducible refine tStore ?_); go_must (refine w_at2 _ _ _ rfl (by exact ev_tmp rfl) (by first | exact ev_tmp rfl | exact ev_const) ?_; intro hx hy; (first | refine w_storeB M _ _ _ _ rfl (by first | exact at0 | exact at1 | exact at2) hx rfl hy (by decide +kernel) (by first | assumption | omega | (simp; omega)) ?_ | refine w_storeH M _ _ _ _ rfl (by first | exact at0 | exact at1 | exact at2) hx rfl hy (by first | assumption | exact lenI | exact lenS ‹_› | rfl) (by decide +kernel) (by first | assumption | exact lenI | exact lenS ‹_› | rfl) ?_ | refine w_store M _ _ _ _ rfl (by first | exact at0 | exact at1 | exact at2) hx rfl hy rfl rfl (by decide +kernel) (by first | decide | simp | (simp; omega)) ?_ | refine w_storeR M _ _ _ _ rfl (by first | exact at0 | exact at1 | exact at2) hx rfl _ hy rfl (by kernel_rfl) (by simp [Value.oneCell']) (by first | rfl | assumption | exact Eq.symm (by assumption)) ?_); clear hx hy M; intro w1 M; (try simp only [setC] at M))) | ((with_reducible refine tBox _ ?_); (refine w_box M _ _ rfl rfl _ rfl _ rfl ?_; clear M; intro g w1 M))) <;> (try conv => arg 5; simp only [Act.put, List.setIfInBounds_toArray, setC]))
              rw [ht, ← e3] at M
              clear e3 ht hlX hlY
              go_loopw [53] (fun kv wr => ∃ k : Nat, k ≤ 4 ∧ kv = .int .i64 k ∧ Mem [] w wr [.row gt (bs (iterN (subT s) k t2)), .row g (bs (W ++ s)), .row gk (bs key)]) (fun kv _ => 4 - (intOf kv).toNat)
              case atStart => exact ⟨0, by omega, rfl, M⟩
              case round =>
                clear M
                obtain ⟨k, hk4, rfl, M⟩ := hrel
                obtain ⟨d, ed⟩ : ∃ d, d = iterN (subT s) k t2 := ⟨_, rfl⟩
                have hd : d.length = 4 := by rw [ed, iterN_len _ (fun _ _ => subT_len _ _ _)]; exact hl2
                rw [← ed] at M
                have ED := Lib.hid ed
                clear ed
                by_cases hlt4 : k < 4
                · obtain ⟨q, eq⟩ : ∃ q, q = nth d k := ⟨_, rfl⟩
                  have hq0 := (I8_bd q).1
                  have hq1 := (I8_bd q).2
                  have hq2 := I8_toNat q
                  have hq3 := q.toNat_lt
                  have hq4 : q.toNat < 256 := hq3
                  have hd1 : d.getD k 0 = q := eq.symm
                  have hd2 : d[k]?.getD 0 = q := by rw [nth_at', eq]
                  have hd3 : d[k] = q := by rw [nth_at, eq]
                  have EQ := Lib.hid eq
                  clear eq hq3
                  go_wp2_with ((first | ((with_reducible show Code.wp _ (Code.region 18 _ _) _ _ _); go_must (have MR := M; refine region_lowc [(0, false), (1, false), (2, false), (3, false), (5, false), (6, false), (4, false), (7, false), (8, false), (9, false), (10, true)] [(57, .ptr)] [(4, _), (8, _)] (IxOk MR [0, 1]) 10 (by kernel_rfl) (by kernel_rfl) rfl (by kernel_rfl) (lows_cons (by first | exact stab_ix MR 0 k rfl rfl (by decide) (by decide +kernel) rfl | exact stab_ixB MR 0 k rfl rfl (by decide) (by decide +kernel) (by first | assumption | omega) | exact stab_ix32 MR 0 k rfl rfl (by decide) (by decide +kernel) (by first | assumption | omega | (simp; omega)) | exact stab_ixH MR 0 rfl rfl (by decide) (by decide +kernel) (by first | assumption | exact lenI | exact lenS ‹_› | rfl) (by decide +kernel) | exact stab_ixW32 MR 0 rfl rfl (by decide) (by decide +kernel) (by first | assumption | exact lenI | exact lenS ‹_› | rfl) (by decide +kernel) | exact stab_ixR MR 0 rfl rfl (by decide) (by decide +kernel) (by kernel_rfl) | exact stab_ixW MR 0 rfl rfl (by decide) (by first | assumption | exact lenI | exact lenS ‹_› | rfl) (by decide) Try.underlying45 Try.underlying5 Try.underlying9 | exact stab_ixS MR 0 rfl rfl (by decide) (by first | rfl | simp | assumption) Try.underlying45 Try.underlying5 Try.underlying9) (lows_cons (by first | exact stab_ix MR 1 (240+q.toNat) rfl rfl (by decide) (by decide +kernel) rfl | exact stab_ixB MR 1 (240+q.toNat) rfl rfl (by decide) (by decide +kernel) (by first | assumption | omega) | exact stab_ix32 MR 1 (240+q.toNat) rfl rfl (by decide) (by decide +kernel) (by first | assumption | omega | (simp; omega)) | exact stab_ixH MR 1 rfl rfl (by decide) (by decide +kernel) (by first | assumption | exact lenI | exact lenS ‹_› | rfl) (by decide +kernel) | exact stab_ixW32 MR 1 rfl rfl (by decide) (by decide +kernel) (by first | assumption | exact lenI | exact lenS ‹_› | rfl) (by decide +kernel) | exact stab_ixR MR 1 rfl rfl (by decide) (by decide +kernel) (by kernel_rfl) | exact stab_ixW MR 1 rfl rfl (by decide) (by first | assumption | exact lenI | exact lenS ‹_› | rfl) (by decide) Try.underlying45 Try.underlying5 Try.underlying9 | exact stab_ixS MR 1 rfl rfl (by decide) (by first | rfl | simp | assumption) Try.underlying45 Try.underlying5 Try.underlying9) lows_nil)) (ixOk_self MR _) ?_; replace M := M.drew; simp only [planC, opAt, List.getElem?_toArray, List.getElem?_cons_zero, List.getElem?_cons_succ, Option.getD_some])) | ((with_reducible show Seg _ _ _ _); go_must (first | refine Seg.intro ⟨fun h => absurd rfl h, ?_⟩ | refine Seg.intro ⟨fun _ => (by repeat' (first | exact ixOk_nil M.kept | refine ixOk_cons rfl (by first | exact M.ok 0 _ rfl | exact M.ok 1 _ rfl | exact M.ok 2 _ rfl | exact M.ok 3 _ rfl | exact M.ok 4 _ rfl) ?_)), ?_⟩ | refine Seg.intro ⟨(by repeat' (first | (with_reducible exact needs_nil) | refine needs_at rfl (by first | (show Shape.ok Shape.nums _ = true; exact nums_bs _) | rfl) ?_)), (by repeat' (first | (with_reducible exact ats_nil) | refine ats_cons (by first | exact ev_tmp rfl | rfl) ?_)), ?_⟩)) | ((with_reducible show OnlyN _ _ _ _ _); refine OnlyN.intro (by kernel_rfl) ?_) | ((with_reducible refine tGuard ?_); first | refine w_strip rfl (by with_reducible rfl) ?_ | ((fail_if_success (refine w_lit false rfl (by with_reducible rfl) ?_)); (fail_if_success (refine w_lit true rfl (by with_reducible rfl) ?_)); refine w_case rfl ?_ ?_ <;> (intro hgd; rw [hgd]; try (exfalso; simp at hgd; omega)))) | ((with_reducible refine tConv _ 45 9 ?_); go_must (first | refine w_stringW M _ _ _ _ _ rfl rfl (by first | exact at0 | exact at1 | exact at2) rfl (by first | assumption | exact lenI | exact lenS ‹_› | rfl) (by decide) Try.underlying45 Try.underlying5 Try.underlying9 ?_ | refine w_string M _ _ _ _ _ rfl rfl (by first | exact at0 | exact at1 | exact at2) (by first | rfl | (simp; done) | assumption) rfl Try.underlying45 Try.underlying5 Try.underlying9 ?_)) | ((with_reducible refine tLoad ?_); go_must (refine w_at _ _ rfl (by exact ev_tmp rfl) ?_; intro hx; (first | refine w_load M _ _ _ rfl (by first | exact at0 | exact at1 | exact at2) hx rfl (by decide +kernel) (by exact rfl) ?_ | refine w_loadB M _ _ _ rfl (by first | exact at0 | exact at1 | exact at2) hx rfl (by decide +kernel) (by first | assumption | omega | (simp; omega)) ?_ | refine w_loadH M _ _ _ rfl (by first | exact at0 | exact at1 | exact at2) hx rfl (by decide +kernel) (by first | assumption | exact lenI | exact lenS ‹_› | rfl) (by decide +kernel) ?_ | refine w_loadR M _ _ _ rfl (by first | exact at0 | exact at1 | exact at2) hx rfl (by decide +kernel) (by kernel_rfl) ?_); clear hx)) | ((with_reducible refine tStore ?_); go_must (refine w_at2 _ _ _ rfl (by exact ev_tmp rfl) (by first | exact ev_tmp rfl | exact ev_const) ?_; intro hx hy; (first | refine w_storeB M _ _ _ _ rfl (by first | exact at0 | exact at1 | exact at2) hx rfl hy (by decide +kernel) (by first | assumption | omega | (simp; omega)) ?_ | refine w_storeH M _ _ _ _ rfl (by first | exact at0 | exact at1 | exact at2) hx rfl hy (by first | assumption | exact lenI | exact lenS ‹_› | rfl) (by decide +kernel) (by first | assumption | exact lenI | exact lenS ‹_› | rfl) ?_ | refine w_store M _ _ _ _ rfl (by first | exact at0 | exact at1 | exact at2) hx rfl hy rfl rfl (by decide +kernel) (by first | decide | simp | (simp; omega)) ?_ | refine w_storeR M _ _ _ _ rfl (by first | exact at0 | exact at1 | exact at2) hx rfl _ hy rfl (by kernel_rfl) (by simp [Value.oneCell']) (by first | rfl | assumption) ?_); clear hx hy M; intro w1 M; (try simp only [setC] at M))) | ((with_reducible refine tBox _ ?_); (refine w_box M _ _ rfl rfl _ rfl _ rfl ?_; clear M; intro g w1 M))) <;> (try conv => arg 5; simp only [Act.put, List.setIfInBounds_toArray, setC]))
                  rw [show (W ++ s).getD (240 + q.toNat) 0 = nth s q.toNat from nth_out W s 240 _ hW] at M
                  go_roundw
                  case rel => exact ⟨k + 1, by omega, by go_num, by
                    rw [iterN_succ, ← ED.out]; unfold subT; rw [← EQ.out]; exact M⟩
                  case measure => simp [intOf]; omega
                · obtain rfl : k = 4 := by omega
                  replace E3 := E3.out.trans ED.out.symm
                  replace E4 := E4.out
                  rw [E3] at E4
                  replace E4 := Lib.hid E4
                  clear E3 ED
                  go_wp2_with ((first | ((with_reducible refine tAlloc (some 7) 123 ?_); refine w_alloc M _ rfl rfl (.agg (Array.replicate 4 (.int .u8 0))) (bs (List.replicate 4 (0 : UInt8))) (by kernel_rfl) rfl ?_; clear M; intro gt w1 M) | (go_at_call 78; go_must (refine (twice_c _ _).mono ?_; rintro e w1 ⟨rfl, rfl⟩)) | ((with_reducible refine tGuard ?_); first | refine w_strip rfl (by with_reducible rfl) ?_ | ((fail_if_success (refine w_lit false rfl (by with_reducible rfl) ?_)); (fail_if_success (refine w_lit true rfl (by with_reducible rfl) ?_)); refine w_case rfl ?_ ?_ <;> (intro hgd; rw [hgd]; try (exfalso; simp at hgd; omega)))) | ((with_reducible refine tConv _ 45 9 ?_); go_must (first | refine w_stringW M _ _ _ _ _ rfl rfl (by first | exact at0 | exact at1 | exact at2) rfl (by first | assumption | exact lenI | exact lenS ‹_› | rfl) (by decide) Try.underlying45 Try.underlying5 Try.underlying9 ?_ | refine w_string M _ _ _ _ _ rfl rfl (by first | exact at0 | exact at1 | exact at2) (by first | rfl | (simp; done) | assumption) rfl Try.underlying45 Try.underlying5 Try.underlying9 ?_)) | ((with_reducible refine tLoad ?_); go_must (refine w_at _ _ rfl (by exact ev_tmp rfl) ?_; intro hx; (first | refine w_load M _ _ _ rfl (by first | exact at0 | exact at1 | exact at2) hx rfl (by decide +kernel) (by exact rfl) ?_ | refine w_loadB M _ _ _ rfl (by first | exact at0 | exact at1 | exact at2) hx rfl (by decide +kernel) (by first | assumption | omega | (simp; omega)) ?_ | refine w_loadH M _ _ _ rfl (by first | exact at0 | exact at1 | exact at2) hx rfl (by decide +kernel) (by first | assumption | exact lenI | exact lenS ‹_› | rfl) (by decide +kernel) ?_ | refine w_loadR M _ _ _ rfl (by first | exact at0 | exact at1 | exact at2) hx rfl (by decide +kernel) (by kernel_rfl) ?_ | refine w_loadM M _ _ _ rfl (by first | exact at0 | exact at1 | exact at2) hx rfl (by decide +kernel) 4 (by decide +kernel) (by first | assumption | omega | (simp; omega)) ?_); clear hx)) | ((with_reducible refine tStore ?_); go_must (refine w_at2 _ _ _ rfl (by exact ev_tmp rfl) (by first | exact ev_tmp rfl | exact ev_const) ?_; intro hx hy; (first | refine w_storeB M _ _ _ _ rfl (by first | exact at0 | exact at1 | exact at2) hx rfl hy (by decide +kernel) (by first | assumption | omega | (simp; omega)) ?_ | refine w_storeH M _ _ _ _ rfl (by first | exact at0 | exact at1 | exact at2) hx rfl hy (by first | assumption | exact lenI | exact lenS ‹_› | rfl) (by decide +kernel) (by first | assumption | exact lenI | exact lenS ‹_› | rfl) ?_ | refine w_store M _ _ _ _ rfl (by first | exact at0 | exact at1 | exact at2) hx rfl hy rfl rfl (by decide +kernel) (by first | decide | simp | (simp; omega)) ?_ | refine w_storeR M _ _ _ _ rfl (by first | exact at0 | exact at1 | exact at2) hx rfl _ hy rfl (by kernel_rfl) (by simp [Value.oneCell']) (by first | rfl | assumption | exact Eq.symm (by assumption)) ?_); clear hx hy M; intro w1 M; (try simp only [setC] at M))) | ((with_reducible refine tBox _ ?_); (refine w_box M _ _ rfl rfl _ rfl _ rfl ?_; clear M; intro g w1 M))) <;> (try conv => arg 5; simp only [Act.put, List.setIfInBounds_toArray, setC]))
                  obtain ⟨t4, e4⟩ : ∃ t, t = d := ⟨_, rfl⟩
                  have ht4 : t4.length = 4 := by rw [e4]; exact hd
                  rw [← e4] at M E4
                  clear e4
                  go_loopw [77] (fun kv wr => ∃ k : Nat, k ≤ 4 ∧ kv = .int .i64 k ∧ Mem [] w wr [.row gt (bs t4), .row g (bs (iterN (addT t4 (n + 8)) k W ++ s)), .row gk (bs key)]) (fun kv _ => 4 - (intOf kv).toNat)
                  case atStart => exact ⟨0, by omega, rfl, M⟩
                  case round =>
                    clear M
                    obtain ⟨k, hk4, rfl, M⟩ := hrel
                    obtain ⟨V, eV⟩ : ∃ V, V = iterN (addT t4 (n + 8)) k W := ⟨_, rfl⟩
                    have hV : V.length = 240 := by rw [eV, iterN_len _ (addT_len _ _)]; exact hW
                    have hVs : (V ++ s).length = 496 := by rw [List.length_append, hV, hs]
                    rw [← eV] at M
                    have EV := Lib.hid eV
                    clear eV
                    by_cases hlt4 : k < 4
                    · go_wp2_with ((first | ((with_reducible show Code.wp _ (Code.region 26 _ _) _ _ _); go_must (refine region_det [(0, false), (1, false), (2, false), (3, false), (4, false), (5, false), (6, false), (7, false), (8, false), (9, false), (10, false), (12, false), (13, false), (16, false), (17, false), (18, false), (11, false), (14, false), (15, false), (19, false), (20, true)] [(84, .int), (83, .ptr), (80, .ptr), (91, .int), (94, .int)] (by kernel_rfl) (by kernel_rfl) rfl (by kernel_rfl) ?_; replace M := M.drew; simp only [reord, opAt, List.map_cons, List.map_nil, List.getElem?_toArray, List.getElem?_cons_zero, List.getElem?_cons_succ, Option.getD_some])) | ((with_reducible show Seg _ _ _ _); go_must (first | refine Seg.intro ⟨fun h => absurd rfl h, ?_⟩ | refine Seg.intro ⟨fun _ => (by repeat' (first | exact ixOk_nil M.kept | refine ixOk_cons rfl (by first | exact M.ok 0 _ rfl | exact M.ok 1 _ rfl | exact M.ok 2 _ rfl | exact M.ok 3 _ rfl | exact M.ok 4 _ rfl) ?_)), ?_⟩ | refine Seg.intro ⟨(by repeat' (first | (with_reducible exact needs_nil) | refine needs_at rfl (by first | (show Shape.ok Shape.nums _ = true; exact nums_bs _) | rfl) ?_)), (by repeat' (first | (with_reducible exact ats_nil) | refine ats_cons (by first | exact ev_tmp rfl | rfl) ?_)), ?_⟩)) | ((with_reducible show OnlyN _ _ _ _ _); refine OnlyN.intro (by kernel_rfl) ?_) | ((with_reducible refine tGuard ?_); first | refine w_strip rfl (by with_reducible rfl) ?_ | ((fail_if_success (refine w_lit false rfl (by with_reducible rfl) ?_)); (fail_if_success (refine w_lit true rfl (by with_reducible rfl) ?_)); refine w_case rfl ?_ ?_ <;> (intro hgd; rw [hgd]; try (exfalso; simp at hgd; omega)))) | ((with_reducible refine tConv _ 45 9 ?_); go_must (first | refine w_stringW M _ _ _ _ _ rfl rfl (by first | exact at0 | exact at1 | exact at2) rfl (by first | assumption | exact lenI | exact lenS ‹_› | rfl) (by decide) Try.underlying45 Try.underlying5 Try.underlying9 ?_ | refine w_string M _ _ _ _ _ rfl rfl (by first | exact at0 | exact at1 | exact at2) (by first | rfl | (simp; done) | assumption) rfl Try.underlying45 Try.underlying5 Try.underlying9 ?_)) | ((with_reducible refine tLoad ?_); go_must (refine w_at _ _ rfl (by exact ev_tmp rfl) ?_; intro hx; (first | refine w_load M _ _ _ rfl (by first | exact at0 | exact at1 | exact at2) hx rfl (by decide +kernel) (by exact rfl) ?_ | refine w_loadB M _ _ _ rfl (by first | exact at0 | exact at1 | exact at2) hx rfl (by decide +kernel) (by first | assumption | omega | (simp; omega)) ?_ | refine w_loadH M _ _ _ rfl (by first | exact at0 | exact at1 | exact at2) hx rfl (by decide +kernel) (by first | assumption | exact lenI | exact lenS ‹_› | rfl) (by decide +kernel) ?_ | refine w_loadR M _ _ _ rfl (by first | exact at0 | exact at1 | exact at2) hx rfl (by decide +kernel) (by kernel_rfl) ?_); clear hx)) | ((with_reducible refine tStore ?_); go_must (refine w_at2 _ _ _ rfl (by exact ev_tmp rfl) (by first | exact ev_tmp rfl | exact ev_const) ?_; intro hx hy; (first | refine w_storeB M _ _ _ _ rfl (by first | exact at0 | exact at1 | exact at2) hx rfl hy (by decide +kernel) (by first | assumption | omega | (simp; omega)) ?_ | refine w_storeH M _ _ _ _ rfl (by first | exact at0 | exact at1 | exact at2) hx rfl hy (by first | assumption | exact lenI | exact lenS ‹_› | rfl) (by decide +kernel) (by first | assumption | exact lenI | exact lenS ‹_› | rfl) ?_ | refine w_store M _ _ _ _ rfl (by first | exact at0 | exact at1 | exact at2) hx rfl hy rfl rfl (by decide +kernel) (by first | decide | simp | (simp; omega)) ?_ | refine w_storeR M _ _ _ _ rfl (by first | exact at0 | exact at1 | exact at2) hx rfl _ hy rfl (by kernel_rfl) (by simp [Value.oneCell']) (by first | rfl | assumption) ?_); clear hx hy M; intro w1 M; (try simp only [setC] at M))) | ((with_reducible refine tBox _ ?_); (refine w_box M _ _ rfl rfl _ rfl _ rfl ?_; clear M; intro g w1 M))) <;> (try conv => arg 5; simp only [Act.put, List.setIfInBounds_toArray, setC]))
                      have q1 : addT t4 (n + 8) k V = V.set ((n + 8) * 4 + k) (nth V (4 * n + k) ^^^ nth t4 k) := by unfold addT; rw [Nat.mul_comm 4 (n + 8), Nat.add_sub_cancel]
                      have q2 : (V ++ s)[n * 4 + k]?.getD 0 = nth V (4 * n + k) := by rw [nth_at', nth_in _ _ _ (by omega), Nat.mul_comm]
                      rw [q2, nth_at t4 k (by omega), set_in V s _ _ (by omega), ← q1] at M
                      go_roundw
                      case rel => exact ⟨k + 1, by omega, by go_num, by rw [iterN_succ, ← EV.out]; exact M⟩
                      case measure => simp [intOf]; omega
                    · obtain rfl : k = 4 := by omega
                      go_wp2_with ((first | ((with_reducible refine tGuard ?_); first | refine w_strip rfl (by with_reducible rfl) ?_ | ((fail_if_success (refine w_lit false rfl (by with_reducible rfl) ?_)); (fail_if_success (refine w_lit true rfl (by with_reducible rfl) ?_)); refine w_case rfl ?_ ?_ <;> (intro hgd; rw [hgd]; try (exfalso; simp at hgd; omega)))) | ((with_reducible refine tConv _ 45 9 ?_); go_must (first | refine w_stringW M _ _ _ _ _ rfl rfl (by first | exact at0 | exact at1 | exact at2) rfl (by first | assumption | exact lenI | exact lenS ‹_› | rfl) (by decide) Try.underlying45 Try.underlying5 Try.underlying9 ?_ | refine w_string M _ _ _ _ _ rfl rfl (by first | exact at0 | exact at1 | exact at2) (by first | rfl | (simp; done) | assumption) rfl Try.underlying45 Try.underlying5 Try.underlying9 ?_)) | ((with_reducible refine tLoad ?_); go_must (refine w_at _ _ rfl (by exact ev_tmp rfl) ?_; intro hx; (first | refine w_load M _ _ _ rfl (by first | exact at0 | exact at1 | exact at2) hx rfl (by decide +kernel) (by exact rfl) ?_ | refine w_loadB M _ _ _ rfl (by first | exact at0 | exact at1 | exact at2) hx rfl (by decide +kernel) (by first | assumption | omega | (simp; omega)) ?_ | refine w_loadH M _ _ _ rfl (by first | exact at0 | exact at1 | exact at2) hx rfl (by decide +kernel) (by first | assumption | exact lenI | exact lenS ‹_› | rfl) (by decide +kernel) ?_ | refine w_loadR M _ _ _ rfl (by first | exact at0 | exact at1 | exact at2) hx rfl (by decide +kernel) (by kernel_rfl) ?_); clear hx)) | ((with_reducible refine tStore ?_); go_must (refine w_at2 _ _ _ rfl (by exact ev_tmp rfl) (by first | exact ev_tmp rfl | exact ev_const) ?_; intro hx hy; (first | refine w_storeB M _ _ _ _ rfl (by first | exact at0 | exact at1 | exact at2) hx rfl hy (by decide +kernel) (by first | assumption | omega | (simp; omega)) ?_ | refine w_storeH M _ _ _ _ rfl (by first | exact at0 | exact at1 | exact at2) hx rfl hy (by first | assumption | exact lenI | exact lenS ‹_› | rfl) (by decide +kernel) (by first | assumption | exact lenI | exact lenS ‹_› | rfl) ?_ | refine w_store M _ _ _ _ rfl (by first | exact at0 | exact at1 | exact at2) hx rfl hy rfl rfl (by decide +kernel) (by first | decide | simp | (simp; omega)) ?_ | refine w_storeR M _ _ _ _ rfl (by first | exact at0 | exact at1 | exact at2) hx rfl _ hy rfl (by kernel_rfl) (by simp [Value.oneCell']) (by first | rfl | assumption) ?_); clear hx hy M; intro w1 M; (try simp only [setC] at M))) | ((with_reducible refine tBox _ ?_); (refine w_box M _ _ rfl rfl _ rfl _ rfl ?_; clear M; intro g w1 M))) <;> (try conv => arg 5; simp only [Act.put, List.setIfInBounds_toArray, setC]))
                      go_roundw
                      case rel => exact ⟨n + 1, by omega, by rw [EX.out]; show _ = Value.int .u8 (I8 (powI pw (n + 8))); rw [EP.out], by go_num, by
                        rw [EX.out]; show Mem [] w _ [.row g (bs (iterN (addT (word4 s W pw (n + 8)) (n + 8)) 4 W ++ s)), .row gk (bs key)]
                        rw [E4.out, ← EV.out]; exact M.tail⟩
                      case measure => simp [intOf]; omega
          · rw [if_neg h4] at E3
            have h8 : ¬ n % 8 = 0 := by omega
            rw [if_neg h8] at E2 E4 EP
            rw [E2] at E3
            rw [E3] at E4
            have h4' : ¬ ((n : Int) + 8) % 4 = 0 := by omega
            have h8' : ¬ ((n : Int) + 8) % 8 = 0 := by omega
            obtain ⟨t4, e4⟩ : ∃ t, t = t1 := ⟨_, rfl⟩
            have ht4 : t4.length = 4 := by rw [e4]; exact hl1
            rw [← e4] at E4
            replace E4 := Lib.hid E4
            replace EP := Lib.hid EP
            clear E2 E3 q
            go_wp2_with ((first | ((with_reducible refine tAlloc (some 7) 123 ?_); refine w_alloc M _ rfl rfl (.agg (Array.replicate 4 (.int .u8 0))) (bs (List.replicate 4 (0 : UInt8))) (by kernel_rfl) rfl ?_; clear M; intro gt w1 M) | (go_at_call 78; go_must (refine (twice_c _ _).mono ?_; rintro e w1 ⟨rfl, rfl⟩)) | ((with_reducible refine tGuard ?_); first | refine w_strip rfl (by with_reducible rfl) ?_ | ((fail_if_success (refine w_lit false rfl (by with_reducible rfl) ?_)); (fail_if_success (refine w_lit true rfl (by with_reducible rfl) ?_)); refine w_case rfl ?_ ?_ <;> (intro hgd; rw [hgd]; try (exfalso; simp at hgd; omega)))) | ((with_reducible refine tConv _ 45 9 ?_); go_must (first | refine w_stringW M _ _ _ _ _ rfl rfl (by first | exact at0 | exact at1 | exact at2) rfl (by first | assumption | exact lenI | exact lenS ‹_› | rfl) (by decide) Try.underlying45 Try.underlying5 Try.underlying9 ?_ | refine w_string M _ _ _ _ _ rfl rfl (by first | exact at0 | exact at1 | exact at2) (by first | rfl | (simp; done) | assumption) rfl Try.underlying45 Try.underlying5 Try.underlying9 ?_)) | ((with_reducible refine tLoad ?_); go_must (refine w_at _ _ rfl (by exact ev_tmp rfl) ?_; intro hx; (first | refine w_load M _ _ _ rfl (by first | exact at0 | exact at1 | exact at2) hx rfl (by decide +kernel) (by exact rfl) ?_ | refine w_loadB M _ _ _ rfl (by first | exact at0 | exact at1 | exact at2) hx rfl (by decide +kernel) (by first | assumption | omega | (simp; omega)) ?_ | refine w_loadH M _ _ _ rfl (by first | exact at0 | exact at1 | exact at2) hx rfl (by decide +kernel) (by first | assumption | exact lenI | exact lenS ‹_› | rfl) (by decide +kernel) ?_ | refine w_loadR M _ _ _ rfl (by first | exact at0 | exact at1 | exact at2) hx rfl (by decide +kernel) (by kernel_rfl) ?_ | refine w_loadM M _ _ _ rfl (by first | exact at0 | exact at1 | exact at2) hx rfl (by decide +kernel) 4 (by decide +kernel) (by first | assumption | omega | (simp; omega)) ?_); clear hx)) | ((with_reducible refine tStore ?_); go_must (refine w_at2 _ _ _ rfl (by exact ev_tmp rfl) (by first | exact ev_tmp rfl | exact ev_const) ?_; intro hx hy; (first | refine w_storeB M _ _ _ _ rfl (by first | exact at0 | exact at1 | exact at2) hx rfl hy (by decide +kernel) (by first | assumption | omega | (simp; omega)) ?_ | refine w_storeH M _ _ _ _ rfl (by first | exact at0 | exact at1 | exact at2) hx rfl hy (by first | assumption | exact lenI | exact lenS ‹_› | rfl) (by decide +kernel) (by first | assumption | exact lenI | exact lenS ‹_› | rfl) ?_ | refine w_store M _ _ _ _ rfl (by first | exact at0 | exact at1 | exact at2) hx rfl hy rfl rfl (by decide +kernel) (by first | decide | simp | (simp; omega)) ?_ | refine w_storeR M _ _ _ _ rfl (by first | exact at0 | exact at1 | exact at2) hx rfl _ hy rfl (by kernel_rfl) (by simp [Value.oneCell']) (by first | rfl | assumption | exact Eq.symm (by assumption)) ?_); clear hx hy M; intro w1 M; (try simp only [setC] at M))) | ((with_reducible refine tBox _ ?_); (refine w_box M _ _ rfl rfl _ rfl _ rfl ?_; clear M; intro g w1 M))) <;> (try conv => arg 5; simp only [Act.put, List.setIfInBounds_toArray, setC]))
            rw [ht, ← e4] at M
            clear e4 ht hlX hlY
            go_loopw [77] (fun kv wr => ∃ k : Nat, k ≤ 4 ∧ kv = .int .i64 k ∧ Mem [] w wr [.row gt (bs t4), .row g (bs (iterN (addT t4 (n + 8)) k W ++ s)), .row gk (bs key)]) (fun kv _ => 4 - (intOf kv).toNat)
            case atStart => exact ⟨0, by omega, rfl, M⟩
            case round =>
              clear M
              obtain ⟨k, hk4, rfl, M⟩ := hrel
              obtain ⟨V, eV⟩ : ∃ V, V = iterN (addT t4 (n + 8)) k W := ⟨_, rfl⟩
              have hV : V.length = 240 := by rw [eV, iterN_len _ (addT_len _ _)]; exact hW
              have hVs : (V ++ s).length = 496 := by rw [List.length_append, hV, hs]
              rw [← eV] at M
              have EV := Lib.hid eV
              clear eV
              by_cases hlt4 : k < 4
              · go_wp2_with ((first | ((with_reducible show Code.wp _ (Code.region 26 _ _) _ _ _); go_must (refine region_det [(0, false), (1, false), (2, false), (3, false), (4, false), (5, false), (6, false), (7, false), (8, false), (9, false), (10, false), (12, false), (13, false), (16, false), (17, false), (18, false), (11, false), (14, false), (15, false), (19, false), (20, true)] [(84, .int), (83, .ptr), (80, .ptr), (91, .int), (94, .int)] (by kernel_rfl) (by kernel_rfl) rfl (by kernel_rfl) ?_; replace M := M.drew; simp only [reord, opAt, List.map_cons, List.map_nil, List.getElem?_toArray, List.getElem?_cons_zero, List.getElem?_cons_succ, Option.getD_some])) | ((with_reducible show Seg _ _ _ _); go_must (first | refine Seg.intro ⟨fun h => absurd rfl h, ?_⟩ | refine Seg.intro ⟨fun _ => (by repeat' (first | exact ixOk_nil M.kept | refine ixOk_cons rfl (by first | exact M.ok 0 _ rfl | exact M.ok 1 _ rfl | exact M.ok 2 _ rfl | exact M.ok 3 _ rfl | exact M.ok 4 _ rfl) ?_)), ?_⟩ | refine Seg.intro ⟨(by repeat' (first | (with_reducible exact needs_nil) | refine needs_at rfl (by first | (show Shape.ok Shape.nums _ = true; exact nums_bs _) | rfl) ?_)), (by repeat' (first | (with_reducible exact ats_nil) | refine ats_cons (by first | exact ev_tmp rfl | rfl) ?_)), ?_⟩)) | ((with_reducible show OnlyN _ _ _ _ _); refine OnlyN.intro (by kernel_rfl) ?_) | ((with_reducible refine tGuard ?_); first | refine w_strip rfl (by with_reducible rfl) ?_ | ((fail_if_success (refine w_lit false rfl (by with_reducible rfl) ?_)); (fail_if_success (refine w_lit true rfl (by with_reducible rfl) ?_)); refine w_case rfl ?_ ?_ <;> (intro hgd; rw [hgd]; try (exfalso; simp at hgd; omega)))) | ((with_reducible refine tConv _ 45 9 ?_); go_must (first | refine w_stringW M _ _ _ _ _ rfl rfl (by first | exact at0 | exact at1 | exact at2) rfl (by first | assumption | exact lenI | exact lenS ‹_› | rfl) (by decide) Try.underlying45 Try.underlying5 Try.underlying9 ?_ | refine w_string M _ _ _ _ _ rfl rfl (by first | exact at0 | exact at1 | exact at2) (by first | rfl | (simp; done) | assumption) rfl Try.underlying45 Try.underlying5 Try.underlying9 ?_)) | ((with_reducible refine tLoad ?_); go_must (refine w_at _ _ rfl (by exact ev_tmp rfl) ?_; intro hx; (first | refine w_load M _ _ _ rfl (by first | exact at0 | exact at1 | exact at2) hx rfl (by decide +kernel) (by exact rfl) ?_ | refine w_loadB M _ _ _ rfl (by first | exact at0 | exact at1 | exact at2) hx rfl (by decide +kernel) (by first | assumption | omega | (simp; omega)) ?_ | refine w_loadH M _ _ _ rfl (by first | exact at0 | exact at1 | exact at2) hx rfl (by decide +kernel) (by first | assumption | exact lenI | exact lenS ‹_› | rfl) (by decide +kernel) ?_ | refine w_loadR M _ _ _ rfl (by first | exact at0 | exact at1 | exact at2) hx rfl (by decide +kernel) (by kernel_rfl) ?_); clear hx)) | ((with_reducible refine tStore ?_); go_must (refine w_at2 _ _ _ rfl (by exact ev_tmp rfl) (by first | exact ev_tmp rfl | exact ev_const) ?_; intro hx hy; (first | refine w_storeB M _ _ _ _ rfl (by first | exact at0 | exact at1 | exact at2) hx rfl hy (by decide +kernel) (by first | assumption | omega | (simp; omega)) ?_ | refine w_storeH M _ _ _ _ rfl (by first | exact at0 | exact at1 | exact at2) hx rfl hy (by first | assumption | exact lenI | exact lenS ‹_› | rfl) (by decide +kernel) (by first | assumption | exact lenI | exact lenS ‹_› | rfl) ?_ | refine w_store M _ _ _ _ rfl (by first | exact at0 | exact at1 | exact at2) hx rfl hy rfl rfl (by decide +kernel) (by first | decide | simp | (simp; omega)) ?_ | refine w_storeR M _ _ _ _ rfl (by first | exact at0 | exact at1 | exact at2) hx rfl _ hy rfl (by kernel_rfl) (by simp [Value.oneCell']) (by first | rfl | assumption) ?_); clear hx hy M; intro w1 M; (try simp only [setC] at M))) | ((with_reducible refine tBox _ ?_); (refine w_box M _ _ rfl rfl _ rfl _ rfl ?_; clear M; intro g w1 M))) <;> (try conv => arg 5; simp only [Act.put, List.setIfInBounds_toArray, setC]))
                have q1 : addT t4 (n + 8) k V = V.set ((n + 8) * 4 + k) (nth V (4 * n + k) ^^^ nth t4 k) := by unfold addT; rw [Nat.mul_comm 4 (n + 8), Nat.add_sub_cancel]
                have q2 : (V ++ s)[n * 4 + k]?.getD 0 = nth V (4 * n + k) := by rw [nth_at', nth_in _ _ _ (by omega), Nat.mul_comm]
                rw [q2, nth_at t4 k (by omega), set_in V s _ _ (by omega), ← q1] at M
                go_roundw
                case rel => exact ⟨k + 1, by omega, by go_num, by rw [iterN_succ, ← EV.out]; exact M⟩
                case measure => simp [intOf]; omega
              · obtain rfl : k = 4 := by omega
                go_wp2_with ((first | ((with_reducible refine tGuard ?_); first | refine w_strip rfl (by with_reducible rfl) ?_ | ((fail_if_success (refine w_lit false rfl (by with_reducible rfl) ?_)); (fail_if_success (refine w_lit true rfl (by with_reducible rfl) ?_)); refine w_case rfl ?_ ?_ <;> (intro hgd; rw [hgd]; try (exfalso; simp at hgd; omega)))) | ((with_reducible refine tConv _ 45 9 ?_); go_must (first | refine w_stringW M _ _ _ _ _ rfl rfl (by first | exact at0 | exact at1 | exact at2) rfl (by first | assumption | exact lenI | exact lenS ‹_› | rfl) (by decide) Try.underlying45 Try.underlying5 Try.underlying9 ?_ | refine w_string M _ _ _ _ _ rfl rfl (by first | exact at0 | exact at1 | exact at2) (by first | rfl | (simp; done) | assumption) rfl Try.underlying45 Try.underlying5 Try.underlying9 ?_)) | ((with_reducible refine tLoad ?_); go_must (refine w_at _ _ rfl (by exact ev_tmp rfl) ?_; intro hx; (first | refine w_load M _ _ _ rfl (by first | exact at0 | exact at1 | exact at2) hx rfl (by decide +kernel) (by exact rfl) ?_ | refine w_loadB M _ _ _ rfl (by first | exact at0 | exact at1 | exact at2) hx rfl (by decide +kernel) (by first | assumption | omega | (simp; omega)) ?_ | refine w_loadH M _ _ _ rfl (by first | exact at0 | exact at1 | exact at2) hx rfl (by decide +kernel) (by first | assumption | exact lenI | exact lenS ‹_› | rfl) (by decide +kernel) ?_ | refine w_loadR M _ _ _ rfl (by first | exact at0 | exact at1 | exact at2) hx rfl (by decide +kernel) (by kernel_rfl) ?_); clear hx)) | ((with_reducible refine tStore ?_); go_must (refine w_at2 _ _ _ rfl (by exact ev_tmp rfl) (by first | exact ev_tmp rfl | exact ev_const) ?_; intro hx hy; (first | refine w_storeB M _ _ _ _ rfl (by first | exact at0 | exact at1 | exact at2) hx rfl hy (by decide +kernel) (by first | assumption | omega | (simp; omega)) ?_ | refine w_storeH M _ _ _ _ rfl (by first | exact at0 | exact at1 | exact at2) hx rfl hy (by first | assumption | exact lenI | exact lenS ‹_› | rfl) (by decide +kernel) (by first | assumption | exact lenI | exact lenS ‹_› | rfl) ?_ | refine w_store M _ _ _ _ rfl (by first | exact at0 | exact at1 | exact at2) hx rfl hy rfl rfl (by decide +kernel) (by first | decide | simp | (simp; omega)) ?_ | refine w_storeR M _ _ _ _ rfl (by first | exact at0 | exact at1 | exact at2) hx rfl _ hy rfl (by kernel_rfl) (by simp [Value.oneCell']) (by first | rfl | assumption) ?_); clear hx hy M; intro w1 M; (try simp only [setC] at M))) | ((with_reducible refine tBox _ ?_); (refine w_box M _ _ rfl rfl _ rfl _ rfl ?_; clear M; intro g w1 M))) <;> (try conv => arg 5; simp only [Act.put, List.setIfInBounds_toArray, setC]))
                go_roundw
                case rel => exact ⟨n + 1, by omega, by rw [EX.out]; show _ = Value.int .u8 (I8 (powI pw (n + 8))); rw [EP.out], by go_num, by
                  rw [EX.out]; show Mem [] w _ [.row g (bs (iterN (addT (word4 s W pw (n + 8)) (n + 8)) 4 W ++ s)), .row gk (bs key)]
                  rw [E4.out, ← EV.out]; exact M.tail⟩
                case measure => simp [intOf]; omega
        · obtain rfl : n = 52 := by omega
          have e : schL s key = W := by unfold schL; rw [← EX0.out]
          go_wp2_with ((first | ((with_reducible refine tGuard ?_); first | refine w_strip rfl (by with_reducible rfl) ?_ | ((fail_if_success (refine w_lit false rfl (by with_reducible rfl) ?_)); (fail_if_success (refine w_lit true rfl (by with_reducible rfl) ?_)); refine w_case rfl ?_ ?_ <;> (intro hgd; rw [hgd]; try (exfalso; simp at hgd; omega)))) | ((with_reducible refine tConv _ 45 9 ?_); go_must (first | refine w_stringW M _ _ _ _ _ rfl rfl (by first | exact at0 | exact at1 | exact at2) rfl (by first | assumption | exact lenI | exact lenS ‹_› | rfl) (by decide) Try.underlying45 Try.underlying5 Try.underlying9 ?_ | refine w_string M _ _ _ _ _ rfl rfl (by first | exact at0 | exact at1 | exact at2) (by first | rfl | (simp; done) | assumption) rfl Try.underlying45 Try.underlying5 Try.underlying9 ?_)) | ((with_reducible refine tLoad ?_); go_must (refine w_at _ _ rfl (by exact ev_tmp rfl) ?_; intro hx; (first | refine w_load M _ _ _ rfl (by first | exact at0 | exact at1 | exact at2) hx rfl (by decide +kernel) (by exact rfl) ?_ | refine w_loadB M _ _ _ rfl (by first | exact at0 | exact at1 | exact at2) hx rfl (by decide +kernel) (by first | assumption | omega | (simp; omega)) ?_ | refine w_loadH M _ _ _ rfl (by first | exact at0 | exact at1 | exact at2) hx rfl (by decide +kernel) (by first | assumption | exact lenI | exact lenS ‹_› | rfl) (by decide +kernel) ?_ | refine w_loadR M _ _ _ rfl (by first | exact at0 | exact at1 | exact at2) hx rfl (by decide +kernel) (by kernel_rfl) ?_); clear hx)) | ((with_reducible refine tStore ?_); go_must (refine w_at2 _ _ _ rfl (by exact ev_tmp rfl) (by first | exact ev_tmp rfl | exact ev_const) ?_; intro hx hy; (first | refine w_storeB M _ _ _ _ rfl (by first | exact at0 | exact at1 | exact at2) hx rfl hy (by decide +kernel) (by first | assumption | omega | (simp; omega)) ?_ | refine w_storeH M _ _ _ _ rfl (by first | exact at0 | exact at1 | exact at2) hx rfl hy (by first | assumption | exact lenI | exact lenS ‹_› | rfl) (by decide +kernel) (by first | assumption | exact lenI | exact lenS ‹_› | rfl) ?_ | refine w_store M _ _ _ _ rfl (by first | exact at0 | exact at1 | exact at2) hx rfl hy rfl rfl (by decide +kernel) (by first | decide | simp | (simp; omega)) ?_ | refine w_storeR M _ _ _ _ rfl (by first | exact at0 | exact at1 | exact at2) hx rfl _ hy rfl (by kernel_rfl) (by simp [Value.oneCell']) (by first | rfl | assumption) ?_); clear hx hy M; intro w1 M; (try simp only [setC] at M))) | ((with_reducible refine tBox _ ?_); (refine w_box M _ _ rfl rfl _ rfl _ rfl ?_; clear M; intro g w1 M))) <;> (try conv => arg 5; simp only [Act.put, List.setIfInBounds_toArray, setC]))
          go_ret
          exact ⟨g, rfl, by rw [e]; exact M.take1⟩
end Go.Proofs.Ytjlkiopncclomaa

/- The walk of what enciphers one block. Conditions: lengths. -/
namespace Go.Proofs.Ytjlkiopncclomaa
open Go.RowKit Go.TL
set_option maxRecDepth 100000 in
set_option maxHeartbeats 4000000 in
theorem block_c (gc : Nat) (s W b : List UInt8) (w : World) (R : (Chunk.row gc (bs (W ++ s))).ok w) (hW : W.length = 240) (hs : s.length = 256) (hb : b.length = 16) :
    Calls Try.prog 42 #[.pointer (some ⟨gc, 0, none⟩), .agg (bs b).toArray] w fun e w' => e = .returned (.agg (bs (blockL s W b)).toArray) ∧ Below w.heap.size w w' := by
  have M := Mem.start [] w
  have hWs : (W ++ s).length = 496 := by rw [List.length_append, hW, hs]
  have hz : (List.replicate 16 (0 : UInt8)).length = 16 := List.length_replicate
  have ha0 : (addL W b 0).length = 16 := by rw [addL_len]; exact hb
  have A0 := fun (w : World) (RR : (Chunk.row gc (bs (W ++ s))).ok w) => add_c gc s W b 0 0 rfl w RR hW hs hb (by omega)
  have BL : blockL s W b = iterN (roundL s W) 14 (addL W b 0) := rfl
  have IV : ∀ n, (iterN (roundL s W) n (addL W b 0)).length = 16 := fun n => iterN_inv _ (fun l => l.length = 16) (fun n x _ => roundL_len s W n x) n _ ha0
  obtain ⟨a0, e0⟩ : ∃ a, a = addL W b 0 := ⟨_, rfl⟩
  rw [← e0] at ha0 A0 BL IV
  obtain ⟨bl, ebl⟩ : ∃ x, x = blockL s W b := ⟨_, rfl⟩
  rw [← ebl] at BL
  rw [← ebl]
  replace A0 := Lib.hid A0
  replace BL := Lib.hid BL
  replace IV := Lib.hid IV
  clear e0 ebl
  go_enter Try.func42, Try.ntmps42
  go_wp2_with ((first | ((with_reducible refine tBox (some 3) ?_); refine w_box M _ _ rfl rfl _ rfl (bs b) rfl ?_; clear M; intro gb w1 M) | ((with_reducible refine tAlloc (some 4) 74 ?_); refine w_alloc M _ rfl rfl (.agg (Array.replicate 16 (.int .u8 0))) (bs (List.replicate 16 (0 : UInt8))) (by kernel_rfl) rfl ?_; clear M; intro go w1 M) | (go_at_call 79; go_must (refine (A0.out _ (M.stays R)).mono ?_; rintro e w1 ⟨rfl, hb⟩; replace M := M.call hb; clear hb)) | ((with_reducible refine tGuard ?_); first | refine w_strip rfl (by with_reducible rfl) ?_ | ((fail_if_success (refine w_lit false rfl (by with_reducible rfl) ?_)); (fail_if_success (refine w_lit true rfl (by with_reducible rfl) ?_)); refine w_case rfl ?_ ?_ <;> (intro hgd; rw [hgd]; try (exfalso; simp at hgd; omega)))) | ((with_reducible refine tConv _ 45 9 ?_); go_must (first | refine w_stringW M _ _ _ _ _ rfl rfl (by first | exact at0 | exact at1) rfl (by first | assumption | exact lenI | exact lenS ‹_› | rfl) (by decide) Try.underlying45 Try.underlying5 Try.underlying9 ?_ | refine w_string M _ _ _ _ _ rfl rfl (by first | exact at0 | exact at1) (by first | rfl | (simp; done) | assumption) rfl Try.underlying45 Try.underlying5 Try.underlying9 ?_)) | ((with_reducible refine tLoad ?_); go_must (refine w_at _ _ rfl (by exact ev_tmp rfl) ?_; intro hx; (first | refine w_load M _ _ _ rfl (by first | exact at0 | exact at1) hx rfl (by decide +kernel) (by exact rfl) ?_ | refine w_loadB M _ _ _ rfl (by first | exact at0 | exact at1) hx rfl (by decide +kernel) (by first | assumption | omega | (simp; omega)) ?_ | refine w_loadH M _ _ _ rfl (by first | exact at0 | exact at1) hx rfl (by decide +kernel) (by first | assumption | exact lenI | exact lenS ‹_› | rfl) (by decide +kernel) ?_ | refine w_loadR M _ _ _ rfl (by first | exact at0 | exact at1) hx rfl (by decide +kernel) (by kernel_rfl) ?_); clear hx)) | ((with_reducible refine tStore ?_); go_must (refine w_at2 _ _ _ rfl (by exact ev_tmp rfl) (by first | exact ev_tmp rfl | exact ev_const) ?_; intro hx hy; (first | refine w_storeB M _ _ _ _ rfl (by first | exact at0 | exact at1) hx rfl hy (by decide +kernel) (by first | assumption | omega | (simp; omega)) ?_ | refine w_storeH M _ _ _ _ rfl (by first | exact at0 | exact at1) hx rfl hy (by first | assumption | exact lenI | exact lenS ‹_› | rfl) (by decide +kernel) (by first | assumption | exact lenI | exact lenS ‹_› | rfl) ?_ | refine w_store M _ _ _ _ rfl (by first | exact at0 | exact at1) hx rfl hy rfl rfl (by decide +kernel) (by first | decide | simp | (simp; omega)) ?_ | refine w_storeR M _ _ _ _ rfl (by first | exact at0 | exact at1) hx rfl _ hy rfl (by kernel_rfl) (by simp [Value.oneCell']) (by first | rfl | assumption) ?_); clear hx hy M; intro w1 M; (try simp only [setC] at M))) | ((with_reducible refine tBox _ ?_); (refine w_box M _ _ rfl rfl _ rfl _ rfl ?_; clear M; intro g w1 M))) <;> (try conv => arg 5; simp only [Act.put, List.setIfInBounds_toArray, setC]))
  go_loopw [5] (fun kv wr => ∃ n : Nat, n ≤ 14 ∧ kv = .int .i64 ((n : Int) + 1) ∧ Mem [] w wr [.row go (bs (List.replicate 16 0)), .row gb (bs (iterN (roundL s W) n a0))]) (fun kv _ => 15 - (intOf kv).toNat)
  case atStart => exact ⟨0, by omega, rfl, M⟩
  case round =>
    clear M
    obtain ⟨n, hn, rfl, M⟩ := hrel
    have hd := IV.out n
    obtain ⟨d, ed⟩ : ∃ d, d = iterN (roundL s W) n a0 := ⟨_, rfl⟩
    rw [← ed] at M hd
    have ED := Lib.hid ed
    clear ed
    by_cases hlt : n < 14
    · go_wp2_with ((first | ((with_reducible refine tAlloc (some 6) 74 ?_); refine w_alloc M _ rfl rfl (.agg (Array.replicate 16 (.int .u8 0))) (bs (List.replicate 16 (0 : UInt8))) (by kernel_rfl) rfl ?_; clear M; intro gt w1 M) | ((with_reducible refine tGuard ?_); first | refine w_strip rfl (by with_reducible rfl) ?_ | ((fail_if_success (refine w_lit false rfl (by with_reducible rfl) ?_)); (fail_if_success (refine w_lit true rfl (by with_reducible rfl) ?_)); refine w_case rfl ?_ ?_ <;> (intro hgd; rw [hgd]; try (exfalso; simp at hgd; omega)))) | ((with_reducible refine tConv _ 45 9 ?_); go_must (first | refine w_stringW M _ _ _ _ _ rfl rfl (by first | exact at0 | exact at1 | exact at2) rfl (by first | assumption | exact lenI | exact lenS ‹_› | rfl) (by decide) Try.underlying45 Try.underlying5 Try.underlying9 ?_ | refine w_string M _ _ _ _ _ rfl rfl (by first | exact at0 | exact at1 | exact at2) (by first | rfl | (simp; done) | assumption) rfl Try.underlying45 Try.underlying5 Try.underlying9 ?_)) | ((with_reducible refine tLoad ?_); go_must (refine w_at _ _ rfl (by exact ev_tmp rfl) ?_; intro hx; (first | refine w_load M _ _ _ rfl (by first | exact at0 | exact at1 | exact at2) hx rfl (by decide +kernel) (by exact rfl) ?_ | refine w_loadB M _ _ _ rfl (by first | exact at0 | exact at1 | exact at2) hx rfl (by decide +kernel) (by first | assumption | omega | (simp; omega)) ?_ | refine w_loadH M _ _ _ rfl (by first | exact at0 | exact at1 | exact at2) hx rfl (by decide +kernel) (by first | assumption | exact lenI | exact lenS ‹_› | rfl) (by decide +kernel) ?_ | refine w_loadR M _ _ _ rfl (by first | exact at0 | exact at1 | exact at2) hx rfl (by decide +kernel) (by kernel_rfl) ?_); clear hx)) | ((with_reducible refine tStore ?_); go_must (refine w_at2 _ _ _ rfl (by exact ev_tmp rfl) (by first | exact ev_tmp rfl | exact ev_const) ?_; intro hx hy; (first | refine w_storeB M _ _ _ _ rfl (by first | exact at0 | exact at1 | exact at2) hx rfl hy (by decide +kernel) (by first | assumption | omega | (simp; omega)) ?_ | refine w_storeH M _ _ _ _ rfl (by first | exact at0 | exact at1 | exact at2) hx rfl hy (by first | assumption | exact lenI | exact lenS ‹_› | rfl) (by decide +kernel) (by first | assumption | exact lenI | exact lenS ‹_› | rfl) ?_ | refine w_store M _ _ _ _ rfl (by first | exact at0 | exact at1 | exact at2) hx rfl hy rfl rfl (by decide +kernel) (by first | decide | simp | (simp; omega)) ?_ | refine w_storeR M _ _ _ _ rfl (by first | exact at0 | exact at1 | exact at2) hx rfl _ hy rfl (by kernel_rfl) (by simp [Value.oneCell']) (by first | rfl | assumption) ?_); clear hx hy M; intro w1 M; (try simp only [setC] at M))) | ((with_reducible refine tBox _ ?_); (refine w_box M _ _ rfl rfl _ rfl _ rfl ?_; clear M; intro g w1 M))) <;> (try conv => arg 5; simp only [Act.put, List.setIfInBounds_toArray, setC]))
      go_loopw [15] (fun kv wr => ∃ k : Nat, k ≤ 16 ∧ kv = .int .i64 k ∧ Mem [] w wr [.row gt (bs (iterN (subB s d) k (List.replicate 16 0))), .row go (bs (List.replicate 16 0)), .row gb (bs d)]) (fun kv _ => 16 - (intOf kv).toNat)
      case atStart => exact ⟨0, by omega, rfl, M⟩
      case round =>
        clear M
        obtain ⟨k, hk16, rfl, M⟩ := hrel
        have ht : (iterN (subB s d) k (List.replicate 16 0)).length = 16 := by rw [iterN_len _ (fun n s => by unfold subB; rw [List.length_set])]; exact List.length_replicate
        obtain ⟨t, et⟩ : ∃ t, t = iterN (subB s d) k (List.replicate 16 0) := ⟨_, rfl⟩
        rw [← et] at M ht
        have ET := Lib.hid et
        clear et
        by_cases hlt16 : k < 16
        · have hj : (k + 4 * (k % 4)) % 16 < d.length := by omega
          obtain ⟨q, eq⟩ : ∃ q, q = nth d ((k + 4 * (k % 4)) % 16) := ⟨_, rfl⟩
          have hq0 := (I8_bd q).1
          have hq1 := (I8_bd q).2
          have hq2 := I8_toNat q
          have hq3 := q.toNat_lt
          have hq4 : q.toNat < 256 := hq3
          have hd1 : d.getD ((k + 4 * (k % 4)) % 16) 0 = q := eq.symm
          have hd2 : d[(k + 4 * (k % 4)) % 16]?.getD 0 = q := by rw [nth_at', eq]
          have hd3 : d[(k + 4 * (k % 4)) % 16] = q := by rw [nth_at, eq]
          have EQ := Lib.hid eq
          clear eq hq3
          go_wp2_with ((first | ((with_reducible show Code.wp _ (Code.region 9 _ _) _ _ _); go_must (refine region_det [(0, false), (1, false), (2, false), (3, false), (4, false), (5, false), (6, false), (7, false), (8, false), (10, false), (11, false), (9, false), (12, false), (13, false), (14, false), (15, true)] [(21, .int), (22, .int), (20, .int), (23, .int), (24, .int), (19, .ptr)] (by kernel_rfl) (by kernel_rfl) rfl (by kernel_rfl) ?_; replace M := M.drew; simp only [reord, opAt, List.map_cons, List.map_nil, List.getElem?_toArray, List.getElem?_cons_zero, List.getElem?_cons_succ, Option.getD_some])) | ((with_reducible refine tLoad ?_); refine w_at _ _ rfl (by exact ev_tmp rfl) ?_; intro hx; (first | refine w_rowB M R _ _ rfl hx rfl (by decide +kernel) (by first | assumption | omega | (simp; omega)) ?_); clear hx) | ((with_reducible show Seg _ _ _ _); go_must (first | refine Seg.intro ⟨fun h => absurd rfl h, ?_⟩ | refine Seg.intro ⟨fun _ => (by repeat' (first | exact ixOk_nil M.kept | refine ixOk_cons rfl (by first | exact M.ok 0 _ rfl | exact M.ok 1 _ rfl | exact M.ok 2 _ rfl | exact M.ok 3 _ rfl | exact M.ok 4 _ rfl) ?_)), ?_⟩ | refine Seg.intro ⟨(by repeat' (first | (with_reducible exact needs_nil) | refine needs_at rfl (by first | (show Shape.ok Shape.nums _ = true; exact nums_bs _) | rfl) ?_)), (by repeat' (first | (with_reducible exact ats_nil) | refine ats_cons (by first | exact ev_tmp rfl | rfl) ?_)), ?_⟩)) | ((with_reducible show OnlyN _ _ _ _ _); refine OnlyN.intro (by kernel_rfl) ?_) | ((with_reducible refine tGuard ?_); first | refine w_strip rfl (by with_reducible rfl) ?_ | ((fail_if_success (refine w_lit false rfl (by with_reducible rfl) ?_)); (fail_if_success (refine w_lit true rfl (by with_reducible rfl) ?_)); refine w_case rfl ?_ ?_ <;> (intro hgd; rw [hgd]; try (exfalso; simp at hgd; omega)))) | ((with_reducible refine tConv _ 45 9 ?_); go_must (first | refine w_stringW M _ _ _ _ _ rfl rfl (by first | exact at0 | exact at1 | exact at2) rfl (by first | assumption | exact lenI | exact lenS ‹_› | rfl) (by decide) Try.underlying45 Try.underlying5 Try.underlying9 ?_ | refine w_string M _ _ _ _ _ rfl rfl (by first | exact at0 | exact at1 | exact at2) (by first | rfl | (simp; done) | assumption) rfl Try.underlying45 Try.underlying5 Try.underlying9 ?_)) | ((with_reducible refine tLoad ?_); go_must (refine w_at _ _ rfl (by exact ev_tmp rfl) ?_; intro hx; (first | refine w_load M _ _ _ rfl (by first | exact at0 | exact at1 | exact at2) hx rfl (by decide +kernel) (by exact rfl) ?_ | refine w_loadB M _ _ _ rfl (by first | exact at0 | exact at1 | exact at2) hx rfl (by decide +kernel) (by first | assumption | omega | (simp; omega)) ?_ | refine w_loadH M _ _ _ rfl (by first | exact at0 | exact at1 | exact at2) hx rfl (by decide +kernel) (by first | assumption | exact lenI | exact lenS ‹_› | rfl) (by decide +kernel) ?_ | refine w_loadR M _ _ _ rfl (by first | exact at0 | exact at1 | exact at2) hx rfl (by decide +kernel) (by kernel_rfl) ?_); clear hx)) | ((with_reducible refine tStore ?_); go_must (refine w_at2 _ _ _ rfl (by exact ev_tmp rfl) (by first | exact ev_tmp rfl | exact ev_const) ?_; intro hx hy; (first | refine w_storeB M _ _ _ _ rfl (by first | exact at0 | exact at1 | exact at2) hx rfl hy (by decide +kernel) (by first | assumption | omega | (simp; omega)) ?_ | refine w_storeH M _ _ _ _ rfl (by first | exact at0 | exact at1 | exact at2) hx rfl hy (by first | assumption | exact lenI | exact lenS ‹_› | rfl) (by decide +kernel) (by first | assumption | exact lenI | exact lenS ‹_› | rfl) ?_ | refine w_store M _ _ _ _ rfl (by first | exact at0 | exact at1 | exact at2) hx rfl hy rfl rfl (by decide +kernel) (by first | decide | simp | (simp; omega)) ?_ | refine w_storeR M _ _ _ _ rfl (by first | exact at0 | exact at1 | exact at2) hx rfl _ hy rfl (by kernel_rfl) (by simp [Value.oneCell']) (by first | rfl | assumption) ?_); clear hx hy M; intro w1 M; (try simp only [setC] at M))) | ((with_reducible refine tBox _ ?_); (refine w_box M _ _ rfl rfl _ rfl _ rfl ?_; clear M; intro g w1 M))) <;> (try conv => arg 5; simp only [Act.put, List.setIfInBounds_toArray, setC]))
          rw [show (W ++ s).getD (240 + q.toNat) 0 = nth s q.toNat from nth_out W s 240 _ hW] at M
          go_roundw
          case rel => exact ⟨k + 1, by omega, by go_num, by rw [iterN_succ, ← ET.out]; unfold subB; rw [← EQ.out]; exact M⟩
          case measure => simp [intOf]; omega
        · obtain rfl : k = 16 := by omega
          have e : t = subL s d := ET.out
          have hsl := subL_len s d
          rw [e] at M
          obtain ⟨t', e'⟩ : ∃ t, t = subL s d := ⟨_, rfl⟩
          rw [← e'] at M hsl
          have ER : roundL s W n d = addL W (if n + 1 < 14 then mixL t' else t') (n + 1) := by rw [e']; rfl
          clear e e' ht ET
          have MX := fun w => mix_c t' w hsl
          have AD := fun (m : List UInt8) (hm : m.length = 16) (w : World) (RR : (Chunk.row gc (bs (W ++ s))).ok w) => add_c gc s W m (n + 1) ((n : Int) + 1) (by omega) w RR hW hs hm (by omega)
          by_cases h14 : n + 1 < 14
          · rw [if_pos h14] at ER
            have hml := mixL_len t'
            obtain ⟨m, em⟩ : ∃ m, m = mixL t' := ⟨_, rfl⟩
            rw [← em] at ER MX hml
            replace AD := AD m hml
            have hal : (addL W m (n + 1)).length = 16 := by rw [addL_len]; exact hml
            obtain ⟨a, ea⟩ : ∃ a, a = addL W m (n + 1) := ⟨_, rfl⟩
            rw [← ea] at ER AD hal
            replace ER := Lib.hid fun _ : Unit => ER
            replace MX := Lib.hid MX
            replace AD := Lib.hid AD
            clear ea em
            go_wp2_with ((first | (go_at_call 79; go_must (refine (AD.out _ (M.stays R)).mono ?_; rintro e w1 ⟨rfl, hb⟩; replace M := M.call hb; clear hb)) | (go_at_call 80; go_must (refine (MX.out _).mono ?_; rintro e w1 ⟨rfl, hb⟩; replace M := M.call hb; clear hb)) | ((with_reducible refine tGuard ?_); first | refine w_strip rfl (by with_reducible rfl) ?_ | ((fail_if_success (refine w_lit false rfl (by with_reducible rfl) ?_)); (fail_if_success (refine w_lit true rfl (by with_reducible rfl) ?_)); refine w_case rfl ?_ ?_ <;> (intro hgd; rw [hgd]; try (exfalso; simp at hgd; omega)))) | ((with_reducible refine tConv _ 45 9 ?_); go_must (first | refine w_stringW M _ _ _ _ _ rfl rfl (by first | exact at0 | exact at1 | exact at2) rfl (by first | assumption | exact lenI | exact lenS ‹_› | rfl) (by decide) Try.underlying45 Try.underlying5 Try.underlying9 ?_ | refine w_string M _ _ _ _ _ rfl rfl (by first | exact at0 | exact at1 | exact at2) (by first | rfl | (simp; done) | assumption) rfl Try.underlying45 Try.underlying5 Try.underlying9 ?_)) | ((with_reducible refine tLoad ?_); go_must (refine w_at _ _ rfl (by exact ev_tmp rfl) ?_; intro hx; (first | refine w_load M _ _ _ rfl (by first | exact at0 | exact at1 | exact at2) hx rfl (by decide +kernel) (by exact rfl) ?_ | refine w_loadB M _ _ _ rfl (by first | exact at0 | exact at1 | exact at2) hx rfl (by decide +kernel) (by first | assumption | omega | (simp; omega)) ?_ | refine w_loadH M _ _ _ rfl (by first | exact at0 | exact at1 | exact at2) hx rfl (by decide +kernel) (by first | assumption | exact lenI | exact lenS ‹_› | rfl) (by decide +kernel) ?_ | refine w_loadR M _ _ _ rfl (by first | exact at0 | exact at1 | exact at2) hx rfl (by decide +kernel) (by kernel_rfl) ?_); clear hx)) | ((with_reducible refine tStore ?_); go_must (refine w_at2 _ _ _ rfl (by exact ev_tmp rfl) (by first | exact ev_tmp rfl | exact ev_const) ?_; intro hx hy; (first | refine w_storeB M _ _ _ _ rfl (by first | exact at0 | exact at1 | exact at2) hx rfl hy (by decide +kernel) (by first | assumption | omega | (simp; omega)) ?_ | refine w_storeH M _ _ _ _ rfl (by first | exact at0 | exact at1 | exact at2) hx rfl hy (by first | assumption | exact lenI | exact lenS ‹_› | rfl) (by decide +kernel) (by first | assumption | exact lenI | exact lenS ‹_› | rfl) ?_ | refine w_store M _ _ _ _ rfl (by first | exact at0 | exact at1 | exact at2) hx rfl hy rfl rfl (by decide +kernel) (by first | decide | simp | (simp; omega)) ?_ | refine w_storeR M _ _ _ _ rfl (by first | exact at0 | exact at1 | exact at2) hx rfl _ hy rfl (by kernel_rfl) (by simp [Value.oneCell']) (by first | rfl | assumption) ?_); clear hx hy M; intro w1 M; (try simp only [setC] at M))) | ((with_reducible refine tBox _ ?_); (refine w_box M _ _ rfl rfl _ rfl _ rfl ?_; clear M; intro g w1 M))) <;> (try conv => arg 5; simp only [Act.put, List.setIfInBounds_toArray, setC]))
            go_roundw
            case rel => exact ⟨n + 1, by omega, by go_num, by rw [iterN_succ, ← ED.out, ER.out ()]; exact M.tail⟩
            case measure => simp [intOf]; omega
          · rw [if_neg h14] at ER
            replace AD := AD t' hsl
            have hal : (addL W t' (n + 1)).length = 16 := by rw [addL_len]; exact hsl
            obtain ⟨a, ea⟩ : ∃ a, a = addL W t' (n + 1) := ⟨_, rfl⟩
            rw [← ea] at ER AD hal
            replace ER := Lib.hid fun _ : Unit => ER
            replace AD := Lib.hid AD
            clear ea MX
            go_wp2_with ((first | (go_at_call 79; go_must (refine (AD.out _ (M.stays R)).mono ?_; rintro e w1 ⟨rfl, hb⟩; replace M := M.call hb; clear hb)) | ((with_reducible refine tGuard ?_); first | refine w_strip rfl (by with_reducible rfl) ?_ | ((fail_if_success (refine w_lit false rfl (by with_reducible rfl) ?_)); (fail_if_success (refine w_lit true rfl (by with_reducible rfl) ?_)); refine w_case rfl ?_ ?_ <;> (intro hgd; rw [hgd]; try (exfalso; simp at hgd; omega)))) | ((with_reducible refine tConv _ 45 9 ?_); go_must (first | refine w_stringW M _ _ _ _ _ rfl rfl (by first | exact at0 | exact at1 | exact at2) rfl (by first | assumption | exact lenI | exact lenS ‹_› | rfl) (by decide) Try.underlying45 Try.underlying5 Try.underlying9 ?_ | refine w_string M _ _ _ _ _ rfl rfl (by first | exact at0 | exact at1 | exact at2) (by first | rfl | (simp; done) | assumption) rfl Try.underlying45 Try.underlying5 Try.underlying9 ?_)) | ((with_reducible refine tLoad ?_); go_must (refine w_at _ _ rfl (by exact ev_tmp rfl) ?_; intro hx; (first | refine w_load M _ _ _ rfl (by first | exact at0 | exact at1 | exact at2) hx rfl (by decide +kernel) (by exact rfl) ?_ | refine w_loadB M _ _ _ rfl (by first | exact at0 | exact at1 | exact at2) hx rfl (by decide +kernel) (by first | assumption | omega | (simp; omega)) ?_ | refine w_loadH M _ _ _ rfl (by first | exact at0 | exact at1 | exact at2) hx rfl (by decide +kernel) (by first | assumption | exact lenI | exact lenS ‹_› | rfl) (by decide +kernel) ?_ | refine w_loadR M _ _ _ rfl (by first | exact at0 | exact at1 | exact at2) hx rfl (by decide +kernel) (by kernel_rfl) ?_); clear hx)) | ((with_reducible refine tStore ?_); go_must (refine w_at2 _ _ _ rfl (by exact ev_tmp rfl) (by first | exact ev_tmp rfl | exact ev_const) ?_; intro hx hy; (first | refine w_storeB M _ _ _ _ rfl (by first | exact at0 | exact at1 | exact at2) hx rfl hy (by decide +kernel) (by first | assumption | omega | (simp; omega)) ?_ | refine w_storeH M _ _ _ _ rfl (by first | exact at0 | exact at1 | exact at2) hx rfl hy (by first | assumption | exact lenI | exact lenS ‹_› | rfl) (by decide +kernel) (by first | assumption | exact lenI | exact lenS ‹_› | rfl) ?_ | refine w_store M _ _ _ _ rfl (by first | exact at0 | exact at1 | exact at2) hx rfl hy rfl rfl (by decide +kernel) (by first | decide | simp | (simp; omega)) ?_ | refine w_storeR M _ _ _ _ rfl (by first | exact at0 | exact at1 | exact at2) hx rfl _ hy rfl (by kernel_rfl) (by simp [Value.oneCell']) (by first | rfl | assumption) ?_); clear hx hy M; intro w1 M; (try simp only [setC] at M))) | ((with_reducible refine tBox _ ?_); (refine w_box M _ _ rfl rfl _ rfl _ rfl ?_; clear M; intro g w1 M))) <;> (try conv => arg 5; simp only [Act.put, List.setIfInBounds_toArray, setC]))
            go_roundw
            case rel => exact ⟨n + 1, by omega, by go_num, by rw [iterN_succ, ← ED.out, ER.out ()]; exact M.tail⟩
            case measure => simp [intOf]; omega
    · obtain rfl : n = 14 := by omega
      have e : bl = d := BL.out.trans ED.out.symm
      go_wp2_with ((first | ((with_reducible refine tGuard ?_); first | refine w_strip rfl (by with_reducible rfl) ?_ | ((fail_if_success (refine w_lit false rfl (by with_reducible rfl) ?_)); (fail_if_success (refine w_lit true rfl (by with_reducible rfl) ?_)); refine w_case rfl ?_ ?_ <;> (intro hgd; rw [hgd]; try (exfalso; simp at hgd; omega)))) | ((with_reducible refine tConv _ 45 9 ?_); go_must (first | refine w_stringW M _ _ _ _ _ rfl rfl (by first | exact at0 | exact at1) rfl (by first | assumption | exact lenI | exact lenS ‹_› | rfl) (by decide) Try.underlying45 Try.underlying5 Try.underlying9 ?_ | refine w_string M _ _ _ _ _ rfl rfl (by first | exact at0 | exact at1) (by first | rfl | (simp; done) | assumption) rfl Try.underlying45 Try.underlying5 Try.underlying9 ?_)) | ((with_reducible refine tLoad ?_); go_must (refine w_at _ _ rfl (by exact ev_tmp rfl) ?_; intro hx; (first | refine w_load M _ _ _ rfl (by first | exact at0 | exact at1) hx rfl (by decide +kernel) (by exact rfl) ?_ | refine w_loadB M _ _ _ rfl (by first | exact at0 | exact at1) hx rfl (by decide +kernel) (by first | assumption | omega | (simp; omega)) ?_ | refine w_loadH M _ _ _ rfl (by first | exact at0 | exact at1) hx rfl (by decide +kernel) (by first | assumption | exact lenI | exact lenS ‹_› | rfl) (by decide +kernel) ?_ | refine w_loadR M _ _ _ rfl (by first | exact at0 | exact at1) hx rfl (by decide +kernel) (by kernel_rfl) ?_); clear hx)) | ((with_reducible refine tStore ?_); go_must (refine w_at2 _ _ _ rfl (by exact ev_tmp rfl) (by first | exact ev_tmp rfl | exact ev_const) ?_; intro hx hy; (first | refine w_storeB M _ _ _ _ rfl (by first | exact at0 | exact at1) hx rfl hy (by decide +kernel) (by first | assumption | omega | (simp; omega)) ?_ | refine w_storeH M _ _ _ _ rfl (by first | exact at0 | exact at1) hx rfl hy (by first | assumption | exact lenI | exact lenS ‹_› | rfl) (by decide +kernel) (by first | assumption | exact lenI | exact lenS ‹_› | rfl) ?_ | refine w_store M _ _ _ _ rfl (by first | exact at0 | exact at1) hx rfl hy rfl rfl (by decide +kernel) (by first | decide | simp | (simp; omega)) ?_ | refine w_storeR M _ _ _ _ rfl (by first | exact at0 | exact at1) hx rfl _ hy rfl (by kernel_rfl) (by simp [Value.oneCell']) (by first | rfl | assumption) ?_); clear hx hy M; intro w1 M; (try simp only [setC] at M))) | ((with_reducible refine tBox _ ?_); (refine w_box M _ _ rfl rfl _ rfl _ rfl ?_; clear M; intro g w1 M))) <;> (try conv => arg 5; simp only [Act.put, List.setIfInBounds_toArray, setC]))
      exact bodyPost_ret (results_row rfl _ _ go 0 (bs d) _ rfl (M.ok 0 _ rfl).2.1 Try.underlying74 rfl (by rw [bs_length, hd]; kernel_rfl)) rfl ⟨by rw [e], M.below⟩
end Go.Proofs.Ytjlkiopncclomaa

/- A call that hands a new slice on. No conditions. -/
namespace Go
namespace TL
open Go.RowKit
/-- An operation whose guard is decided. -/
theorem w_stripE {P : Program} {ops : Array Oper} {rest : List Oper} {a : Act} {w : World} {Q : Exit → Act → World → Prop} {dst : Option Tmp} {op : Op} {ty : TypeId} {pos : String} {after : Array Edge} {j : Nat} {want : Bool} (hb : ∃ b, yielded ops a.tmps j = some b ∧ b = want)
    (h : wpList P ops Q (Oper.mk dst op ty pos after none :: rest) a w) : wpList P ops Q (Oper.mk dst op ty pos after (some (j, want)) :: rest) a w :=
  let ⟨_, h1, h2⟩ := hb
  w_strip h1 h2 h
/-- An operation that is not wanted. -/
theorem w_skip1 {P : Program} {ops : Array Oper} {rest : List Oper} {a : Act} {w : World} {Q : Exit → Act → World → Prop} {dst : Option Tmp} {op : Op} {ty : TypeId} {pos : String} {after : Array Edge} {j : Nat} (hb : ∃ b, yielded ops a.tmps j = some b ∧ b = false)
    (h : wpList P ops Q rest (a.put dst undef) w) : wpList P ops Q (Oper.mk dst op ty pos after (some (j, true)) :: rest) a w :=
  let ⟨_, h1, h2⟩ := hb
  w_guard h1 (fun e => by subst h2; cases e) (fun _ => h)
theorem w_skip0 {P : Program} {ops : Array Oper} {rest : List Oper} {a : Act} {w : World} {Q : Exit → Act → World → Prop} {dst : Option Tmp} {op : Op} {ty : TypeId} {pos : String} {after : Array Edge} {j : Nat} (hb : ∃ b, yielded ops a.tmps j = some b ∧ b = true)
    (h : wpList P ops Q rest (a.put dst undef) w) : wpList P ops Q (Oper.mk dst op ty pos after (some (j, false)) :: rest) a w :=
  let ⟨_, h1, h2⟩ := hb
  w_guard h1 (fun e => by subst h2; cases e) (fun _ => h)
/-- What a callee made is handed on. -/
theorem Mem.join {F : List Nat} {w0 w w' : World} {L K : List Chunk} (M : Mem F w0 w L) (N : Mem [] w w' K) : Mem F w0 w' (K ++ L) := by
  have M' := M.call N.below
  have key : ∀ (i : Nat) (c : Chunk), K[i]? = some c → ∀ k ∈ c.fp, w.heap.size ≤ k := fun i c hc k hk => (N.own i c hc k hk).resolve_left (by simp)
  refine ⟨M'.kept, fun i c hc => ?_, fun i c hc k hk => ?_, fun i j c d hij hi hj k hk hk2 => ?_⟩
  · rw [List.getElem?_append] at hc; split at hc
    · exact N.ok i c hc
    · exact M'.ok _ c hc
  · rw [List.getElem?_append] at hc; split at hc
    · exact .inr (Nat.le_trans M.kept.size (key i c hc k hk))
    · exact M'.own _ c hc k hk
  · rw [List.getElem?_append] at hi hj; split at hi <;> split at hj
    · exact N.nd i j c d hij hi hj k hk hk2
    · have := key i c hi k hk; have := (M.ok _ d hj).lt k hk2; omega
    · have := key j d hj k hk2; have := (M.ok _ c hi).lt k hk; omega
    · exact M.nd _ _ c d (by omega) hi hj k hk hk2
/-- A call that hands a new slice on. -/
def Gives {α : Type} (size : Nat) (f : α → List Value) (l : List α) (r : Value → Value) (w : World) (e : Ending) (w' : World) : Prop := ∃ p cap, e = .returned (r (.slice p l.length cap)) ∧ Mem [] w w' [.sl size (.slice p l.length cap) l.length (l.flatMap f)]
theorem Gives.intro {α : Type} {size : Nat} {f : α → List Value} {l : List α} {r : Value → Value} {w w' : World} {p : Option Addr} {cap : Nat} {L : List Chunk} (M : Mem [] w w' (.sl size (.slice p l.length cap) l.length (l.flatMap f) :: L)) : Gives size f l r w (.returned (r (.slice p l.length cap))) w' :=
  ⟨p, cap, rfl, M.pick _ id (fun _ _ _ _ h => h) (fun i c h => by cases i with | zero => exact h | succ i => simp at h)⟩
theorem Gives.below {α : Type} {size : Nat} {f : α → List Value} {l : List α} {r : Value → Value} {w w' : World} {e : Ending} (h : Gives size f l r w e w') : Below w.heap.size w w' := by
  obtain ⟨p, cap, _, M⟩ := h; exact M.below
theorem Gives.at {α : Type} {size : Nat} {f : α → List Value} {l : List α} {r : Value → Value} {w w' : World} {p : Option Addr} {cap : Nat} {L : List Chunk} (M : Mem [] w w' L) (i : Nat) (hi : L[i]? = some (.sl size (.slice p l.length cap) l.length (l.flatMap f))) : Gives size f l r w (.returned (r (.slice p l.length cap))) w' :=
  ⟨p, cap, rfl, M.pick _ (fun j => i + j) (fun _ _ _ _ h => by omega) (fun j c h => by cases j with | zero => simp at h; subst h; exact hi | succ j => simp at h)⟩
end TL
end Go

/- The walk of aes.Stream. Conditions: lengths. -/
namespace Go
namespace TL
theorem sees_of {w : World} {v : Value} {n : Nat} {l : List UInt8} (h : (Chunk.sl 1 v n (bs l)).ok w) (e : n = l.length) : SeesB w v l := by subst e; exact Own.sees h
theorem nonce_in (nonce : List UInt8) (h : nonce.length = 12) : (List.replicate 16 (0 : UInt8)).take 0 ++ ((((nonce.drop 0).take 12)).take 12 ++ (List.replicate 16 0).drop (0 + 12)) = nonce ++ List.replicate 4 0 := by
  have e : (nonce.take 12).take 12 = nonce := by rw [List.take_take, Nat.min_self, List.take_of_length_le (by omega)]
  rw [List.take_zero, List.nil_append, List.drop_zero, e]; rfl
theorem count_in (nonce big : List UInt8) (h : nonce.length = 12) (hb : big.length = 4) : (nonce ++ List.replicate 4 (0 : UInt8)).take 12 ++ (big.take 4 ++ (nonce ++ List.replicate 4 0).drop (12 + 4)) = nonce ++ big := by
  rw [List.take_left' h, List.take_of_length_le (by omega), List.drop_eq_nil_of_le (by simp; omega), List.append_nil]
end TL
end Go
namespace Go.Proofs.Ytjlkiopncclomaa
open Go.RowKit Go.TL
set_option maxRecDepth 100000 in
set_option maxHeartbeats 4000000 in
theorem Stream_c (key nonce text : List UInt8) (w : World) (hk : key.length = 32) (hn : nonce.length = 12) (ht : text.length ≤ 1000000) :
    Calls Try.prog 17 #[.agg (bs key).toArray, .agg (bs nonce).toArray, .string (mkS text)] w fun e w' => e = .returned (.string (mkS (streamL key nonce text))) ∧ Below w.heap.size w w' := by
  have M := Mem.start [] w
  have SC := fun w => schedule_c key w hk
  have hs := boxL_len
  have hW := schL_len boxL key hk
  have SL : streamL key nonce text = strN boxL (schL boxL key) nonce ((text.length + 15) / 16) text := rfl
  obtain ⟨W, eW⟩ : ∃ W, W = schL boxL key := ⟨_, rfl⟩
  rw [← eW] at SC hW SL
  obtain ⟨s, es⟩ : ∃ s, s = boxL := ⟨_, rfl⟩
  rw [← es] at SC hs SL
  obtain ⟨r, er⟩ : ∃ r, r = streamL key nonce text := ⟨_, rfl⟩
  rw [← er] at SL
  rw [← er]
  replace SL := Lib.hid fun _ : Unit => SL
  replace SC := Lib.hid SC
  clear eW es er
  obtain ⟨N, eN⟩ : ∃ N, N = text.length := ⟨_, rfl⟩
  have hWs : (W ++ s).length = 496 := by rw [List.length_append, hW, hs]
  have SN : ∀ n, (strN s W nonce n text).length = N := fun n => by rw [strN_len]; exact eN.symm
  replace SN := Lib.hid SN
  go_enter Try.func17, Try.ntmps17
  go_wp2_with ((first | ((with_reducible refine tBox (some 3) ?_); refine w_box M _ _ rfl rfl _ rfl (bs key) rfl ?_; clear M; intro gk w1 M) | ((with_reducible refine tBox (some 4) ?_); refine w_box M _ _ rfl rfl _ rfl (bs nonce) rfl ?_; clear M; intro gn w1 M) | (go_at_call 40; go_must (refine (SC.out _).mono ?_; rintro e w1 ⟨gc, rfl, MP⟩; replace M := M.join MP; clear MP; simp only [List.cons_append, List.nil_append] at M)) | ((with_reducible refine tConv (some 16) 9 45 ?_); go_must (refine w_bytes M _ _ _ _ rfl rfl rfl Try.underlying9 Try.underlying45 Try.underlying5 (by first | omega | (simp; omega)) ?_; clear M; intro gb capgb w1 hcapgb M)) | ((with_reducible refine tGuard ?_); first | refine w_strip rfl (by with_reducible rfl) ?_ | ((fail_if_success (refine w_lit false rfl (by with_reducible rfl) ?_)); (fail_if_success (refine w_lit true rfl (by with_reducible rfl) ?_)); refine w_case rfl ?_ ?_ <;> (intro hgd; rw [hgd]; try (exfalso; simp at hgd; omega)))) | ((with_reducible refine tConv _ 45 9 ?_); go_must (first | refine w_stringW M _ _ _ _ _ rfl rfl (by first | exact at0 | exact at1 | exact at2) rfl (by first | assumption | exact lenI | exact lenS ‹_› | rfl) (by decide) Try.underlying45 Try.underlying5 Try.underlying9 ?_ | refine w_string M _ _ _ _ _ rfl rfl (by first | exact at0 | exact at1 | exact at2) (by first | rfl | (simp; done) | assumption) rfl Try.underlying45 Try.underlying5 Try.underlying9 ?_)) | ((with_reducible refine tLoad ?_); go_must (refine w_at _ _ rfl (by exact ev_tmp rfl) ?_; intro hx; (first | refine w_load M _ _ _ rfl (by first | exact at0 | exact at1 | exact at2) hx rfl (by decide +kernel) (by exact rfl) ?_ | refine w_loadB M _ _ _ rfl (by first | exact at0 | exact at1 | exact at2) hx rfl (by decide +kernel) (by first | assumption | omega | (simp; omega)) ?_ | refine w_loadH M _ _ _ rfl (by first | exact at0 | exact at1 | exact at2) hx rfl (by decide +kernel) (by first | assumption | exact lenI | exact lenS ‹_› | rfl) (by decide +kernel) ?_ | refine w_loadR M _ _ _ rfl (by first | exact at0 | exact at1 | exact at2) hx rfl (by decide +kernel) (by kernel_rfl) ?_); clear hx)) | ((with_reducible refine tStore ?_); go_must (refine w_at2 _ _ _ rfl (by exact ev_tmp rfl) (by first | exact ev_tmp rfl | exact ev_const) ?_; intro hx hy; (first | refine w_storeB M _ _ _ _ rfl (by first | exact at0 | exact at1 | exact at2) hx rfl hy (by decide +kernel) (by first | assumption | omega | (simp; omega)) ?_ | refine w_storeH M _ _ _ _ rfl (by first | exact at0 | exact at1 | exact at2) hx rfl hy (by first | assumption | exact lenI | exact lenS ‹_› | rfl) (by decide +kernel) (by first | assumption | exact lenI | exact lenS ‹_› | rfl) ?_ | refine w_store M _ _ _ _ rfl (by first | exact at0 | exact at1 | exact at2) hx rfl hy rfl rfl (by decide +kernel) (by first | decide | simp | (simp; omega)) ?_ | refine w_storeR M _ _ _ _ rfl (by first | exact at0 | exact at1 | exact at2) hx rfl _ hy rfl (by kernel_rfl) (by simp [Value.oneCell']) (by first | rfl | assumption) ?_); clear hx hy M; intro w1 M; (try simp only [setC] at M))) | ((with_reducible refine tBox _ ?_); (refine w_box M _ _ rfl rfl _ rfl _ rfl ?_; clear M; intro g w1 M))) <;> (try conv => arg 5; simp only [Act.put, List.setIfInBounds_toArray, setC]))
  rw [← eN] at M
  rw [← eN]
  have hc2 : N ≤ capgb := by omega
  have hN : N ≤ 1000000 := by omega
  replace eN := Lib.hid fun _ : Unit => eN
  clear ht
  clear hcapgb
  go_loopw [9] (fun kv wr => ∃ n : Nat, 16 * n < N + 16 ∧ kv = .int .i64 (16 * (n : Int)) ∧ Mem [] w wr [.sl 1 (.slice (some ⟨gb, 0, none⟩) N capgb) N (bs (strN s W nonce n text)), .row gc (bs (W ++ s)), .row gn (bs nonce), .row gk (bs key)]) (fun kv _ => N + 16 - (intOf kv).toNat)
  case atStart => exact ⟨0, by omega, rfl, M⟩
  case round =>
    clear M
    obtain ⟨n, hn16, rfl, M⟩ := hrel
    have hd := SN.out n
    obtain ⟨d, ed⟩ : ∃ d, d = strN s W nonce n text := ⟨_, rfl⟩
    rw [← ed] at M hd
    have ED := Lib.hid fun _ : Unit => ed
    clear ed
    by_cases hlt : 16 * n < N
    · have hI : (16 * (n : Int)) < (N : Int) := by omega
      have SE : strB s W nonce n d = iterN (xorB (blockL s W (nonce ++ bigB (UInt64.ofNat n) 4)) (16 * n)) (min 16 (d.length - 16 * n)) d := rfl
      have hbig := bigB_length (UInt64.ofNat n) 4
      have CI := count_in nonce (bigB (UInt64.ofNat n) 4) hn hbig
      have AP := fun (w : World) hok => aesPutc (.slice none 0 0) [] (UInt64.ofNat n) 4 w hok (by omega) (by simp)
      rw [List.nil_append] at AP
      obtain ⟨big, ebig⟩ : ∃ b, b = bigB (UInt64.ofNat n) 4 := ⟨_, rfl⟩
      rw [← ebig] at SE hbig CI AP
      rw [hbig] at AP
      clear ebig
      have BC := fun (w : World) RR => block_c gc s W (nonce ++ big) w RR hW hs (by rw [List.length_append, hn, hbig])
      have hol := blockL_len s W (nonce ++ big) (by rw [List.length_append, hn, hbig])
      obtain ⟨o, eo⟩ : ∃ o, o = blockL s W (nonce ++ big) := ⟨_, rfl⟩
      rw [← eo] at SE BC hol
      clear eo
      have NI := nonce_in nonce hn
      have hin1 : (nonce ++ List.replicate 4 (0 : UInt8)).length = 16 := by simp [hn]
      have hin2 : (nonce ++ big).length = 16 := by rw [List.length_append, hn, hbig]
      replace SE := Lib.hid fun _ : Unit => SE
      replace CI := Lib.hid fun _ : Unit => CI
      replace NI := Lib.hid fun _ : Unit => NI
      replace AP := Lib.hid AP
      replace BC := Lib.hid BC
      have hz : (List.replicate 16 (0 : UInt8)).length = 16 := List.length_replicate
      have hq : (16 * (n : Int)) / 16 = n := by omega
      go_wp2_with ((first | ((with_reducible refine tAlloc (some 10) 74 ?_); refine w_alloc M _ rfl rfl (.agg (Array.replicate 16 (.int .u8 0))) (bs (List.replicate 16 (0 : UInt8))) (by kernel_rfl) rfl ?_; clear M; intro gi w1 M) | ((with_reducible show Code.wp _ (Code.region 7 _ _) _ _ _); go_must (refine region_det [(0, false), (1, false), (2, true)] [] (by kernel_rfl) (by kernel_rfl) rfl (by kernel_rfl) ?_; replace M := M.drew; simp only [reord, opAt, List.map_cons, List.map_nil, List.getElem?_toArray, List.getElem?_cons_zero, List.getElem?_cons_succ, Option.getD_some])) | ((with_reducible show Code.wp _ (Code.region 8 _ _) _ _ _); go_must (refine region_det [(0, false), (1, false), (2, false), (3, false), (4, true), (5, true)] [(27, .int), (28, .int)] (by kernel_rfl) (by kernel_rfl) rfl (by kernel_rfl) ?_; replace M := M.drew; simp only [reord, opAt, List.map_cons, List.map_nil, List.getElem?_toArray, List.getElem?_cons_zero, List.getElem?_cons_succ, Option.getD_some])) | ((with_reducible show wpList _ _ _ (Oper.mk _ (Op.call ⟨Callee.builtin Builtin.copy, _, _⟩) _ _ _ _ :: _) _ _); go_must (first | (refine w_copyB M 0 bytesT _ _ _ rfl rfl rfl rfl rfl (row_sees (M.ok 3 _ rfl) (by omega) (Nat.le_refl _) (by simp only [maxLen]; omega)) 12 (by simp; omega) (by omega) ?_; clear M; intro w1 M; simp only [List.set_cons_zero] at M; rw [NI.out ()] at M) | (refine w_copyB M 1 bytesT _ _ _ rfl rfl rfl rfl rfl (sees_of (M.ok 0 _ rfl) hbig.symm) 4 (by omega) (by omega) ?_; clear M; intro w1 M; simp only [List.set_cons_succ, List.set_cons_zero] at M; rw [CI.out ()] at M; replace M := M.tail))) | (go_at_call 41; go_must (replace M := M.nil 1; refine (AP.out _ (M.ok 0 _ rfl)).mono ?_; rintro e w1 ⟨p, c, rfl, U⟩; replace M := M.upd 0 rfl U; clear U; simp only [List.set_cons_zero] at M)) | (go_at_call 42; go_must (refine (BC.out _ (M.ok 2 _ rfl)).mono ?_; rintro e w1 ⟨rfl, hb⟩; replace M := M.call hb; clear hb)) | ((with_reducible refine tAlloc (some 11) 74 ?_); refine w_alloc M _ rfl rfl (.agg (Array.replicate 16 (.int .u8 0))) (bs (List.replicate 16 (0 : UInt8))) (by kernel_rfl) rfl ?_; clear M; intro go w1 M) | ((with_reducible show Seg _ _ _ _); go_must (first | refine Seg.intro ⟨fun h => absurd rfl h, ?_⟩ | refine Seg.intro ⟨fun _ => (by repeat' (first | exact ixOk_nil M.kept | refine ixOk_cons rfl (by first | exact M.ok 0 _ rfl | exact M.ok 1 _ rfl | exact M.ok 2 _ rfl | exact M.ok 3 _ rfl) ?_)), ?_⟩ | refine Seg.intro ⟨(by repeat' (first | (with_reducible exact needs_nil) | refine needs_at rfl (by first | (show Shape.ok Shape.nums _ = true; exact nums_bs _) | rfl) ?_)), (by repeat' (first | (with_reducible exact ats_nil) | refine ats_cons (by first | exact ev_tmp rfl | rfl) ?_)), ?_⟩)) | ((with_reducible show OnlyN _ _ _ _ _); refine OnlyN.intro (by kernel_rfl) ?_) | ((with_reducible refine tGuard ?_); first | refine w_strip rfl (by with_reducible rfl) ?_ | ((fail_if_success (refine w_lit false rfl (by with_reducible rfl) ?_)); (fail_if_success (refine w_lit true rfl (by with_reducible rfl) ?_)); refine w_case rfl ?_ ?_ <;> (intro hgd; rw [hgd]; try (exfalso; simp at hgd; omega)))) | ((with_reducible refine tConv _ 45 9 ?_); go_must (first | refine w_stringW M _ _ _ _ _ rfl rfl (by first | exact at0 | exact at1) rfl (by first | assumption | exact lenI | exact lenS ‹_› | rfl) (by decide) Try.underlying45 Try.underlying5 Try.underlying9 ?_ | refine w_string M _ _ _ _ _ rfl rfl (by first | exact at0 | exact at1) (by first | rfl | (simp; done) | assumption) rfl Try.underlying45 Try.underlying5 Try.underlying9 ?_)) | ((with_reducible refine tLoad ?_); go_must (refine w_at _ _ rfl (by exact ev_tmp rfl) ?_; intro hx; (first | refine w_load M _ _ _ rfl (by first | exact at0 | exact at1) hx rfl (by decide +kernel) (by exact rfl) ?_ | refine w_loadB M _ _ _ rfl (by first | exact at0 | exact at1) hx rfl (by decide +kernel) (by first | assumption | omega | (simp; omega)) ?_ | refine w_loadH M _ _ _ rfl (by first | exact at0 | exact at1) hx rfl (by decide +kernel) (by first | assumption | exact lenI | exact lenS ‹_› | rfl) (by decide +kernel) ?_ | refine w_loadR M _ _ _ rfl (by first | exact at0 | exact at1) hx rfl (by decide +kernel) (by kernel_rfl) ?_); clear hx)) | ((with_reducible refine tStore ?_); go_must (refine w_at2 _ _ _ rfl (by exact ev_tmp rfl) (by first | exact ev_tmp rfl | exact ev_const) ?_; intro hx hy; (first | refine w_storeB M _ _ _ _ rfl (by first | exact at0 | exact at1) hx rfl hy (by decide +kernel) (by first | assumption | omega | (simp; omega)) ?_ | refine w_storeH M _ _ _ _ rfl (by first | exact at0 | exact at1) hx rfl hy (by first | assumption | exact lenI | exact lenS ‹_› | rfl) (by decide +kernel) (by first | assumption | exact lenI | exact lenS ‹_› | rfl) ?_ | refine w_store M _ _ _ _ rfl (by first | exact at0 | exact at1) hx rfl hy rfl rfl (by decide +kernel) (by first | decide | simp | (simp; omega)) ?_ | refine w_storeR M _ _ _ _ rfl (by first | exact at0 | exact at1) hx rfl _ hy rfl (by kernel_rfl) (by simp [Value.oneCell']) (by first | rfl | assumption) ?_); clear hx hy M; intro w1 M; (try simp only [setC] at M))) | ((with_reducible refine tBox _ ?_); (refine w_box M _ _ rfl rfl _ rfl _ rfl ?_; clear M; intro g w1 M))) <;> (try conv => arg 5; simp only [Act.put, List.setIfInBounds_toArray, setC]))
      all_goals
        obtain ⟨c', hc1, hc3, hc4, hc5, hc7⟩ : ∃ c' : Nat, c' = min 16 (N - 16 * n) ∧ 16 * n + c' ≤ N ∧ c' ≤ 16 ∧ (16 * (n : Int) + 16 ≤ N → c' = 16) ∧ (N ≤ 16 * n + c' ∨ c' = 16) := ⟨_, rfl, by omega, by omega, by omega, by omega⟩
        replace SE := SE.out ()
        rw [hd, ← hc1] at SE
        replace SE := Lib.hid fun _ : Unit => SE
        clear hc1
        go_loopw [40] (fun kv wr => ∃ k : Nat, k ≤ c' ∧ kv = .int .i64 k ∧ Mem [] w wr [.row go (bs o), .row gi (bs (nonce ++ big)), .sl 1 (.slice (some ⟨gb, 0, none⟩) N capgb) N (bs (iterN (xorB o (16 * n)) k d)), .row gc (bs (W ++ s)), .row gn (bs nonce), .row gk (bs key)]) (fun kv _ => c' - (intOf kv).toNat)
        case atStart => exact ⟨0, by omega, rfl, M⟩
        case round =>
          clear M
          obtain ⟨k, hkc, rfl, M⟩ := hrel
          have hx := iterN_len _ (xorB_len o (16 * n)) k d
          obtain ⟨x, ex⟩ : ∃ x, x = iterN (xorB o (16 * n)) k d := ⟨_, rfl⟩
          rw [← ex] at M hx
          rw [hd] at hx
          have EX := Lib.hid fun _ : Unit => ex
          clear ex
          by_cases hltk : k < c'
          · have hb1 : (k : Int) < 16 := by omega
            have hb2 : (k : Int) < N - 16 * n := by omega
            go_wp2_with ((first | ((with_reducible show Code.wp _ (Code.region 13 _ _) _ _ _); go_must (refine region_det [(0, false), (1, false), (2, false), (3, false), (4, false), (6, false), (7, false), (5, false), (8, false), (9, false), (10, false), (11, true)] [(44, .int), (45, .int), (48, .int), (51, .int)] (by kernel_rfl) (by kernel_rfl) rfl (by kernel_rfl) ?_; replace M := M.drew; simp only [reord, opAt, List.map_cons, List.map_nil, List.getElem?_toArray, List.getElem?_cons_zero, List.getElem?_cons_succ, Option.getD_some])) | ((with_reducible show wpList _ _ _ (Oper.mk _ (Op.load _ _) _ _ _ _ :: _) _ _); refine w_at _ _ rfl (by first | exact ev_tmp rfl | exact ev_const) ?_; intro hx; refine w_slB M 2 _ _ rfl rfl hx rfl (by decide +kernel) (16 * n + k) (by first | rfl | omega) (by omega) ?_; clear hx) | ((with_reducible show wpList _ _ _ (Oper.mk _ (Op.store _ _ _) _ _ _ _ :: _) _ _); refine w_at2 _ _ _ rfl (by first | exact ev_tmp rfl | exact ev_const) (by first | exact ev_tmp rfl | exact ev_const) ?_; intro hx hy; refine w_slSetB M 2 _ _ _ rfl rfl hx rfl hy (by decide +kernel) (16 * n + k) (by first | rfl | omega) (by omega) ?_; clear hx hy M; intro w1 M; simp only [List.set_cons_succ, List.set_cons_zero] at M) | ((with_reducible show Seg _ _ _ _); go_must (first | refine Seg.intro ⟨fun h => absurd rfl h, ?_⟩ | refine Seg.intro ⟨fun _ => (by repeat' (first | exact ixOk_nil M.kept | refine ixOk_cons rfl (by first | exact M.ok 0 _ rfl | exact M.ok 1 _ rfl | exact M.ok 2 _ rfl) ?_)), ?_⟩ | refine Seg.intro ⟨(by repeat' (first | (with_reducible exact needs_nil) | refine needs_at rfl (by first | (show Shape.ok Shape.nums _ = true; exact nums_bs _) | rfl) ?_)), (by repeat' (first | (with_reducible exact ats_nil) | refine ats_cons (by first | exact ev_tmp rfl | rfl) ?_)), ?_⟩)) | ((with_reducible show OnlyN _ _ _ _ _); refine OnlyN.intro (by kernel_rfl) ?_) | ((with_reducible refine tGuard ?_); first | refine w_strip rfl (by with_reducible rfl) ?_ | ((fail_if_success (refine w_lit false rfl (by with_reducible rfl) ?_)); (fail_if_success (refine w_lit true rfl (by with_reducible rfl) ?_)); refine w_case rfl ?_ ?_ <;> (intro hgd; rw [hgd]; try (exfalso; simp at hgd; omega)))) | ((with_reducible refine tConv _ 45 9 ?_); go_must (first | refine w_stringW M _ _ _ _ _ rfl rfl (by first | exact at0) rfl (by first | assumption | exact lenI | exact lenS ‹_› | rfl) (by decide) Try.underlying45 Try.underlying5 Try.underlying9 ?_ | refine w_string M _ _ _ _ _ rfl rfl (by first | exact at0) (by first | rfl | (simp; done) | assumption) rfl Try.underlying45 Try.underlying5 Try.underlying9 ?_)) | ((with_reducible refine tLoad ?_); go_must (refine w_at _ _ rfl (by exact ev_tmp rfl) ?_; intro hx; (first | refine w_load M _ _ _ rfl (by first | exact at0) hx rfl (by decide +kernel) (by exact rfl) ?_ | refine w_loadB M _ _ _ rfl (by first | exact at0) hx rfl (by decide +kernel) (by first | assumption | omega | (simp; omega)) ?_ | refine w_loadH M _ _ _ rfl (by first | exact at0) hx rfl (by decide +kernel) (by first | assumption | exact lenI | exact lenS ‹_› | rfl) (by decide +kernel) ?_ | refine w_loadR M _ _ _ rfl (by first | exact at0) hx rfl (by decide +kernel) (by kernel_rfl) ?_); clear hx)) | ((with_reducible refine tStore ?_); go_must (refine w_at2 _ _ _ rfl (by exact ev_tmp rfl) (by first | exact ev_tmp rfl | exact ev_const) ?_; intro hx hy; (first | refine w_storeB M _ _ _ _ rfl (by first | exact at0) hx rfl hy (by decide +kernel) (by first | assumption | omega | (simp; omega)) ?_ | refine w_storeH M _ _ _ _ rfl (by first | exact at0) hx rfl hy (by first | assumption | exact lenI | exact lenS ‹_› | rfl) (by decide +kernel) (by first | assumption | exact lenI | exact lenS ‹_› | rfl) ?_ | refine w_store M _ _ _ _ rfl (by first | exact at0) hx rfl hy rfl rfl (by decide +kernel) (by first | decide | simp | (simp; omega)) ?_ | refine w_storeR M _ _ _ _ rfl (by first | exact at0) hx rfl _ hy rfl (by kernel_rfl) (by simp [Value.oneCell']) (by first | rfl | assumption) ?_); clear hx hy M; intro w1 M; (try simp only [setC] at M))) | ((with_reducible refine tBox _ ?_); (refine w_box M _ _ rfl rfl _ rfl _ rfl ?_; clear M; intro g w1 M))) <;> (try conv => arg 5; simp only [Act.put, List.setIfInBounds_toArray, setC]))
            rw [nth_at' x, nth_at' o] at M
            go_roundw
            case rel => exact ⟨k + 1, by omega, by go_num, by rw [iterN_succ, ← EX.out ()]; exact M⟩
            case measure => simp [intOf]; omega
          · obtain rfl : k = c' := by omega
            have eB : x = strB s W nonce n d := (EX.out ()).trans (SE.out ()).symm
            have eN1 : strN s W nonce (n + 1) text = x := by rw [eB, ED.out ()]; rfl
            replace eN1 := Lib.hid fun _ : Unit => eN1
            clear eB EX SE
            go_wp2_with ((first | ((with_reducible refine tGuard ?_); first | refine w_strip rfl (by with_reducible rfl) ?_ | ((fail_if_success (refine w_lit false rfl (by with_reducible rfl) ?_)); (fail_if_success (refine w_lit true rfl (by with_reducible rfl) ?_)); refine w_case rfl ?_ ?_ <;> (intro hgd; rw [hgd]; try (exfalso; simp at hgd; omega)))) | ((with_reducible refine tConv _ 45 9 ?_); go_must (first | refine w_stringW M _ _ _ _ _ rfl rfl (by first | exact at0) rfl (by first | assumption | exact lenI | exact lenS ‹_› | rfl) (by decide) Try.underlying45 Try.underlying5 Try.underlying9 ?_ | refine w_string M _ _ _ _ _ rfl rfl (by first | exact at0) (by first | rfl | (simp; done) | assumption) rfl Try.underlying45 Try.underlying5 Try.underlying9 ?_)) | ((with_reducible refine tLoad ?_); go_must (refine w_at _ _ rfl (by exact ev_tmp rfl) ?_; intro hx; (first | refine w_load M _ _ _ rfl (by first | exact at0) hx rfl (by decide +kernel) (by exact rfl) ?_ | refine w_loadB M _ _ _ rfl (by first | exact at0) hx rfl (by decide +kernel) (by first | assumption | omega | (simp; omega)) ?_ | refine w_loadH M _ _ _ rfl (by first | exact at0) hx rfl (by decide +kernel) (by first | assumption | exact lenI | exact lenS ‹_› | rfl) (by decide +kernel) ?_ | refine w_loadR M _ _ _ rfl (by first | exact at0) hx rfl (by decide +kernel) (by kernel_rfl) ?_); clear hx)) | ((with_reducible refine tStore ?_); go_must (refine w_at2 _ _ _ rfl (by exact ev_tmp rfl) (by first | exact ev_tmp rfl | exact ev_const) ?_; intro hx hy; (first | refine w_storeB M _ _ _ _ rfl (by first | exact at0) hx rfl hy (by decide +kernel) (by first | assumption | omega | (simp; omega)) ?_ | refine w_storeH M _ _ _ _ rfl (by first | exact at0) hx rfl hy (by first | assumption | exact lenI | exact lenS ‹_› | rfl) (by decide +kernel) (by first | assumption | exact lenI | exact lenS ‹_› | rfl) ?_ | refine w_store M _ _ _ _ rfl (by first | exact at0) hx rfl hy rfl rfl (by decide +kernel) (by first | decide | simp | (simp; omega)) ?_ | refine w_storeR M _ _ _ _ rfl (by first | exact at0) hx rfl _ hy rfl (by kernel_rfl) (by simp [Value.oneCell']) (by first | rfl | assumption) ?_); clear hx hy M; intro w1 M; (try simp only [setC] at M))) | ((with_reducible refine tBox _ ?_); (refine w_box M _ _ rfl rfl _ rfl _ rfl ?_; clear M; intro g w1 M))) <;> (try conv => arg 5; simp only [Act.put, List.setIfInBounds_toArray, setC]))
            go_roundw
            case rel => exact ⟨n + 1, by omega, by go_num, by rw [eN1.out ()]; exact M.tail.tail⟩
            case measure => simp [intOf]; omega
    · have eR : r = d := by
        rw [SL.out (), ED.out (), ← eN.out (), show (N + 15) / 16 = n by omega]
      replace eR := Lib.hid fun _ : Unit => eR
      go_wp2_with ((first | ((with_reducible show wpList _ _ _ (Oper.mk _ (Op.convert _ _ _) _ _ _ _ :: _) _ _); go_must (refine w_string M 0 _ _ _ _ rfl rfl rfl hd.symm rfl Try.underlying45 Try.underlying5 Try.underlying9 ?_)) | ((with_reducible refine tGuard ?_); first | refine w_strip rfl (by with_reducible rfl) ?_ | ((fail_if_success (refine w_lit false rfl (by with_reducible rfl) ?_)); (fail_if_success (refine w_lit true rfl (by with_reducible rfl) ?_)); refine w_case rfl ?_ ?_ <;> (intro hgd; rw [hgd]; try (exfalso; simp at hgd; omega)))) | ((with_reducible refine tConv _ 45 9 ?_); go_must (first | refine w_stringW M _ _ _ _ _ rfl rfl (by first | exact at0) rfl (by first | assumption | exact lenI | exact lenS ‹_› | rfl) (by decide) Try.underlying45 Try.underlying5 Try.underlying9 ?_ | refine w_string M _ _ _ _ _ rfl rfl (by first | exact at0) (by first | rfl | (simp; done) | assumption) rfl Try.underlying45 Try.underlying5 Try.underlying9 ?_)) | ((with_reducible refine tLoad ?_); go_must (refine w_at _ _ rfl (by exact ev_tmp rfl) ?_; intro hx; (first | refine w_load M _ _ _ rfl (by first | exact at0) hx rfl (by decide +kernel) (by exact rfl) ?_ | refine w_loadB M _ _ _ rfl (by first | exact at0) hx rfl (by decide +kernel) (by first | assumption | omega | (simp; omega)) ?_ | refine w_loadH M _ _ _ rfl (by first | exact at0) hx rfl (by decide +kernel) (by first | assumption | exact lenI | exact lenS ‹_› | rfl) (by decide +kernel) ?_ | refine w_loadR M _ _ _ rfl (by first | exact at0) hx rfl (by decide +kernel) (by kernel_rfl) ?_); clear hx)) | ((with_reducible refine tStore ?_); go_must (refine w_at2 _ _ _ rfl (by exact ev_tmp rfl) (by first | exact ev_tmp rfl | exact ev_const) ?_; intro hx hy; (first | refine w_storeB M _ _ _ _ rfl (by first | exact at0) hx rfl hy (by decide +kernel) (by first | assumption | omega | (simp; omega)) ?_ | refine w_storeH M _ _ _ _ rfl (by first | exact at0) hx rfl hy (by first | assumption | exact lenI | exact lenS ‹_› | rfl) (by decide +kernel) (by first | assumption | exact lenI | exact lenS ‹_› | rfl) ?_ | refine w_store M _ _ _ _ rfl (by first | exact at0) hx rfl hy rfl rfl (by decide +kernel) (by first | decide | simp | (simp; omega)) ?_ | refine w_storeR M _ _ _ _ rfl (by first | exact at0) hx rfl _ hy rfl (by kernel_rfl) (by simp [Value.oneCell']) (by first | rfl | assumption) ?_); clear hx hy M; intro w1 M; (try simp only [setC] at M))) | ((with_reducible refine tBox _ ?_); (refine w_box M _ _ rfl rfl _ rfl _ rfl ?_; clear M; intro g w1 M))) <;> (try conv => arg 5; simp only [Act.put, List.setIfInBounds_toArray, setC]))
      go_ret
      exact ⟨congrArg (fun x => Ending.returned (.string (mkS x))) (eR.out ()).symm, M.below⟩
end Go.Proofs.Ytjlkiopncclomaa

/- Plain laws of layer 1 (pack): a number's bytes, seven bits in each, and how they are read. No program in this text. Conditions: numbers below 2^64. -/
namespace Go
namespace TL
/-- A number's bytes. -/
def numL (n : Nat) : List UInt8 := if n < 128 then [UInt8.ofNat n] else UInt8.ofNat (n % 128 + 128) :: numL (n / 128)
termination_by n
decreasing_by omega
theorem numL_small {n : Nat} (h : n < 128) : numL n = [UInt8.ofNat n] := by rw [numL, if_pos h]
theorem numL_big {n : Nat} (h : 128 ≤ n) : numL n = UInt8.ofNat (n % 128 + 128) :: numL (n / 128) := by rw [numL, if_neg (by omega)]
theorem numL_pos (n : Nat) : 0 < (numL n).length := by
  by_cases h : n < 128
  · rw [numL_small h]; exact Nat.one_pos
  · rw [numL_big (by omega)]; simp
theorem bitLenAux_zero : ∀ f, Lib.bitLenAux f 0 = 0
  | 0 => rfl
  | _ + 1 => rfl
theorem bitLenAux_log : ∀ (f x : Nat), x ≠ 0 → x < 2 ^ f → Lib.bitLenAux f x = Nat.log2 x + 1
  | 0, x, h0, h => by simp at h; omega
  | f + 1, x, h0, h => by
    rw [Lib.bitLenAux, if_neg h0, Nat.log2_def]
    by_cases h2 : 2 ≤ x
    · rw [if_pos h2, bitLenAux_log f (x / 2) (by omega) (by rw [Nat.pow_succ] at h; omega)]; omega
    · rw [if_neg h2, show x / 2 = 0 by omega, bitLenAux_zero]
theorem log2_div128 {n : Nat} (h : 128 ≤ n) : Nat.log2 n = Nat.log2 (n / 128) + 7 := by
  have e : ∀ m : Nat, 2 ≤ m → Nat.log2 m = Nat.log2 (m / 2) + 1 := fun m hm => by rw [Nat.log2_def, if_pos hm]
  rw [e n (by omega), e (n / 2) (by omega), e (n / 2 / 2) (by omega), e (n / 2 / 2 / 2) (by omega), e (n / 2 / 2 / 2 / 2) (by omega), e (n / 2 / 2 / 2 / 2 / 2) (by omega), e (n / 2 / 2 / 2 / 2 / 2 / 2) (by omega)]
  simp only [Nat.div_div_eq_div_mul]
theorem numL_length (n : Nat) : (numL n).length = if n = 0 then 1 else Nat.log2 n / 7 + 1 := by
  induction n using Nat.strongRecOn with
  | ind n ih =>
    by_cases h : n < 128
    · rw [numL_small h]
      by_cases h0 : n = 0
      · rw [if_pos h0]; rfl
      · rw [if_neg h0]
        have : Nat.log2 n < 7 := (Nat.log2_lt h0).2 (by omega)
        simp; omega
    · rw [numL_big (by omega), List.length_cons, ih (n / 128) (by omega), if_neg (by omega), if_neg (by omega), log2_div128 (n := n) (by omega)]
      omega
/-- The program's size. -/
theorem size_eq (n : Nat) (h : n < 18446744073709551616) : max 1 ((Lib.bitLen n + 6) / 7) = (numL n).length := by
  rw [numL_length]
  by_cases h0 : n = 0
  · subst h0; rfl
  · rw [if_neg h0, Lib.bitLen, bitLenAux_log 64 n h0 h]; omega
theorem numL_length_le (n : Nat) (h : n < 18446744073709551616) : (numL n).length ≤ 10 := by
  rw [numL_length]
  split
  · omega
  · rename_i h0
    have : Nat.log2 n < 64 := (Nat.log2_lt h0).2 (by omega)
    omega
/-! ### Reading -/
/-- How many bytes at the beginning say that another one follows. -/
def lead : List UInt8 → Nat
  | [] => 0
  | b :: l => if b.toNat < 128 then 0 else lead l + 1
/-- What bytes of seven bits tell, the lowest first. -/
def numV : List UInt8 → Nat
  | [] => 0
  | b :: l => b.toNat % 128 + 128 * numV l
/-- A number's reading: the number, how many bytes, the error. -/
def readN (s : List UInt8) (most : Nat) : Nat × Nat × Nat :=
  if 10 ≤ lead s then (0, 0, 8) else if s.length ≤ lead s then (0, 0, 7) else if lead s = 9 ∧ 1 < (s.getD 9 0).toNat then (0, 0, 8)
  else if 0 < lead s ∧ (s.getD (lead s) 0).toNat = 0 then (0, 0, 8)
  else if most < numV (s.take (lead s + 1)) then (0, 0, 8) else (numV (s.take (lead s + 1)), lead s + 1, 0)
theorem lead_le : ∀ s, lead s ≤ s.length
  | [] => Nat.le_refl _
  | b :: l => by rw [lead]; split <;> have := lead_le l <;> simp <;> omega
theorem ofNat_toNat {n : Nat} (h : n < 256) : (UInt8.ofNat n).toNat = n := by simp [UInt8.toNat_ofNat']; omega
theorem lead_numL (n : Nat) (r : List UInt8) : lead (numL n ++ r) + 1 = (numL n).length := by
  induction n using Nat.strongRecOn with
  | ind n ih =>
    by_cases h : n < 128
    · rw [numL_small h]; simp only [List.cons_append, List.nil_append, lead]; rw [if_pos (by rw [ofNat_toNat (by omega)]; exact h)]; rfl
    · rw [numL_big (by omega)]; simp only [List.cons_append, lead]
      rw [if_neg (by rw [ofNat_toNat (by omega)]; omega), ih (n / 128) (by omega)]; rfl
theorem numV_numL (n : Nat) : numV (numL n) = n := by
  induction n using Nat.strongRecOn with
  | ind n ih =>
    by_cases h : n < 128
    · rw [numL_small h]; simp only [numV]; rw [ofNat_toNat (by omega)]; omega
    · rw [numL_big (by omega)]; simp only [numV]; rw [ih (n / 128) (by omega), ofNat_toNat (by omega)]; omega
theorem numL_inj {a b : Nat} (h : numL a = numL b) : a = b := by rw [← numV_numL a, h, numV_numL]
/-- The last byte is below 128, and is no nought if there are others. -/
theorem numL_last (n : Nat) (r : List UInt8) : ((numL n ++ r).getD (lead (numL n ++ r)) 0).toNat < 128 ∧ (0 < lead (numL n ++ r) → 0 < ((numL n ++ r).getD (lead (numL n ++ r)) 0).toNat) := by
  induction n using Nat.strongRecOn with
  | ind n ih =>
    by_cases h : n < 128
    · rw [numL_small h]; simp only [List.cons_append, List.nil_append, lead]; rw [if_pos (by rw [ofNat_toNat (by omega)]; exact h)]
      simp only [List.getD_cons_zero]; rw [ofNat_toNat (by omega)]; omega
    · rw [numL_big (by omega)]; simp only [List.cons_append, lead]
      rw [if_neg (by rw [ofNat_toNat (by omega)]; omega)]; simp only [List.getD_cons_succ]
      refine ⟨(ih (n / 128) (by omega)).1, fun _ => ?_⟩
      by_cases h2 : n / 128 < 128
      · have e : numL (n / 128) = [UInt8.ofNat (n / 128)] := numL_small h2
        rw [e]; simp only [List.cons_append, List.nil_append, lead]; rw [if_pos (by rw [ofNat_toNat (by omega)]; exact h2)]
        simp only [List.getD_cons_zero]; rw [ofNat_toNat (by omega)]; omega
      · refine (ih (n / 128) (by omega)).2 ?_
        have := lead_numL (n / 128) r
        have : (numL (n / 128)).length = (numL (n / 128 / 128)).length + 1 := by rw [numL_big (by omega)]; rfl
        have := numL_pos (n / 128 / 128)
        omega
theorem take_numL (n : Nat) (r : List UInt8) : (numL n ++ r).take (lead (numL n ++ r) + 1) = numL n := by
  rw [lead_numL, List.take_left]
/-- The tenth byte of a number below 2^64 is at most 1. -/
theorem numL_ten (n : Nat) (r : List UInt8) (k : Nat) (hk : lead (numL n ++ r) = k) : ((numL n ++ r).getD k 0).toNat * 128 ^ k ≤ n := by
  induction n using Nat.strongRecOn generalizing k with
  | ind n ih =>
    by_cases h : n < 128
    · rw [numL_small h] at hk ⊢; simp only [List.cons_append, List.nil_append, lead] at hk ⊢; rw [if_pos (by rw [ofNat_toNat (by omega)]; exact h)] at hk
      subst hk
      simp only [List.getD_cons_zero]; rw [ofNat_toNat (by omega)]; omega
    · rw [numL_big (by omega)] at hk ⊢; simp only [List.cons_append, lead] at hk ⊢
      rw [if_neg (by rw [ofNat_toNat (by omega)]; omega)] at hk
      subst hk
      simp only [List.getD_cons_succ]
      have := ih (n / 128) (by omega) _ rfl
      rw [Nat.pow_succ, ← Nat.mul_assoc]; omega
theorem read_num (n most : Nat) (r : List UInt8) (h : n < 18446744073709551616) : readN (numL n ++ r) most = if most < n then (0, 0, 8) else (n, (numL n).length, 0) := by
  have h1 := lead_numL n r
  have h2 := numL_length_le n h
  obtain ⟨h3, h4⟩ := numL_last n r
  unfold readN
  rw [if_neg (by omega), if_neg (by simp; omega), if_neg, if_neg (by rintro ⟨a, b⟩; have := h4 a; omega), take_numL, numV_numL, h1]
  rintro ⟨a, b⟩
  have := numL_ten n r 9 a
  omega
theorem toNat_lt' (b : UInt8) : b.toNat < 256 := b.toNat_lt
theorem ofNat_toNat' (b : UInt8) : UInt8.ofNat b.toNat = b := UInt8.ofNat_toNat
theorem numV_ge : ∀ s : List UInt8, lead s < s.length → (s.getD (lead s) 0).toNat * 128 ^ lead s ≤ numV (s.take (lead s + 1)) ∧ numV (s.take (lead s + 1)) < ((s.getD (lead s) 0).toNat + 1) * 128 ^ lead s
  | [], h => by simp at h
  | b :: l, h => by
    by_cases hb : b.toNat < 128
    · have e : lead (b :: l) = 0 := by rw [lead, if_pos hb]
      rw [e]; simp [numV]; omega
    · have e : lead (b :: l) = lead l + 1 := by rw [lead, if_neg hb]
      rw [e] at h ⊢
      have ih := numV_ge l (by simpa using h)
      simp only [List.getD_cons_succ, List.take_succ_cons, numV]
      obtain ⟨i1, i2⟩ := ih
      have := toNat_lt' b
      rw [Nat.pow_succ, ← Nat.mul_assoc, ← Nat.mul_assoc]
      omega
theorem lead_last : ∀ s : List UInt8, lead s < s.length → (s.getD (lead s) 0).toNat < 128
  | [], h => by simp at h
  | b :: l, h => by
    by_cases hb : b.toNat < 128
    · have e : lead (b :: l) = 0 := by rw [lead, if_pos hb]
      rw [e]; simpa using hb
    · have e : lead (b :: l) = lead l + 1 := by rw [lead, if_neg hb]
      rw [e] at h ⊢
      simpa using lead_last l (by simpa using h)
theorem canon : ∀ s : List UInt8, lead s < s.length → (0 < lead s → (s.getD (lead s) 0).toNat ≠ 0) → numL (numV (s.take (lead s + 1))) = s.take (lead s + 1)
  | [], h, _ => by simp at h
  | b :: l, h, hz => by
    by_cases hb : b.toNat < 128
    · have e : lead (b :: l) = 0 := by rw [lead, if_pos hb]
      rw [e]
      simp only [List.take_succ_cons, List.take_zero, numV]
      rw [show b.toNat % 128 + 128 * 0 = b.toNat by omega, numL_small hb, ofNat_toNat']
    · have e : lead (b :: l) = lead l + 1 := by rw [lead, if_neg hb]
      rw [e] at h hz ⊢
      have hl : lead l < l.length := by simpa using h
      have hz' := hz (by omega)
      simp only [List.getD_cons_succ] at hz'
      have ih := canon l hl (fun _ => hz')
      have hv := (numV_ge l hl).1
      have hp : 0 < 128 ^ lead l := Nat.pow_pos (by omega)
      have h1 : 1 * 1 ≤ (l.getD (lead l) 0).toNat * 128 ^ lead l := Nat.mul_le_mul (by omega) hp
      simp only [List.take_succ_cons, numV]
      have := toNat_lt' b
      rw [numL_big (by omega), show (b.toNat % 128 + 128 * numV (l.take (lead l + 1))) / 128 = numV (l.take (lead l + 1)) by omega, ih, show (b.toNat % 128 + 128 * numV (l.take (lead l + 1))) % 128 + 128 = b.toNat by omega, ofNat_toNat']
theorem read_ok {s : List UInt8} {most n k : Nat} (h : readN s most = (n, k, 0)) : s = numL n ++ s.drop k ∧ k = (numL n).length ∧ n ≤ most ∧ n < 18446744073709551616 := by
  unfold readN at h
  split at h
  · simp at h
  split at h
  · simp at h
  split at h
  · simp at h
  split at h
  · simp at h
  split at h
  · simp at h
  rename_i h1 h2 h3 h4 h5
  simp only [Prod.mk.injEq, and_true] at h
  obtain ⟨rfl, rfl⟩ := h
  have c := canon s (by omega) (fun h => fun e => h4 ⟨h, e⟩)
  rw [c]
  refine ⟨by rw [List.take_append_drop], by simp; omega, by omega, ?_⟩
  have v := (numV_ge s (by omega)).2
  have l := lead_last s (by omega)
  by_cases h9 : lead s = 9
  · rw [h9] at v ⊢
    have : (s.getD 9 0).toNat ≤ 1 := by omega
    have : ((s.getD 9 0).toNat + 1) * 128 ^ 9 ≤ 2 * 128 ^ 9 := Nat.mul_le_mul_right _ (by omega)
    omega
  · have h8 : 128 ^ lead s ≤ 128 ^ 8 := Nat.pow_le_pow_right (by omega) (by omega)
    have : ((s.getD (lead s) 0).toNat + 1) * 128 ^ lead s ≤ 128 * 128 ^ 8 := Nat.mul_le_mul (by omega) h8
    omega
theorem lead_take : ∀ (s : List UInt8) (k : Nat), k ≤ lead s → lead (s.take k) = k
  | _, 0, _ => rfl
  | [], k + 1, h => by simp [lead] at h
  | b :: l, k + 1, h => by
    by_cases hb : b.toNat < 128
    · rw [lead, if_pos hb] at h; omega
    · rw [lead, if_neg hb] at h
      rw [List.take_succ_cons, lead, if_neg hb, lead_take l k (by omega)]
/-- A beginning of a number ends too early. -/
theorem read_short (n most k : Nat) (h : n < 18446744073709551616) (hk : k < (numL n).length) : readN ((numL n).take k) most = (0, 0, 7) := by
  have h1 := lead_numL n []
  rw [List.append_nil] at h1
  have h2 := numL_length_le n h
  have h3 := lead_take (numL n) k (by omega)
  unfold readN
  rw [h3, if_neg (by omega), if_pos (by simp; omega)]
/-- The error of a reading is 0, 7 or 8; with one there is nothing else. -/
theorem read_err (s : List UInt8) (most : Nat) : (readN s most).2.2 = 0 ∨ readN s most = (0, 0, 7) ∨ readN s most = (0, 0, 8) := by
  unfold readN
  split
  · simp
  split
  · simp
  split
  · simp
  split
  · simp
  split
  · simp
  · simp
theorem read_le {s : List UInt8} {most n k e : Nat} (h : readN s most = (n, k, e)) : k ≤ s.length ∧ k ≤ 10 ∧ n ≤ most := by
  by_cases he : e = 0
  · subst he
    obtain ⟨h1, h2, h3, h4⟩ := read_ok h
    have h5 : s.length = (numL n).length + (s.length - k) := by have := congrArg List.length h1; rwa [List.length_append, List.length_drop] at this
    have := numL_length_le n h4
    omega
  · have := read_err s most
    rw [h] at this
    simp at this
    omega
end TL
end Go

/- Plain laws of layer 1's reader (pack.In): its state, and what each method does to it. No program in this text. No conditions but those each lemma names. -/
namespace Go
namespace TL
/-- A number below 2^64, at most. -/
def maxU : Nat := 18446744073709551615
theorem maxU_eq : maxU = 18446744073709551615 := rfl
/-- A text's bytes: its length's, and its own. -/
def textL (t : List UInt8) : List UInt8 := numL t.length ++ t
/-- A reader's state: what is left, how many bytes were read, the error. -/
structure InS where
  rest : List UInt8
  read : Nat
  err : Nat
def InS.fit (x : InS) : Prop := x.read + x.rest.length ≤ 1000000000
/-- Bytes are taken, or an error. -/
def InS.take (x : InS) (k e : Nat) : InS := if e = 0 then ⟨x.rest.drop k, x.read + k, 0⟩ else ⟨x.rest, x.read, e⟩
def InS.most (x : InS) (m : Nat) : Nat × InS := if x.err = 0 then ((readN x.rest m).1, x.take (readN x.rest m).2.1 (readN x.rest m).2.2) else (0, x)
def InS.text (x : InS) (m : Nat) : List UInt8 × InS :=
  if x.err = 0 then
    if (readN x.rest m).2.2 = 0 then
      if (readN x.rest m).1 ≤ x.rest.length - (readN x.rest m).2.1 then ((x.rest.drop (readN x.rest m).2.1).take (readN x.rest m).1, x.take ((readN x.rest m).2.1 + (readN x.rest m).1) 0)
      else ([], x.take 0 7)
    else ([], x.take 0 (readN x.rest m).2.2)
  else ([], x)
def InS.byte (x : InS) : Nat × InS := if x.err = 0 then (match x.rest with | [] => (0, x.take 0 7) | b :: _ => (b.toNat, x.take 1 0)) else (0, x)
/-- How it ends: its error, or that bytes are left. -/
def InS.fin (x : InS) : Nat := if x.err = 0 then (if x.rest.length = 0 then 0 else 8) else x.err
/-- A beginning of a number ends it: its length. -/
theorem numL_len_le : ∀ (k n : Nat), 0 < k → n < 128 ^ k → (numL n).length ≤ k
  | 0, _, h, _ => by omega
  | k + 1, n, _, h => by
    by_cases hn : n < 128
    · rw [numL_small hn]; simp
    · rw [numL_big (by omega), List.length_cons]
      have hk : 0 < k := by
        rcases Nat.eq_zero_or_pos k with rfl | h0
        · simp at h; omega
        · exact h0
      have := numL_len_le k (n / 128) hk (by rw [Nat.pow_succ] at h; omega)
      omega
/-- Whether a number has as many bytes as it was read from. -/
theorem size_canon (s : List UInt8) (h : lead s < s.length) : ((numL (numV (s.take (lead s + 1)))).length = lead s + 1) ↔ ¬ (0 < lead s ∧ (s.getD (lead s) 0).toNat = 0) := by
  constructor
  · rintro h1 ⟨h2, h3⟩
    have hv := (numV_ge s h).2
    rw [h3, Nat.zero_add, Nat.one_mul] at hv
    have := numL_len_le _ _ h2 hv
    omega
  · intro h1
    rw [canon s h fun h2 h3 => h1 ⟨h2, h3⟩]; simp; omega
theorem numV_lt64 {s : List UInt8} (h : lead s < s.length) (h9 : lead s ≤ 9) (ht : lead s = 9 → (s.getD 9 0).toNat ≤ 1) : numV (s.take (lead s + 1)) < 18446744073709551616 := by
  have v := (numV_ge s h).2
  have l := lead_last s h
  by_cases h9 : lead s = 9
  · rw [h9] at v ⊢
    have := ht h9
    have : ((s.getD 9 0).toNat + 1) * 128 ^ 9 ≤ 2 * 128 ^ 9 := Nat.mul_le_mul_right _ (by omega)
    omega
  · have h8 : 128 ^ lead s ≤ 128 ^ 8 := Nat.pow_le_pow_right (by omega) (by omega)
    have : ((s.getD (lead s) 0).toNat + 1) * 128 ^ lead s ≤ 128 * 128 ^ 8 := Nat.mul_le_mul (by omega) h8
    omega
theorem lead_ge : ∀ (s : List UInt8) (k : Nat), k < lead s → 128 ≤ (s.getD k 0).toNat
  | [], k, h => by simp [lead] at h
  | b :: l, k, h => by
    by_cases hb : b.toNat < 128
    · rw [lead, if_pos hb] at h; omega
    · rw [lead, if_neg hb] at h
      cases k with
      | zero => simpa using hb
      | succ k => simpa using lead_ge l k (by omega)
theorem lead_stop (s : List UInt8) (k : Nat) (h : k ≤ lead s) (hb : (s.getD k 0).toNat < 128) : lead s = k := by
  by_cases e : k < lead s
  · have := lead_ge s k e; omega
  · omega
/-- The number's reading, unbounded: pack.number. -/
theorem readN_form (s : List UInt8) (h : 10 ≤ lead s) (m : Nat) : readN s m = (0, 0, 8) := by unfold readN; rw [if_pos h]
theorem readN_short (s : List UInt8) (h : lead s < 10) (h1 : s.length ≤ lead s) (m : Nat) : readN s m = (0, 0, 7) := by unfold readN; rw [if_neg (by omega), if_pos h1]
theorem readN_ten (s : List UInt8) (h : lead s = 9) (h1 : lead s < s.length) (h2 : 1 < (s.getD 9 0).toNat) (m : Nat) : readN s m = (0, 0, 8) := by
  unfold readN; rw [if_neg (by omega), if_neg (by omega), if_pos ⟨h, h2⟩]
theorem readN_zero (s : List UInt8) (h : lead s < 10) (h1 : lead s < s.length) (h2 : 0 < lead s) (h3 : (s.getD (lead s) 0).toNat = 0) (m : Nat) : readN s m = (0, 0, 8) := by
  unfold readN; rw [if_neg (by omega), if_neg (by omega)]
  split
  · rfl
  · rw [if_pos ⟨h2, h3⟩]
theorem readN_val (s : List UInt8) (h : lead s < 10) (h1 : lead s < s.length) (h9 : lead s = 9 → (s.getD 9 0).toNat ≤ 1) (h3 : ¬ (0 < lead s ∧ (s.getD (lead s) 0).toNat = 0)) (m : Nat) :
    readN s m = if m < numV (s.take (lead s + 1)) then (0, 0, 8) else (numV (s.take (lead s + 1)), lead s + 1, 0) := by
  unfold readN; rw [if_neg (by omega), if_neg (by omega), if_neg (by rintro ⟨a, b⟩; have := h9 a; omega), if_neg h3]
theorem readN_max (s : List UInt8) (m : Nat) : readN s m = if (readN s maxU).2.2 = 0 ∧ m < (readN s maxU).1 then (0, 0, 8) else readN s maxU := by
  rw [maxU_eq] at *
  by_cases a : 10 ≤ lead s
  · rw [readN_form s a, readN_form s a]; rfl
  by_cases b : s.length ≤ lead s
  · rw [readN_short s (by omega) b, readN_short s (by omega) b]; rfl
  by_cases c : lead s = 9 ∧ 1 < (s.getD 9 0).toNat
  · rw [readN_ten s c.1 (by omega) c.2, readN_ten s c.1 (by omega) c.2]; rfl
  by_cases d : 0 < lead s ∧ (s.getD (lead s) 0).toNat = 0
  · rw [readN_zero s (by omega) (by omega) d.1 d.2, readN_zero s (by omega) (by omega) d.1 d.2]; rfl
  have h9 : lead s = 9 → (s.getD 9 0).toNat ≤ 1 := fun e => by
    have : ¬ 1 < (s.getD 9 0).toNat := fun h => c ⟨e, h⟩
    omega
  have hv := numV_lt64 (s := s) (by omega) (by omega) h9
  rw [readN_val s (by omega) (by omega) h9 d, readN_val s (by omega) (by omega) h9 d, if_neg (by omega : ¬ 18446744073709551615 < numV (s.take (lead s + 1)))]
  simp
theorem numV_drop : ∀ (s : List UInt8) (i : Nat), i < s.length → numV (s.drop i) = (s.getD i 0).toNat % 128 + 128 * numV (s.drop (i + 1))
  | [], i, h => by simp at h
  | b :: l, 0, _ => by simp [numV]
  | b :: l, i + 1, h => by simpa using numV_drop l i (by simpa using h)
theorem numV_lt (s : List UInt8) : numV s < 128 ^ s.length := by
  induction s with
  | nil => simp [numV]
  | cons b l ih => rw [numV, List.length_cons, Nat.pow_succ]; omega
theorem numV_last : ∀ (n : Nat) (l : List UInt8), l.length = n + 1 → numV l < ((l.getD n 0).toNat % 128 + 1) * 128 ^ n
  | _, [], h => by simp at h
  | 0, [b], _ => by simp [numV]
  | 0, b :: c :: l, h => by simp at h
  | n + 1, b :: l, h => by
    have := numV_last n l (by simpa using h)
    rw [numV, List.getD_cons_succ, Nat.pow_succ, ← Nat.mul_assoc]; omega
theorem numV_drop_lt (s : List UInt8) (hl : lead s < s.length) (h9 : lead s ≤ 9) (ht : lead s = 9 → (s.getD 9 0).toNat ≤ 1) (j : Nat) (hj : 1 ≤ j) : numV ((s.take (lead s + 1)).drop j) < 144115188075855872 := by
  by_cases hjl : j ≤ lead s
  · have e : ((s.take (lead s + 1)).drop j).length = (lead s - j) + 1 := by simp; omega
    have h := numV_last _ _ e
    have g : ((s.take (lead s + 1)).drop j).getD (lead s - j) 0 = s.getD (lead s) 0 := by
      simp only [List.getD_eq_getElem?_getD, List.getElem?_drop, List.getElem?_take]
      rw [show j + (lead s - j) = lead s by omega, if_pos (by omega)]
    rw [g] at h
    by_cases e9 : lead s = 9
    · have h8 : 128 ^ (lead s - j) ≤ 128 ^ 8 := Nat.pow_le_pow_right (by omega) (by omega)
      have t := ht e9
      rw [← e9] at t
      have := Nat.mul_le_mul (show (s.getD (lead s) 0).toNat % 128 + 1 ≤ 2 by omega) h8
      omega
    · have h8 : 128 ^ (lead s - j) ≤ 128 ^ 7 := Nat.pow_le_pow_right (by omega) (by omega)
      have := Nat.mul_le_mul (show (s.getD (lead s) 0).toNat % 128 + 1 ≤ 128 by omega) h8
      omega
  · rw [List.drop_of_length_le (by simp; omega)]; simp [numV]
/-- What pack.number comes to behind its loop. -/
theorem readN_size (s : List UInt8) (h : lead s ≤ 9) (h1 : lead s < s.length) (h9 : lead s = 9 → (s.getD 9 0).toNat ≤ 1) :
    readN s maxU = if (numL (numV (s.take (lead s + 1)))).length = lead s + 1 then (numV (s.take (lead s + 1)), lead s + 1, 0) else (0, 0, 8) := by
  have hc := size_canon s h1
  have hv := numV_lt64 h1 h h9
  by_cases d : 0 < lead s ∧ (s.getD (lead s) 0).toNat = 0
  · rw [readN_zero s (by omega) h1 d.1 d.2, if_neg (fun e => hc.1 e d)]
  · rw [readN_val s (by omega) h1 h9 d, if_pos (hc.2 d), maxU_eq, if_neg (by omega)]
end TL
end Go

/-
  DERIVED: THE SHELF's CONTRACTS AT THIS DUMP, IN PLAIN WORDS (tools/lay-plain.mjs out of 'TryShelf.lean', which tools/lay-shelf.mjs wrote): THE SAME DECLARATIONS UNDER THE SAME NAMES: 'import', 'namespace', 'open', 'def', 'theorem' AND NOTHING ELSE: no command of the shelf's: FOR A HAND-IN. Each laying: the table of numbers ('.._ren') and one theorem, a field a fact of the dump's own or the kernel's comparison; each contract: ONE APPLICATION.
-/
namespace Go.Proofs
open Go.Shelf
def Try.lays170_ren : Go.Shelf.Ren := ⟨fun | 170 => 74 | n => n, fun | 70 => 112 | 3 => 3 | 0 => 0 | 72 => 114 | 37 => 45 | 5 => 5 | n => n, fun | n => n⟩
theorem Try.lays170 : Go.Proofs.Lays.n170 Try.prog Try.lays170_ren := {
  mixed := by kernel_rfl
  f170 := Try.func74.trans (congrArg some (by kernel_rfl))
  t0 := Try.underlying0
  a0 := Try.isAgg0
  z0 := Try.sizeOf0
  v0 := Try.zeroValue0
  t3 := Try.underlying3
  a3 := Try.isAgg3
  z3 := Try.sizeOf3
  v3 := Try.zeroValue3
  t37 := Try.underlying45
  a37 := Try.isAgg45
  z37 := Try.sizeOf45
  v37 := Try.zeroValue45
  t70 := Try.underlying112
  a70 := Try.isAgg112
  z70 := Try.sizeOf112
  v70 := Try.zeroValue112
  t72 := Try.underlying114
  a72 := Try.isAgg114
  z72 := Try.sizeOf114
  v72 := Try.zeroValue114 }
open Go.RowKit in
/-- (*strings.Builder).Len: "Len returns the number of accumulated bytes; b.Len() == len(b.String()).": the world is as it was. (LAID: no walk: one application.) -/
theorem Try.Builder_Len (B b : Nat) (bs : List Value) (w : World) (h : Lib.IsBuilder 114 5 B b bs w) :
    Calls Try.prog 74 #[.pointer (some ⟨b, 0, none⟩)] w fun e w' => e = .returned (.int .i64 bs.length) ∧ w' = w := Any.Builder_Len Try.lays170 B b bs w h
def Try.lays169_ren : Go.Shelf.Ren := ⟨fun | 169 => 75 | n => n, fun | 70 => 112 | 9 => 9 | 0 => 0 | 72 => 114 | 37 => 45 | 127 => 155 | 3 => 3 | 5 => 5 | n => n, fun | n => n⟩
theorem Try.lays169 : Go.Proofs.Lays.n169 Try.prog Try.lays169_ren := {
  mixed := by kernel_rfl
  f169 := Try.func75.trans (congrArg some (by kernel_rfl))
  t0 := Try.underlying0
  a0 := Try.isAgg0
  z0 := Try.sizeOf0
  v0 := Try.zeroValue0
  t3 := Try.underlying3
  a3 := Try.isAgg3
  z3 := Try.sizeOf3
  v3 := Try.zeroValue3
  t9 := Try.underlying9
  a9 := Try.isAgg9
  z9 := Try.sizeOf9
  v9 := Try.zeroValue9
  t37 := Try.underlying45
  a37 := Try.isAgg45
  z37 := Try.sizeOf45
  v37 := Try.zeroValue45
  t70 := Try.underlying112
  a70 := Try.isAgg112
  z70 := Try.sizeOf112
  v70 := Try.zeroValue112
  t72 := Try.underlying114
  a72 := Try.isAgg114
  z72 := Try.sizeOf114
  v72 := Try.zeroValue114
  t127 := Try.underlying155
  a127 := Try.isAgg155
  z127 := Try.sizeOf155
  v127 := Try.zeroValue155 }
theorem Try.Builder_Extra_169 : Builder.Extra Try.prog Try.lays169_ren := {
  sizeBuilder := by kernel_rfl
  liesBuilder := by kernel_rfl
  t5 := Try.underlying5
  a5 := Try.isAgg5
  z5 := Try.sizeOf5
  v5 := Try.zeroValue5
  infoByte := by kernel_rfl
  cellsByte := by kernel_rfl
  sizeByte := by kernel_rfl
  neB5 := by decide }
open Go.RowKit in
/-- (*strings.Builder).String: "String returns the accumulated string.": OF A BUILDER THAT HOLDS AT LEAST ONE BYTE. ✋ THE MODEL FREEZES THOSE BYTES IN THE BUFFER (unsafe.String): a later write INTO them ends the model's run without an answer; a later append BEHIND them goes on. The statement's order of evaluation is drawn: one draw. (LAID: no walk: one application.) -/
theorem Try.Builder_String (B b : Nat) (l : List UInt8) (w : World) (h : Lib.IsBuilder 114 5 B b (Lib.byteCells l) w) (h0 : l ≠ []) :
    Calls Try.prog 75 #[.pointer (some ⟨b, 0, none⟩)] w fun e w' => e = .returned (.string ⟨l.toArray⟩) ∧ Below B w w' := Any.Builder_String Try.lays169 Try.Builder_Extra_169 B b l w h h0
open Go.RowKit in
/-- (*strings.Builder).String OF A BUILDER THAT HOLDS NO BYTE: the empty string. (Its buffer is nil, or a row of which it has taken nothing yet; where that row has NO capacity the model lays one new block for unsafe.SliceData's 'some address'.) One draw. (LAID: no walk: one application.) -/
theorem Try.Builder_String_empty (B b : Nat) (w : World) (h : Lib.IsBuilder 114 5 B b [] w) (hBw : B ≤ w.heap.size) :
    Calls Try.prog 75 #[.pointer (some ⟨b, 0, none⟩)] w fun e w' => e = .returned (.string ⟨#[]⟩) ∧ Below B w w' := Any.Builder_String_empty Try.lays169 Try.Builder_Extra_169 B b w h hBw
open Go.RowKit in
/-- (*strings.Builder).String: "String returns the accumulated string.": WHATEVER THE BUILDER HOLDS. (LAID: no walk: one application.) -/
theorem Try.Builder_String_any (B b : Nat) (l : List UInt8) (w : World) (h : Lib.IsBuilder 114 5 B b (Lib.byteCells l) w) (hBw : B ≤ w.heap.size) :
    Calls Try.prog 75 #[.pointer (some ⟨b, 0, none⟩)] w fun e w' => e = .returned (.string ⟨l.toArray⟩) ∧ Below B w w' := Any.Builder_String_any Try.lays169 Try.Builder_Extra_169 B b l w h hBw
def Try.lays241_ren : Go.Shelf.Ren := ⟨fun | 241 => 105 | 277 => 120 | n => n, fun | 70 => 112 | 3 => 3 | 0 => 0 | 72 => 114 | 37 => 45 | 5 => 5 | n => n, fun | n => n⟩
theorem Try.lays241 : Go.Proofs.Lays.n241 Try.prog Try.lays241_ren := {
  mixed := by kernel_rfl
  f241 := Try.func105.trans (congrArg some (by kernel_rfl))
  f277 := Try.func120.trans (congrArg some (by kernel_rfl))
  t0 := Try.underlying0
  a0 := Try.isAgg0
  z0 := Try.sizeOf0
  v0 := Try.zeroValue0
  t3 := Try.underlying3
  a3 := Try.isAgg3
  z3 := Try.sizeOf3
  v3 := Try.zeroValue3
  t37 := Try.underlying45
  a37 := Try.isAgg45
  z37 := Try.sizeOf45
  v37 := Try.zeroValue45
  t70 := Try.underlying112
  a70 := Try.isAgg112
  z70 := Try.sizeOf112
  v70 := Try.zeroValue112
  t72 := Try.underlying114
  a72 := Try.isAgg114
  z72 := Try.sizeOf114
  v72 := Try.zeroValue114 }
theorem Try.Builder_Extra_241 : Builder.Extra Try.prog Try.lays241_ren := {
  sizeBuilder := by kernel_rfl
  liesBuilder := by kernel_rfl
  t5 := Try.underlying5
  a5 := Try.isAgg5
  z5 := Try.sizeOf5
  v5 := Try.zeroValue5
  infoByte := by kernel_rfl
  cellsByte := by kernel_rfl
  sizeByte := by kernel_rfl
  neB5 := by decide }
open Go.RowKit in
/-- (*strings.Builder).grow (no doc but "grow copies the buffer to a new, larger buffer so that there are at least n bytes of capacity beyond len(b.buf)."): AT A BUILDER WITHOUT A BUFFER: a new row of whatever bytes for its buffer, none of them its own yet. Three draws. (LAID: no walk: one application.) -/
theorem Try.Builder_grow_fresh (B b n : Nat) (w : World) (hB : B ≤ b) (hbk : w.heap[b]? = some (.cells #[.pointer (some ⟨b, 0, none⟩), .slice none 0 0] 114 (0, 0))) (hBw : B ≤ w.heap.size) (hn : n ≤ 281474976710656) :
    Calls Try.prog 105 #[.pointer (some ⟨b, 0, none⟩), .int .i64 n] w fun e w' => e = .returned (.tuple #[]) ∧ (Lib.BuilderAt 114 5 B b (.pointer (some ⟨b, 0, none⟩)) [] w' ∧ Below B w w') := Any.Builder_grow_fresh Try.lays241 Try.Builder_Extra_241 B b n w hB hbk hBw hn
def Try.lays165_ren : Go.Shelf.Ren := ⟨fun | 165 => 72 | 240 => 104 | 241 => 105 | 276 => 119 | 277 => 120 | n => n, fun | 70 => 112 | 3 => 3 | 0 => 0 | 4 => 4 | 9 => 9 | 20 => 20 | 72 => 114 | 37 => 45 | 164 => 171 | 5 => 5 | n => n, fun | n => n⟩
theorem Try.lays165 : Go.Proofs.Lays.n165 Try.prog Try.lays165_ren := {
  mixed := by kernel_rfl
  f165 := Try.func72.trans (congrArg some (by kernel_rfl))
  f240 := Try.func104.trans (congrArg some (by kernel_rfl))
  f241 := Try.func105.trans (congrArg some (by kernel_rfl))
  f276 := Try.func119.trans (congrArg some (by kernel_rfl))
  f277 := Try.func120.trans (congrArg some (by kernel_rfl))
  t0 := Try.underlying0
  a0 := Try.isAgg0
  z0 := Try.sizeOf0
  v0 := Try.zeroValue0
  t3 := Try.underlying3
  a3 := Try.isAgg3
  z3 := Try.sizeOf3
  v3 := Try.zeroValue3
  t4 := Try.underlying4
  a4 := Try.isAgg4
  z4 := Try.sizeOf4
  v4 := Try.zeroValue4
  t9 := Try.underlying9
  a9 := Try.isAgg9
  z9 := Try.sizeOf9
  v9 := Try.zeroValue9
  t20 := Try.underlying20
  a20 := Try.isAgg20
  z20 := Try.sizeOf20
  v20 := Try.zeroValue20
  t37 := Try.underlying45
  a37 := Try.isAgg45
  z37 := Try.sizeOf45
  v37 := Try.zeroValue45
  t70 := Try.underlying112
  a70 := Try.isAgg112
  z70 := Try.sizeOf112
  v70 := Try.zeroValue112
  t72 := Try.underlying114
  a72 := Try.isAgg114
  z72 := Try.sizeOf114
  v72 := Try.zeroValue114
  t164 := Try.underlying171
  a164 := Try.isAgg171
  z164 := Try.sizeOf171
  v164 := Try.zeroValue171 }
theorem Try.Builder_Extra_165 : Builder.Extra Try.prog Try.lays165_ren := {
  sizeBuilder := by kernel_rfl
  liesBuilder := by kernel_rfl
  t5 := Try.underlying5
  a5 := Try.isAgg5
  z5 := Try.sizeOf5
  v5 := Try.zeroValue5
  infoByte := by kernel_rfl
  cellsByte := by kernel_rfl
  sizeByte := by kernel_rfl
  neB5 := by decide }
open Go.RowKit in
/-- (*strings.Builder).Grow AT A BUILDER THAT HAS NOT BEEN WRITTEN ('var b strings.Builder; b.Grow(n)'): "Grow grows b's capacity, if necessary, to guarantee space for another n bytes.": it holds no byte behind it as before it. (LAID: no walk: one application.) -/
theorem Try.Builder_Grow_fresh (B b n : Nat) (w : World) (hB : B ≤ b) (hbk : w.heap[b]? = some (.cells #[.pointer none, .slice none 0 0] 114 (0, 0))) (hBw : B ≤ w.heap.size) (hn : n ≤ 281474976710656) :
    Calls Try.prog 72 #[.pointer (some ⟨b, 0, none⟩), .int .i64 n] w fun e w' => e = .returned (.tuple #[]) ∧ (Lib.BuilderAt 114 5 B b (.pointer (some ⟨b, 0, none⟩)) [] w' ∧ Below B w w') := Any.Builder_Grow_fresh Try.lays165 Try.Builder_Extra_165 B b n w hB hbk hBw hn
open Go.RowKit in
/-- (*strings.Builder).Len: "Len returns the number of accumulated bytes; b.Len() == len(b.String()).": the world is as it was. (THE FORM '_f': 'Lib.IsBuilderF'.) (LAID: no walk: one application.) -/
theorem Try.Builder_Len_f (B b : Nat) (bs : List Value) (w : World) (h : Lib.IsBuilderF 114 5 B b bs w) :
    Calls Try.prog 74 #[.pointer (some ⟨b, 0, none⟩)] w fun e w' => e = .returned (.int .i64 bs.length) ∧ w' = w := Any.Builder_Len_f Try.lays170 B b bs w h
open Go.RowKit in
/-- (*strings.Builder).String: "String returns the accumulated string.": OF A BUILDER THAT HOLDS AT LEAST ONE BYTE. ✋ THE MODEL FREEZES THOSE BYTES IN THE BUFFER (unsafe.String): a later write INTO them ends the model's run without an answer; a later append BEHIND them goes on. The statement's order of evaluation is drawn: one draw. THE FORM '_f': IT SAYS BESIDES THAT THE BUILDER IS A BUILDER STILL ('Lib.IsBuilderF', the same bytes): SO IT CAN BE WRITTEN ON: 'b.WriteString(b.String()[:k])'. (LAID: no walk: one application.) -/
theorem Try.Builder_String_f (B b : Nat) (l : List UInt8) (w : World) (h : Lib.IsBuilderF 114 5 B b (Lib.byteCells l) w) (h0 : l ≠ []) :
    Calls Try.prog 75 #[.pointer (some ⟨b, 0, none⟩)] w fun e w' => e = .returned (.string ⟨l.toArray⟩) ∧ (Lib.IsBuilderF 114 5 B b (Lib.byteCells l) w' ∧ Below B w w') := Any.Builder_String_f Try.lays169 Try.Builder_Extra_169 B b l w h h0
open Go.RowKit in
/-- (*strings.Builder).String OF A BUILDER THAT HOLDS NO BYTE: the empty string; THE FORM '_f': a builder still. (LAID: no walk: one application.) -/
theorem Try.Builder_String_empty_f (B b : Nat) (w : World) (h : Lib.IsBuilderF 114 5 B b [] w) (hBw : B ≤ w.heap.size) :
    Calls Try.prog 75 #[.pointer (some ⟨b, 0, none⟩)] w fun e w' => e = .returned (.string ⟨#[]⟩) ∧ (Lib.IsBuilderF 114 5 B b [] w' ∧ Below B w w') := Any.Builder_String_empty_f Try.lays169 Try.Builder_Extra_169 B b w h hBw
open Go.RowKit in
/-- (*strings.Builder).String: "String returns the accumulated string.": WHATEVER THE BUILDER HOLDS; THE FORM '_f': OF A BUILDER THAT MAY HAVE BEEN READ BEFORE; AND IT IS A BUILDER STILL, holding the same bytes: it can be written on. (LAID: no walk: one application.) -/
theorem Try.Builder_String_any_f (B b : Nat) (l : List UInt8) (w : World) (h : Lib.IsBuilderF 114 5 B b (Lib.byteCells l) w) (hBw : B ≤ w.heap.size) :
    Calls Try.prog 75 #[.pointer (some ⟨b, 0, none⟩)] w fun e w' => e = .returned (.string ⟨l.toArray⟩) ∧ (Lib.IsBuilderF 114 5 B b (Lib.byteCells l) w' ∧ Below B w w') := Any.Builder_String_any_f Try.lays169 Try.Builder_Extra_169 B b l w h hBw
open Go.RowKit in
/-- (*strings.Builder).String: "String returns the accumulated string.": OF A BUILDER THAT HOLDS AT LEAST ONE BYTE. ✋ THE MODEL FREEZES THOSE BYTES IN THE BUFFER (unsafe.String): a later write INTO them ends the model's run without an answer; a later append BEHIND them goes on. The statement's order of evaluation is drawn: one draw. THE FORM '_k': OVER 'Lib.IsBuilderF' (a builder that 'String()' may have read), AND WITH THE FRAME THAT REACHES ABOVE THE BUILDER: 'Lib.OthersKept': every block that is not b and is no row of uint8's stands as it stood: the iterator of a range among them. (LAID: no walk: one application.) -/
theorem Try.Builder_String_k (B b : Nat) (l : List UInt8) (w : World) (h : Lib.IsBuilderF 114 5 B b (Lib.byteCells l) w) (h0 : l ≠ []) :
    Calls Try.prog 75 #[.pointer (some ⟨b, 0, none⟩)] w fun e w' => e = .returned (.string ⟨l.toArray⟩) ∧ (Lib.IsBuilderF 114 5 B b (Lib.byteCells l) w' ∧ Below B w w' ∧ Lib.OthersKept 5 (some b) w w') := Any.Builder_String_k Try.lays169 Try.Builder_Extra_169 B b l w h h0
open Go.RowKit in
/-- (*strings.Builder).String OF A BUILDER THAT HOLDS NO BYTE: the empty string; THE FORM '_k': OVER 'Lib.IsBuilderF' (a builder that 'String()' may have read), AND WITH THE FRAME THAT REACHES ABOVE THE BUILDER: 'Lib.OthersKept': every block that is not b and is no row of uint8's stands as it stood: the iterator of a range among them. (LAID: no walk: one application.) -/
theorem Try.Builder_String_empty_k (B b : Nat) (w : World) (h : Lib.IsBuilderF 114 5 B b [] w) (hBw : B ≤ w.heap.size) :
    Calls Try.prog 75 #[.pointer (some ⟨b, 0, none⟩)] w fun e w' => e = .returned (.string ⟨#[]⟩) ∧ (Lib.IsBuilderF 114 5 B b [] w' ∧ Below B w w' ∧ Lib.OthersKept 5 (some b) w w') := Any.Builder_String_empty_k Try.lays169 Try.Builder_Extra_169 B b w h hBw
open Go.RowKit in
/-- (*strings.Builder).String: "String returns the accumulated string.": WHATEVER THE BUILDER HOLDS; THE FORM '_k': OVER 'Lib.IsBuilderF' (a builder that 'String()' may have read), AND WITH THE FRAME THAT REACHES ABOVE THE BUILDER: 'Lib.OthersKept': every block that is not b and is no row of uint8's stands as it stood: the iterator of a range among them. (LAID: no walk: one application.) -/
theorem Try.Builder_String_any_k (B b : Nat) (l : List UInt8) (w : World) (h : Lib.IsBuilderF 114 5 B b (Lib.byteCells l) w) (hBw : B ≤ w.heap.size) :
    Calls Try.prog 75 #[.pointer (some ⟨b, 0, none⟩)] w fun e w' => e = .returned (.string ⟨l.toArray⟩) ∧ (Lib.IsBuilderF 114 5 B b (Lib.byteCells l) w' ∧ Below B w w' ∧ Lib.OthersKept 5 (some b) w w') := Any.Builder_String_any_k Try.lays169 Try.Builder_Extra_169 B b l w h hBw
open Go.RowKit in
/-- (*strings.Builder).grow (no doc but "grow copies the buffer to a new, larger buffer so that there are at least n bytes of capacity beyond len(b.buf)."): AT A BUILDER WITHOUT A BUFFER: a new row of whatever bytes for its buffer, none of them its own yet. Three draws. (LAID: no walk: one application.) -/
theorem Try.Builder_grow_fresh_cap (B b n : Nat) (w : World) (hB : B ≤ b) (hbk : w.heap[b]? = some (.cells #[.pointer (some ⟨b, 0, none⟩), .slice none 0 0] 114 (0, 0))) (hBw : B ≤ w.heap.size) (hn : n ≤ 281474976710656) :
    Calls Try.prog 105 #[.pointer (some ⟨b, 0, none⟩), .int .i64 n] w fun e w' => e = .returned (.tuple #[]) ∧ (Lib.BuilderAt 114 5 B b (.pointer (some ⟨b, 0, none⟩)) [] w' ∧ Below B w w') ∧ ∃ p cap, w'.cell? ⟨b, 1, none⟩ = some (.slice p 0 cap) ∧ n ≤ cap := Any.Builder_grow_fresh_cap Try.lays241 Try.Builder_Extra_241 B b n w hB hbk hBw hn
open Go.RowKit in
/-- (*strings.Builder).Grow AT A BUILDER THAT HAS NOT BEEN WRITTEN ('var b strings.Builder; b.Grow(n)'): "Grow grows b's capacity, if necessary, to guarantee space for another n bytes.": it holds no byte behind it as before it. (LAID: no walk: one application.) -/
theorem Try.Builder_Grow_fresh_cap (B b n : Nat) (w : World) (hB : B ≤ b) (hbk : w.heap[b]? = some (.cells #[.pointer none, .slice none 0 0] 114 (0, 0))) (hBw : B ≤ w.heap.size) (hn : n ≤ 281474976710656) :
    Calls Try.prog 72 #[.pointer (some ⟨b, 0, none⟩), .int .i64 n] w fun e w' => e = .returned (.tuple #[]) ∧ (Lib.BuilderAt 114 5 B b (.pointer (some ⟨b, 0, none⟩)) [] w' ∧ Below B w w') ∧ ∃ p cap, w'.cell? ⟨b, 1, none⟩ = some (.slice p 0 cap) ∧ n ≤ cap := Any.Builder_Grow_fresh_cap Try.lays165 Try.Builder_Extra_165 B b n w hB hbk hBw hn
def Try.lays129_ren : Go.Shelf.Ren := ⟨fun | 129 => 116 | n => n, fun | 53 => 25 | 3 => 3 | 4 => 4 | 46 => 34 | 5 => 5 | 9 => 9 | n => n, fun | n => n⟩
theorem Try.lays129 : Go.Proofs.Lays.n129 Try.prog Try.lays129_ren := {
  mixed := by kernel_rfl
  f129 := Try.func116.trans (congrArg some (by kernel_rfl))
  t3 := Try.underlying3
  a3 := Try.isAgg3
  z3 := Try.sizeOf3
  v3 := Try.zeroValue3
  t4 := Try.underlying4
  a4 := Try.isAgg4
  z4 := Try.sizeOf4
  v4 := Try.zeroValue4
  t5 := Try.underlying5
  a5 := Try.isAgg5
  z5 := Try.sizeOf5
  v5 := Try.zeroValue5
  t9 := Try.underlying9
  a9 := Try.isAgg9
  z9 := Try.sizeOf9
  v9 := Try.zeroValue9
  t46 := Try.underlying34
  a46 := Try.isAgg34
  z46 := Try.sizeOf34
  v46 := Try.zeroValue34
  t53 := Try.underlying25
  a53 := Try.isAgg25
  z53 := Try.sizeOf25
  v53 := Try.zeroValue25 }
/-- bits.Len64: "Len64 returns the minimum number of bits required to represent x; the result is 0 for x == 0.": IT RETURNS 'Lib.bitLen x'; the world is as it was. ('h0', 'h1': x is a uint64.) (LAID: no walk: one application.) -/
theorem Try.bits_Len64 (x : Int) (w : World) (h0 : 0 ≤ x) (h1 : x ≤ 18446744073709551615) :
    Calls Try.prog 116 #[.int .u64 x] w fun e w' => e = .returned (.int .i64 (Lib.bitLen x.toNat)) ∧ w' = w := Any.bits_Len64 Try.lays129 x w h0 h1
def Try.lays206_ren : Go.Shelf.Ren := ⟨fun | 206 => 103 | n => n, fun | 9 => 9 | 4 => 4 | 3 => 3 | n => n, fun | n => n⟩
theorem Try.lays206 : Go.Proofs.Lays.n206 Try.prog Try.lays206_ren := {
  mixed := by kernel_rfl
  f206 := Try.func103.trans (congrArg some (by kernel_rfl))
  t3 := Try.underlying3
  a3 := Try.isAgg3
  z3 := Try.sizeOf3
  v3 := Try.zeroValue3
  t4 := Try.underlying4
  a4 := Try.isAgg4
  z4 := Try.sizeOf4
  v4 := Try.zeroValue4
  t9 := Try.underlying9
  a9 := Try.isAgg9
  z9 := Try.sizeOf9
  v9 := Try.zeroValue9 }
open Go.RowKit Go.Lib in
/-- internal/stringslite.HasPrefix (what strings.HasPrefix calls). (LAID: no walk: one application.) -/
theorem Try.stringslite_HasPrefix (s p : ByteArray) (w : World) :
    Calls Try.prog 103 #[.string s, .string p] w fun e w' => e = .returned (.bool (Lib.hasPrefix s.data.toList p.data.toList)) ∧ w' = w := Any.stringslite_HasPrefix Try.lays206 s p w
def Try.lays99_ren : Go.Shelf.Ren := ⟨fun | 99 => 71 | 206 => 103 | n => n, fun | 9 => 9 | 4 => 4 | 3 => 3 | n => n, fun | n => n⟩
theorem Try.lays99 : Go.Proofs.Lays.n99 Try.prog Try.lays99_ren := {
  mixed := by kernel_rfl
  f99 := Try.func71.trans (congrArg some (by kernel_rfl))
  f206 := Try.func103.trans (congrArg some (by kernel_rfl))
  t3 := Try.underlying3
  a3 := Try.isAgg3
  z3 := Try.sizeOf3
  v3 := Try.zeroValue3
  t4 := Try.underlying4
  a4 := Try.isAgg4
  z4 := Try.sizeOf4
  v4 := Try.zeroValue4
  t9 := Try.underlying9
  a9 := Try.isAgg9
  z9 := Try.sizeOf9
  v9 := Try.zeroValue9 }
open Go.RowKit Go.Lib in
/-- strings.HasPrefix: "HasPrefix reports whether the string s begins with prefix.": IT RETURNS 'Lib.hasPrefix s prefix'; the world is as it was. (LAID: no walk: one application.) -/
theorem Try.strings_HasPrefix (s p : ByteArray) (w : World) :
    Calls Try.prog 71 #[.string s, .string p] w fun e w' => e = .returned (.bool (Lib.hasPrefix s.data.toList p.data.toList)) ∧ w' = w := Any.strings_HasPrefix Try.lays99 s p w
def Try.lays264_ren : Go.Shelf.Ren := ⟨fun | 264 => 102 | n => n, fun | 53 => 25 | 46 => 34 | n => n, fun | n => n⟩
theorem Try.lays264 : Go.Proofs.Lays.n264 Try.prog Try.lays264_ren := {
  mixed := by kernel_rfl
  f264 := Try.func102.trans (congrArg some (by kernel_rfl))
  t46 := Try.underlying34
  a46 := Try.isAgg34
  z46 := Try.sizeOf34
  v46 := Try.zeroValue34
  t53 := Try.underlying25
  a53 := Try.isAgg25
  z53 := Try.sizeOf25
  v53 := Try.zeroValue25 }
open Go.RowKit Go.Lib in
theorem Try.bits_Mul64 (x y : Nat) (hx : x < 18446744073709551616) (hy : y < 18446744073709551616) (w : World) :
    Calls Try.prog 102 #[.int .u64 x, .int .u64 y] w fun e w' => e = .returned (.tuple #[.int .u64 ((x * y / 18446744073709551616 : Nat) : Int), .int .u64 ((x * y % 18446744073709551616 : Nat) : Int)]) ∧ w' = w := Any.bits_Mul64 Try.lays264 x y hx hy w
def Try.lays212_ren : Go.Shelf.Ren := ⟨fun | 212 => 70 | 263 => 101 | 264 => 102 | n => n, fun | 46 => 34 | 51 => 24 | 146 => 151 | 53 => 25 | 148 => 153 | n => n, fun | n => n⟩
theorem Try.lays212 : Go.Proofs.Lays.n212 Try.prog Try.lays212_ren := {
  mixed := by kernel_rfl
  f212 := Try.func70.trans (congrArg some (by kernel_rfl))
  f263 := Try.func101.trans (congrArg some (by kernel_rfl))
  f264 := Try.func102.trans (congrArg some (by kernel_rfl))
  t46 := Try.underlying34
  a46 := Try.isAgg34
  z46 := Try.sizeOf34
  v46 := Try.zeroValue34
  t51 := Try.underlying24
  a51 := Try.isAgg24
  z51 := Try.sizeOf24
  v51 := Try.zeroValue24
  t53 := Try.underlying25
  a53 := Try.isAgg25
  z53 := Try.sizeOf25
  v53 := Try.zeroValue25
  t146 := Try.underlying151
  a146 := Try.isAgg151
  z146 := Try.sizeOf151
  v146 := Try.zeroValue151
  t148 := Try.underlying153
  a148 := Try.isAgg153
  z148 := Try.sizeOf153
  v148 := Try.zeroValue153 }
open Go.RowKit Go.Lib in
/-- math/bits.Mul: "Mul returns the full-width product of x and y": on a machine of 64 bits: Mul64's. (LAID: no walk: one application.) -/
theorem Try.bits_Mul (x y : Nat) (hx : x < 18446744073709551616) (hy : y < 18446744073709551616) (w : World) :
    Calls Try.prog 70 #[.int .u64 x, .int .u64 y] w fun e w' => e = .returned (.tuple #[.int .u64 ((x * y / 18446744073709551616 : Nat) : Int), .int .u64 ((x * y % 18446744073709551616 : Nat) : Int)]) ∧ w' = w := Any.bits_Mul Try.lays212 x y hx hy w
def Try.lays105_ren : Go.Shelf.Ren := ⟨fun | 105 => 35 | 212 => 70 | 99 => 71 | 165 => 72 | 166 => 73 | 170 => 74 | 169 => 75 | 263 => 101 | 264 => 102 | 206 => 103 | 240 => 104 | 241 => 105 | 276 => 119 | 277 => 120 | n => n, fun | 9 => 9 | 3 => 3 | 4 => 4 | 20 => 20 | 0 => 0 | 46 => 34 | 109 => 109 | 5 => 5 | 72 => 114 | 76 => 118 | 51 => 24 | 146 => 151 | 53 => 25 | 148 => 153 | 70 => 112 | 37 => 45 | 75 => 117 | 127 => 155 | 164 => 171 | 80 => 85 | n => n, fun | n => n⟩
theorem Try.lays105 : Go.Proofs.Lays.n105 Try.prog Try.lays105_ren := {
  mixed := by kernel_rfl
  f99 := Try.func71.trans (congrArg some (by kernel_rfl))
  f105 := Try.func35.trans (congrArg some (by kernel_rfl))
  f165 := Try.func72.trans (congrArg some (by kernel_rfl))
  f166 := Try.func73.trans (congrArg some (by kernel_rfl))
  f169 := Try.func75.trans (congrArg some (by kernel_rfl))
  f170 := Try.func74.trans (congrArg some (by kernel_rfl))
  f206 := Try.func103.trans (congrArg some (by kernel_rfl))
  f212 := Try.func70.trans (congrArg some (by kernel_rfl))
  f240 := Try.func104.trans (congrArg some (by kernel_rfl))
  f241 := Try.func105.trans (congrArg some (by kernel_rfl))
  f263 := Try.func101.trans (congrArg some (by kernel_rfl))
  f264 := Try.func102.trans (congrArg some (by kernel_rfl))
  f276 := Try.func119.trans (congrArg some (by kernel_rfl))
  f277 := Try.func120.trans (congrArg some (by kernel_rfl))
  t0 := Try.underlying0
  a0 := Try.isAgg0
  z0 := Try.sizeOf0
  v0 := Try.zeroValue0
  t3 := Try.underlying3
  a3 := Try.isAgg3
  z3 := Try.sizeOf3
  v3 := Try.zeroValue3
  t4 := Try.underlying4
  a4 := Try.isAgg4
  z4 := Try.sizeOf4
  v4 := Try.zeroValue4
  t5 := Try.underlying5
  a5 := Try.isAgg5
  z5 := Try.sizeOf5
  v5 := Try.zeroValue5
  t9 := Try.underlying9
  a9 := Try.isAgg9
  z9 := Try.sizeOf9
  v9 := Try.zeroValue9
  t20 := Try.underlying20
  a20 := Try.isAgg20
  z20 := Try.sizeOf20
  v20 := Try.zeroValue20
  t37 := Try.underlying45
  a37 := Try.isAgg45
  z37 := Try.sizeOf45
  v37 := Try.zeroValue45
  t46 := Try.underlying34
  a46 := Try.isAgg34
  z46 := Try.sizeOf34
  v46 := Try.zeroValue34
  t51 := Try.underlying24
  a51 := Try.isAgg24
  z51 := Try.sizeOf24
  v51 := Try.zeroValue24
  t53 := Try.underlying25
  a53 := Try.isAgg25
  z53 := Try.sizeOf25
  v53 := Try.zeroValue25
  t70 := Try.underlying112
  a70 := Try.isAgg112
  z70 := Try.sizeOf112
  v70 := Try.zeroValue112
  t72 := Try.underlying114
  a72 := Try.isAgg114
  z72 := Try.sizeOf114
  v72 := Try.zeroValue114
  t75 := Try.underlying117
  a75 := Try.isAgg117
  z75 := Try.sizeOf117
  v75 := Try.zeroValue117
  t76 := Try.underlying118
  a76 := Try.isAgg118
  z76 := Try.sizeOf118
  v76 := Try.zeroValue118
  t109 := Try.underlying109
  a109 := Try.isAgg109
  z109 := Try.sizeOf109
  v109 := Try.zeroValue109
  t127 := Try.underlying155
  a127 := Try.isAgg155
  z127 := Try.sizeOf155
  v127 := Try.zeroValue155
  t146 := Try.underlying151
  a146 := Try.isAgg151
  z146 := Try.sizeOf151
  v146 := Try.zeroValue151
  t148 := Try.underlying153
  a148 := Try.isAgg153
  z148 := Try.sizeOf153
  v148 := Try.zeroValue153
  t164 := Try.underlying171
  a164 := Try.isAgg171
  z164 := Try.sizeOf171
  v164 := Try.zeroValue171 }
theorem Try.Builder_Extra_105 : Builder.Extra Try.prog Try.lays105_ren := {
  sizeBuilder := by kernel_rfl
  liesBuilder := by kernel_rfl
  t5 := Try.underlying5
  a5 := Try.isAgg5
  z5 := Try.sizeOf5
  v5 := Try.zeroValue5
  infoByte := by kernel_rfl
  cellsByte := by kernel_rfl
  sizeByte := by kernel_rfl
  neB5 := by decide }
open Go.RowKit Go.Lib in
/-- THE MAIN CASE: at least two copies of a string that is not empty. (LAID: no walk: one application.) -/
theorem Try.strings_Repeat_main (s : ByteArray) (c : Nat) (w : World) (hc2 : 2 ≤ c) (hc : c ≤ 9223372036854775807) (hlen : s.size * c ≤ 140737488355328) (h0 : 0 < s.size) :
    Calls Try.prog 35 #[.string s, .int .i64 c] w fun e w' => e = .returned (.string ⟨(Lib.repeatL s.data.toList c).toArray⟩) ∧ Below w.heap.size w w' := Any.strings_Repeat_main Try.lays105 Try.Builder_Extra_105 s c w hc2 hc hlen h0
open Go.RowKit Go.Lib in
theorem Try.strings_Repeat_zero (s : ByteArray) (w : World) :
    Calls Try.prog 35 #[.string s, .int .i64 0] w fun e w' => e = .returned (.string ⟨#[]⟩) ∧ w' = w := Any.strings_Repeat_zero Try.lays105 s w
open Go.RowKit Go.Lib in
theorem Try.strings_Repeat_one (s : ByteArray) (w : World) :
    Calls Try.prog 35 #[.string s, .int .i64 1] w fun e w' => e = .returned (.string s) ∧ w' = w := Any.strings_Repeat_one Try.lays105 s w
open Go.RowKit Go.Lib in
/-- Copies of the empty string. (LAID: no walk: one application.) -/
theorem Try.strings_Repeat_empty (s : ByteArray) (c : Nat) (w : World) (hc2 : 2 ≤ c) (hc : c ≤ 9223372036854775807) (h0 : s.size = 0) :
    Calls Try.prog 35 #[.string s, .int .i64 c] w fun e w' => e = .returned (.string ⟨#[]⟩) ∧ w' = w := Any.strings_Repeat_empty Try.lays105 s c w hc2 hc h0
open Go.RowKit Go.Lib in
open Go.RowKit Go.Lib in
open Go.RowKit Go.Lib in
/-- **strings.Repeat: count ≥ 0, the result within one allocation: count copies of s.** (LAID: no walk: one application.) -/
theorem Try.strings_Repeat (s : ByteArray) (c : Nat) (w : World) (hc : c ≤ 9223372036854775807) (hlen : s.size * c ≤ 140737488355328) :
    Calls Try.prog 35 #[.string s, .int .i64 c] w fun e w' => e = .returned (.string ⟨(Lib.repeatL s.data.toList c).toArray⟩) ∧ Below w.heap.size w w' := Any.strings_Repeat Try.lays105 Try.Builder_Extra_105 s c w hc hlen
end Go.Proofs

/- The walk of pack.size. Conditions: numbers below 2^64. -/
namespace Go.Proofs.Ytjlkiopncclomaa
open Go.RowKit Go.TL
theorem or128 (m : Nat) : UInt8.ofNat m ||| 128 = UInt8.ofNat (m % 128 + 128) := by
  have h : ∀ n : Fin 256, UInt8.ofNat n.1 ||| 128 = UInt8.ofNat (n.1 % 128 + 128) := by decide +kernel
  have e : UInt8.ofNat m = UInt8.ofNat (m % 256) := by apply UInt8.toNat_inj.1; simp
  have := h ⟨m % 256, by omega⟩
  rw [e, this, show m % 256 % 128 = m % 128 by omega]
theorem Len64_c (n : Nat) (w : World) (h : n < 18446744073709551616) :
    Calls Try.prog 116 #[.int .u64 n] w fun e w' => e = .returned (.int .i64 (Lib.bitLen n)) ∧ w = w' :=
  (Go.Proofs.Try.bits_Len64 n w (by omega) (by omega)).mono fun _ _ ⟨a, b⟩ => ⟨a, b.symm⟩
set_option maxHeartbeats 1000000 in
theorem size_c (n : Nat) (w : World) (h : n < 18446744073709551616) :
    Calls Try.prog 95 #[.int .u64 n] w fun e w' => e = .returned (.int .i64 (numL n).length) ∧ w = w' := by
  have hs := size_eq n h
  have hl := numL_length_le n h
  have hp := numL_pos n
  obtain ⟨k, ek⟩ : ∃ k, k = (numL n).length := ⟨_, rfl⟩
  obtain ⟨b, eb⟩ : ∃ b, b = Lib.bitLen n := ⟨_, rfl⟩
  rw [← ek, ← eb] at hs
  rw [← ek] at hl hp ⊢
  have hb : b ≤ 70 := by omega
  have L := Len64_c n w h
  rw [← eb] at L
  obtain ⟨q, eq⟩ : ∃ q, q = (b + 6) / 7 := ⟨_, rfl⟩
  have e1 : ((b : Int) + 7 - 1).tdiv 7 = (q : Int) := by rw [Int.tdiv_eq_ediv_of_nonneg (by omega)]; omega
  rw [← eq] at hs
  by_cases h1 : 1 ≤ q
  all_goals
    go_enter Try.func95, Try.ntmps95
    go_wp2_with (first | (go_at_call 116; go_must (refine (L).mono ?_; rintro e w1 ⟨rfl, rfl⟩)))
    go_ret
    exact ⟨by first | rfl | (congr; omega) | (simp; omega), rfl⟩
end Go.Proofs.Ytjlkiopncclomaa

/- Bytes of texts, in a word that is closed to the walk. No conditions but those each law names. -/
namespace Go
namespace TL
open Go.RowKit
theorem lead_geI {s : List UInt8} {k : Nat} (h : k < lead s) : 128 ≤ I8 (bt s k) := by have := lead_ge s k h; rw [I8_bt]; omega
theorem lead_lastI {s : List UInt8} (h : lead s < s.length) : I8 (bt s (lead s)) < 128 := by have := lead_last s h; rw [I8_bt]; omega
theorem shl_or (n : Nat) (b : UInt8) (h : n < 144115188075855872) : I64 (w64 (n : Int) <<< 7 ||| w64 ((I8 b).tmod 128)) = ((b.toNat % 128 + 128 * n : Nat) : Int) := by
  have hb := I8_bd b
  rw [Int.tmod_eq_emod_of_nonneg hb.1, I8_eq, show ((b.toNat : Int) % 128) = ((b.toNat % 128 : Nat) : Int) by omega, w64_nat, w64_nat, I64_eq, UInt64.toNat_or, UInt64.toNat_shiftLeft]
  have e1 : (UInt64.ofNat n).toNat = n := by rw [UInt64.toNat_ofNat']; omega
  have e2 : (UInt64.ofNat (b.toNat % 128)).toNat = b.toNat % 128 := by rw [UInt64.toNat_ofNat']; omega
  rw [e1, e2]
  have e3 : ((7 : UInt64).toNat % 64) = 7 := rfl
  rw [e3, Nat.mod_eq_of_lt (by rw [Nat.shiftLeft_eq]; omega), ← Nat.shiftLeft_add_eq_or_of_lt (by omega), Nat.shiftLeft_eq]
  omega
theorem I64_nat (n : Nat) (h : n < 18446744073709551616) : I64 (w64 (n : Int)) = (n : Int) := by
  rw [w64_nat, I64_eq, UInt64.toNat_ofNat']; omega
theorem SeesB.of_own {w : World} {v : Value} {n : Nat} {l : List UInt8} (h : (Chunk.sl 1 v n (bs l)).ok w) (hn : n = l.length) : SeesB w v l := by
  subst hn; exact Own.sees h
end TL
end Go

/- The walks of pack.number and pack.bounded. Conditions: lengths. -/
namespace Go.Proofs.Ytjlkiopncclomaa
open Go.RowKit Go.TL
set_option maxRecDepth 100000 in
set_option maxHeartbeats 2000000 in
theorem number_c (s : List UInt8) (w : World) (hs : s.length ≤ 1000000000) :
    Calls Try.prog 90 #[.string (mkS s)] w fun e w' => e = .returned (.tuple #[.int .u64 (readN s maxU).1, .int .i64 (readN s maxU).2.1, .int .i64 (readN s maxU).2.2]) ∧ w = w' := by
  obtain ⟨R, eR⟩ : ∃ R, R = readN s maxU := ⟨_, rfl⟩
  rw [← eR]
  have ER := Lib.hid eR; clear eR
  obtain ⟨L, eL⟩ : ∃ L, L = lead s := ⟨_, rfl⟩
  have hle : L ≤ s.length := by rw [eL]; exact lead_le s
  have EL := Lib.hid eL; clear eL
  go_enter Try.func90, Try.ntmps90
  go_wp2_with fail
  go_loop [3] (fun n => ∃ k : Nat, k ≤ L ∧ k ≤ 10 ∧ n = .int .i64 k) (fun n => s.length - (intOf n).toNat)
  case atStart => exact ⟨0, by omega, by omega, rfl⟩
  case round =>
    obtain ⟨k, hk, hk10, rfl⟩ := hrel
    by_cases hlt : k < L ∧ k < 10
    · obtain ⟨h1, h2⟩ := hlt
      have hb : 128 ≤ I8 (bt s k) := lead_geI (by rw [← EL.out]; exact h1)
      have hm : (k : Int) < min (s.length : Int) 10 := by omega
      go_wp2_with fail
      go_round
      case rel => exact ⟨k + 1, by omega, by omega, by go_num⟩
      case measure => simp [intOf]; omega
    · by_cases h10 : k = 10
      · subst h10
        have e : R = (0, 0, 8) := by rw [ER.out]; exact readN_form s (by rw [← EL.out]; omega) _
        subst e
        go_wp2_with fail
        go_ret3
        exact ⟨rfl, rfl⟩
      · have ek : L = k := by omega
        subst ek
        have h9 : L ≤ 9 := by omega
        by_cases hlen : L = s.length
        · have e : R = (0, 0, 7) := by rw [ER.out]; exact readN_short s (by rw [← EL.out]; omega) (by rw [← EL.out]; omega) _
          subst e
          have hm : ((L : Int) < min (s.length : Int) 10) = False := by simp; omega
          have hne : ((L : Int) == 10) = false := by simp; omega
          have heq : ((L : Int) == (s.length : Int)) = true := by simp; omega
          go_wp2_with fail
          go_ret3
          exact ⟨rfl, rfl⟩
        · have hlt' : L < s.length := by omega
          have hb : I8 (bt s L) < 128 := by
            have h2 : lead s < s.length := by rw [← EL.out]; exact hlt'
            have h1 := lead_lastI h2
            rwa [← EL.out] at h1
          have hm : (L : Int) < min (s.length : Int) 10 := by omega
          have hne : ((L : Int) == 10) = false := by simp; omega
          have heq : ((L : Int) == (s.length : Int)) = false := by simp; omega
          by_cases ht : L = 9 ∧ 1 < (bt s 9).toNat
          · obtain ⟨rfl, ht⟩ := ht
            have e : R = (0, 0, 8) := by rw [ER.out]; exact readN_ten s EL.out.symm (by rw [← EL.out]; omega) ht _
            subst e
            have hb2 : 1 < I8 (bt s 9) := by rw [I8_eq]; omega
            go_wp2_with fail
            go_ret3
            exact ⟨rfl, rfl⟩
          · have hb2 : L = 9 → I8 (bt s L) ≤ 1 := fun h => by subst h; rw [I8_eq]; omega
            have HB2 := Lib.hid hb2; clear hb2
            clear ht hlt h10 hlen hk hk10
            by_cases hn9 : L = 9
            have hq : ((L : Int) == 9) = true := by simp; omega
            have hb3 := HB2.out hn9
            replace hn9 := Lib.hid hn9
            go_wp2_with fail
            clear hq hb3
            rotate_left
            have hq : ((L : Int) == 9) = false := by simp; omega
            replace hn9 := Lib.hid hn9
            go_wp2_with fail
            clear hq
            rotate_left
            all_goals
              clear hm hne heq hn9
              obtain ⟨T, eT⟩ : ∃ T, T = s.take (L + 1) := ⟨_, rfl⟩
              have lT : T.length = L + 1 := by rw [eT]; simp; omega
              have h2 : lead s < s.length := by rw [← EL.out]; exact hlt'
              have h4 : lead s = 9 → (s.getD 9 0).toNat ≤ 1 := fun h => by
                have h := HB2.out (EL.out.trans h)
                rw [I8_bt, EL.out, ‹lead s = 9›] at h
                omega
              have DR : Hid (∀ j, numV (T.drop j) = if j ≤ L then (bt s j).toNat % 128 + 128 * numV (T.drop (j + 1)) else 0) := Lib.hid fun j => by
                by_cases hj : j ≤ L
                · have := numV_drop T j (by omega)
                  rw [if_pos hj, this, eT]; simp only [bt, List.getD_eq_getElem?_getD, List.getElem?_take]; rw [if_pos (by omega)]
                · rw [if_neg hj, List.drop_of_length_le (by omega)]; rfl
              have LT : Hid (∀ j, numV (T.drop (j + 1)) < 144115188075855872) := Lib.hid fun j => by
                rw [eT, EL.out]; exact numV_drop_lt s h2 (by rw [← EL.out]; exact h9) h4 (j + 1) (by omega)
              have RS := Lib.hid (readN_size s (by rw [← EL.out]; exact h9) h2 h4)
              rw [← ER.out, ← EL.out, ← eT] at RS
              have VT := numV_lt64 h2 (by rw [← EL.out]; exact h9) h4
              rw [← EL.out, ← eT] at VT
              have lT := Lib.hid lT
              clear eT h2 h4
              go_loop [2, 5] (fun nv iv => ∃ j : Nat, j ≤ L + 1 ∧ iv = .int .i64 ((j : Int) - 1) ∧ nv = .int .u64 (numV (T.drop j))) (fun _ iv => (intOf iv + 1).toNat)
              case atStart => exact ⟨L + 1, by omega, by go_num, by rw [List.drop_of_length_le (by have := lT.out; omega)]; rfl⟩
              case round =>
                obtain ⟨j, hj, rfl, rfl⟩ := hrel
                cases j with
                | zero =>
                  rw [List.drop_zero]
                  obtain ⟨V, eV⟩ : ∃ V, V = numV T := ⟨_, rfl⟩
                  rw [← eV] at RS VT ⊢
                  obtain ⟨z, ez⟩ : ∃ z, z = (numL V).length := ⟨_, rfl⟩
                  have SZ := Lib.hid (size_c V w VT)
                  rw [← ez] at RS SZ
                  clear eV ez
                  by_cases hz : z = L + 1
                  · have e := RS.out
                    rw [if_pos hz] at e
                    have hzz : ((z : Int) == (L : Int) + 1) = true := by simp; omega
                    have hzz' : ((z : Int) != (L : Int) + 1) = false := by simp; omega
                    subst e
                    go_wp2_with ((go_at_call 95; go_must (refine (SZ.out).mono ?_; rintro e w1 ⟨rfl, rfl⟩)))
                    go_ret3
                    exact ⟨by congr, rfl⟩
                  · have e := RS.out
                    rw [if_neg hz] at e
                    have hzz : ((z : Int) == (L : Int) + 1) = false := by simp; omega
                    have hzz' : ((z : Int) != (L : Int) + 1) = true := by simp; omega
                    subst e
                    go_wp2_with ((go_at_call 95; go_must (refine (SZ.out).mono ?_; rintro e w1 ⟨rfl, rfl⟩)))
                    go_ret3
                    exact ⟨rfl, rfl⟩
                | succ j =>
                  have l57 := LT.out j
                  have hjL : j ≤ L := by omega
                  have e : I64 (w64 ((numV (T.drop (j + 1)) : Nat) : Int) <<< 7 ||| w64 ((I8 (bt s j)).tmod 128)) = ((numV (T.drop j) : Nat) : Int) := by
                    rw [shl_or _ _ l57, DR.out j, if_pos hjL]
                  obtain ⟨X, eX⟩ : ∃ X, X = numV (T.drop (j + 1)) := ⟨_, rfl⟩
                  rw [← eX] at e l57 ⊢
                  have E := Lib.hid e
                  clear e eX
                  have hjs : j < s.length := by omega
                  go_wp2_with fail
                  go_round
                  case rel => exact ⟨j, by omega, rfl, by rw [E.out]⟩
                  case measure => simp [intOf]
end Go.Proofs.Ytjlkiopncclomaa
