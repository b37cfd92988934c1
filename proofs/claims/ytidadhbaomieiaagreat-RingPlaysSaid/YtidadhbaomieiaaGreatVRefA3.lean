/- The walks of layer 4's reference: a round's words xored, a block enciphered. Conditions: lengths. -/
import Derived.Test.YtidadhbaomieiaaGreatVRefA2
namespace Go
namespace TL
open Go.RowKit
/-- A slice of rows that came in. -/
structure SeesW (w : World) (v : Value) (vs : List Value) (ls : List (List UInt8)) : Prop where
  outer : Sees w 1 v vs.length vs
  inner : InnerW w vs ls
theorem SeesW.now {w0 w : World} {L : List Chunk} {v : Value} {vs : List Value} {ls : List (List UInt8)} (S : SeesW w0 v vs ls) (M : Mem [] w0 w L) : SeesW w v vs ls := by
  refine ⟨⟨S.outer.1, S.outer.2.imp id ?_⟩, S.inner.1, fun i u l hu hl => ?_⟩
  · rintro ⟨g, o, cap, rfl, hlt, hn, hc, hr⟩
    exact ⟨g, o, cap, rfl, Nat.lt_of_lt_of_le hlt M.kept.size, hn, hc, rangeAt_of_block hr (M.kept.block g hlt (by simp))⟩
  · exact seesB_stay (S.inner.2 i u l hu hl) M.kept.size fun j hj => M.kept.block j (seesB_lt (S.inner.2 i u l hu hl) j hj) (by simp)
theorem SeesW.addr {w : World} {v : Value} {vs : List Value} {ls : List (List UInt8)} (S : SeesW w v vs ls) (h : 0 < vs.length) : ∃ g o c, v = .slice (some ⟨g, o, none⟩) vs.length c := by
  rcases S.outer.2 with ⟨_, h0⟩ | ⟨g, o, c, hv, _⟩
  · omega
  · exact ⟨g, o, c, hv⟩
theorem row_all {w : World} {g n : Nat} {l : List UInt8} (h : (Chunk.row g (bs l)).ok w) (e : l.length = n) (hm : n ≤ maxLen) : SeesB w (.slice (some ⟨g, 0, none⟩) n n) l := by
  subst e
  have := row_sees h (off := 0) (n := l.length) (cap := l.length) (by omega) (Nat.le_refl _) hm
  rwa [List.drop_zero, List.take_length] at this
end TL
end Go
namespace Go.Proofs.YtidadhbaomieiaaGreat
open Go.RowKit Go.TL
set_option maxRecDepth 100000 in
set_option maxHeartbeats 8000000 in
theorem with_c (b : List UInt8) (bv wv : Value) (vs : List Value) (ls : List (List UInt8)) (r : Nat) (w : World) (hb : b.length = 16) (S : SeesB w bv b) (SW : SeesW w wv vs ls) (hvl : vs.length = 60) (hw : ∀ i, i < 60 → (wd ls i).length = 4) (hr : r ≤ 14) :
    Calls Tryz.prog 175 #[bv, wv, .int .i64 r] w fun e w' => ∃ p c, e = .returned (.slice p 16 c) ∧ Mem [] w w' [.sl 1 (.slice p 16 c) 16 (bs (withL b ls r 16))] := by
  obtain ⟨gb, ob, cb, rfl⟩ := seesB_addr S (by omega)
  obtain ⟨gw, ow, cw, rfl⟩ := SW.addr (by omega)
  rw [hb] at S ⊢
  rw [hvl] at SW ⊢
  have M := (Mem.start [] w).nil 1
  go_enter Tryz.func175, Tryz.ntmps175
  go_wp2_with fail
  go_loopw [7, 8] (fun ov iv wr => ∃ (k : Nat) (q : Option Addr) (c : Nat), k ≤ 16 ∧ ov = .slice q k c ∧ iv = .int .i64 k ∧ Mem [] w wr [.sl 1 (.slice q k c) k (bs (withL b ls r k))]) (fun _ iv _ => 16 - (intOf iv).toNat)
  case atStart => exact ⟨0, none, 0, by omega, rfl, rfl, M⟩
  case round =>
    clear M
    obtain ⟨k, q, c, hk, rfl, rfl, M⟩ := hrel
    by_cases hlt : k < 16
    · have E := withL_succ b ls r k
      obtain ⟨l, el⟩ : ∃ l, l = withL b ls r k := ⟨_, rfl⟩
      rw [← el] at M E
      clear el
      have hi : 4 * r + k / 4 < 60 := by omega
      have h4 := hw _ hi
      obtain ⟨u, hu⟩ : ∃ u, vs[4 * r + k / 4]? = some u := ⟨_, List.getElem?_eq_getElem (by omega)⟩
      have hl : ls[4 * r + k / 4]? = some (wd ls (4 * r + k / 4)) := by unfold wd; rw [List.getD_eq_getElem?_getD, List.getElem?_eq_getElem (by rw [← SW.inner.1]; omega)]; rfl
      obtain ⟨gi, oi, ci, rfl⟩ := seesB_addr (SW.inner.2 _ _ _ hu hl) (by rw [h4]; omega)
      rw [h4] at hu
      obtain ⟨t, et⟩ : ∃ t, t = wd ls (4 * r + k / 4) := ⟨_, rfl⟩
      rw [← et] at hl h4 E
      replace E := Lib.hid fun _ : Unit => E
      have hu' := Lib.hid hu
      have hl' := Lib.hid hl
      clear hu hl et
      go_wp2_with ((first | ((with_reducible show Code.wp _ (Code.region 5 _ _) _ _ _); go_must (refine region_det [(0, false), (1, false), (2, false), (3, false), (5, false), (6, false), (7, false), (8, false), (9, false), (10, false), (11, false), (13, false), (14, false), (4, false), (12, false), (15, false), (16, false), (17, false), (18, true), (19, true), (20, false)] [(19, .int), (21, .int), (20, .int), (22, .int), (26, .int), (17, .int), (29, .int)] (by kernel_rfl) (by kernel_rfl) rfl (by kernel_rfl) ?_; replace M := M.drew; simp only [reord, opAt, List.map_cons, List.map_nil, List.getElem?_toArray, List.getElem?_cons_zero, List.getElem?_cons_succ, Option.getD_some])) | ((with_reducible refine tLoad ?_); go_must (refine w_at _ _ rfl (by exact ev_tmp rfl) ?_; intro hx; (first | refine w_seenB (seesB_stay S M.kept.size fun j hj => M.kept.block j (seesB_lt S j hj) (by simp)) _ _ rfl hx rfl (by decide +kernel) k (by first | rfl | omega) (by first | assumption | omega | (simp; omega)) ?_ | refine w_seenC ((SW.now M).outer) _ _ rfl hx rfl (by decide +kernel) (4 * r + k / 4) (by first | rfl | omega) hu'.out ?_ | refine w_seenB ((SW.now M).inner.2 _ _ _ hu'.out hl'.out) _ _ rfl hx rfl (by decide +kernel) (k % 4) (by first | rfl | omega) (by first | assumption | omega | (simp; omega)) ?_); clear hx)) | ((with_reducible show wpList _ _ _ (Oper.mk _ (Op.buildSlice _ 1 _) _ _ _ _ :: _) _ _); go_must (refine w_buildSlice1 M bytesT (by decide) _ rfl rfl (by first | exact ev_tmp rfl | exact ev_const) _ rfl rfl ?_; clear M; intro g w1 M)) | ((with_reducible refine tApp ?_); go_must (refine w_append_new M 0 bytesT _ _ rfl rfl rfl rfl rfl rfl (by first | decide | (intro q hq; simp at hq; subst hq; rfl) | (intro q hq; simp at hq; rcases hq with rfl | rfl; rfl; rfl) | (intro q hq; simp at hq; rcases hq with rfl | rfl | rfl <;> rfl)) (by decide) (by first | (simp only [maxLen]; omega) | (simp [maxLen]; omega)) (by first | omega | (simp; omega)) ?_; clear M; intro q cap w1 M; (try simp only [setC] at M))) | ((with_reducible show Seg _ _ _ _); go_must (first | refine Seg.intro ⟨fun h => absurd rfl h, ?_⟩ | refine Seg.intro ⟨fun _ => ixA, ?_⟩ | refine Seg.intro ⟨ndA, atA, ?_⟩)) | ((with_reducible show OnlyN _ _ _ _ _); refine OnlyN.intro (by kernel_rfl) ?_) | ((with_reducible refine tGuard ?_); first | refine gdS ?_ | (refine gdC ?_ ?_ <;> (intro hgd; rw [hgd]; try (exfalso; simp at hgd; omega)))) | ((with_reducible refine tConv _ 70 9 ?_); go_must (refine cvB ?_)) | ((with_reducible refine tLoad ?_); go_must (refine ldB ?_)) | ((with_reducible refine tStore ?_); go_must (refine stB ?_; clear M; intro w1 M; (try simp only [setC] at M))) | ((with_reducible refine tBox _ ?_); (refine bxA M ?_; clear M; intro g w1 M))) <;> (try conv => arg 5; simp only [Act.put, List.setIfInBounds_toArray, setC]))
      rw [nth_at b k (by omega), nth_at' t (k % 4)] at M
      go_roundw
      case rel => exact ⟨k + 1, q, _, by omega, rfl, by go_num, by rw [E.out (), ← snocV]; exact M⟩
      case measure => simp [intOf]; omega
    · obtain rfl : k = 16 := by omega
      go_wp2_with fail
      go_ret
      exact ⟨q, c, rfl, M⟩
set_option maxRecDepth 100000 in
set_option maxHeartbeats 16000000 in
theorem rone_c (b s : List UInt8) (bv sv wv : Value) (vs : List Value) (ls : List (List UInt8)) (w : World) (hb : b.length = 16) (hs : s.length = 256) (S : SeesB w bv b) (SS : SeesB w sv s) (SW : SeesW w wv vs ls) (hvl : vs.length = 60) (hw : ∀ i, i < 60 → (wd ls i).length = 4) :
    Calls Tryz.prog 147 #[wv, sv, bv] w fun e w' => ∃ p c, e = .returned (.slice p 16 c) ∧ Mem [] w w' [.sl 1 (.slice p 16 c) 16 (bs (roneL ls s b))] := by
  have W0 := fun w (S : SeesB w bv b) (SW : SeesW w wv vs ls) => with_c b bv wv vs ls 0 w hb S SW hvl hw (by omega)
  have WC := fun (t : List UInt8) (tv : Value) (n : Nat) (hn : n < 14) (ht : t.length = 16) (w : World) (S : SeesB w tv t) (SW : SeesW w wv vs ls) => with_c t tv wv vs ls (n + 1) w ht S SW hvl hw (by omega)
  have T2 : ∀ (a : UInt8) (w : World), Calls Tryz.prog 174 #[.int .u8 (I8 a), .int .u8 2] w fun e w' => e = .returned (.int .u8 (I8 (timesL a 2))) ∧ w = w' := fun a w => times_c a 2 w
  have T3 : ∀ (a : UInt8) (w : World), Calls Tryz.prog 174 #[.int .u8 (I8 a), .int .u8 3] w fun e w' => e = .returned (.int .u8 (I8 (timesL a 3))) ∧ w = w' := fun a w => times_c a 3 w
  have EL : roneL ls s b = roneS ls s b 14 := rfl
  have E0 : roneS ls s b 0 = withL b ls 0 16 := rfl
  rw [EL]
  obtain ⟨gs, os, cs, rfl⟩ := seesB_addr SS (by omega)
  rw [hs] at SS ⊢
  have M := Mem.start [] w
  go_enter Tryz.func147, Tryz.ntmps147
  go_wp2_with (first | (go_at_call 175; go_must (refine (W0 _ S SW).mono ?_; rintro e w1 ⟨pw, cw, rfl, MP⟩; replace M := M.join MP; clear MP; simp only [List.append_nil] at M)))
  rw [← E0] at M
  clear EL E0 W0
  go_loopw [7, 8] (fun bq rv wr => ∃ (n : Nat) (q : Option Addr) (c : Nat), n ≤ 14 ∧ bq = .slice q 16 c ∧ rv = .int .i64 ((n : Int) + 1) ∧ Mem [] w wr [.sl 1 (.slice q 16 c) 16 (bs (roneS ls s b n))]) (fun _ rv _ => 15 - (intOf rv).toNat)
  case atStart => exact ⟨0, pw, cw, by omega, rfl, rfl, M⟩
  case round =>
    clear M
    obtain ⟨n, q, c, hn, rfl, rfl, M⟩ := hrel
    by_cases hlt : n < 14
    · have E := roneS_succ ls s b n
      have hx := roneS_len ls s b n
      obtain ⟨x, ex⟩ : ∃ x, x = roneS ls s b n := ⟨_, rfl⟩
      rw [← ex] at M E hx
      clear ex
      obtain ⟨gx, ox, rfl⟩ := own_addr (M.ok 0 _ rfl) (by omega)
      have hn14 : (n : Int) + 1 ≤ 14 := by omega
      go_wp2_with ((first | ((with_reducible show wpList _ _ _ (Oper.mk (some 25) (Op.makeSlice 70 _ _) _ _ _ _ :: _) _ _); go_must (refine w_makeB M _ _ _ rfl rfl 16 rfl rfl (by first | rfl | omega) (by first | rfl | omega) Tryz.underlying70 (by kernel_rfl) (by decide +kernel) (by omega) ?_; clear M; intro gt w1 M)) | ((with_reducible refine tGuard ?_); first | refine gdS ?_ | (refine gdC ?_ ?_ <;> (intro hgd; rw [hgd]; try (exfalso; simp at hgd; omega)))) | ((with_reducible refine tConv _ 70 9 ?_); go_must (refine cvB ?_)) | ((with_reducible refine tLoad ?_); go_must (refine ldB ?_)) | ((with_reducible refine tStore ?_); go_must (refine stB ?_; clear M; intro w1 M; (try simp only [setC] at M))) | ((with_reducible refine tBox _ ?_); (refine bxA M ?_; clear M; intro g w1 M))) <;> (try conv => arg 5; simp only [Act.put, List.setIfInBounds_toArray, setC]))
      go_loopw [10] (fun kv wr => ∃ k : Nat, k ≤ 4 ∧ kv = .int .i64 k ∧ Mem [] w wr [.row gt (bs (rsubL s x k)), .sl 1 (.slice (some ⟨gx, ox, none⟩) 16 c) 16 (bs x)]) (fun kv _ => 4 - (intOf kv).toNat)
      case atStart => exact ⟨0, by omega, rfl, M⟩
      case round =>
        clear M
        obtain ⟨k, hk, rfl, M⟩ := hrel
        by_cases hlk : k < 4
        · have EK := Lib.hid fun _ : Unit => show rsubL s x (k + 1) = iterN (rsubC s x k) 4 (rsubL s x k) from rfl
          have hy := rsubL_len s x k
          obtain ⟨y, ey⟩ : ∃ y, y = rsubL s x k := ⟨_, rfl⟩
          rw [← ey] at M EK hy
          clear ey
          go_wp2_with fail
          go_loopw [11] (fun jv wr => ∃ j : Nat, j ≤ 4 ∧ jv = .int .i64 j ∧ Mem [] w wr [.row gt (bs (iterN (rsubC s x k) j y)), .sl 1 (.slice (some ⟨gx, ox, none⟩) 16 c) 16 (bs x)]) (fun jv _ => 4 - (intOf jv).toNat)
          case atStart => exact ⟨0, by omega, rfl, M⟩
          case round =>
            clear M
            obtain ⟨j, hj, rfl, M⟩ := hrel
            have hd : (iterN (rsubC s x k) j y).length = 16 := by rw [iterN_len _ (rsubC_len s x k)]; exact hy
            obtain ⟨d, ed⟩ : ∃ d, d = iterN (rsubC s x k) j y := ⟨_, rfl⟩
            rw [← ed] at M hd
            have ED := Lib.hid fun _ : Unit => ed
            clear ed
            by_cases hlj : j < 4
            · obtain ⟨q, eq⟩ : ∃ q, q = nth x (4 * ((j + k) % 4) + k) := ⟨_, rfl⟩
              have hq0 := (I8_bd q).1
              have hq1 := (I8_bd q).2
              have hq2 := I8_toNat q
              have hq3 := q.toNat_lt
              have hq4 : q.toNat < 256 := hq3
              have hd1 : x.getD (4 * ((j + k) % 4) + k) 0 = q := eq.symm
              have hd2 : x[4 * ((j + k) % 4) + k]?.getD 0 = q := by rw [nth_at', eq]
              have hil : 4 * ((j + k) % 4) + k < x.length := by omega
              have hd3 : x[4 * ((j + k) % 4) + k] = q := by rw [nth_at, eq]
              have EQ := Lib.hid fun _ : Unit => eq
              clear eq hq3
              have em : (((j + k) % 4 : Nat) : Int) = ((j : Int) + (k : Int)) % 4 := by simp
              have i1 : ((4 : Int) * (((j : Int) + (k : Int)) % 4) + (k : Int)).toNat = 4 * ((j + k) % 4) + k := by rw [← em]; omega
              have i2 : (0 : Int) ≤ (4 : Int) * (((j : Int) + (k : Int)) % 4) + (k : Int) := by rw [← em]; omega
              have i3 : (4 : Int) * (((j : Int) + (k : Int)) % 4) + (k : Int) < 16 := by rw [← em]; omega
              clear em
              go_wp2_with ((first | ((with_reducible refine tLoad ?_); go_must (refine w_at _ _ rfl (by exact ev_tmp rfl) ?_; intro hx; (first | refine w_slB M 1 _ _ rfl rfl hx rfl (by decide +kernel) (4 * ((j + k) % 4) + k) (by first | rfl | omega) (by first | assumption | omega | (simp; omega)) ?_ | refine w_seenB (seesB_stay SS M.kept.size fun j hj => M.kept.block j (seesB_lt SS j hj) (by simp)) _ _ rfl hx rfl (by decide +kernel) q.toNat (by first | rfl | omega) (by first | assumption | omega | (simp; omega)) ?_); clear hx)) | ((with_reducible refine tGuard ?_); first | refine gdS ?_ | (refine gdC ?_ ?_ <;> (intro hgd; rw [hgd]; try (exfalso; simp at hgd; omega)))) | ((with_reducible refine tConv _ 70 9 ?_); go_must (refine cvB ?_)) | ((with_reducible refine tLoad ?_); go_must (refine ldB ?_)) | ((with_reducible refine tStore ?_); go_must (refine stB ?_; clear M; intro w1 M; (try simp only [setC] at M))) | ((with_reducible refine tBox _ ?_); (refine bxA M ?_; clear M; intro g w1 M))) <;> (try conv => arg 5; simp only [Act.put, List.setIfInBounds_toArray, setC]))
              go_roundw
              case rel => exact ⟨j + 1, by omega, by go_num, by rw [iterN_succ, ← ED.out ()]; unfold rsubC; rw [← EQ.out ()]; exact M⟩
              case measure => simp [intOf]; omega
            · obtain rfl : j = 4 := by omega
              go_wp2_with fail
              go_roundw
              case rel => exact ⟨k + 1, by omega, by go_num, by rw [EK.out (), ← ED.out ()]; exact M⟩
              case measure => simp [intOf]; omega
        · obtain rfl : k = 4 := by omega
          have hz := rsubL_len s x 4
          obtain ⟨z, ez⟩ : ∃ z, z = rsubL s x 4 := ⟨_, rfl⟩
          rw [← ez] at M E hz
          clear ez
          by_cases hr : n + 1 < 14
          · rw [if_pos hr] at E
            replace E := Lib.hid fun _ : Unit => E
            have hr' : (n : Int) + 1 < 14 := by omega
            go_wp2_with ((first | ((with_reducible show wpList _ _ _ (Oper.mk (some 55) (Op.makeSlice 70 _ _) _ _ _ _ :: _) _ _); go_must (refine w_makeB M _ _ _ rfl rfl 16 rfl rfl (by first | rfl | omega) (by first | rfl | omega) Tryz.underlying70 (by kernel_rfl) (by decide +kernel) (by omega) ?_; clear M; intro gm w1 M)) | ((with_reducible refine tGuard ?_); first | refine gdS ?_ | (refine gdC ?_ ?_ <;> (intro hgd; rw [hgd]; try (exfalso; simp at hgd; omega)))) | ((with_reducible refine tConv _ 70 9 ?_); go_must (refine cvB ?_)) | ((with_reducible refine tLoad ?_); go_must (refine ldB ?_)) | ((with_reducible refine tStore ?_); go_must (refine stB ?_; clear M; intro w1 M; (try simp only [setC] at M))) | ((with_reducible refine tBox _ ?_); (refine bxA M ?_; clear M; intro g w1 M))) <;> (try conv => arg 5; simp only [Act.put, List.setIfInBounds_toArray, setC]))
            rw [show ((4 : Nat) : Int) = 4 from rfl]
            go_loopw [13] (fun cv wr => ∃ i : Nat, i ≤ 4 ∧ cv = .int .i64 (4 * (i : Int)) ∧ Mem [] w wr [.row gm (bs (rmixL z i)), .row gt (bs z), .sl 1 (.slice (some ⟨gx, ox, none⟩) 16 c) 16 (bs x)]) (fun cv _ => 16 - (intOf cv).toNat)
            case atStart => exact ⟨0, by omega, rfl, M⟩
            case round =>
              clear M
              obtain ⟨i, hi, rfl, M⟩ := hrel
              have hd := rmixL_len z i
              have EM := Lib.hid fun _ : Unit => show rmixL z (i + 1) = rmixC z (4 * i) (rmixL z i) from rfl
              obtain ⟨d, ed⟩ : ∃ d, d = rmixL z i := ⟨_, rfl⟩
              rw [← ed] at M hd EM
              by_cases hli : i < 4
              · clear ed
                have j0 : 4 * (i : Int) < 16 := by omega
                go_wp2_with ((first | ((with_reducible show Code.wp _ (Code.region 18 _ _) _ _ _); go_must (refine region_det [(0, false), (1, false), (2, false), (4, false), (5, false), (6, false), (7, false), (9, false), (10, false), (11, false), (12, false), (14, false), (15, false), (16, false), (17, false), (3, false), (19, false), (8, false), (20, false), (13, false), (21, false), (18, false), (22, false)] [(65, .int), (70, .int), (75, .int)] (by kernel_rfl) (by kernel_rfl) rfl (by kernel_rfl) ?_; replace M := M.drew; simp only [reord, opAt, List.map_cons, List.map_nil, List.getElem?_toArray, List.getElem?_cons_zero, List.getElem?_cons_succ, Option.getD_some])) | (go_at_call 174; go_must ((first | (with_reducible refine (T2 _ _).mono ?_) | (with_reducible refine (T3 _ _).mono ?_)); rintro e w1 ⟨rfl, rfl⟩)) | ((with_reducible show Seg _ _ _ _); go_must (first | refine Seg.intro ⟨fun h => absurd rfl h, ?_⟩ | refine Seg.intro ⟨fun _ => ixA, ?_⟩ | refine Seg.intro ⟨ndA, atA, ?_⟩)) | ((with_reducible show OnlyN _ _ _ _ _); refine OnlyN.intro (by kernel_rfl) ?_) | ((with_reducible refine tGuard ?_); first | refine gdS ?_ | (refine gdC ?_ ?_ <;> (intro hgd; rw [hgd]; try (exfalso; simp at hgd; omega)))) | ((with_reducible refine tConv _ 70 9 ?_); go_must (refine cvB ?_)) | ((with_reducible refine tLoad ?_); go_must (refine ldB ?_)) | ((with_reducible refine tStore ?_); go_must (refine stB ?_; clear M; intro w1 M; (try simp only [setC] at M))) | ((with_reducible refine tBox _ ?_); (refine bxA M ?_; clear M; intro g w1 M))) <;> (try conv => arg 5; simp only [Act.put, List.setIfInBounds_toArray, setC]))
                go_roundw
                case rel => exact ⟨i + 1, by omega, by go_num, by rw [EM.out ()]; exact M⟩
                case measure => simp [intOf]; omega
              · obtain rfl : i = 4 := by omega
                rw [← ed] at E
                clear ed EM
                go_wp2_with ((first | (go_at_call 175; go_must (refine (WC _ _ n hlt hd _ (row_all (M.ok 0 _ rfl) hd (by decide)) (SW.now M)).mono ?_; rintro e w1 ⟨p2, c2, rfl, MP⟩; replace M := M.join MP; clear MP; replace M := M.take1)) | ((with_reducible refine tGuard ?_); first | refine gdS ?_ | (refine gdC ?_ ?_ <;> (intro hgd; rw [hgd]; try (exfalso; simp at hgd; omega)))) | ((with_reducible refine tConv _ 70 9 ?_); go_must (refine cvB ?_)) | ((with_reducible refine tLoad ?_); go_must (refine ldB ?_)) | ((with_reducible refine tStore ?_); go_must (refine stB ?_; clear M; intro w1 M; (try simp only [setC] at M))) | ((with_reducible refine tBox _ ?_); (refine bxA M ?_; clear M; intro g w1 M))) <;> (try conv => arg 5; simp only [Act.put, List.setIfInBounds_toArray, setC]))
                go_roundw
                case rel => exact ⟨n + 1, p2, c2, by omega, rfl, by go_num, by rw [E.out ()]; exact M⟩
                case measure => simp [intOf]; omega
          · rw [if_neg hr] at E
            replace E := Lib.hid fun _ : Unit => E
            have hr' : 14 ≤ (n : Int) + 1 := by omega
            go_wp2_with ((first | (go_at_call 175; go_must (refine (WC _ _ n hlt hz _ (row_all (M.ok 0 _ rfl) hz (by decide)) (SW.now M)).mono ?_; rintro e w1 ⟨p2, c2, rfl, MP⟩; replace M := M.join MP; clear MP; replace M := M.take1)) | ((with_reducible refine tGuard ?_); first | refine gdS ?_ | (refine gdC ?_ ?_ <;> (intro hgd; rw [hgd]; try (exfalso; simp at hgd; omega)))) | ((with_reducible refine tConv _ 70 9 ?_); go_must (refine cvB ?_)) | ((with_reducible refine tLoad ?_); go_must (refine ldB ?_)) | ((with_reducible refine tStore ?_); go_must (refine stB ?_; clear M; intro w1 M; (try simp only [setC] at M))) | ((with_reducible refine tBox _ ?_); (refine bxA M ?_; clear M; intro g w1 M))) <;> (try conv => arg 5; simp only [Act.put, List.setIfInBounds_toArray, setC]))
            go_roundw
            case rel => exact ⟨n + 1, p2, c2, by omega, rfl, by go_num, by rw [E.out ()]; exact M⟩
            case measure => simp [intOf]; omega
    · obtain rfl : n = 14 := by omega
      go_wp2_with fail
      go_ret
      exact ⟨q, c, rfl, M⟩
end Go.Proofs.YtidadhbaomieiaaGreat
