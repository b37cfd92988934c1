/- The walk of layer 4's reference's schedule. Conditions: lengths. -/
import Derived.Test.YtidadhbaomieiaaGreatVRefA1
import Derived.Test.YtidadhbaomieiaaGreatVRowsW
import Derived.Test.YtidadhbaomieiaaGreatZc
namespace Go
namespace TL
theorem rsch_zero (s key : List UInt8) : rsch s key 0 = key8 key 8 := rfl
theorem srcB {P : Program} {w : World} {v : Value} {l : List UInt8} {n : Nat} (S : SeesB w v l) (h : l.length = n) : Src P w 1 v n (bs l) := by subst h; exact Src_of_sees S (bs_one l)
theorem Mem.drop1 {F : List Nat} {w0 w : World} {c d : Chunk} {L : List Chunk} (M : Mem F w0 w (c :: d :: L)) : Mem F w0 w (c :: L) :=
  M.pick _ (fun i => if i = 0 then 0 else i + 1) (fun i j _ _ h => by by_cases e : i = 0 <;> by_cases e2 : j = 0 <;> simp [e, e2] at h ⊢ <;> omega) (fun i x h => by cases i with | zero => simpa using h | succ i => simpa using h)
theorem bt_nth (l : List UInt8) (i : Nat) : l.getD i 0 = nth l i := rfl
end TL
end Go
namespace Go.Proofs.YtidadhbaomieiaaGreat
open Go.RowKit Go.TL
set_option maxRecDepth 100000 in
theorem rowsT : SliceT Tryz.prog 229 70 1 24 := ⟨Tryz.underlying229, ⟨_, _, rfl, rfl, rfl, rfl, rfl⟩, by omega⟩
set_option maxRecDepth 100000 in
set_option maxHeartbeats 8000000 in
theorem rsched_c (key s : List UInt8) (sv : Value) (w : World) (hk : key.length = 32) (hs : s.length = 256) (S : SeesB w sv s) :
    Calls Tryz.prog 146 #[.agg (bs key).toArray, sv] w fun e w' => ∃ p c vs, e = .returned (.slice p 60 c) ∧ Mem [] w w' [.sl 1 (.slice p 60 c) 60 vs, rowsC vs (rsch s key 52)] := by
  obtain ⟨gs, so, cs, rfl⟩ := seesB_addr S (by omega)
  rw [hs]
  rw [hs] at S
  have M := Mem.start [] w
  go_enter Tryz.func146, Tryz.ntmps146
  go_wp2_with (first | ((with_reducible show wpList _ _ _ (Oper.mk _ (Op.box _ _) _ _ _ _ :: _) _ _); refine w_box M _ _ rfl rfl _ rfl (bs key) rfl ?_; clear M; intro gk w1 M; replace M := M.rows0.nil 1))
  go_loopw [5, 6] (fun lv iv wr => ∃ (k : Nat) (q : Option Addr) (c : Nat) (vs : List Value), k ≤ 8 ∧ lv = .slice q k c ∧ iv = .int .i64 k ∧ Mem [] w wr [.sl 1 (.slice q k c) k vs, rowsC vs (key8 key k), .row gk (bs key)]) (fun _ iv _ => 8 - (intOf iv).toNat)
  case atStart => exact ⟨0, none, 0, [], by omega, rfl, rfl, M⟩
  case round =>
    clear M
    obtain ⟨k, q, c, vs, hk8, rfl, rfl, M⟩ := hrel
    by_cases hlt : k < 8
    · have E := Lib.hid fun _ : Unit => key8_succ key k
      obtain ⟨ls, el⟩ : ∃ ls, ls = key8 key k := ⟨_, rfl⟩
      rw [← el] at M E
      clear el
      go_wp2_with ((first | ((with_reducible show Code.wp _ (Code.region 5 _ _) _ _ _); go_must (refine region_det [(0, false), (1, false), (2, false), (3, false), (5, false), (6, false), (7, false), (8, false), (10, false), (11, false), (12, false), (13, false), (15, false), (16, false), (17, false), (18, false), (4, false), (9, false), (14, false), (19, false), (20, true), (21, true), (22, true), (23, false)] [(18, .int), (22, .int), (23, .int), (27, .int), (28, .int), (32, .int), (33, .int)] (by kernel_rfl) (by kernel_rfl) rfl (by kernel_rfl) ?_; replace M := M.drew; simp only [reord, opAt, List.map_cons, List.map_nil, List.getElem?_toArray, List.getElem?_cons_zero, List.getElem?_cons_succ, Option.getD_some])) | ((with_reducible show wpList _ _ _ (Oper.mk _ (Op.buildSlice _ 4 _) _ _ _ _ :: _) _ _); go_must (refine w_build4 M bytesT _ _ _ _ rfl rfl (by first | exact ev_tmp rfl | exact ev_const) (by first | exact ev_tmp rfl | exact ev_const) (by first | exact ev_tmp rfl | exact ev_const) (by first | exact ev_tmp rfl | exact ev_const) ?_; clear M; intro g4 w1 M)) | ((with_reducible show wpList _ _ _ (Oper.mk _ (Op.buildSlice _ 1 _) _ _ _ _ :: _) _ _); go_must (refine w_buildSlice1 M rowsT (by decide) _ rfl rfl (by first | exact ev_tmp rfl | exact ev_const) _ rfl rfl ?_; clear M; intro g w1 M)) | ((with_reducible show wpList _ _ _ (Oper.mk _ (Op.call ⟨Callee.builtin Builtin.append, _, _⟩) _ _ _ _ :: _) _ _); go_must (refine w_append_new M 1 rowsT _ _ rfl rfl rfl rfl rfl rfl (by intro q hq; simp at hq; subst hq; rfl) (by decide) (by simp only [maxLen]; omega) (by omega) ?_; clear M; intro q2 c2 w1 M; simp only [setC] at M; replace M := M.rowIn (v := .slice (some ⟨g4, 0, none⟩) 4 4) (Own.sees (M.ok 0 _ rfl)) (fun k hk => by cases hk; simp [Chunk.fp, Value.ownBlock]))) | ((with_reducible show Seg _ _ _ _); go_must (first | refine Seg.intro ⟨fun h => absurd rfl h, ?_⟩ | refine Seg.intro ⟨fun _ => ixA, ?_⟩ | refine Seg.intro ⟨ndA, atA, ?_⟩)) | ((with_reducible show OnlyN _ _ _ _ _); refine OnlyN.intro (by kernel_rfl) ?_) | ((with_reducible refine tGuard ?_); first | refine gdS ?_ | (refine gdC ?_ ?_ <;> (intro hgd; rw [hgd]; try (exfalso; simp at hgd; omega)))) | ((with_reducible refine tConv _ 70 9 ?_); go_must (refine cvB ?_)) | ((with_reducible refine tLoad ?_); go_must (refine ldB ?_)) | ((with_reducible refine tStore ?_); go_must (refine stB ?_; clear M; intro w1 M; (try simp only [setC] at M))) | ((with_reducible refine tBox _ ?_); (refine bxA M ?_; clear M; intro g w1 M))) <;> (try conv => arg 5; simp only [Act.put, List.setIfInBounds_toArray, setC]))
      go_roundw
      case rel => exact ⟨k + 1, q2, c2, _, by omega, rfl, by go_num, by rw [E.out ()]; exact M⟩
      case measure => simp [intOf]; omega
    · obtain rfl : k = 8 := by omega
      rw [← rsch_zero s key] at M
      go_wp2_with fail
      rw [show ((8 : Nat) : Int) = 8 from rfl]
      go_loopw [5, 7] (fun lv iv wr => ∃ (n : Nat) (q : Option Addr) (c : Nat) (vs : List Value), n ≤ 52 ∧ lv = .slice q (n + 8) c ∧ iv = .int .i64 ((n : Int) + 8) ∧ Mem [] w wr [.sl 1 (.slice q (n + 8) c) (n + 8) vs, rowsC vs (rsch s key n), .row gk (bs key)]) (fun _ iv _ => 60 - (intOf iv).toNat)
      case atStart => exact ⟨0, q, c, vs, by omega, rfl, rfl, M⟩
      case round =>
        clear M
        obtain ⟨n, q, c, vs, hn, rfl, rfl, M⟩ := hrel
        by_cases hlt : n < 52
        · have hl := rsch_len s key n
          have hwl := wd_len s key n
          have E := rsch_succ s key n
          obtain ⟨ls, el⟩ : ∃ ls, ls = rsch s key n := ⟨_, rfl⟩
          rw [← el] at M E hl hwl
          clear el
          have hw7 := hwl (n + 7) (by omega)
          have hw0 := hwl n (by omega)
          have hl7 : ls[n + 7]? = some (wd ls (n + 7)) := by unfold wd; rw [List.getD_eq_getElem?_getD, List.getElem?_eq_getElem (by omega)]; rfl
          have hl0 : ls[n]? = some (wd ls n) := by unfold wd; rw [List.getD_eq_getElem?_getD, List.getElem?_eq_getElem (by omega)]; rfl
          have hvl : vs.length = n + 8 := by have := (M.ok 0 _ rfl).1; omega
          have HI := (M.ok 1 _ rfl).2.1
          obtain ⟨u7, hu7⟩ : ∃ u, vs[n + 7]? = some u := ⟨_, List.getElem?_eq_getElem (by omega)⟩
          obtain ⟨u0, hu0⟩ : ∃ u, vs[n]? = some u := ⟨_, List.getElem?_eq_getElem (by omega)⟩
          obtain ⟨g7, o7, c7, rfl⟩ := seesB_addr (HI.2 _ _ _ hu7 hl7) (by rw [hw7]; omega)
          obtain ⟨g0, o0, c0, rfl⟩ := seesB_addr (HI.2 _ _ _ hu0 hl0) (by rw [hw0]; omega)
          obtain ⟨gq, oq, rfl⟩ := own_addr (M.ok 0 _ rfl) (by omega)
          rw [hw7] at hu7
          rw [hw0] at hu0
          have E2 : rw2 ls (n + 8) = if n % 8 = 0 then rotT (wd ls (n + 7)) else wd ls (n + 7) := by unfold rw2; simp
          have E3 : rw3 s ls (n + 8) = if n % 8 = 0 ∨ n % 8 = 4 then iterN (subT s) 4 (rw2 ls (n + 8)) else rw2 ls (n + 8) := by unfold rw3; simp
          have E4 : rw4 s ls (n + 8) = if n % 8 = 0 then (rw3 s ls (n + 8)).set 0 (nth (rw3 s ls (n + 8)) 0 ^^^ rpw (n / 8)) else rw3 s ls (n + 8) := by unfold rw4; simp
          have E5 : rw5 s ls (n + 8) = iterN (xorT (wd ls n)) 4 (rw4 s ls (n + 8)) := by unfold rw5; rw [Nat.add_sub_cancel]
          obtain ⟨t1, e1⟩ : ∃ t, t = wd ls (n + 7) := ⟨_, rfl⟩
          obtain ⟨t0, e0⟩ : ∃ t, t = wd ls n := ⟨_, rfl⟩
          rw [← e1] at E2 hl7 hw7
          rw [← e0] at E5 hl0 hw0
          clear e1 e0 hwl HI
          have hu7' := Lib.hid hu7
          have hu0' := Lib.hid hu0
          have hl7' := Lib.hid hl7
          have hl0' := Lib.hid hl0
          clear hu7 hu0 hl7 hl0
          replace E := Lib.hid fun _ : Unit => E
          by_cases h8 : n % 8 = 0
          · skip
            rw [if_pos h8] at E2 E4
            rw [if_pos (.inl h8), E2] at E3
            replace E3 := Lib.hid E3
            replace E4 := Lib.hid E4
            replace E5 := Lib.hid E5
            clear E2
            have h8' : ((n : Int) + 8) % 8 = 0 := by omega
            go_wp2_with ((first | ((with_reducible show wpList _ _ _ (Oper.mk _ (Op.buildSlice _ 0 _) _ _ _ _ :: _) _ _); go_must (refine w_build0 M bytesT rfl rfl ?_; clear M; intro g9 w1 M)) | ((with_reducible refine tLoad ?_); go_must (refine w_at _ _ rfl (by exact ev_tmp rfl) ?_; intro hx; (first | refine w_seenC (Own.sees (M.ok 1 _ rfl)) _ _ rfl hx rfl (by decide +kernel) (n + 7) (by first | rfl | omega) hu7'.out ?_ | refine w_slB M 0 _ _ rfl rfl hx rfl (by decide +kernel) 0 (by first | rfl | omega) (by first | assumption | omega | (simp; omega)) ?_ | refine w_slB M 0 _ _ rfl rfl hx rfl (by decide +kernel) 1 (by first | rfl | omega) (by first | assumption | omega | (simp; omega)) ?_ | refine w_slB M 0 _ _ rfl rfl hx rfl (by decide +kernel) 2 (by first | rfl | omega) (by first | assumption | omega | (simp; omega)) ?_ | refine w_slB M 0 _ _ rfl rfl hx rfl (by decide +kernel) 3 (by first | rfl | omega) (by first | assumption | omega | (simp; omega)) ?_); clear hx)) | (((with_reducible refine tApp ?_); go_must (refine w_append M 0 bytesT _ _ _ rfl (.inr ⟨_, Tryz.underlying70⟩) rfl rfl rfl rfl 4 (bs t1) (srcB ((M.ok 2 _ rfl).2.1.2 _ _ _ hu7'.out hl7'.out) hw7) (by simp only [maxLen]; omega) (by omega) ?_; clear M; intro p9 ct w1 M; simp only [setC, List.nil_append, Nat.zero_add] at M)); obtain ⟨gt, ot, rfl⟩ := own_addr (M.ok 0 _ rfl) (by decide)) | ((with_reducible show Code.wp _ (Code.region 11 _ _) _ _ _); go_must (refine region_det [(0, false), (1, false), (3, false), (4, false), (6, false), (7, false), (9, false), (10, false), (2, false), (5, false), (8, false), (11, false), (12, true), (13, false)] [] (by kernel_rfl) (by kernel_rfl) rfl (by kernel_rfl) ?_; replace M := M.drew; simp only [reord, opAt, List.map_cons, List.map_nil, List.getElem?_toArray, List.getElem?_cons_zero, List.getElem?_cons_succ, Option.getD_some])) | ((with_reducible show wpList _ _ _ (Oper.mk _ (Op.buildSlice _ 4 _) _ _ _ _ :: _) _ _); go_must (refine w_build4 M bytesT _ _ _ _ rfl rfl (by first | exact ev_tmp rfl | exact ev_const) (by first | exact ev_tmp rfl | exact ev_const) (by first | exact ev_tmp rfl | exact ev_const) (by first | exact ev_tmp rfl | exact ev_const) ?_; clear M; intro g4 w1 M; replace M := M.drop1)) | ((with_reducible show Seg _ _ _ _); go_must (first | refine Seg.intro ⟨fun h => absurd rfl h, ?_⟩ | refine Seg.intro ⟨fun _ => ixA, ?_⟩ | refine Seg.intro ⟨ndA, atA, ?_⟩)) | ((with_reducible show OnlyN _ _ _ _ _); refine OnlyN.intro (by kernel_rfl) ?_) | ((with_reducible refine tGuard ?_); first | refine gdS ?_ | (refine gdC ?_ ?_ <;> (intro hgd; rw [hgd]; try (exfalso; simp at hgd; omega)))) | ((with_reducible refine tConv _ 70 9 ?_); go_must (refine cvB ?_)) | ((with_reducible refine tLoad ?_); go_must (refine ldB ?_)) | ((with_reducible refine tStore ?_); go_must (refine stB ?_; clear M; intro w1 M; (try simp only [setC] at M))) | ((with_reducible refine tBox _ ?_); (refine bxA M ?_; clear M; intro g w1 M))) <;> (try conv => arg 5; simp only [Act.put, List.setIfInBounds_toArray, setC]))
            have hl2 : (rotT t1).length = 4 := rfl
            have eR : [t1.getD 1 0, t1.getD 2 0, t1.getD 3 0, t1.getD 0 0] = rotT t1 := rfl
            rw [eR] at M
            obtain ⟨t2, e3⟩ : ∃ t, t = rotT t1 := ⟨_, rfl⟩
            rw [← e3] at M hl2 E3
            clear e3 eR
            go_loopw [9] (fun kv wr => ∃ k : Nat, k ≤ 4 ∧ kv = .int .i64 k ∧ Mem [] w wr [.sl 1 (.slice (some ⟨g4, 0, none⟩) 4 4) 4 (bs (iterN (subT s) k t2)), .sl 1 (.slice (some ⟨gq, oq, none⟩) (n + 8) c) (n + 8) vs, rowsC vs ls, .row gk (bs key)]) (fun kv _ => 4 - (intOf kv).toNat)
            case atStart => exact ⟨0, by omega, rfl, M⟩
            case round =>
              clear M
              obtain ⟨k, hk4, rfl, M⟩ := hrel
              obtain ⟨d, ed⟩ : ∃ d, d = iterN (subT s) k t2 := ⟨_, rfl⟩
              have hd : d.length = 4 := by rw [ed, subT4_len]; exact hl2
              rw [← ed] at M
              have ED := Lib.hid fun _ : Unit => ed
              clear ed
              by_cases hlt4 : k < 4
              · obtain ⟨q, eq⟩ : ∃ q, q = nth d k := ⟨_, rfl⟩
                have hq0 := (I8_bd q).1
                have hq1 := (I8_bd q).2
                have hq2 := I8_toNat q
                have hq3 := q.toNat_lt
                have hq4 : q.toNat < 256 := hq3
                have hd1 : d.getD k 0 = q := eq.symm
                have hd2 : d[k]?.getD 0 = q := by rw [nth_at', eq]
                have hd3 : d[k] = q := by rw [nth_at, eq]
                have EQ := Lib.hid fun _ : Unit => eq
                clear eq hq3
                go_wp2_with ((first | ((with_reducible refine tLoad ?_); go_must (refine w_at _ _ rfl (by exact ev_tmp rfl) ?_; intro hx; (first | refine w_slB M 0 _ _ rfl rfl hx rfl (by decide +kernel) k (by first | rfl | omega) (by first | assumption | omega | (simp; omega)) ?_ | refine w_seenB (seesB_stay S M.kept.size fun j hj => M.kept.block j (seesB_lt S j hj) (by simp)) _ _ rfl hx rfl (by decide +kernel) q.toNat (by first | rfl | omega) (by first | assumption | omega | (simp; omega)) ?_); clear hx)) | ((with_reducible refine tStore ?_); go_must (refine w_at2 _ _ _ rfl (by first | exact ev_tmp rfl | exact ev_const) (by first | exact ev_tmp rfl | exact ev_const) ?_; intro hx hy; refine w_slSetB M 0 _ _ _ rfl rfl hx rfl hy (by decide +kernel) k (by first | rfl | omega) (by first | assumption | omega | (simp; omega)) ?_; clear hx hy M; intro w1 M; simp only [setC] at M)) | ((with_reducible refine tGuard ?_); first | refine gdS ?_ | (refine gdC ?_ ?_ <;> (intro hgd; rw [hgd]; try (exfalso; simp at hgd; omega)))) | ((with_reducible refine tConv _ 70 9 ?_); go_must (refine cvB ?_)) | ((with_reducible refine tLoad ?_); go_must (refine ldB ?_)) | ((with_reducible refine tStore ?_); go_must (refine stB ?_; clear M; intro w1 M; (try simp only [setC] at M))) | ((with_reducible refine tBox _ ?_); (refine bxA M ?_; clear M; intro g w1 M))) <;> (try conv => arg 5; simp only [Act.put, List.setIfInBounds_toArray, setC]))
                go_roundw
                case rel => exact ⟨k + 1, by omega, by go_num, by rw [iterN_succ, ← ED.out ()]; unfold subT; rw [← EQ.out ()]; exact M⟩
                case measure => simp [intOf]; omega
              · obtain rfl : k = 4 := by omega
                replace E3 := E3.out.trans (ED.out ()).symm
                replace E4 := E4.out
                rw [E3] at E4
                replace E4 := Lib.hid fun _ : Unit => E4
                clear E3 ED
                go_wp2_with ((first | ((with_reducible refine tLoad ?_); go_must (refine w_at _ _ rfl (by exact ev_tmp rfl) ?_; intro hx; (first | refine w_slB M 0 _ _ rfl rfl hx rfl (by decide +kernel) 0 (by first | rfl | omega) (by first | assumption | omega | (simp; omega)) ?_); clear hx)) | ((with_reducible refine tStore ?_); go_must (refine w_at2 _ _ _ rfl (by first | exact ev_tmp rfl | exact ev_const) (by first | exact ev_tmp rfl | exact ev_const) ?_; intro hx hy; refine w_slSetB M 0 _ _ _ rfl rfl hx rfl hy (by decide +kernel) 0 (by first | rfl | omega) (by first | assumption | omega | (simp; omega)) ?_; clear hx hy M; intro w1 M; simp only [setC] at M)) | ((with_reducible refine tGuard ?_); first | refine gdS ?_ | (refine gdC ?_ ?_ <;> (intro hgd; rw [hgd]; try (exfalso; simp at hgd; omega)))) | ((with_reducible refine tConv _ 70 9 ?_); go_must (refine cvB ?_)) | ((with_reducible refine tLoad ?_); go_must (refine ldB ?_)) | ((with_reducible refine tStore ?_); go_must (refine stB ?_; clear M; intro w1 M; (try simp only [setC] at M))) | ((with_reducible refine tBox _ ?_); (refine bxA M ?_; clear M; intro g w1 M))) <;> (try conv => arg 5; simp only [Act.put, List.setIfInBounds_toArray, setC]))
                rw [show ((4 : Nat) : Int) = 4 from rfl, decide_eq_true (show (n : Int) + 8 < 60 by omega), show oq + (n + 8 - 1) = oq + (n + 7) by omega, Nat.zero_add, h8']
                clear h8'
                generalize t1.getD 1 0 = b1
                generalize t1.getD 2 0 = b2
                generalize t1.getD 3 0 = b3
                generalize t1.getD 0 0 = b0
                go_loopw [10, 11] (fun pv kv wr => ∃ k : Nat, k ≤ n / 8 ∧ pv = .int .u8 (I8 (rpw k)) ∧ kv = .int .i64 ((k : Int) + 1) ∧ Mem [] w wr [.sl 1 (.slice (some ⟨g4, 0, none⟩) 4 4) 4 (bs d), .sl 1 (.slice (some ⟨gq, oq, none⟩) (n + 8) c) (n + 8) vs, rowsC vs ls, .row gk (bs key)]) (fun _ kv _ => 60 - (intOf kv).toNat)
                case atStart => exact ⟨0, by omega, rfl, rfl, M⟩
                case round =>
                  clear M
                  obtain ⟨k, hkn, rfl, rfl, M⟩ := hrel
                  by_cases hltp : k < n / 8
                  · have EP := Lib.hid fun _ : Unit => show rpw (k + 1) = timesL (rpw k) 2 from rfl
                    obtain ⟨p, ep⟩ : ∃ p, p = rpw k := ⟨_, rfl⟩
                    rw [← ep] at EP
                    rw [← ep]
                    clear ep
                    go_wp2_with ((first | (go_at_call 174; go_must (refine (times_c p 2 _).mono ?_; rintro e w1 ⟨rfl, rfl⟩)) | ((with_reducible refine tGuard ?_); first | refine gdS ?_ | (refine gdC ?_ ?_ <;> (intro hgd; rw [hgd]; try (exfalso; simp at hgd; omega)))) | ((with_reducible refine tConv _ 70 9 ?_); go_must (refine cvB ?_)) | ((with_reducible refine tLoad ?_); go_must (refine ldB ?_)) | ((with_reducible refine tStore ?_); go_must (refine stB ?_; clear M; intro w1 M; (try simp only [setC] at M))) | ((with_reducible refine tBox _ ?_); (refine bxA M ?_; clear M; intro g w1 M))) <;> (try conv => arg 5; simp only [Act.put, List.setIfInBounds_toArray, setC]))
                    go_roundw
                    case rel => exact ⟨k + 1, by omega, by rw [EP.out ()], by go_num, M⟩
                    case measure => simp [intOf]; omega
                  · obtain rfl : k = n / 8 := by omega
                    obtain ⟨p, ep⟩ : ∃ p, p = rpw (n / 8) := ⟨_, rfl⟩
                    rw [← ep] at E4
                    rw [← ep]
                    clear ep
                    go_wp2_with ((first | ((with_reducible refine tLoad ?_); go_must (refine w_at _ _ rfl (by exact ev_tmp rfl) ?_; intro hx; (first | refine w_slB M 0 _ _ rfl rfl hx rfl (by decide +kernel) 0 (by first | rfl | omega) (by first | assumption | omega | (simp; omega)) ?_); clear hx)) | ((with_reducible refine tStore ?_); go_must (refine w_at2 _ _ _ rfl (by first | exact ev_tmp rfl | exact ev_const) (by first | exact ev_tmp rfl | exact ev_const) ?_; intro hx hy; refine w_slSetB M 0 _ _ _ rfl rfl hx rfl hy (by decide +kernel) 0 (by first | rfl | omega) (by first | assumption | omega | (simp; omega)) ?_; clear hx hy M; intro w1 M; simp only [setC] at M)) | ((with_reducible refine tGuard ?_); first | refine gdS ?_ | (refine gdC ?_ ?_ <;> (intro hgd; rw [hgd]; try (exfalso; simp at hgd; omega)))) | ((with_reducible refine tConv _ 70 9 ?_); go_must (refine cvB ?_)) | ((with_reducible refine tLoad ?_); go_must (refine ldB ?_)) | ((with_reducible refine tStore ?_); go_must (refine stB ?_; clear M; intro w1 M; (try simp only [setC] at M))) | ((with_reducible refine tBox _ ?_); (refine bxA M ?_; clear M; intro g w1 M))) <;> (try conv => arg 5; simp only [Act.put, List.setIfInBounds_toArray, setC]))
                    rw [nth_at d 0 (by omega)] at M
                    rw [show ((n / 8 : Nat) : Int) = (n : Int) / 8 by omega]
                    have hT : (d.set 0 (nth d 0 ^^^ p)).length = 4 := by rw [List.length_set]; exact hd
                    have ET := E5.out
                    rw [E4.out ()] at ET
                    replace ET := Lib.hid fun _ : Unit => ET
                    obtain ⟨u, eu⟩ : ∃ u, u = d.set 0 (nth d 0 ^^^ p) := ⟨_, rfl⟩
                    rw [← eu] at ET
                    rw [← eu] at M hT
                    clear eu
                    have hl4 : u.length = 4 := hT
                    go_loopw [12] (fun kv wr => ∃ k : Nat, k ≤ 4 ∧ kv = .int .i64 k ∧ Mem [] w wr [.sl 1 (.slice (some ⟨g4, 0, none⟩) 4 4) 4 (bs (iterN (xorT t0) k u)), .sl 1 (.slice (some ⟨gq, oq, none⟩) (n + 8) c) (n + 8) vs, rowsC vs ls, .row gk (bs key)]) (fun kv _ => 4 - (intOf kv).toNat)
                    case atStart => exact ⟨0, by omega, rfl, M⟩
                    case round =>
                      clear M
                      obtain ⟨k, hk4, rfl, M⟩ := hrel
                      obtain ⟨d, ed⟩ : ∃ d, d = iterN (xorT t0) k u := ⟨_, rfl⟩
                      have hd : d.length = 4 := by rw [ed, iterN_len _ (xorT_len t0)]; exact hl4
                      rw [← ed] at M
                      have ED := Lib.hid fun _ : Unit => ed
                      clear ed
                      by_cases hlt4 : k < 4
                      · go_wp2_with ((first | ((with_reducible show Code.wp _ (Code.region 27 _ _) _ _ _); go_must (refine region_det [(0, false), (1, false), (2, false), (3, false), (4, false), (6, false), (7, false), (8, false), (9, false), (11, false), (5, false), (10, false), (12, false), (13, false), (14, false), (15, false), (16, true)] [(118, .int), (116, .int), (124, .int)] (by kernel_rfl) (by kernel_rfl) rfl (by kernel_rfl) ?_; replace M := M.drew; simp only [reord, opAt, List.map_cons, List.map_nil, List.getElem?_toArray, List.getElem?_cons_zero, List.getElem?_cons_succ, Option.getD_some])) | ((with_reducible refine tLoad ?_); go_must (refine w_at _ _ rfl (by exact ev_tmp rfl) ?_; intro hx; (first | refine w_slB M 0 _ _ rfl rfl hx rfl (by decide +kernel) k (by first | rfl | omega) (by first | assumption | omega | (simp; omega)) ?_ | refine w_seenC (Own.sees (M.ok 1 _ rfl)) _ _ rfl hx rfl (by decide +kernel) n (by first | rfl | omega) hu0'.out ?_ | refine w_seenB ((M.ok 2 _ rfl).2.1.2 _ _ _ hu0'.out hl0'.out) _ _ rfl hx rfl (by decide +kernel) k (by first | rfl | omega) (by first | assumption | omega | (simp; omega)) ?_); clear hx)) | ((with_reducible refine tStore ?_); go_must (refine w_at2 _ _ _ rfl (by first | exact ev_tmp rfl | exact ev_const) (by first | exact ev_tmp rfl | exact ev_const) ?_; intro hx hy; refine w_slSetB M 0 _ _ _ rfl rfl hx rfl hy (by decide +kernel) k (by first | rfl | omega) (by first | assumption | omega | (simp; omega)) ?_; clear hx hy M; intro w1 M; simp only [setC] at M)) | ((with_reducible show Seg _ _ _ _); go_must (first | refine Seg.intro ⟨fun h => absurd rfl h, ?_⟩ | refine Seg.intro ⟨fun _ => ixA, ?_⟩ | refine Seg.intro ⟨ndA, atA, ?_⟩)) | ((with_reducible show OnlyN _ _ _ _ _); refine OnlyN.intro (by kernel_rfl) ?_) | ((with_reducible refine tGuard ?_); first | refine gdS ?_ | (refine gdC ?_ ?_ <;> (intro hgd; rw [hgd]; try (exfalso; simp at hgd; omega)))) | ((with_reducible refine tConv _ 70 9 ?_); go_must (refine cvB ?_)) | ((with_reducible refine tLoad ?_); go_must (refine ldB ?_)) | ((with_reducible refine tStore ?_); go_must (refine stB ?_; clear M; intro w1 M; (try simp only [setC] at M))) | ((with_reducible refine tBox _ ?_); (refine bxA M ?_; clear M; intro g w1 M))) <;> (try conv => arg 5; simp only [Act.put, List.setIfInBounds_toArray, setC]))
                        rw [nth_at d k (by omega), nth_at t0 k (by omega)] at M
                        go_roundw
                        case rel => exact ⟨k + 1, by omega, by go_num, by rw [iterN_succ, ← ED.out ()]; exact M⟩
                        case measure => simp [intOf]; omega
                      · obtain rfl : k = 4 := by omega
                        go_wp2_with ((first | ((with_reducible show wpList _ _ _ (Oper.mk _ (Op.buildSlice _ 1 _) _ _ _ _ :: _) _ _); go_must (refine w_buildSlice1 M rowsT (by decide) _ rfl rfl (by first | exact ev_tmp rfl | exact ev_const) _ rfl rfl ?_; clear M; intro g w1 M)) | ((with_reducible refine tApp ?_); go_must (refine w_append_new M 1 rowsT _ _ rfl rfl rfl rfl rfl rfl (by intro q hq; simp at hq; subst hq; rfl) (by decide) (by simp only [maxLen]; omega) (by omega) ?_; clear M; intro q2 c2 w1 M; simp only [setC] at M)) | ((with_reducible refine tGuard ?_); first | refine gdS ?_ | (refine gdC ?_ ?_ <;> (intro hgd; rw [hgd]; try (exfalso; simp at hgd; omega)))) | ((with_reducible refine tConv _ 70 9 ?_); go_must (refine cvB ?_)) | ((with_reducible refine tLoad ?_); go_must (refine ldB ?_)) | ((with_reducible refine tStore ?_); go_must (refine stB ?_; clear M; intro w1 M; (try simp only [setC] at M))) | ((with_reducible refine tBox _ ?_); (refine bxA M ?_; clear M; intro g w1 M))) <;> (try conv => arg 5; simp only [Act.put, List.setIfInBounds_toArray, setC]))
                        have SD : SeesB _ (.slice (some ⟨g4, 0, none⟩) 4 4) d := sees_of (M.ok 0 _ rfl) hd.symm
                        replace M := M.rowIn SD (fun k hk => by cases hk; simp [Chunk.fp, Value.ownBlock])
                        go_roundw
                        case rel => exact ⟨n + 1, q2, c2, _, by omega, by rw [show n + 1 + 8 = n + 8 + 1 by omega], by go_num, by
                          rw [E.out (), ET.out (), ← ED.out (), show n + 1 + 8 = n + 8 + 1 by omega]; exact M⟩
                        case measure => simp [intOf]; omega
          by_cases h4 : n % 8 = 4
          · skip
            rw [if_neg (by omega)] at E2 E4
            rw [if_pos (.inr h4), E2] at E3
            replace E3 := Lib.hid E3
            replace E4 := Lib.hid E4
            replace E5 := Lib.hid E5
            clear E2
            have h8' : ((n : Int) + 8) % 8 = 4 := by omega
            go_wp2_with ((first | ((with_reducible show wpList _ _ _ (Oper.mk _ (Op.buildSlice _ 0 _) _ _ _ _ :: _) _ _); go_must (refine w_build0 M bytesT rfl rfl ?_; clear M; intro g9 w1 M)) | ((with_reducible refine tLoad ?_); go_must (refine w_at _ _ rfl (by exact ev_tmp rfl) ?_; intro hx; (first | refine w_seenC (Own.sees (M.ok 1 _ rfl)) _ _ rfl hx rfl (by decide +kernel) (n + 7) (by first | rfl | omega) hu7'.out ?_); clear hx)) | (((with_reducible refine tApp ?_); go_must (refine w_append M 0 bytesT _ _ _ rfl (.inr ⟨_, Tryz.underlying70⟩) rfl rfl rfl rfl 4 (bs t1) (srcB ((M.ok 2 _ rfl).2.1.2 _ _ _ hu7'.out hl7'.out) hw7) (by simp only [maxLen]; omega) (by omega) ?_; clear M; intro p9 ct w1 M; simp only [setC, List.nil_append, Nat.zero_add] at M)); obtain ⟨gt, ot, rfl⟩ := own_addr (M.ok 0 _ rfl) (by decide)) | ((with_reducible refine tGuard ?_); first | refine gdS ?_ | (refine gdC ?_ ?_ <;> (intro hgd; rw [hgd]; try (exfalso; simp at hgd; omega)))) | ((with_reducible refine tConv _ 70 9 ?_); go_must (refine cvB ?_)) | ((with_reducible refine tLoad ?_); go_must (refine ldB ?_)) | ((with_reducible refine tStore ?_); go_must (refine stB ?_; clear M; intro w1 M; (try simp only [setC] at M))) | ((with_reducible refine tBox _ ?_); (refine bxA M ?_; clear M; intro g w1 M))) <;> (try conv => arg 5; simp only [Act.put, List.setIfInBounds_toArray, setC]))
            have hl2 := hw7
            go_loopw [9] (fun kv wr => ∃ k : Nat, k ≤ 4 ∧ kv = .int .i64 k ∧ Mem [] w wr [.sl 1 (.slice (some ⟨gt, ot, none⟩) 4 ct) 4 (bs (iterN (subT s) k t1)), .sl 1 (.slice (some ⟨gq, oq, none⟩) (n + 8) c) (n + 8) vs, rowsC vs ls, .row gk (bs key)]) (fun kv _ => 4 - (intOf kv).toNat)
            case atStart => exact ⟨0, by omega, rfl, M⟩
            case round =>
              clear M
              obtain ⟨k, hk4, rfl, M⟩ := hrel
              obtain ⟨d, ed⟩ : ∃ d, d = iterN (subT s) k t1 := ⟨_, rfl⟩
              have hd : d.length = 4 := by rw [ed, subT4_len]; exact hl2
              rw [← ed] at M
              have ED := Lib.hid fun _ : Unit => ed
              clear ed
              by_cases hlt4 : k < 4
              · obtain ⟨q, eq⟩ : ∃ q, q = nth d k := ⟨_, rfl⟩
                have hq0 := (I8_bd q).1
                have hq1 := (I8_bd q).2
                have hq2 := I8_toNat q
                have hq3 := q.toNat_lt
                have hq4 : q.toNat < 256 := hq3
                have hd1 : d.getD k 0 = q := eq.symm
                have hd2 : d[k]?.getD 0 = q := by rw [nth_at', eq]
                have hd3 : d[k] = q := by rw [nth_at, eq]
                have EQ := Lib.hid fun _ : Unit => eq
                clear eq hq3
                go_wp2_with ((first | ((with_reducible refine tLoad ?_); go_must (refine w_at _ _ rfl (by exact ev_tmp rfl) ?_; intro hx; (first | refine w_slB M 0 _ _ rfl rfl hx rfl (by decide +kernel) k (by first | rfl | omega) (by first | assumption | omega | (simp; omega)) ?_ | refine w_seenB (seesB_stay S M.kept.size fun j hj => M.kept.block j (seesB_lt S j hj) (by simp)) _ _ rfl hx rfl (by decide +kernel) q.toNat (by first | rfl | omega) (by first | assumption | omega | (simp; omega)) ?_); clear hx)) | ((with_reducible refine tStore ?_); go_must (refine w_at2 _ _ _ rfl (by first | exact ev_tmp rfl | exact ev_const) (by first | exact ev_tmp rfl | exact ev_const) ?_; intro hx hy; refine w_slSetB M 0 _ _ _ rfl rfl hx rfl hy (by decide +kernel) k (by first | rfl | omega) (by first | assumption | omega | (simp; omega)) ?_; clear hx hy M; intro w1 M; simp only [setC] at M)) | ((with_reducible refine tGuard ?_); first | refine gdS ?_ | (refine gdC ?_ ?_ <;> (intro hgd; rw [hgd]; try (exfalso; simp at hgd; omega)))) | ((with_reducible refine tConv _ 70 9 ?_); go_must (refine cvB ?_)) | ((with_reducible refine tLoad ?_); go_must (refine ldB ?_)) | ((with_reducible refine tStore ?_); go_must (refine stB ?_; clear M; intro w1 M; (try simp only [setC] at M))) | ((with_reducible refine tBox _ ?_); (refine bxA M ?_; clear M; intro g w1 M))) <;> (try conv => arg 5; simp only [Act.put, List.setIfInBounds_toArray, setC]))
                go_roundw
                case rel => exact ⟨k + 1, by omega, by go_num, by rw [iterN_succ, ← ED.out ()]; unfold subT; rw [← EQ.out ()]; exact M⟩
                case measure => simp [intOf]; omega
              · obtain rfl : k = 4 := by omega
                have ET := E5.out
                rw [E4.out, E3.out] at ET
                replace ET := Lib.hid fun _ : Unit => ET
                have hT := hd
                rw [← ED.out ()] at ET
                go_wp2_with ((first | ((with_reducible refine tGuard ?_); first | refine gdS ?_ | (refine gdC ?_ ?_ <;> (intro hgd; rw [hgd]; try (exfalso; simp at hgd; omega)))) | ((with_reducible refine tConv _ 70 9 ?_); go_must (refine cvB ?_)) | ((with_reducible refine tLoad ?_); go_must (refine ldB ?_)) | ((with_reducible refine tStore ?_); go_must (refine stB ?_; clear M; intro w1 M; (try simp only [setC] at M))) | ((with_reducible refine tBox _ ?_); (refine bxA M ?_; clear M; intro g w1 M))) <;> (try conv => arg 5; simp only [Act.put, List.setIfInBounds_toArray, setC]))
                rw [show ((4 : Nat) : Int) = 4 from rfl]
                have hl4 : d.length = 4 := hT
                go_loopw [12] (fun kv wr => ∃ k : Nat, k ≤ 4 ∧ kv = .int .i64 k ∧ Mem [] w wr [.sl 1 (.slice (some ⟨gt, ot, none⟩) 4 ct) 4 (bs (iterN (xorT t0) k d)), .sl 1 (.slice (some ⟨gq, oq, none⟩) (n + 8) c) (n + 8) vs, rowsC vs ls, .row gk (bs key)]) (fun kv _ => 4 - (intOf kv).toNat)
                case atStart => exact ⟨0, by omega, rfl, M⟩
                case round =>
                  clear M
                  obtain ⟨k, hk4, rfl, M⟩ := hrel
                  obtain ⟨d, ed⟩ : ∃ d', d' = iterN (xorT t0) k d := ⟨_, rfl⟩
                  have hd : d.length = 4 := by rw [ed, iterN_len _ (xorT_len t0)]; exact hl4
                  rw [← ed] at M
                  have ED := Lib.hid fun _ : Unit => ed
                  clear ed
                  by_cases hlt4 : k < 4
                  · go_wp2_with ((first | ((with_reducible show Code.wp _ (Code.region 27 _ _) _ _ _); go_must (refine region_det [(0, false), (1, false), (2, false), (3, false), (4, false), (6, false), (7, false), (8, false), (9, false), (11, false), (5, false), (10, false), (12, false), (13, false), (14, false), (15, false), (16, true)] [(118, .int), (116, .int), (124, .int)] (by kernel_rfl) (by kernel_rfl) rfl (by kernel_rfl) ?_; replace M := M.drew; simp only [reord, opAt, List.map_cons, List.map_nil, List.getElem?_toArray, List.getElem?_cons_zero, List.getElem?_cons_succ, Option.getD_some])) | ((with_reducible refine tLoad ?_); go_must (refine w_at _ _ rfl (by exact ev_tmp rfl) ?_; intro hx; (first | refine w_slB M 0 _ _ rfl rfl hx rfl (by decide +kernel) k (by first | rfl | omega) (by first | assumption | omega | (simp; omega)) ?_ | refine w_seenC (Own.sees (M.ok 1 _ rfl)) _ _ rfl hx rfl (by decide +kernel) n (by first | rfl | omega) hu0'.out ?_ | refine w_seenB ((M.ok 2 _ rfl).2.1.2 _ _ _ hu0'.out hl0'.out) _ _ rfl hx rfl (by decide +kernel) k (by first | rfl | omega) (by first | assumption | omega | (simp; omega)) ?_); clear hx)) | ((with_reducible refine tStore ?_); go_must (refine w_at2 _ _ _ rfl (by first | exact ev_tmp rfl | exact ev_const) (by first | exact ev_tmp rfl | exact ev_const) ?_; intro hx hy; refine w_slSetB M 0 _ _ _ rfl rfl hx rfl hy (by decide +kernel) k (by first | rfl | omega) (by first | assumption | omega | (simp; omega)) ?_; clear hx hy M; intro w1 M; simp only [setC] at M)) | ((with_reducible show Seg _ _ _ _); go_must (first | refine Seg.intro ⟨fun h => absurd rfl h, ?_⟩ | refine Seg.intro ⟨fun _ => ixA, ?_⟩ | refine Seg.intro ⟨ndA, atA, ?_⟩)) | ((with_reducible show OnlyN _ _ _ _ _); refine OnlyN.intro (by kernel_rfl) ?_) | ((with_reducible refine tGuard ?_); first | refine gdS ?_ | (refine gdC ?_ ?_ <;> (intro hgd; rw [hgd]; try (exfalso; simp at hgd; omega)))) | ((with_reducible refine tConv _ 70 9 ?_); go_must (refine cvB ?_)) | ((with_reducible refine tLoad ?_); go_must (refine ldB ?_)) | ((with_reducible refine tStore ?_); go_must (refine stB ?_; clear M; intro w1 M; (try simp only [setC] at M))) | ((with_reducible refine tBox _ ?_); (refine bxA M ?_; clear M; intro g w1 M))) <;> (try conv => arg 5; simp only [Act.put, List.setIfInBounds_toArray, setC]))
                    rw [nth_at d k (by omega), nth_at t0 k (by omega)] at M
                    go_roundw
                    case rel => exact ⟨k + 1, by omega, by go_num, by rw [iterN_succ, ← ED.out ()]; exact M⟩
                    case measure => simp [intOf]; omega
                  · obtain rfl : k = 4 := by omega
                    go_wp2_with ((first | ((with_reducible show wpList _ _ _ (Oper.mk _ (Op.buildSlice _ 1 _) _ _ _ _ :: _) _ _); go_must (refine w_buildSlice1 M rowsT (by decide) _ rfl rfl (by first | exact ev_tmp rfl | exact ev_const) _ rfl rfl ?_; clear M; intro g w1 M)) | ((with_reducible refine tApp ?_); go_must (refine w_append_new M 1 rowsT _ _ rfl rfl rfl rfl rfl rfl (by intro q hq; simp at hq; subst hq; rfl) (by decide) (by simp only [maxLen]; omega) (by omega) ?_; clear M; intro q2 c2 w1 M; simp only [setC] at M)) | ((with_reducible refine tGuard ?_); first | refine gdS ?_ | (refine gdC ?_ ?_ <;> (intro hgd; rw [hgd]; try (exfalso; simp at hgd; omega)))) | ((with_reducible refine tConv _ 70 9 ?_); go_must (refine cvB ?_)) | ((with_reducible refine tLoad ?_); go_must (refine ldB ?_)) | ((with_reducible refine tStore ?_); go_must (refine stB ?_; clear M; intro w1 M; (try simp only [setC] at M))) | ((with_reducible refine tBox _ ?_); (refine bxA M ?_; clear M; intro g w1 M))) <;> (try conv => arg 5; simp only [Act.put, List.setIfInBounds_toArray, setC]))
                    have SD : SeesB _ (.slice (some ⟨gt, ot, none⟩) 4 ct) d := sees_of (M.ok 0 _ rfl) hd.symm
                    replace M := M.rowIn SD (fun k hk => by cases hk; simp [Chunk.fp, Value.ownBlock])
                    go_roundw
                    case rel => exact ⟨n + 1, q2, c2, _, by omega, by rw [show n + 1 + 8 = n + 8 + 1 by omega], by go_num, by
                      rw [E.out (), ET.out (), ← ED.out (), show n + 1 + 8 = n + 8 + 1 by omega]; exact M⟩
                    case measure => simp [intOf]; omega
          · skip
            rw [if_neg (by omega)] at E2 E4
            rw [if_neg (by omega), E2] at E3
            have ET := E5
            rw [E4, E3] at ET
            replace ET := Lib.hid fun _ : Unit => ET
            clear E2 E3 E4 E5
            have h8' : ¬ ((n : Int) + 8) % 8 = 0 := by omega
            have h84 : ¬ ((n : Int) + 8) % 8 = 4 := by omega
            have hT := hw7
            go_wp2_with ((first | ((with_reducible show wpList _ _ _ (Oper.mk _ (Op.buildSlice _ 0 _) _ _ _ _ :: _) _ _); go_must (refine w_build0 M bytesT rfl rfl ?_; clear M; intro g9 w1 M)) | ((with_reducible refine tLoad ?_); go_must (refine w_at _ _ rfl (by exact ev_tmp rfl) ?_; intro hx; (first | refine w_seenC (Own.sees (M.ok 1 _ rfl)) _ _ rfl hx rfl (by decide +kernel) (n + 7) (by first | rfl | omega) hu7'.out ?_); clear hx)) | (((with_reducible refine tApp ?_); go_must (refine w_append M 0 bytesT _ _ _ rfl (.inr ⟨_, Tryz.underlying70⟩) rfl rfl rfl rfl 4 (bs t1) (srcB ((M.ok 2 _ rfl).2.1.2 _ _ _ hu7'.out hl7'.out) hw7) (by simp only [maxLen]; omega) (by omega) ?_; clear M; intro p9 ct w1 M; simp only [setC, List.nil_append, Nat.zero_add] at M)); obtain ⟨gt, ot, rfl⟩ := own_addr (M.ok 0 _ rfl) (by decide)) | ((with_reducible refine tGuard ?_); first | refine gdS ?_ | (refine gdC ?_ ?_ <;> (intro hgd; rw [hgd]; try (exfalso; simp at hgd; omega)))) | ((with_reducible refine tConv _ 70 9 ?_); go_must (refine cvB ?_)) | ((with_reducible refine tLoad ?_); go_must (refine ldB ?_)) | ((with_reducible refine tStore ?_); go_must (refine stB ?_; clear M; intro w1 M; (try simp only [setC] at M))) | ((with_reducible refine tBox _ ?_); (refine bxA M ?_; clear M; intro g w1 M))) <;> (try conv => arg 5; simp only [Act.put, List.setIfInBounds_toArray, setC]))
            have hl4 : t1.length = 4 := hT
            go_loopw [12] (fun kv wr => ∃ k : Nat, k ≤ 4 ∧ kv = .int .i64 k ∧ Mem [] w wr [.sl 1 (.slice (some ⟨gt, ot, none⟩) 4 ct) 4 (bs (iterN (xorT t0) k t1)), .sl 1 (.slice (some ⟨gq, oq, none⟩) (n + 8) c) (n + 8) vs, rowsC vs ls, .row gk (bs key)]) (fun kv _ => 4 - (intOf kv).toNat)
            case atStart => exact ⟨0, by omega, rfl, M⟩
            case round =>
              clear M
              obtain ⟨k, hk4, rfl, M⟩ := hrel
              obtain ⟨d, ed⟩ : ∃ d, d = iterN (xorT t0) k t1 := ⟨_, rfl⟩
              have hd : d.length = 4 := by rw [ed, iterN_len _ (xorT_len t0)]; exact hl4
              rw [← ed] at M
              have ED := Lib.hid fun _ : Unit => ed
              clear ed
              by_cases hlt4 : k < 4
              · go_wp2_with ((first | ((with_reducible show Code.wp _ (Code.region 27 _ _) _ _ _); go_must (refine region_det [(0, false), (1, false), (2, false), (3, false), (4, false), (6, false), (7, false), (8, false), (9, false), (11, false), (5, false), (10, false), (12, false), (13, false), (14, false), (15, false), (16, true)] [(118, .int), (116, .int), (124, .int)] (by kernel_rfl) (by kernel_rfl) rfl (by kernel_rfl) ?_; replace M := M.drew; simp only [reord, opAt, List.map_cons, List.map_nil, List.getElem?_toArray, List.getElem?_cons_zero, List.getElem?_cons_succ, Option.getD_some])) | ((with_reducible refine tLoad ?_); go_must (refine w_at _ _ rfl (by exact ev_tmp rfl) ?_; intro hx; (first | refine w_slB M 0 _ _ rfl rfl hx rfl (by decide +kernel) k (by first | rfl | omega) (by first | assumption | omega | (simp; omega)) ?_ | refine w_seenC (Own.sees (M.ok 1 _ rfl)) _ _ rfl hx rfl (by decide +kernel) n (by first | rfl | omega) hu0'.out ?_ | refine w_seenB ((M.ok 2 _ rfl).2.1.2 _ _ _ hu0'.out hl0'.out) _ _ rfl hx rfl (by decide +kernel) k (by first | rfl | omega) (by first | assumption | omega | (simp; omega)) ?_); clear hx)) | ((with_reducible refine tStore ?_); go_must (refine w_at2 _ _ _ rfl (by first | exact ev_tmp rfl | exact ev_const) (by first | exact ev_tmp rfl | exact ev_const) ?_; intro hx hy; refine w_slSetB M 0 _ _ _ rfl rfl hx rfl hy (by decide +kernel) k (by first | rfl | omega) (by first | assumption | omega | (simp; omega)) ?_; clear hx hy M; intro w1 M; simp only [setC] at M)) | ((with_reducible show Seg _ _ _ _); go_must (first | refine Seg.intro ⟨fun h => absurd rfl h, ?_⟩ | refine Seg.intro ⟨fun _ => ixA, ?_⟩ | refine Seg.intro ⟨ndA, atA, ?_⟩)) | ((with_reducible show OnlyN _ _ _ _ _); refine OnlyN.intro (by kernel_rfl) ?_) | ((with_reducible refine tGuard ?_); first | refine gdS ?_ | (refine gdC ?_ ?_ <;> (intro hgd; rw [hgd]; try (exfalso; simp at hgd; omega)))) | ((with_reducible refine tConv _ 70 9 ?_); go_must (refine cvB ?_)) | ((with_reducible refine tLoad ?_); go_must (refine ldB ?_)) | ((with_reducible refine tStore ?_); go_must (refine stB ?_; clear M; intro w1 M; (try simp only [setC] at M))) | ((with_reducible refine tBox _ ?_); (refine bxA M ?_; clear M; intro g w1 M))) <;> (try conv => arg 5; simp only [Act.put, List.setIfInBounds_toArray, setC]))
                rw [nth_at d k (by omega), nth_at t0 k (by omega)] at M
                go_roundw
                case rel => exact ⟨k + 1, by omega, by go_num, by rw [iterN_succ, ← ED.out ()]; exact M⟩
                case measure => simp [intOf]; omega
              · obtain rfl : k = 4 := by omega
                go_wp2_with ((first | ((with_reducible show wpList _ _ _ (Oper.mk _ (Op.buildSlice _ 1 _) _ _ _ _ :: _) _ _); go_must (refine w_buildSlice1 M rowsT (by decide) _ rfl rfl (by first | exact ev_tmp rfl | exact ev_const) _ rfl rfl ?_; clear M; intro g w1 M)) | ((with_reducible refine tApp ?_); go_must (refine w_append_new M 1 rowsT _ _ rfl rfl rfl rfl rfl rfl (by intro q hq; simp at hq; subst hq; rfl) (by decide) (by simp only [maxLen]; omega) (by omega) ?_; clear M; intro q2 c2 w1 M; simp only [setC] at M)) | ((with_reducible refine tGuard ?_); first | refine gdS ?_ | (refine gdC ?_ ?_ <;> (intro hgd; rw [hgd]; try (exfalso; simp at hgd; omega)))) | ((with_reducible refine tConv _ 70 9 ?_); go_must (refine cvB ?_)) | ((with_reducible refine tLoad ?_); go_must (refine ldB ?_)) | ((with_reducible refine tStore ?_); go_must (refine stB ?_; clear M; intro w1 M; (try simp only [setC] at M))) | ((with_reducible refine tBox _ ?_); (refine bxA M ?_; clear M; intro g w1 M))) <;> (try conv => arg 5; simp only [Act.put, List.setIfInBounds_toArray, setC]))
                have SD : SeesB _ (.slice (some ⟨gt, ot, none⟩) 4 ct) d := sees_of (M.ok 0 _ rfl) hd.symm
                replace M := M.rowIn SD (fun k hk => by cases hk; simp [Chunk.fp, Value.ownBlock])
                go_roundw
                case rel => exact ⟨n + 1, q2, c2, _, by omega, by rw [show n + 1 + 8 = n + 8 + 1 by omega], by go_num, by
                  rw [E.out (), ET.out (), ← ED.out (), show n + 1 + 8 = n + 8 + 1 by omega]; exact M⟩
                case measure => simp [intOf]; omega
        · obtain rfl : n = 52 := by omega
          obtain ⟨gq, oq, rfl⟩ := own_addr (M.ok 0 _ rfl) (by omega)
          go_wp2_with fail
          go_ret
          exact ⟨_, c, vs, rfl, M.pick _ id (fun _ _ _ _ h => h) (fun i x h => by
            match i with
            | 0 => simpa using h
            | 1 => simpa using h
            | i + 2 => simp at h)⟩
end Go.Proofs.YtidadhbaomieiaaGreat
