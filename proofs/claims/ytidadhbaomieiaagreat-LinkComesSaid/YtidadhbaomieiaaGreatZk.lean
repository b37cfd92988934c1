/- Texts of this seat, put together: RefA2, RefA3, RefA4, NonceL, Ref05S. Each begins with a remark that says what is proved in it, and under which conditions. -/
import Derived.Test.YtidadhbaomieiaaGreatY
import Derived.Test.YtidadhbaomieiaaGreatZh
import Derived.Test.YtidadhbaomieiaaGreatZi
import Derived.Test.YtidadhbaomieiaaGreatZj
set_option maxRecDepth 100000
set_option maxHeartbeats 16000000
namespace Go
namespace TL
theorem rsch_zero (s key : List UInt8) : rsch s key 0 = key8 key 8 := rfl
theorem srcB {P : Program} {w : World} {v : Value} {l : List UInt8} {n : Nat} (S : SeesB w v l) (h : l.length = n) : Src P w 1 v n (bs l) := by subst h; exact qBg S (qEL l)
theorem Mem.drop1 {F : List Nat} {w0 w : World} {c d : Chunk} {L : List Chunk} (M : Mem F w0 w (c :: d :: L)) : Mem F w0 w (c :: L) :=
 M.pick _ (fun i => if i = 0 then 0 else i + 1) (fun i j _ _ h => by by_cases e : i = 0 <;> by_cases e2 : j = 0 <;> simp [e, e2] at h ⊢ <;> omega) (fun i x h => by cases i with | zero => simpa using h | succ i => simpa using h)
end TL
end Go
namespace Go.Proofs.YtidadhbaomieiaaGreat
open Go.RowKit Go.TL
theorem rowsT : SliceT Tryz.prog 229 70 1 24 := ⟨Tryz.underlying229, ⟨_, _, rfl, rfl, rfl, rfl, rfl⟩, by omega⟩
theorem rsched_c (key s : List UInt8) (sv : Value) (w : World) (hk : key.length = 32) (hs : s.length = 256) (S : SeesB w sv s) :
  Calls Tryz.prog 146 #[.agg (bs key).toArray, sv] w fun e w' => ∃ p c vs, e = .returned (.slice p 60 c) ∧ Mem [] w w' [.sl 1 (.slice p 60 c) 60 vs, rowsC vs (rsch s key 52)] := by
 obtain ⟨gs, so, cs, rfl⟩ := qBw S yF
 rw [hs]
 rw [hs] at S
 have M := Mem.start [] w
 go_enter Tryz.func146, Tryz.ntmps146
 go_wp2_with (first | ((with_reducible show wpList _ _ _ (Oper.mk _ (Op.box _ _) _ _ _ _ :: _) _ _); refine w_box M _ _ rfl rfl _ rfl (bs key) rfl ?_; clear M; intro gk w1 M; replace M := M.rows0.nil 1))
 go_loopw [5, 6] (fun lv iv wr => ∃ (k : Nat) (q : Option Addr) (c : Nat) (vs : List Value), k ≤ 8 ∧ lv = .slice q k c ∧ iv = .int .i64 k ∧ Mem [] w wr [.sl 1 (.slice q k c) k vs, rowsC vs (key8 key k), .row gk (bs key)]) (fun _ iv _ => 8 - (intOf iv).toNat)
 case atStart => exact ⟨0, none, 0, [], by omega, rfl, rfl, M⟩
 case round =>
  clear M
  obtain ⟨k, q, c, vs, hk8, rfl, rfl, M⟩ := hrel
  by_cases hlt : k < 8
  ·have E := Lib.hid fun _ : Unit => key8_succ key k
   obtain ⟨ls, el⟩ : ∃ ls, ls = key8 key k := ⟨_, rfl⟩
   rw [← el] at M E
   clear el
   go_wp2_with ((first | ((with_reducible show Code.wp _ (Code.region 5 _ _) _ _ _); (refine qAF [(0, false), (1, false), (2, false), (3, false), (5, false), (6, false), (7, false), (8, false), (10, false), (11, false), (12, false), (13, false), (15, false), (16, false), (17, false), (18, false), (4, false), (9, false), (14, false), (19, false), (20, true), (21, true), (22, true), (23, false)] [(18, .int), (22, .int), (23, .int), (27, .int), (28, .int), (32, .int), (33, .int)] yD yD rfl yD ?_; replace M := M.drew; simp only [reord, opAt, List.map_cons, List.map_nil, gE])) | ((with_reducible show wpList _ _ _ (Oper.mk _ (Op.buildSlice _ 4 _) _ _ _ _ :: _) _ _); (refine w_build4 M bytesT _ _ _ _ rfl rfl yE yE yE yE ?_; clear M; intro g4 w1 M)) | ((with_reducible show wpList _ _ _ (Oper.mk _ (Op.buildSlice _ 1 _) _ _ _ _ :: _) _ _); (refine qAV M rowsT yN _ rfl rfl yE _ rfl rfl ?_; clear M; intro g w1 M)) | ((with_reducible show wpList _ _ _ (Oper.mk _ (Op.call ⟨Callee.builtin Builtin.append, _, _⟩) _ _ _ _ :: _) _ _); (refine qAg M 1 rowsT _ _ rfl rfl rfl rfl rfl rfl (by intro q hq; simp at hq; subst hq; rfl) yN yZ yF ?_; clear M; intro q2 c2 w1 M; simp only [setC] at M; replace M := M.rowIn (v := .slice (some ⟨g4, 0, none⟩) 4 4) (Own.sees (M.ok 0 _ rfl)) (fun k hk => by cases hk; simp [Chunk.fp, Value.ownBlock]))) | ((with_reducible refine tM rfl ?_); refine mB ?_; try (clear M; (first | intro g w1 M | intro w1 M); try simp only [setC] at M)) | ((with_reducible first | show Seg _ _ _ _ | show OnlyN _ _ _ _ _); refine rA ?_) | ((with_reducible refine tGuard ?_); refine gdC ?_ ?_ <;> (intro hgd; rw [hgd]; try (exfalso; simp at hgd; omega)))) <;> (try conv => arg 5; simp only [Act.put, List.setIfInBounds_toArray, setC]))
   go_roundw
   case rel => exact ⟨k + 1, q2, c2, _, by omega, rfl, by go_num, by rw [E.out ()]; exact M⟩
   case measure => simp [intOf]; omega
  ·obtain rfl : k = 8 := by omega
   rw [← rsch_zero s key] at M
   go_wp2_with fail
   rw [show ((8 : Nat) : Int) = 8 from rfl]
   go_loopw [5, 7] (fun lv iv wr => ∃ (n : Nat) (q : Option Addr) (c : Nat) (vs : List Value), n ≤ 52 ∧ lv = .slice q (n + 8) c ∧ iv = .int .i64 ((n : Int) + 8) ∧ Mem [] w wr [.sl 1 (.slice q (n + 8) c) (n + 8) vs, rowsC vs (rsch s key n), .row gk (bs key)]) (fun _ iv _ => 60 - (intOf iv).toNat)
   case atStart => exact ⟨0, q, c, vs, by omega, rfl, rfl, M⟩
   case round =>
    clear M
    obtain ⟨n, q, c, vs, hn, rfl, rfl, M⟩ := hrel
    by_cases hlt : n < 52
    ·have hl := qEx s key n
     have hwl := wd_len s key n
     have E := qDw s key n
     obtain ⟨ls, el⟩ : ∃ ls, ls = rsch s key n := ⟨_, rfl⟩
     rw [← el] at M E hl hwl
     clear el
     have hw7 := hwl (n + 7) yF
     have hw0 := hwl n yF
     have hl7 : ls[n + 7]? = some (wd ls (n + 7)) := by unfold wd; rw [List.getD_eq_getElem?_getD, List.getElem?_eq_getElem yF]; rfl
     have hl0 : ls[n]? = some (wd ls n) := by unfold wd; rw [List.getD_eq_getElem?_getD, List.getElem?_eq_getElem yF]; rfl
     have hvl : vs.length = n + 8 := by have := (M.ok 0 _ rfl).1; omega
     have HI := (M.ok 1 _ rfl).2.1
     obtain ⟨u7, hu7⟩ : ∃ u, vs[n + 7]? = some u := ⟨_, List.getElem?_eq_getElem yF⟩
     obtain ⟨u0, hu0⟩ : ∃ u, vs[n]? = some u := ⟨_, List.getElem?_eq_getElem yF⟩
     obtain ⟨g7, o7, c7, rfl⟩ := qBw (HI.2 _ _ _ hu7 hl7) (by rw [hw7]; omega)
     obtain ⟨g0, o0, c0, rfl⟩ := qBw (HI.2 _ _ _ hu0 hl0) (by rw [hw0]; omega)
     obtain ⟨gq, oq, rfl⟩ := qBt (M.ok 0 _ rfl) yF
     rw [hw7] at hu7
     rw [hw0] at hu0
     have E2 : rw2 ls (n + 8) = if n % 8 = 0 then rotT (wd ls (n + 7)) else wd ls (n + 7) := by unfold rw2; simp
     have E3 : rw3 s ls (n + 8) = if n % 8 = 0 ∨ n % 8 = 4 then iterN (subT s) 4 (rw2 ls (n + 8)) else rw2 ls (n + 8) := by unfold rw3; simp
     have E4 : rw4 s ls (n + 8) = if n % 8 = 0 then (rw3 s ls (n + 8)).set 0 (nth (rw3 s ls (n + 8)) 0 ^^^ rpw (n / 8)) else rw3 s ls (n + 8) := by unfold rw4; simp
     have E5 : rw5 s ls (n + 8) = iterN (xorT (wd ls n)) 4 (rw4 s ls (n + 8)) := by unfold rw5; rw [Nat.add_sub_cancel]
     obtain ⟨t1, e1⟩ : ∃ t, t = wd ls (n + 7) := ⟨_, rfl⟩
     obtain ⟨t0, e0⟩ : ∃ t, t = wd ls n := ⟨_, rfl⟩
     rw [← e1] at E2 hl7 hw7
     rw [← e0] at E5 hl0 hw0
     clear e1 e0 hwl HI
     have hu7' := Lib.hid hu7
     have hu0' := Lib.hid hu0
     have hl7' := Lib.hid hl7
     have hl0' := Lib.hid hl0
     clear hu7 hu0 hl7 hl0
     replace E := Lib.hid fun _ : Unit => E
     by_cases h8 : n % 8 = 0
     ·skip
      rw [if_pos h8] at E2 E4
      rw [if_pos (.inl h8), E2] at E3
      replace E3 := Lib.hid E3
      replace E4 := Lib.hid E4
      replace E5 := Lib.hid E5
      clear E2
      have h8' : ((n : Int) + 8) % 8 = 0 := by omega
      go_wp2_with ((first | ((with_reducible show wpList _ _ _ (Oper.mk _ (Op.buildSlice _ 0 _) _ _ _ _ :: _) _ _); (refine qEq M bytesT rfl rfl ?_; clear M; intro g9 w1 M)) | ((with_reducible refine tLoad ?_); (refine w_at _ _ rfl yI ?_; intro hx; (first | refine qCq (Own.sees (M.ok 1 _ rfl)) _ _ rfl hx rfl yB (n + 7) yQ hu7'.out ?_ | refine w_slB M 0 _ _ rfl rfl hx rfl yB 0 yQ yK ?_ | refine w_slB M 0 _ _ rfl rfl hx rfl yB 1 yQ yK ?_ | refine w_slB M 0 _ _ rfl rfl hx rfl yB 2 yQ yK ?_ | refine w_slB M 0 _ _ rfl rfl hx rfl yB 3 yQ yK ?_); clear hx)) | (((with_reducible refine tApp ?_); (refine qCb M 0 bytesT _ _ _ rfl (.inr ⟨_, Tryz.underlying70⟩) rfl rfl rfl rfl 4 (bs t1) (srcB ((M.ok 2 _ rfl).2.1.2 _ _ _ hu7'.out hl7'.out) hw7) yZ yF ?_; clear M; intro p9 ct w1 M; simp only [setC, List.nil_append, Nat.zero_add] at M)); obtain ⟨gt, ot, rfl⟩ := qBt (M.ok 0 _ rfl) yN) | ((with_reducible show Code.wp _ (Code.region 11 _ _) _ _ _); (refine qAF [(0, false), (1, false), (3, false), (4, false), (6, false), (7, false), (9, false), (10, false), (2, false), (5, false), (8, false), (11, false), (12, true), (13, false)] [] yD yD rfl yD ?_; replace M := M.drew; simp only [reord, opAt, List.map_cons, List.map_nil, gE])) | ((with_reducible show wpList _ _ _ (Oper.mk _ (Op.buildSlice _ 4 _) _ _ _ _ :: _) _ _); (refine w_build4 M bytesT _ _ _ _ rfl rfl yE yE yE yE ?_; clear M; intro g4 w1 M; replace M := M.drop1)) | ((with_reducible refine tM rfl ?_); refine mB ?_; try (clear M; (first | intro g w1 M | intro w1 M); try simp only [setC] at M)) | ((with_reducible first | show Seg _ _ _ _ | show OnlyN _ _ _ _ _); refine rA ?_) | ((with_reducible refine tGuard ?_); refine gdC ?_ ?_ <;> (intro hgd; rw [hgd]; try (exfalso; simp at hgd; omega)))) <;> (try conv => arg 5; simp only [Act.put, List.setIfInBounds_toArray, setC]))
      have hl2 : (rotT t1).length = 4 := rfl
      have eR : [t1.getD 1 0, t1.getD 2 0, t1.getD 3 0, t1.getD 0 0] = rotT t1 := rfl
      rw [eR] at M
      obtain ⟨t2, e3⟩ : ∃ t, t = rotT t1 := ⟨_, rfl⟩
      rw [← e3] at M hl2 E3
      clear e3 eR
      go_loopw [9] (fun kv wr => ∃ k : Nat, k ≤ 4 ∧ kv = .int .i64 k ∧ Mem [] w wr [.sl 1 (.slice (some ⟨g4, 0, none⟩) 4 4) 4 (bs (iterN (subT s) k t2)), .sl 1 (.slice (some ⟨gq, oq, none⟩) (n + 8) c) (n + 8) vs, rowsC vs ls, .row gk (bs key)]) (fun kv _ => 4 - (intOf kv).toNat)
      case atStart => exact ⟨0, by omega, rfl, M⟩
      case round =>
       clear M
       obtain ⟨k, hk4, rfl, M⟩ := hrel
       obtain ⟨d, ed⟩ : ∃ d, d = iterN (subT s) k t2 := ⟨_, rfl⟩
       have hd : d.length = 4 := by rw [ed, qFL]; exact hl2
       rw [← ed] at M
       have ED := Lib.hid fun _ : Unit => ed
       clear ed
       by_cases hlt4 : k < 4
       ·obtain ⟨q, eq⟩ : ∃ q, q = nth d k := ⟨_, rfl⟩
        have hq0 := (I8_bd q).1
        have hq1 := (I8_bd q).2
        have hq2 := qCn q
        have hq3 := q.toNat_lt
        have hq4 : q.toNat < 256 := hq3
        have hd1 : d.getD k 0 = q := eq.symm
        have hd2 : d[k]?.getD 0 = q := by rw [qBd, eq]
        have hd3 : d[k] = q := by rw [qBZ, eq]
        have EQ := Lib.hid fun _ : Unit => eq
        clear eq hq3
        go_wp2_with ((first | ((with_reducible refine tLoad ?_); (refine w_at _ _ rfl yI ?_; intro hx; (first | refine w_slB M 0 _ _ rfl rfl hx rfl yB k yQ yK ?_ | refine qCr (qBv S M.kept.size fun j _ hj => M.kept.block j hj yB1) _ _ rfl hx rfl yB q.toNat yQ yK ?_); clear hx)) | ((with_reducible refine tStore ?_); (refine w_at2 _ _ _ rfl yE yE ?_; intro hx hy; refine qCH M 0 _ _ _ rfl rfl hx rfl hy yB k yQ yK ?_; clear hx hy M; intro w1 M; simp only [setC] at M)) | ((with_reducible refine tM rfl ?_); refine mB ?_; try (clear M; (first | intro g w1 M | intro w1 M); try simp only [setC] at M)) | ((with_reducible refine tGuard ?_); refine gdC ?_ ?_ <;> (intro hgd; rw [hgd]; try (exfalso; simp at hgd; omega)))) <;> (try conv => arg 5; simp only [Act.put, List.setIfInBounds_toArray, setC]))
        go_roundw
        case rel => exact ⟨k + 1, by omega, by go_num, by rw [qAY, ← ED.out ()]; unfold subT; rw [← EQ.out ()]; exact M⟩
        case measure => simp [intOf]; omega
       ·obtain rfl : k = 4 := by omega
        replace E3 := E3.out.trans (ED.out ()).symm
        replace E4 := E4.out
        rw [E3] at E4
        replace E4 := Lib.hid fun _ : Unit => E4
        clear E3 ED
        go_wp2_with ((first | ((with_reducible refine tLoad ?_); (refine w_at _ _ rfl yI ?_; intro hx; (first | refine w_slB M 0 _ _ rfl rfl hx rfl yB 0 yQ yK ?_); clear hx)) | ((with_reducible refine tStore ?_); (refine w_at2 _ _ _ rfl yE yE ?_; intro hx hy; refine qCH M 0 _ _ _ rfl rfl hx rfl hy yB 0 yQ yK ?_; clear hx hy M; intro w1 M; simp only [setC] at M)) | ((with_reducible refine tM rfl ?_); refine mB ?_; try (clear M; (first | intro g w1 M | intro w1 M); try simp only [setC] at M)) | ((with_reducible refine tGuard ?_); refine gdC ?_ ?_ <;> (intro hgd; rw [hgd]; try (exfalso; simp at hgd; omega)))) <;> (try conv => arg 5; simp only [Act.put, List.setIfInBounds_toArray, setC]))
        rw [show ((4 : Nat) : Int) = 4 from rfl, decide_eq_true (show (n : Int) + 8 < 60 by omega), show oq + (n + 8 - 1) = oq + (n + 7) by omega, Nat.zero_add, h8']
        clear h8'
        generalize t1.getD 1 0 = b1
        generalize t1.getD 2 0 = b2
        generalize t1.getD 3 0 = b3
        generalize t1.getD 0 0 = b0
        go_loopw [10, 11] (fun pv kv wr => ∃ k : Nat, k ≤ n / 8 ∧ pv = .int .u8 (I8 (rpw k)) ∧ kv = .int .i64 ((k : Int) + 1) ∧ Mem [] w wr [.sl 1 (.slice (some ⟨g4, 0, none⟩) 4 4) 4 (bs d), .sl 1 (.slice (some ⟨gq, oq, none⟩) (n + 8) c) (n + 8) vs, rowsC vs ls, .row gk (bs key)]) (fun _ kv _ => 60 - (intOf kv).toNat)
        case atStart => exact ⟨0, by omega, rfl, rfl, M⟩
        case round =>
         clear M
         obtain ⟨k, hkn, rfl, rfl, M⟩ := hrel
         by_cases hltp : k < n / 8
         ·have EP := Lib.hid fun _ : Unit => show rpw (k + 1) = timesL (rpw k) 2 from rfl
          obtain ⟨p, ep⟩ : ∃ p, p = rpw k := ⟨_, rfl⟩
          rw [← ep] at EP
          rw [← ep]
          clear ep
          go_wp2_with ((first | (go_at_call 174; (refine (times_c p 2 _).mono ?_; rintro e w1 ⟨rfl, rfl⟩)) | ((with_reducible refine tM rfl ?_); refine mB ?_; try (clear M; (first | intro g w1 M | intro w1 M); try simp only [setC] at M)) | ((with_reducible refine tGuard ?_); refine gdC ?_ ?_ <;> (intro hgd; rw [hgd]; try (exfalso; simp at hgd; omega)))) <;> (try conv => arg 5; simp only [Act.put, List.setIfInBounds_toArray, setC]))
          go_roundw
          case rel => exact ⟨k + 1, by omega, by rw [EP.out ()], by go_num, M⟩
          case measure => simp [intOf]; omega
         ·obtain rfl : k = n / 8 := by omega
          obtain ⟨p, ep⟩ : ∃ p, p = rpw (n / 8) := ⟨_, rfl⟩
          rw [← ep] at E4
          rw [← ep]
          clear ep
          go_wp2_with ((first | ((with_reducible refine tLoad ?_); (refine w_at _ _ rfl yI ?_; intro hx; (first | refine w_slB M 0 _ _ rfl rfl hx rfl yB 0 yQ yK ?_); clear hx)) | ((with_reducible refine tStore ?_); (refine w_at2 _ _ _ rfl yE yE ?_; intro hx hy; refine qCH M 0 _ _ _ rfl rfl hx rfl hy yB 0 yQ yK ?_; clear hx hy M; intro w1 M; simp only [setC] at M)) | ((with_reducible refine tM rfl ?_); refine mB ?_; try (clear M; (first | intro g w1 M | intro w1 M); try simp only [setC] at M)) | ((with_reducible refine tGuard ?_); refine gdC ?_ ?_ <;> (intro hgd; rw [hgd]; try (exfalso; simp at hgd; omega)))) <;> (try conv => arg 5; simp only [Act.put, List.setIfInBounds_toArray, setC]))
          rw [qBZ d 0 yF] at M
          rw [show ((n / 8 : Nat) : Int) = (n : Int) / 8 by omega]
          have hT : (d.set 0 (nth d 0 ^^^ p)).length = 4 := by rw [List.length_set]; exact hd
          have ET := E5.out
          rw [E4.out ()] at ET
          replace ET := Lib.hid fun _ : Unit => ET
          obtain ⟨u, eu⟩ : ∃ u, u = d.set 0 (nth d 0 ^^^ p) := ⟨_, rfl⟩
          rw [← eu] at ET
          rw [← eu] at M hT
          clear eu
          have hl4 : u.length = 4 := hT
          go_loopw [12] (fun kv wr => ∃ k : Nat, k ≤ 4 ∧ kv = .int .i64 k ∧ Mem [] w wr [.sl 1 (.slice (some ⟨g4, 0, none⟩) 4 4) 4 (bs (iterN (xorT t0) k u)), .sl 1 (.slice (some ⟨gq, oq, none⟩) (n + 8) c) (n + 8) vs, rowsC vs ls, .row gk (bs key)]) (fun kv _ => 4 - (intOf kv).toNat)
          case atStart => exact ⟨0, by omega, rfl, M⟩
          case round =>
           clear M
           obtain ⟨k, hk4, rfl, M⟩ := hrel
           obtain ⟨d, ed⟩ : ∃ d, d = iterN (xorT t0) k u := ⟨_, rfl⟩
           have hd : d.length = 4 := by rw [ed, qAb _ (qCZ t0)]; exact hl4
           rw [← ed] at M
           have ED := Lib.hid fun _ : Unit => ed
           clear ed
           by_cases hlt4 : k < 4
           ·go_wp2_with ((first | ((with_reducible show Code.wp _ (Code.region 27 _ _) _ _ _); (refine qAF [(0, false), (1, false), (2, false), (3, false), (4, false), (6, false), (7, false), (8, false), (9, false), (11, false), (5, false), (10, false), (12, false), (13, false), (14, false), (15, false), (16, true)] [(118, .int), (116, .int), (124, .int)] yD yD rfl yD ?_; replace M := M.drew; simp only [reord, opAt, List.map_cons, List.map_nil, gE])) | ((with_reducible refine tLoad ?_); (refine w_at _ _ rfl yI ?_; intro hx; (first | refine w_slB M 0 _ _ rfl rfl hx rfl yB k yQ yK ?_ | refine qCq (Own.sees (M.ok 1 _ rfl)) _ _ rfl hx rfl yB n yQ hu0'.out ?_ | refine qCr ((M.ok 2 _ rfl).2.1.2 _ _ _ hu0'.out hl0'.out) _ _ rfl hx rfl yB k yQ yK ?_); clear hx)) | ((with_reducible refine tStore ?_); (refine w_at2 _ _ _ rfl yE yE ?_; intro hx hy; refine qCH M 0 _ _ _ rfl rfl hx rfl hy yB k yQ yK ?_; clear hx hy M; intro w1 M; simp only [setC] at M)) | ((with_reducible refine tM rfl ?_); refine mB ?_; try (clear M; (first | intro g w1 M | intro w1 M); try simp only [setC] at M)) | ((with_reducible first | show Seg _ _ _ _ | show OnlyN _ _ _ _ _); refine rA ?_) | ((with_reducible refine tGuard ?_); refine gdC ?_ ?_ <;> (intro hgd; rw [hgd]; try (exfalso; simp at hgd; omega)))) <;> (try conv => arg 5; simp only [Act.put, List.setIfInBounds_toArray, setC]))
            rw [qBZ d k yF, qBZ t0 k yF] at M
            go_roundw
            case rel => exact ⟨k + 1, by omega, by go_num, by rw [qAY, ← ED.out ()]; exact M⟩
            case measure => simp [intOf]; omega
           ·obtain rfl : k = 4 := by omega
            go_wp2_with ((first | ((with_reducible show wpList _ _ _ (Oper.mk _ (Op.buildSlice _ 1 _) _ _ _ _ :: _) _ _); (refine qAV M rowsT yN _ rfl rfl yE _ rfl rfl ?_; clear M; intro g w1 M)) | ((with_reducible refine tApp ?_); (refine qAg M 1 rowsT _ _ rfl rfl rfl rfl rfl rfl (by intro q hq; simp at hq; subst hq; rfl) yN yZ yF ?_; clear M; intro q2 c2 w1 M; simp only [setC] at M)) | ((with_reducible refine tM rfl ?_); refine mB ?_; try (clear M; (first | intro g w1 M | intro w1 M); try simp only [setC] at M)) | ((with_reducible refine tGuard ?_); refine gdC ?_ ?_ <;> (intro hgd; rw [hgd]; try (exfalso; simp at hgd; omega)))) <;> (try conv => arg 5; simp only [Act.put, List.setIfInBounds_toArray, setC]))
            have SD : SeesB _ (.slice (some ⟨g4, 0, none⟩) 4 4) d := qCf (M.ok 0 _ rfl) hd.symm
            replace M := M.rowIn SD (fun k hk => by cases hk; simp [Chunk.fp, Value.ownBlock])
            go_roundw
            case rel => exact ⟨n + 1, q2, c2, _, by omega, by rw [show n + 1 + 8 = n + 8 + 1 by omega], by go_num, by
             rw [E.out (), ET.out (), ← ED.out (), show n + 1 + 8 = n + 8 + 1 by omega]; exact M⟩
            case measure => simp [intOf]; omega
     by_cases h4 : n % 8 = 4
     ·skip
      rw [if_neg yF] at E2 E4
      rw [if_pos (.inr h4), E2] at E3
      replace E3 := Lib.hid E3
      replace E4 := Lib.hid E4
      replace E5 := Lib.hid E5
      clear E2
      have h8' : ((n : Int) + 8) % 8 = 4 := by omega
      go_wp2_with ((first | ((with_reducible show wpList _ _ _ (Oper.mk _ (Op.buildSlice _ 0 _) _ _ _ _ :: _) _ _); (refine qEq M bytesT rfl rfl ?_; clear M; intro g9 w1 M)) | ((with_reducible refine tLoad ?_); (refine w_at _ _ rfl yI ?_; intro hx; (first | refine qCq (Own.sees (M.ok 1 _ rfl)) _ _ rfl hx rfl yB (n + 7) yQ hu7'.out ?_); clear hx)) | (((with_reducible refine tApp ?_); (refine qCb M 0 bytesT _ _ _ rfl (.inr ⟨_, Tryz.underlying70⟩) rfl rfl rfl rfl 4 (bs t1) (srcB ((M.ok 2 _ rfl).2.1.2 _ _ _ hu7'.out hl7'.out) hw7) yZ yF ?_; clear M; intro p9 ct w1 M; simp only [setC, List.nil_append, Nat.zero_add] at M)); obtain ⟨gt, ot, rfl⟩ := qBt (M.ok 0 _ rfl) yN) | ((with_reducible refine tM rfl ?_); refine mB ?_; try (clear M; (first | intro g w1 M | intro w1 M); try simp only [setC] at M)) | ((with_reducible refine tGuard ?_); refine gdC ?_ ?_ <;> (intro hgd; rw [hgd]; try (exfalso; simp at hgd; omega)))) <;> (try conv => arg 5; simp only [Act.put, List.setIfInBounds_toArray, setC]))
      have hl2 := hw7
      go_loopw [9] (fun kv wr => ∃ k : Nat, k ≤ 4 ∧ kv = .int .i64 k ∧ Mem [] w wr [.sl 1 (.slice (some ⟨gt, ot, none⟩) 4 ct) 4 (bs (iterN (subT s) k t1)), .sl 1 (.slice (some ⟨gq, oq, none⟩) (n + 8) c) (n + 8) vs, rowsC vs ls, .row gk (bs key)]) (fun kv _ => 4 - (intOf kv).toNat)
      case atStart => exact ⟨0, by omega, rfl, M⟩
      case round =>
       clear M
       obtain ⟨k, hk4, rfl, M⟩ := hrel
       obtain ⟨d, ed⟩ : ∃ d, d = iterN (subT s) k t1 := ⟨_, rfl⟩
       have hd : d.length = 4 := by rw [ed, qFL]; exact hl2
       rw [← ed] at M
       have ED := Lib.hid fun _ : Unit => ed
       clear ed
       by_cases hlt4 : k < 4
       ·obtain ⟨q, eq⟩ : ∃ q, q = nth d k := ⟨_, rfl⟩
        have hq0 := (I8_bd q).1
        have hq1 := (I8_bd q).2
        have hq2 := qCn q
        have hq3 := q.toNat_lt
        have hq4 : q.toNat < 256 := hq3
        have hd1 : d.getD k 0 = q := eq.symm
        have hd2 : d[k]?.getD 0 = q := by rw [qBd, eq]
        have hd3 : d[k] = q := by rw [qBZ, eq]
        have EQ := Lib.hid fun _ : Unit => eq
        clear eq hq3
        go_wp2_with ((first | ((with_reducible refine tLoad ?_); (refine w_at _ _ rfl yI ?_; intro hx; (first | refine w_slB M 0 _ _ rfl rfl hx rfl yB k yQ yK ?_ | refine qCr (qBv S M.kept.size fun j _ hj => M.kept.block j hj yB1) _ _ rfl hx rfl yB q.toNat yQ yK ?_); clear hx)) | ((with_reducible refine tStore ?_); (refine w_at2 _ _ _ rfl yE yE ?_; intro hx hy; refine qCH M 0 _ _ _ rfl rfl hx rfl hy yB k yQ yK ?_; clear hx hy M; intro w1 M; simp only [setC] at M)) | ((with_reducible refine tM rfl ?_); refine mB ?_; try (clear M; (first | intro g w1 M | intro w1 M); try simp only [setC] at M)) | ((with_reducible refine tGuard ?_); refine gdC ?_ ?_ <;> (intro hgd; rw [hgd]; try (exfalso; simp at hgd; omega)))) <;> (try conv => arg 5; simp only [Act.put, List.setIfInBounds_toArray, setC]))
        go_roundw
        case rel => exact ⟨k + 1, by omega, by go_num, by rw [qAY, ← ED.out ()]; unfold subT; rw [← EQ.out ()]; exact M⟩
        case measure => simp [intOf]; omega
       ·obtain rfl : k = 4 := by omega
        have ET := E5.out
        rw [E4.out, E3.out] at ET
        replace ET := Lib.hid fun _ : Unit => ET
        have hT := hd
        rw [← ED.out ()] at ET
        go_wp2_with ((first | ((with_reducible refine tM rfl ?_); refine mB ?_; try (clear M; (first | intro g w1 M | intro w1 M); try simp only [setC] at M)) | ((with_reducible refine tGuard ?_); refine gdC ?_ ?_ <;> (intro hgd; rw [hgd]; try (exfalso; simp at hgd; omega)))) <;> (try conv => arg 5; simp only [Act.put, List.setIfInBounds_toArray, setC]))
        rw [show ((4 : Nat) : Int) = 4 from rfl]
        have hl4 : d.length = 4 := hT
        go_loopw [12] (fun kv wr => ∃ k : Nat, k ≤ 4 ∧ kv = .int .i64 k ∧ Mem [] w wr [.sl 1 (.slice (some ⟨gt, ot, none⟩) 4 ct) 4 (bs (iterN (xorT t0) k d)), .sl 1 (.slice (some ⟨gq, oq, none⟩) (n + 8) c) (n + 8) vs, rowsC vs ls, .row gk (bs key)]) (fun kv _ => 4 - (intOf kv).toNat)
        case atStart => exact ⟨0, by omega, rfl, M⟩
        case round =>
         clear M
         obtain ⟨k, hk4, rfl, M⟩ := hrel
         obtain ⟨d, ed⟩ : ∃ d', d' = iterN (xorT t0) k d := ⟨_, rfl⟩
         have hd : d.length = 4 := by rw [ed, qAb _ (qCZ t0)]; exact hl4
         rw [← ed] at M
         have ED := Lib.hid fun _ : Unit => ed
         clear ed
         by_cases hlt4 : k < 4
         ·go_wp2_with ((first | ((with_reducible show Code.wp _ (Code.region 27 _ _) _ _ _); (refine qAF [(0, false), (1, false), (2, false), (3, false), (4, false), (6, false), (7, false), (8, false), (9, false), (11, false), (5, false), (10, false), (12, false), (13, false), (14, false), (15, false), (16, true)] [(118, .int), (116, .int), (124, .int)] yD yD rfl yD ?_; replace M := M.drew; simp only [reord, opAt, List.map_cons, List.map_nil, gE])) | ((with_reducible refine tLoad ?_); (refine w_at _ _ rfl yI ?_; intro hx; (first | refine w_slB M 0 _ _ rfl rfl hx rfl yB k yQ yK ?_ | refine qCq (Own.sees (M.ok 1 _ rfl)) _ _ rfl hx rfl yB n yQ hu0'.out ?_ | refine qCr ((M.ok 2 _ rfl).2.1.2 _ _ _ hu0'.out hl0'.out) _ _ rfl hx rfl yB k yQ yK ?_); clear hx)) | ((with_reducible refine tStore ?_); (refine w_at2 _ _ _ rfl yE yE ?_; intro hx hy; refine qCH M 0 _ _ _ rfl rfl hx rfl hy yB k yQ yK ?_; clear hx hy M; intro w1 M; simp only [setC] at M)) | ((with_reducible refine tM rfl ?_); refine mB ?_; try (clear M; (first | intro g w1 M | intro w1 M); try simp only [setC] at M)) | ((with_reducible first | show Seg _ _ _ _ | show OnlyN _ _ _ _ _); refine rA ?_) | ((with_reducible refine tGuard ?_); refine gdC ?_ ?_ <;> (intro hgd; rw [hgd]; try (exfalso; simp at hgd; omega)))) <;> (try conv => arg 5; simp only [Act.put, List.setIfInBounds_toArray, setC]))
          rw [qBZ d k yF, qBZ t0 k yF] at M
          go_roundw
          case rel => exact ⟨k + 1, by omega, by go_num, by rw [qAY, ← ED.out ()]; exact M⟩
          case measure => simp [intOf]; omega
         ·obtain rfl : k = 4 := by omega
          go_wp2_with ((first | ((with_reducible show wpList _ _ _ (Oper.mk _ (Op.buildSlice _ 1 _) _ _ _ _ :: _) _ _); (refine qAV M rowsT yN _ rfl rfl yE _ rfl rfl ?_; clear M; intro g w1 M)) | ((with_reducible refine tApp ?_); (refine qAg M 1 rowsT _ _ rfl rfl rfl rfl rfl rfl (by intro q hq; simp at hq; subst hq; rfl) yN yZ yF ?_; clear M; intro q2 c2 w1 M; simp only [setC] at M)) | ((with_reducible refine tM rfl ?_); refine mB ?_; try (clear M; (first | intro g w1 M | intro w1 M); try simp only [setC] at M)) | ((with_reducible refine tGuard ?_); refine gdC ?_ ?_ <;> (intro hgd; rw [hgd]; try (exfalso; simp at hgd; omega)))) <;> (try conv => arg 5; simp only [Act.put, List.setIfInBounds_toArray, setC]))
          have SD : SeesB _ (.slice (some ⟨gt, ot, none⟩) 4 ct) d := qCf (M.ok 0 _ rfl) hd.symm
          replace M := M.rowIn SD (fun k hk => by cases hk; simp [Chunk.fp, Value.ownBlock])
          go_roundw
          case rel => exact ⟨n + 1, q2, c2, _, by omega, by rw [show n + 1 + 8 = n + 8 + 1 by omega], by go_num, by
           rw [E.out (), ET.out (), ← ED.out (), show n + 1 + 8 = n + 8 + 1 by omega]; exact M⟩
          case measure => simp [intOf]; omega
     ·skip
      rw [if_neg yF] at E2 E4
      rw [if_neg yF, E2] at E3
      have ET := E5
      rw [E4, E3] at ET
      replace ET := Lib.hid fun _ : Unit => ET
      clear E2 E3 E4 E5
      have h8' : ¬ ((n : Int) + 8) % 8 = 0 := by omega
      have h84 : ¬ ((n : Int) + 8) % 8 = 4 := by omega
      have hT := hw7
      go_wp2_with ((first | ((with_reducible show wpList _ _ _ (Oper.mk _ (Op.buildSlice _ 0 _) _ _ _ _ :: _) _ _); (refine qEq M bytesT rfl rfl ?_; clear M; intro g9 w1 M)) | ((with_reducible refine tLoad ?_); (refine w_at _ _ rfl yI ?_; intro hx; (first | refine qCq (Own.sees (M.ok 1 _ rfl)) _ _ rfl hx rfl yB (n + 7) yQ hu7'.out ?_); clear hx)) | (((with_reducible refine tApp ?_); (refine qCb M 0 bytesT _ _ _ rfl (.inr ⟨_, Tryz.underlying70⟩) rfl rfl rfl rfl 4 (bs t1) (srcB ((M.ok 2 _ rfl).2.1.2 _ _ _ hu7'.out hl7'.out) hw7) yZ yF ?_; clear M; intro p9 ct w1 M; simp only [setC, List.nil_append, Nat.zero_add] at M)); obtain ⟨gt, ot, rfl⟩ := qBt (M.ok 0 _ rfl) yN) | ((with_reducible refine tM rfl ?_); refine mB ?_; try (clear M; (first | intro g w1 M | intro w1 M); try simp only [setC] at M)) | ((with_reducible refine tGuard ?_); refine gdC ?_ ?_ <;> (intro hgd; rw [hgd]; try (exfalso; simp at hgd; omega)))) <;> (try conv => arg 5; simp only [Act.put, List.setIfInBounds_toArray, setC]))
      have hl4 : t1.length = 4 := hT
      go_loopw [12] (fun kv wr => ∃ k : Nat, k ≤ 4 ∧ kv = .int .i64 k ∧ Mem [] w wr [.sl 1 (.slice (some ⟨gt, ot, none⟩) 4 ct) 4 (bs (iterN (xorT t0) k t1)), .sl 1 (.slice (some ⟨gq, oq, none⟩) (n + 8) c) (n + 8) vs, rowsC vs ls, .row gk (bs key)]) (fun kv _ => 4 - (intOf kv).toNat)
      case atStart => exact ⟨0, by omega, rfl, M⟩
      case round =>
       clear M
       obtain ⟨k, hk4, rfl, M⟩ := hrel
       obtain ⟨d, ed⟩ : ∃ d, d = iterN (xorT t0) k t1 := ⟨_, rfl⟩
       have hd : d.length = 4 := by rw [ed, qAb _ (qCZ t0)]; exact hl4
       rw [← ed] at M
       have ED := Lib.hid fun _ : Unit => ed
       clear ed
       by_cases hlt4 : k < 4
       ·go_wp2_with ((first | ((with_reducible show Code.wp _ (Code.region 27 _ _) _ _ _); (refine qAF [(0, false), (1, false), (2, false), (3, false), (4, false), (6, false), (7, false), (8, false), (9, false), (11, false), (5, false), (10, false), (12, false), (13, false), (14, false), (15, false), (16, true)] [(118, .int), (116, .int), (124, .int)] yD yD rfl yD ?_; replace M := M.drew; simp only [reord, opAt, List.map_cons, List.map_nil, gE])) | ((with_reducible refine tLoad ?_); (refine w_at _ _ rfl yI ?_; intro hx; (first | refine w_slB M 0 _ _ rfl rfl hx rfl yB k yQ yK ?_ | refine qCq (Own.sees (M.ok 1 _ rfl)) _ _ rfl hx rfl yB n yQ hu0'.out ?_ | refine qCr ((M.ok 2 _ rfl).2.1.2 _ _ _ hu0'.out hl0'.out) _ _ rfl hx rfl yB k yQ yK ?_); clear hx)) | ((with_reducible refine tStore ?_); (refine w_at2 _ _ _ rfl yE yE ?_; intro hx hy; refine qCH M 0 _ _ _ rfl rfl hx rfl hy yB k yQ yK ?_; clear hx hy M; intro w1 M; simp only [setC] at M)) | ((with_reducible refine tM rfl ?_); refine mB ?_; try (clear M; (first | intro g w1 M | intro w1 M); try simp only [setC] at M)) | ((with_reducible first | show Seg _ _ _ _ | show OnlyN _ _ _ _ _); refine rA ?_) | ((with_reducible refine tGuard ?_); refine gdC ?_ ?_ <;> (intro hgd; rw [hgd]; try (exfalso; simp at hgd; omega)))) <;> (try conv => arg 5; simp only [Act.put, List.setIfInBounds_toArray, setC]))
        rw [qBZ d k yF, qBZ t0 k yF] at M
        go_roundw
        case rel => exact ⟨k + 1, by omega, by go_num, by rw [qAY, ← ED.out ()]; exact M⟩
        case measure => simp [intOf]; omega
       ·obtain rfl : k = 4 := by omega
        go_wp2_with ((first | ((with_reducible show wpList _ _ _ (Oper.mk _ (Op.buildSlice _ 1 _) _ _ _ _ :: _) _ _); (refine qAV M rowsT yN _ rfl rfl yE _ rfl rfl ?_; clear M; intro g w1 M)) | ((with_reducible refine tApp ?_); (refine qAg M 1 rowsT _ _ rfl rfl rfl rfl rfl rfl (by intro q hq; simp at hq; subst hq; rfl) yN yZ yF ?_; clear M; intro q2 c2 w1 M; simp only [setC] at M)) | ((with_reducible refine tM rfl ?_); refine mB ?_; try (clear M; (first | intro g w1 M | intro w1 M); try simp only [setC] at M)) | ((with_reducible refine tGuard ?_); refine gdC ?_ ?_ <;> (intro hgd; rw [hgd]; try (exfalso; simp at hgd; omega)))) <;> (try conv => arg 5; simp only [Act.put, List.setIfInBounds_toArray, setC]))
        have SD : SeesB _ (.slice (some ⟨gt, ot, none⟩) 4 ct) d := qCf (M.ok 0 _ rfl) hd.symm
        replace M := M.rowIn SD (fun k hk => by cases hk; simp [Chunk.fp, Value.ownBlock])
        go_roundw
        case rel => exact ⟨n + 1, q2, c2, _, by omega, by rw [show n + 1 + 8 = n + 8 + 1 by omega], by go_num, by
         rw [E.out (), ET.out (), ← ED.out (), show n + 1 + 8 = n + 8 + 1 by omega]; exact M⟩
        case measure => simp [intOf]; omega
    ·obtain rfl : n = 52 := by omega
     obtain ⟨gq, oq, rfl⟩ := qBt (M.ok 0 _ rfl) yF
     go_wp2_with fail
     go_ret
     exact ⟨_, c, vs, rfl, M.pick _ id (fun _ _ _ _ h => h) (fun i x h => by
      match i with
      | 0 => simpa using h
      | 1 => simpa using h
      | i + 2 => simp at h)⟩
end Go.Proofs.YtidadhbaomieiaaGreat

namespace Go
namespace TL
open Go.RowKit
structure SeesW (w : World) (v : Value) (vs : List Value) (ls : List (List UInt8)) : Prop where
 outer : Sees w 1 v vs.length vs
 inner : InnerW w vs ls
theorem SeesW.now {w0 w : World} {L : List Chunk} {v : Value} {vs : List Value} {ls : List (List UInt8)} (S : SeesW w0 v vs ls) (M : Mem [] w0 w L) : SeesW w v vs ls := by
 refine ⟨⟨S.outer.1, S.outer.2.imp id ?_⟩, S.inner.1, fun i u l hu hl => ?_⟩
 ·rintro ⟨g, o, cap, rfl, hlt, hn, hc, hr⟩
  exact ⟨g, o, cap, rfl, Nat.lt_of_lt_of_le hlt M.kept.size, hn, hc, rangeAt_of_block hr (M.kept.block g hlt yB1)⟩
 ·exact qBv (S.inner.2 i u l hu hl) M.kept.size fun j _ hj => M.kept.block j hj yB1
theorem SeesW.addr {w : World} {v : Value} {vs : List Value} {ls : List (List UInt8)} (S : SeesW w v vs ls) (h : 0 < vs.length) : ∃ g o c, v = .slice (some ⟨g, o, none⟩) vs.length c := by
 rcases S.outer.2 with ⟨_, h0⟩ | ⟨g, o, c, hv, _⟩
 ·omega
 ·exact ⟨g, o, c, hv⟩
theorem row_all {w : World} {g n : Nat} {l : List UInt8} (h : (Chunk.row g (bs l)).ok w) (e : l.length = n) (hm : n ≤ maxLen) : SeesB w (.slice (some ⟨g, 0, none⟩) n n) l := by
 subst e
 have := qDH h (off := 0) (n := l.length) (cap := l.length) yF (Nat.le_refl _) hm
 rwa [List.drop_zero, List.take_length] at this
end TL
end Go
namespace Go.Proofs.YtidadhbaomieiaaGreat
open Go.RowKit Go.TL
theorem with_c (b : List UInt8) (bv wv : Value) (vs : List Value) (ls : List (List UInt8)) (r : Nat) (w : World) (hb : b.length = 16) (S : SeesB w bv b) (SW : SeesW w wv vs ls) (hvl : vs.length = 60) (hw : ∀ i, i < 60 → (wd ls i).length = 4) (hr : r ≤ 14) :
  Calls Tryz.prog 175 #[bv, wv, .int .i64 r] w fun e w' => ∃ p c, e = .returned (.slice p 16 c) ∧ Mem [] w w' [.sl 1 (.slice p 16 c) 16 (bs (withL b ls r 16))] := by
 obtain ⟨gb, ob, cb, rfl⟩ := qBw S yF
 obtain ⟨gw, ow, cw, rfl⟩ := SW.addr yF
 rw [hb] at S ⊢
 rw [hvl] at SW ⊢
 have M := (Mem.start [] w).nil 1
 go_enter Tryz.func175, Tryz.ntmps175
 go_wp2_with fail
 go_loopw [7, 8] (fun ov iv wr => ∃ (k : Nat) (q : Option Addr) (c : Nat), k ≤ 16 ∧ ov = .slice q k c ∧ iv = .int .i64 k ∧ Mem [] w wr [.sl 1 (.slice q k c) k (bs (withL b ls r k))]) (fun _ iv _ => 16 - (intOf iv).toNat)
 case atStart => exact ⟨0, none, 0, by omega, rfl, rfl, M⟩
 case round =>
  clear M
  obtain ⟨k, q, c, hk, rfl, rfl, M⟩ := hrel
  by_cases hlt : k < 16
  ·have E := withL_succ b ls r k
   obtain ⟨l, el⟩ : ∃ l, l = withL b ls r k := ⟨_, rfl⟩
   rw [← el] at M E
   clear el
   have hi : 4 * r + k / 4 < 60 := by omega
   have h4 := hw _ hi
   obtain ⟨u, hu⟩ : ∃ u, vs[4 * r + k / 4]? = some u := ⟨_, List.getElem?_eq_getElem yF⟩
   have hl : ls[4 * r + k / 4]? = some (wd ls (4 * r + k / 4)) := by unfold wd; rw [List.getD_eq_getElem?_getD, List.getElem?_eq_getElem (by rw [← SW.inner.1]; omega)]; rfl
   obtain ⟨gi, oi, ci, rfl⟩ := qBw (SW.inner.2 _ _ _ hu hl) (by rw [h4]; omega)
   rw [h4] at hu
   obtain ⟨t, et⟩ : ∃ t, t = wd ls (4 * r + k / 4) := ⟨_, rfl⟩
   rw [← et] at hl h4 E
   replace E := Lib.hid fun _ : Unit => E
   have hu' := Lib.hid hu
   have hl' := Lib.hid hl
   clear hu hl et
   go_wp2_with ((first | ((with_reducible show Code.wp _ (Code.region 5 _ _) _ _ _); (refine qAF [(0, false), (1, false), (2, false), (3, false), (5, false), (6, false), (7, false), (8, false), (9, false), (10, false), (11, false), (13, false), (14, false), (4, false), (12, false), (15, false), (16, false), (17, false), (18, true), (19, true), (20, false)] [(19, .int), (21, .int), (20, .int), (22, .int), (26, .int), (17, .int), (29, .int)] yD yD rfl yD ?_; replace M := M.drew; simp only [reord, opAt, List.map_cons, List.map_nil, gE])) | ((with_reducible refine tLoad ?_); (refine w_at _ _ rfl yI ?_; intro hx; (first | refine qCr (qBv S M.kept.size fun j _ hj => M.kept.block j hj yB1) _ _ rfl hx rfl yB k yQ yK ?_ | refine qCq ((SW.now M).outer) _ _ rfl hx rfl yB (4 * r + k / 4) yQ hu'.out ?_ | refine qCr ((SW.now M).inner.2 _ _ _ hu'.out hl'.out) _ _ rfl hx rfl yB (k % 4) yQ yK ?_); clear hx)) | ((with_reducible show wpList _ _ _ (Oper.mk _ (Op.buildSlice _ 1 _) _ _ _ _ :: _) _ _); (refine qAV M bytesT yN _ rfl rfl yE _ rfl rfl ?_; clear M; intro g w1 M)) | ((with_reducible refine tApp ?_); (refine qAg M 0 bytesT _ _ rfl rfl rfl rfl rfl rfl yJ yN yS yW ?_; clear M; intro q cap w1 M; (try simp only [setC] at M))) | ((with_reducible refine tM rfl ?_); refine mB ?_; try (clear M; (first | intro g w1 M | intro w1 M); try simp only [setC] at M)) | ((with_reducible first | show Seg _ _ _ _ | show OnlyN _ _ _ _ _); refine rA ?_) | ((with_reducible refine tGuard ?_); refine gdC ?_ ?_ <;> (intro hgd; rw [hgd]; try (exfalso; simp at hgd; omega)))) <;> (try conv => arg 5; simp only [Act.put, List.setIfInBounds_toArray, setC]))
   rw [qBZ b k yF, qBd t (k % 4)] at M
   go_roundw
   case rel => exact ⟨k + 1, q, _, by omega, rfl, by go_num, by rw [E.out (), ← snocV]; exact M⟩
   case measure => simp [intOf]; omega
  ·obtain rfl : k = 16 := by omega
   go_wp2_with fail
   go_ret
   exact ⟨q, c, rfl, M⟩
theorem rone_c (b s : List UInt8) (bv sv wv : Value) (vs : List Value) (ls : List (List UInt8)) (w : World) (hb : b.length = 16) (hs : s.length = 256) (S : SeesB w bv b) (SS : SeesB w sv s) (SW : SeesW w wv vs ls) (hvl : vs.length = 60) (hw : ∀ i, i < 60 → (wd ls i).length = 4) :
  Calls Tryz.prog 147 #[wv, sv, bv] w fun e w' => ∃ p c, e = .returned (.slice p 16 c) ∧ Mem [] w w' [.sl 1 (.slice p 16 c) 16 (bs (roneL ls s b))] := by
 have W0 := fun w (S : SeesB w bv b) (SW : SeesW w wv vs ls) => with_c b bv wv vs ls 0 w hb S SW hvl hw yF
 have WC := fun (t : List UInt8) (tv : Value) (n : Nat) (hn : n < 14) (ht : t.length = 16) (w : World) (S : SeesB w tv t) (SW : SeesW w wv vs ls) => with_c t tv wv vs ls (n + 1) w ht S SW hvl hw yF
 have T2 : ∀ (a : UInt8) (w : World), Calls Tryz.prog 174 #[.int .u8 (I8 a), .int .u8 2] w fun e w' => e = .returned (.int .u8 (I8 (timesL a 2))) ∧ w = w' := fun a w => times_c a 2 w
 have T3 : ∀ (a : UInt8) (w : World), Calls Tryz.prog 174 #[.int .u8 (I8 a), .int .u8 3] w fun e w' => e = .returned (.int .u8 (I8 (timesL a 3))) ∧ w = w' := fun a w => times_c a 3 w
 have EL : roneL ls s b = roneS ls s b 14 := rfl
 have E0 : roneS ls s b 0 = withL b ls 0 16 := rfl
 rw [EL]
 obtain ⟨gs, os, cs, rfl⟩ := qBw SS yF
 rw [hs] at SS ⊢
 have M := Mem.start [] w
 go_enter Tryz.func147, Tryz.ntmps147
 go_wp2_with (first | (go_at_call 175; (refine (W0 _ S SW).mono ?_; rintro e w1 ⟨pw, cw, rfl, MP⟩; replace M := M.join MP; clear MP; simp only [List.append_nil] at M)))
 rw [← E0] at M
 clear EL E0 W0
 go_loopw [7, 8] (fun bq rv wr => ∃ (n : Nat) (q : Option Addr) (c : Nat), n ≤ 14 ∧ bq = .slice q 16 c ∧ rv = .int .i64 ((n : Int) + 1) ∧ Mem [] w wr [.sl 1 (.slice q 16 c) 16 (bs (roneS ls s b n))]) (fun _ rv _ => 15 - (intOf rv).toNat)
 case atStart => exact ⟨0, pw, cw, by omega, rfl, rfl, M⟩
 case round =>
  clear M
  obtain ⟨n, q, c, hn, rfl, rfl, M⟩ := hrel
  by_cases hlt : n < 14
  ·have E := qEY ls s b n
   have hx := qFT ls s b n
   obtain ⟨x, ex⟩ : ∃ x, x = roneS ls s b n := ⟨_, rfl⟩
   rw [← ex] at M E hx
   clear ex
   obtain ⟨gx, ox, rfl⟩ := qBt (M.ok 0 _ rfl) yF
   have hn14 : (n : Int) + 1 ≤ 14 := by omega
   go_wp2_with ((first | ((with_reducible show wpList _ _ _ (Oper.mk (some 25) (Op.makeSlice 70 _ _) _ _ _ _ :: _) _ _); (refine w_makeB M _ _ _ rfl rfl 16 rfl rfl yQ yQ Tryz.underlying70 yD yB yF ?_; clear M; intro gt w1 M)) | ((with_reducible refine tM rfl ?_); refine mB ?_; try (clear M; (first | intro g w1 M | intro w1 M); try simp only [setC] at M)) | ((with_reducible refine tGuard ?_); refine gdC ?_ ?_ <;> (intro hgd; rw [hgd]; try (exfalso; simp at hgd; omega)))) <;> (try conv => arg 5; simp only [Act.put, List.setIfInBounds_toArray, setC]))
   go_loopw [10] (fun kv wr => ∃ k : Nat, k ≤ 4 ∧ kv = .int .i64 k ∧ Mem [] w wr [.row gt (bs (rsubL s x k)), .sl 1 (.slice (some ⟨gx, ox, none⟩) 16 c) 16 (bs x)]) (fun kv _ => 4 - (intOf kv).toNat)
   case atStart => exact ⟨0, by omega, rfl, M⟩
   case round =>
    clear M
    obtain ⟨k, hk, rfl, M⟩ := hrel
    by_cases hlk : k < 4
    ·have EK := Lib.hid fun _ : Unit => show rsubL s x (k + 1) = iterN (rsubC s x k) 4 (rsubL s x k) from rfl
     have hy := rsubL_len s x k
     obtain ⟨y, ey⟩ : ∃ y, y = rsubL s x k := ⟨_, rfl⟩
     rw [← ey] at M EK hy
     clear ey
     go_wp2_with fail
     go_loopw [11] (fun jv wr => ∃ j : Nat, j ≤ 4 ∧ jv = .int .i64 j ∧ Mem [] w wr [.row gt (bs (iterN (rsubC s x k) j y)), .sl 1 (.slice (some ⟨gx, ox, none⟩) 16 c) 16 (bs x)]) (fun jv _ => 4 - (intOf jv).toNat)
     case atStart => exact ⟨0, by omega, rfl, M⟩
     case round =>
      clear M
      obtain ⟨j, hj, rfl, M⟩ := hrel
      have hd : (iterN (rsubC s x k) j y).length = 16 := by rw [qAb _ (rsubC_len s x k)]; exact hy
      obtain ⟨d, ed⟩ : ∃ d, d = iterN (rsubC s x k) j y := ⟨_, rfl⟩
      rw [← ed] at M hd
      have ED := Lib.hid fun _ : Unit => ed
      clear ed
      by_cases hlj : j < 4
      ·obtain ⟨q, eq⟩ : ∃ q, q = nth x (4 * ((j + k) % 4) + k) := ⟨_, rfl⟩
       have hq0 := (I8_bd q).1
       have hq1 := (I8_bd q).2
       have hq2 := qCn q
       have hq3 := q.toNat_lt
       have hq4 : q.toNat < 256 := hq3
       have hd1 : x.getD (4 * ((j + k) % 4) + k) 0 = q := eq.symm
       have hd2 : x[4 * ((j + k) % 4) + k]?.getD 0 = q := by rw [qBd, eq]
       have hil : 4 * ((j + k) % 4) + k < x.length := by omega
       have hd3 : x[4 * ((j + k) % 4) + k] = q := by rw [qBZ, eq]
       have EQ := Lib.hid fun _ : Unit => eq
       clear eq hq3
       have em : (((j + k) % 4 : Nat) : Int) = ((j : Int) + (k : Int)) % 4 := by simp
       have i1 : ((4 : Int) * (((j : Int) + (k : Int)) % 4) + (k : Int)).toNat = 4 * ((j + k) % 4) + k := by rw [← em]; omega
       have i2 : (0 : Int) ≤ (4 : Int) * (((j : Int) + (k : Int)) % 4) + (k : Int) := by rw [← em]; omega
       have i3 : (4 : Int) * (((j : Int) + (k : Int)) % 4) + (k : Int) < 16 := by rw [← em]; omega
       clear em
       go_wp2_with ((first | ((with_reducible refine tLoad ?_); (refine w_at _ _ rfl yI ?_; intro hx; (first | refine w_slB M 1 _ _ rfl rfl hx rfl yB (4 * ((j + k) % 4) + k) yQ yK ?_ | refine qCr (qBv SS M.kept.size fun j _ hj => M.kept.block j hj yB1) _ _ rfl hx rfl yB q.toNat yQ yK ?_); clear hx)) | ((with_reducible refine tM rfl ?_); refine mB ?_; try (clear M; (first | intro g w1 M | intro w1 M); try simp only [setC] at M)) | ((with_reducible refine tGuard ?_); refine gdC ?_ ?_ <;> (intro hgd; rw [hgd]; try (exfalso; simp at hgd; omega)))) <;> (try conv => arg 5; simp only [Act.put, List.setIfInBounds_toArray, setC]))
       go_roundw
       case rel => exact ⟨j + 1, by omega, by go_num, by rw [qAY, ← ED.out ()]; unfold rsubC; rw [← EQ.out ()]; exact M⟩
       case measure => simp [intOf]; omega
      ·obtain rfl : j = 4 := by omega
       go_wp2_with fail
       go_roundw
       case rel => exact ⟨k + 1, by omega, by go_num, by rw [EK.out (), ← ED.out ()]; exact M⟩
       case measure => simp [intOf]; omega
    ·obtain rfl : k = 4 := by omega
     have hz := rsubL_len s x 4
     obtain ⟨z, ez⟩ : ∃ z, z = rsubL s x 4 := ⟨_, rfl⟩
     rw [← ez] at M E hz
     clear ez
     by_cases hr : n + 1 < 14
     ·rw [if_pos hr] at E
      replace E := Lib.hid fun _ : Unit => E
      have hr' : (n : Int) + 1 < 14 := by omega
      go_wp2_with ((first | ((with_reducible show wpList _ _ _ (Oper.mk (some 55) (Op.makeSlice 70 _ _) _ _ _ _ :: _) _ _); (refine w_makeB M _ _ _ rfl rfl 16 rfl rfl yQ yQ Tryz.underlying70 yD yB yF ?_; clear M; intro gm w1 M)) | ((with_reducible refine tM rfl ?_); refine mB ?_; try (clear M; (first | intro g w1 M | intro w1 M); try simp only [setC] at M)) | ((with_reducible refine tGuard ?_); refine gdC ?_ ?_ <;> (intro hgd; rw [hgd]; try (exfalso; simp at hgd; omega)))) <;> (try conv => arg 5; simp only [Act.put, List.setIfInBounds_toArray, setC]))
      rw [show ((4 : Nat) : Int) = 4 from rfl]
      go_loopw [13] (fun cv wr => ∃ i : Nat, i ≤ 4 ∧ cv = .int .i64 (4 * (i : Int)) ∧ Mem [] w wr [.row gm (bs (rmixL z i)), .row gt (bs z), .sl 1 (.slice (some ⟨gx, ox, none⟩) 16 c) 16 (bs x)]) (fun cv _ => 16 - (intOf cv).toNat)
      case atStart => exact ⟨0, by omega, rfl, M⟩
      case round =>
       clear M
       obtain ⟨i, hi, rfl, M⟩ := hrel
       have hd := rmixL_len z i
       have EM := Lib.hid fun _ : Unit => show rmixL z (i + 1) = rmixC z (4 * i) (rmixL z i) from rfl
       obtain ⟨d, ed⟩ : ∃ d, d = rmixL z i := ⟨_, rfl⟩
       rw [← ed] at M hd EM
       by_cases hli : i < 4
       ·clear ed
        have j0 : 4 * (i : Int) < 16 := by omega
        go_wp2_with ((first | ((with_reducible show Code.wp _ (Code.region 18 _ _) _ _ _); (refine qAF [(0, false), (1, false), (2, false), (4, false), (5, false), (6, false), (7, false), (9, false), (10, false), (11, false), (12, false), (14, false), (15, false), (16, false), (17, false), (3, false), (19, false), (8, false), (20, false), (13, false), (21, false), (18, false), (22, false)] [(65, .int), (70, .int), (75, .int)] yD yD rfl yD ?_; replace M := M.drew; simp only [reord, opAt, List.map_cons, List.map_nil, gE])) | (go_at_call 174; ((first | (with_reducible refine (T2 _ _).mono ?_) | (with_reducible refine (T3 _ _).mono ?_)); rintro e w1 ⟨rfl, rfl⟩)) | ((with_reducible refine tM rfl ?_); refine mB ?_; try (clear M; (first | intro g w1 M | intro w1 M); try simp only [setC] at M)) | ((with_reducible first | show Seg _ _ _ _ | show OnlyN _ _ _ _ _); refine rA ?_) | ((with_reducible refine tGuard ?_); refine gdC ?_ ?_ <;> (intro hgd; rw [hgd]; try (exfalso; simp at hgd; omega)))) <;> (try conv => arg 5; simp only [Act.put, List.setIfInBounds_toArray, setC]))
        go_roundw
        case rel => exact ⟨i + 1, by omega, by go_num, by rw [EM.out ()]; exact M⟩
        case measure => simp [intOf]; omega
       ·obtain rfl : i = 4 := by omega
        rw [← ed] at E
        clear ed EM
        go_wp2_with ((first | (go_at_call 175; (refine (WC _ _ n hlt hd _ (row_all (M.ok 0 _ rfl) hd yN) (SW.now M)).mono ?_; rintro e w1 ⟨p2, c2, rfl, MP⟩; replace M := M.join MP; clear MP; replace M := M.take1)) | ((with_reducible refine tM rfl ?_); refine mB ?_; try (clear M; (first | intro g w1 M | intro w1 M); try simp only [setC] at M)) | ((with_reducible refine tGuard ?_); refine gdC ?_ ?_ <;> (intro hgd; rw [hgd]; try (exfalso; simp at hgd; omega)))) <;> (try conv => arg 5; simp only [Act.put, List.setIfInBounds_toArray, setC]))
        go_roundw
        case rel => exact ⟨n + 1, p2, c2, by omega, rfl, by go_num, by rw [E.out ()]; exact M⟩
        case measure => simp [intOf]; omega
     ·rw [if_neg hr] at E
      replace E := Lib.hid fun _ : Unit => E
      have hr' : 14 ≤ (n : Int) + 1 := by omega
      go_wp2_with ((first | (go_at_call 175; (refine (WC _ _ n hlt hz _ (row_all (M.ok 0 _ rfl) hz yN) (SW.now M)).mono ?_; rintro e w1 ⟨p2, c2, rfl, MP⟩; replace M := M.join MP; clear MP; replace M := M.take1)) | ((with_reducible refine tM rfl ?_); refine mB ?_; try (clear M; (first | intro g w1 M | intro w1 M); try simp only [setC] at M)) | ((with_reducible refine tGuard ?_); refine gdC ?_ ?_ <;> (intro hgd; rw [hgd]; try (exfalso; simp at hgd; omega)))) <;> (try conv => arg 5; simp only [Act.put, List.setIfInBounds_toArray, setC]))
      go_roundw
      case rel => exact ⟨n + 1, p2, c2, by omega, rfl, by go_num, by rw [E.out ()]; exact M⟩
      case measure => simp [intOf]; omega
  ·obtain rfl : n = 14 := by omega
   go_wp2_with fail
   go_ret
   exact ⟨q, c, rfl, M⟩
end Go.Proofs.YtidadhbaomieiaaGreat

namespace Go.Proofs.YtidadhbaomieiaaGreat
open Go.RowKit Go.TL
theorem rStream_c (key nonce text : List UInt8) (w : World) (hk : key.length = 32) (hn : nonce.length = 12) (ht : text.length ≤ 1000000) :
  Calls Tryz.prog 105 #[.agg (bs key).toArray, .agg (bs nonce).toArray, .string (mkS text)] w fun e w' => e = .returned (.string (mkS (streamL key nonce text))) ∧ Below w.heap.size w w' := by
 have M := Mem.start [] w
 have hs := qFA
 have AC := refA_c
 have RA := rstr_all key nonce text hk hn ht
 have RC := fun (sv : Value) (w : World) (S : SeesB w sv boxL) => rsched_c key boxL sv w hk hs S
 have WL := wd_len boxL key 52
 obtain ⟨s, es⟩ : ∃ s, s = boxL := ⟨_, rfl⟩
 rw [← es] at hs AC RA RC WL
 clear es
 obtain ⟨ls, el⟩ : ∃ ls, ls = rsch s key 52 := ⟨_, rfl⟩
 rw [← el] at RA RC WL
 clear el
 obtain ⟨r, er⟩ : ∃ r, r = streamL key nonce text := ⟨_, rfl⟩
 rw [← er] at RA
 rw [← er]
 replace AC := Lib.hid AC
 replace RA := Lib.hid RA
 replace RC := Lib.hid RC
 clear er
 go_enter Tryz.func105, Tryz.ntmps105
 go_wp2_with ((first | ((with_reducible refine tBox (some 3) ?_); refine w_box M _ _ rfl rfl _ rfl (bs key) rfl ?_; clear M; intro gk w1 M) | ((with_reducible refine tBox (some 4) ?_); refine w_box M _ _ rfl rfl _ rfl (bs nonce) rfl ?_; clear M; intro gn w1 M) | (go_at_call 145; (refine (AC.out _).mono ?_; rintro e w1 ⟨ps, cs, rfl, MP⟩; replace M := M.join MP; clear MP; simp only [List.cons_append, List.nil_append] at M)) | (go_at_call 146; (refine (RC.out _ _ (qCf (M.ok 0 _ rfl) hs.symm)).mono ?_; rintro e w1 ⟨pw, cw, vs, rfl, MP⟩; replace M := M.join MP; clear MP; simp only [List.cons_append, List.nil_append] at M)) | ((with_reducible refine tM rfl ?_); refine mB ?_; try (clear M; (first | intro g w1 M | intro w1 M); try simp only [setC] at M)) | ((with_reducible refine tGuard ?_); refine gdC ?_ ?_ <;> (intro hgd; rw [hgd]; try (exfalso; simp at hgd; omega)))) <;> (try conv => arg 5; simp only [Act.put, List.setIfInBounds_toArray, setC]))
 have hvl : vs.length = 60 := by have := (M.ok 0 _ rfl).1; omega
 obtain ⟨gs, os, rfl⟩ := qBt (M.ok 2 _ rfl) yF
 obtain ⟨gw, ow, rfl⟩ := qBt (M.ok 0 _ rfl) yF
 (try conv => arg 4; dsimp only [mkS_fold])
 go_loopw [9, 10] (fun ov iv wr => ∃ n : Nat, 16 * n < text.length + 16 ∧ ov = .string (mkS (rstrS ls s nonce text n)) ∧ iv = .int .i64 (16 * (n : Int)) ∧ Mem [] w wr [.sl 1 (.slice (some ⟨gw, ow, none⟩) 60 cw) 60 vs, rowsC vs ls, .sl 1 (.slice (some ⟨gs, os, none⟩) 256 cs) 256 (bs s), .row gn (bs nonce), .row gk (bs key)]) (fun _ iv _ => text.length + 16 - (intOf iv).toNat)
 case atStart => exact ⟨0, by omega, rfl, rfl, M⟩
 case round =>
  clear M
  obtain ⟨n, hn16, rfl, rfl, M⟩ := hrel
  by_cases hlt : 16 * n < text.length
  ·have E := qEX ls s nonce text n
   have hol := qFR ls s nonce text n
   obtain ⟨o, eo⟩ : ∃ o, o = rstrS ls s nonce text n := ⟨_, rfl⟩
   rw [← eo] at E hol
   rw [← eo]
   clear eo
   have hnc : (nonce ++ cntL n).length = 16 := by rw [List.length_append, hn]; rfl
   have OC := fun (bv sv wv : Value) (w : World) S SS SW => rone_c (nonce ++ cntL n) s bv sv wv vs ls w hnc hs S SS SW hvl WL
   have hbl : (roneL ls s (nonce ++ cntL n)).length = 16 := qFT ls s _ 14
   obtain ⟨b, eb⟩ : ∃ b, b = roneL ls s (nonce ++ cntL n) := ⟨_, rfl⟩
   rw [← eb] at E OC hbl
   clear eb
   replace E := Lib.hid fun _ : Unit => E
   replace OC := Lib.hid OC
   have hI : (16 * (n : Int)) < (text.length : Int) := by omega
   have hdv : (16 * (n : Int)) / 16 = n := by omega
   go_wp2_with ((first | ((with_reducible show wpList _ _ _ (Oper.mk _ (Op.buildSlice _ 0 _) _ _ _ _ :: _) _ _); (refine qEq M bytesT rfl rfl ?_; clear M; intro g9 w1 M)) | ((with_reducible refine tApp ?_); (first | (refine qCb M 0 bytesT _ _ _ rfl (.inr ⟨_, Tryz.underlying70⟩) rfl rfl rfl rfl 12 (bs nonce) (srcB (row_all (M.ok 4 _ rfl) hn yN) hn) yZ yF ?_; clear M; intro p8 c8 w1 M; simp only [setC, List.nil_append, Nat.zero_add] at M) | (refine qCb M 1 bytesT _ _ _ rfl (.inr ⟨_, Tryz.underlying70⟩) rfl rfl rfl rfl 4 (bs (cntL n)) (srcB (qCf (M.ok 0 _ rfl) rfl) rfl) yZ yF ?_; clear M; intro p7 c7 w1 M; simp only [setC] at M; rw [← qBa] at M))) | ((with_reducible show wpList _ _ _ (Oper.mk _ (Op.buildSlice _ 4 _) _ _ _ _ :: _) _ _); (refine w_build4 M bytesT _ _ _ _ rfl rfl yE yE yE yE ?_; clear M; intro g4 w1 M)) | (go_at_call 147; (refine (OC.out _ _ _ _ (qCf (M.ok 1 _ rfl) hnc.symm) (qCf (M.ok 4 _ rfl) hs.symm) ⟨by rw [hvl]; exact Own.sees (M.ok 2 _ rfl), (M.ok 3 _ rfl).2.1⟩).mono ?_; rintro e w1 ⟨pb, cb, rfl, MP⟩; replace M := M.join MP; clear MP; simp only [List.cons_append, List.nil_append] at M)) | ((with_reducible refine tM rfl ?_); refine mB ?_; try (clear M; (first | intro g w1 M | intro w1 M); try simp only [setC] at M)) | ((with_reducible refine tGuard ?_); refine gdC ?_ ?_ <;> (intro hgd; rw [hgd]; try (exfalso; simp at hgd; omega)))) <;> (try conv => arg 5; simp only [Act.put, List.setIfInBounds_toArray, setC]))
   replace M := M.drop1.drop1
   obtain ⟨gb, ob, rfl⟩ := qBt (M.ok 0 _ rfl) yF
   obtain ⟨N, eN⟩ : ∃ N, N = min 16 (text.length - 16 * n) := ⟨_, rfl⟩
   rw [← eN] at E
   have hN1 : N ≤ 16 := by omega
   have hN2 : 16 * n + N ≤ text.length := by omega
   have hN3 : N = 16 ∨ 16 * n + N = text.length := by omega
   clear eN
   have e0 : o = o ++ rstrB b text (16 * n) 0 := by show o = o ++ []; rw [List.append_nil]
   go_loopw [9, 13] (fun ov iv wr => ∃ m : Nat, m ≤ N ∧ ov = .string (mkS (o ++ rstrB b text (16 * n) m)) ∧ iv = .int .i64 m ∧ Mem [] w wr [.sl 1 (.slice (some ⟨gb, ob, none⟩) 16 cb) 16 (bs b), .sl 1 (.slice (some ⟨gw, ow, none⟩) 60 cw) 60 vs, rowsC vs ls, .sl 1 (.slice (some ⟨gs, os, none⟩) 256 cs) 256 (bs s), .row gn (bs nonce), .row gk (bs key)]) (fun _ iv _ => 16 - (intOf iv).toNat)
   case atStart => exact ⟨0, by omega, by rw [← e0], rfl, M⟩
   case round =>
    clear M e0
    obtain ⟨m, hm, rfl, rfl, M⟩ := hrel
    have hrl := qDv b text (16 * n) m
    have ER := rstrB_succ b text (16 * n) m
    by_cases hlm : m < N
    ·obtain ⟨u, eu⟩ : ∃ u, u = rstrB b text (16 * n) m := ⟨_, rfl⟩
     rw [← eu] at ER hrl
     rw [← eu]
     replace ER := Lib.hid fun _ : Unit => ER
     clear eu
     have hm16 : (m : Int) < 16 := by omega
     have hmt : 16 * (n : Int) + (m : Int) < (text.length : Int) := by omega
     go_wp2_with ((first | ((with_reducible refine tGuard ?_); first | ((with_reducible refine qAC ?_ ?_); exact dcd) | ((with_reducible refine qAH ?_ ?_); exact dcd) | ((with_reducible refine qAI ?_ ?_); exact dcd)) | ((with_reducible show Code.wp _ (Code.region 12 _ _) _ _ _); (refine qAF [(0, false), (1, false), (2, false), (3, false), (4, false), (5, false), (6, false), (7, false), (8, false), (9, false), (10, false), (11, true), (12, false), (13, false), (14, false)] [(59, .int), (60, .int), (62, .int), (66, .int), (57, .str), (69, .str)] yD yD rfl yD ?_; replace M := M.drew; simp only [reord, opAt, List.map_cons, List.map_nil, gE])) | ((with_reducible refine tLoad ?_); (refine w_at _ _ rfl yI ?_; intro hx; (first | refine w_slB M 0 _ _ rfl rfl hx rfl yB m yQ yK ?_); clear hx)) | ((with_reducible refine tU 70 ?_); refine mU ?_; clear M; intro g w1 M) | ((with_reducible refine tM rfl ?_); refine mB ?_; try (clear M; (first | intro g w1 M | intro w1 M); try simp only [setC] at M)) | ((with_reducible first | show Seg _ _ _ _ | show OnlyN _ _ _ _ _); refine rA ?_) | ((with_reducible refine tGuard ?_); refine gdC ?_ ?_ <;> (intro hgd; rw [hgd]; try (exfalso; simp at hgd; omega)))) <;> (try conv => arg 5; simp only [Act.put, List.setIfInBounds_toArray, setC]))
     go_roundw
     case rel => exact ⟨m + 1, by omega, by rw [qBd b m, ER.out ()]; rfl, by go_num, M.tail⟩
     case measure => simp [intOf]; omega
    ·obtain rfl : m = N := by omega
     rw [← E.out ()]
     rcases hN3 with h16 | hte
     ·have hc : ¬ (m : Int) < 16 := by omega
      go_wp2_with ((first | ((with_reducible refine tGuard ?_); first | ((with_reducible refine qAC ?_ ?_); exact dcd) | ((with_reducible refine qAH ?_ ?_); exact dcd) | ((with_reducible refine qAI ?_ ?_); exact dcd)) | ((with_reducible refine tM rfl ?_); refine mB ?_; try (clear M; (first | intro g w1 M | intro w1 M); try simp only [setC] at M)) | ((with_reducible refine tGuard ?_); refine gdC ?_ ?_ <;> (intro hgd; rw [hgd]; try (exfalso; simp at hgd; omega)))) <;> (try conv => arg 5; simp only [Act.put, List.setIfInBounds_toArray, setC]))
      go_roundw
      case rel => exact ⟨n + 1, by omega, rfl, by go_num, M.tail⟩
      case measure => simp [intOf]; omega
     ·by_cases h16 : m = 16
      ·have hc : ¬ (m : Int) < 16 := by omega
       go_wp2_with ((first | ((with_reducible refine tGuard ?_); first | ((with_reducible refine qAC ?_ ?_); exact dcd) | ((with_reducible refine qAH ?_ ?_); exact dcd) | ((with_reducible refine qAI ?_ ?_); exact dcd)) | ((with_reducible refine tM rfl ?_); refine mB ?_; try (clear M; (first | intro g w1 M | intro w1 M); try simp only [setC] at M)) | ((with_reducible refine tGuard ?_); refine gdC ?_ ?_ <;> (intro hgd; rw [hgd]; try (exfalso; simp at hgd; omega)))) <;> (try conv => arg 5; simp only [Act.put, List.setIfInBounds_toArray, setC]))
       go_roundw
       case rel => exact ⟨n + 1, by omega, rfl, by go_num, M.tail⟩
       case measure => simp [intOf]; omega
      ·have hc : (m : Int) < 16 := by omega
       have hc2 : ¬ 16 * (n : Int) + (m : Int) < (text.length : Int) := by omega
       go_wp2_with ((first | ((with_reducible refine tGuard ?_); first | ((with_reducible refine qAC ?_ ?_); exact dcd) | ((with_reducible refine qAH ?_ ?_); exact dcd) | ((with_reducible refine qAI ?_ ?_); exact dcd)) | ((with_reducible refine tM rfl ?_); refine mB ?_; try (clear M; (first | intro g w1 M | intro w1 M); try simp only [setC] at M)) | ((with_reducible refine tGuard ?_); refine gdC ?_ ?_ <;> (intro hgd; rw [hgd]; try (exfalso; simp at hgd; omega)))) <;> (try conv => arg 5; simp only [Act.put, List.setIfInBounds_toArray, setC]))
       go_roundw
       case rel => exact ⟨n + 1, by omega, rfl, by go_num, M.tail⟩
       case measure => simp [intOf]; omega
  ·obtain ⟨n0, rfl⟩ : ∃ m, n = m := ⟨n, rfl⟩
   have e := RA.out n yF yF
   rw [e]
   have hI : (text.length : Int) ≤ 16 * (n : Int) := by omega
   go_wp2_with fail
   go_ret
   exact ⟨rfl, M.below⟩
end Go.Proofs.YtidadhbaomieiaaGreat

namespace Go
namespace TL
theorem byte32 (b : UInt32) (m : Nat) (c : UInt64) (hc : (8 * c).toNat % 64 = m) : w8 (I32 b / 2 ^ m) = (b.toUInt64 >>> (8 * c)).toUInt8 := by
 apply UInt8.toNat_inj.1
 rw [toNat_w8, I32_eq, UInt64.toNat_toUInt8, UInt64.toNat_shiftRight, UInt32.toNat_toUInt64, hc, Nat.shiftRight_eq_div_pow]
 have e : ((b.toNat : Nat) : Int) / 2 ^ m = ((b.toNat / 2 ^ m : Nat) : Int) := by simp
 rw [e]; omega
theorem byte64 (n : UInt64) (m : Nat) (c : UInt64) (hc : (8 * c).toNat % 64 = m) : w8 (I64 n / 2 ^ m) = (n >>> (8 * c)).toUInt8 := by
 apply UInt8.toNat_inj.1
 rw [toNat_w8, qBU, UInt64.toNat_toUInt8, UInt64.toNat_shiftRight, hc, Nat.shiftRight_eq_div_pow]
 have e : ((n.toNat : Nat) : Int) / 2 ^ m = ((n.toNat / 2 ^ m : Nat) : Int) := by simp
 rw [e]; omega
theorem nonce_lo (b : UInt32) (n : UInt64) (j : Nat) (h : j < 4) : w8 (I32 b / 2 ^ (24 - 8 * j)) = nth (nonceL b n) j := by
 match j, h with
 | 0, _ => exact byte32 b 24 (UInt64.ofNat 3) yN
 | 1, _ => exact byte32 b 16 (UInt64.ofNat 2) yN
 | 2, _ => exact byte32 b 8 (UInt64.ofNat 1) yN
 | 3, _ => exact byte32 b 0 (UInt64.ofNat 0) yN
theorem nonce_hi (b : UInt32) (n : UInt64) (j : Nat) (h : 4 ≤ j) (h2 : j < 12) : w8 (I64 n / 2 ^ (88 - 8 * j)) = nth (nonceL b n) j := by
 match j, h, h2 with
 | 4, _, _ => exact byte64 n 56 (UInt64.ofNat 7) yN
 | 5, _, _ => exact byte64 n 48 (UInt64.ofNat 6) yN
 | 6, _, _ => exact byte64 n 40 (UInt64.ofNat 5) yN
 | 7, _, _ => exact byte64 n 32 (UInt64.ofNat 4) yN
 | 8, _, _ => exact byte64 n 24 (UInt64.ofNat 3) yN
 | 9, _, _ => exact byte64 n 16 (UInt64.ofNat 2) yN
 | 10, _, _ => exact byte64 n 8 (UInt64.ofNat 1) yN
 | 11, _, _ => exact byte64 n 0 (UInt64.ofNat 0) yN
theorem take_next (l : List UInt8) (m j : Nat) (h : l.length = m) (hj : j < m) : (l.take j ++ List.replicate (m - j) (0 : UInt8)).set j (nth l j) = l.take (j + 1) ++ List.replicate (m - (j + 1)) 0 := by
 rw [List.take_succ_eq_append_getElem (show j < l.length by omega)]
 have e1 : (l.take j).length = j := by simp; omega
 rw [List.set_append_right _ _ yF, e1, Nat.sub_self, show m - j = (m - (j + 1)) + 1 by omega, List.replicate_succ, List.set_cons_zero, List.append_assoc, qBZ l j yF]
 rfl
theorem nonce_hj (b : UInt32) (n : UInt64) (j : Nat) (h : j < 8) : w8 (I64 n / 2 ^ (56 - 8 * j)) = nth (nonceL b n) (4 + j) := by
 rw [← nonce_hi b n (4 + j) yF yF, show 88 - 8 * (4 + j) = 56 - 8 * j by omega]
end TL
end Go

namespace Go.Proofs.YtidadhbaomieiaaGreat
open Go.RowKit Go.TL
theorem a32T (l m : List UInt8) (hl : l.length = 32) (hm : m.length = 32) : EqRow Tryz.prog 49 l m :=
 eqRow Tryz.underlying49 Tryz.underlying5 yD yD l m hl hm
section
variable (l m : List UInt8) (hl : l.length = 32) (hm : m.length = 32) (w : World)
include hl hm
@[go_sem ↓] theorem a32_neq : (binOp .neq 49 (.agg (bs l).toArray) (.agg (bs m).toArray)).run Tryz.prog w = .ok (.bool (!(l == m))) w := (a32T l m hl hm).neq w
@[go_sem ↓] theorem a32_guardN (x y : Operand) : (eqGuard .neq 49 x y (.agg (bs l).toArray) (.agg (bs m).toArray)).run Tryz.prog w = .ok () w := (a32T l m hl hm).guardN x y w
end
theorem under_c (key label : List UInt8) (w : World) (hk : key.length = 32) (hl : label.length ≤ 100) :
  Calls Tryz.prog 106 #[.agg (bs key).toArray, .string (mkS label)] w fun e w' => e = .returned (.agg (bs (macL key label)).toArray) ∧ Below w.heap.size w w' := by
 have M := Mem.start [] w
 have TC := fun w => qEy key label w yF yF
 have hr : (macL key label).length = 32 := qAq _ _
 obtain ⟨r, er⟩ : ∃ r, r = macL key label := ⟨_, rfl⟩
 rw [← er] at TC hr
 rw [← er]
 replace TC := Lib.hid TC
 clear er
 go_enter Tryz.func106, Tryz.ntmps106
 go_wp2_with ((first | ((with_reducible refine tBox (some 2) ?_); refine w_box M _ _ rfl rfl _ rfl (bs key) rfl ?_; clear M; intro gk w1 M) | ((with_reducible refine tAlloc (some 4) 49 ?_); refine wal M _ rfl rfl (bs (List.replicate 32 (0 : UInt8))) yD ?_; clear M; intro gr w1 M) | (go_at_call 48; (refine (TC.out _).mono ?_; rintro e w1 ⟨rfl, hb⟩; replace M := M.call hb; clear hb)) | ((with_reducible refine tM rfl ?_); refine mB ?_; try (clear M; (first | intro g w1 M | intro w1 M); try simp only [setC] at M)) | ((with_reducible refine tGuard ?_); refine gdC ?_ ?_ <;> (intro hgd; rw [hgd]; try (exfalso; simp at hgd; omega)))) <;> (try conv => arg 5; simp only [Act.put, List.setIfInBounds_toArray, setC]))
 exact bodyPost_ret (qAS rfl _ _ gr 0 (bs r) _ rfl (M.ok 0 _ rfl).2.1 Tryz.underlying49 rfl yF1) rfl ⟨rfl, M.below⟩
theorem refStream_c (key : List UInt8) (k : Int) (b : UInt32) (n : UInt64) (d t text : List UInt8) (w : World) (hk : key.length = 32) (_ht : t.length = 32) (hx : text.length ≤ 1000000) :
  Calls Tryz.prog 68 #[.agg (bs key).toArray, .agg (envC k b n d t).toArray, .string (mkS text)] w fun e w' => e = .returned (.string (mkS (sealL key b n text))) ∧ Below w.heap.size w w' := by
 have M := Mem.start [] w
 have SE : sealL key b n text = streamL (macL key encL) (nonceL b n) text := rfl
 have hm := qAq key encL
 have hn0 := qEZ b n
 have KC := fun w => under_c key encL w hk yN
 have SC := fun w => rStream_c (macL key encL) (nonceL b n) text w hm hn0 hx
 rw [← SE] at SC
 obtain ⟨s, es⟩ : ∃ s, s = sealL key b n text := ⟨_, rfl⟩
 rw [← es] at SC
 rw [← es]
 obtain ⟨m, em⟩ : ∃ m, m = macL key encL := ⟨_, rfl⟩
 rw [← em] at KC SC hm
 obtain ⟨nn, enn⟩ : ∃ x, x = nonceL b n := ⟨_, rfl⟩
 rw [← enn] at SC hn0
 replace KC := Lib.hid KC
 replace SC := Lib.hid SC
 have ENN := Lib.hid fun _ : Unit => enn
 clear es em SE enn
 go_enter Tryz.func68, Tryz.ntmps68
 go_wp2_with ((first | ((with_reducible refine tBox (some 3) ?_); refine w_box M _ _ rfl rfl _ rfl (bs key) rfl ?_; clear M; intro gk w1 M) | ((with_reducible refine tBox (some 4) ?_); refine w_box M _ _ rfl rfl _ rfl (envC k b n d t) rfl ?_; clear M; intro gx w1 M) | ((with_reducible refine tAlloc (some 7) 194 ?_); refine wal M _ rfl rfl (bs (List.replicate 12 (0 : UInt8))) yD ?_; clear M; intro gn w1 M) | ((with_reducible refine tLoad ?_); refine w_at _ _ rfl yI ?_; intro hx; (first | refine qAu M _ _ _ rfl yL hx rfl yB yB yC ?_ | refine qAj M _ _ _ rfl yL hx rfl yB yB yC ?_); clear hx) | ((with_reducible refine tStore ?_); refine w_at2 _ _ _ rfl yE yE ?_; intro hx hy; (first | refine qAL M _ _ _ _ rfl yL hx rfl hy rfl yB yC yC ?_ | refine qAL (k := 0) (b := 0) (n := 0) (d := []) (tg := zeroT) M _ _ _ _ rfl yL hx rfl hy rfl yB qAO yC ?_ | refine qAL (tg := zeroT) M _ _ _ _ rfl yL hx rfl hy rfl yB qAO yC ?_ | refine qAd M _ _ _ _ rfl yL hx rfl hy yB yC yC ?_ | refine qAU M _ _ _ _ rfl yL hx rfl hy yB ?_ | refine qAe M _ _ _ _ rfl yL hx rfl hy yB ?_); clear hx hy M; intro w1 M; (try simp only [setC] at M)) | ((with_reducible refine tConv _ 70 9 ?_); (first | refine qAT M _ _ _ _ _ rfl rfl yL rfl yC Tryz.underlying70 Tryz.underlying5 Tryz.underlying9 ?_)) | ((with_reducible refine tM rfl ?_); refine mB ?_; try (clear M; (first | intro g w1 M | intro w1 M); try simp only [setC] at M)) | ((with_reducible refine tGuard ?_); refine gdC ?_ ?_ <;> (intro hgd; rw [hgd]; try (exfalso; simp at hgd; omega)))) <;> (try conv => arg 5; simp only [Act.put, List.setIfInBounds_toArray, setC]))
 go_loopw [8] (fun iv wr => ∃ j : Nat, j ≤ 4 ∧ iv = .int .i64 j ∧ Mem [] w wr [.row gn (bs (nn.take j ++ List.replicate (12 - j) 0)), .row gx (envC k b n d t), .row gk (bs key)]) (fun iv _ => 4 - (intOf iv).toNat)
 case atStart => exact ⟨0, by omega, rfl, M⟩
 case round =>
  clear M
  obtain ⟨j, hj, rfl, M⟩ := hrel
  have hln : (nn.take j ++ List.replicate (12 - j) (0 : UInt8)).length = 12 := by simp; omega
  by_cases hlt : j < 4
  ·obtain ⟨l, el⟩ : ∃ l, l = nn.take j ++ List.replicate (12 - j) (0 : UInt8) := ⟨_, rfl⟩
   rw [← el] at M hln
   have EL := Lib.hid fun _ : Unit => el
   clear el
   have q1 : 0 ≤ 24 - 8 * (j : Int) := by omega
   have q2 : 24 - 8 * (j : Int) ≤ 31 := by omega
   have q3 : I64 (w64 (24 - 8 * (j : Int))) = 24 - 8 * (j : Int) := by rw [show 24 - 8 * (j : Int) = ((24 - 8 * j : Nat) : Int) by omega]; exact qBG _ yF
   have q4 : (24 - 8 * (j : Int)).toNat = 24 - 8 * j := by omega
   go_wp2_with ((first | ((with_reducible refine tM rfl ?_); refine mB ?_; try (clear M; (first | intro g w1 M | intro w1 M); try simp only [setC] at M)) | ((with_reducible refine tGuard ?_); refine gdC ?_ ?_ <;> (intro hgd; rw [hgd]; try (exfalso; simp at hgd; omega)))) <;> (try conv => arg 5; simp only [Act.put, List.setIfInBounds_toArray, setC]))
   rw [nonce_lo b n j hlt, ← ENN.out (), EL.out (), take_next nn 12 j hn0 yF] at M
   go_roundw
   case rel => exact ⟨j + 1, by omega, by go_num, M⟩
   case measure => simp [intOf]; omega
  ·obtain rfl : j = 4 := by omega
   go_wp2_with fail
   rw [show ((4 : Nat) : Int) = 4 from rfl]
   go_loopw [9] (fun iv wr => ∃ j : Nat, j ≤ 8 ∧ iv = .int .i64 j ∧ Mem [] w wr [.row gn (bs (nn.take (4 + j) ++ List.replicate (12 - (4 + j)) 0)), .row gx (envC k b n d t), .row gk (bs key)]) (fun iv _ => 8 - (intOf iv).toNat)
   case atStart => exact ⟨0, by omega, rfl, M⟩
   case round =>
    clear M hln
    obtain ⟨j, hj, rfl, M⟩ := hrel
    have hln : (nn.take (4 + j) ++ List.replicate (12 - (4 + j)) (0 : UInt8)).length = 12 := by simp; omega
    by_cases hlt : j < 8
    ·obtain ⟨l, el⟩ : ∃ l, l = nn.take (4 + j) ++ List.replicate (12 - (4 + j)) (0 : UInt8) := ⟨_, rfl⟩
     rw [← el] at M hln
     have EL := Lib.hid fun _ : Unit => el
     clear el
     have q1 : 0 ≤ 56 - 8 * (j : Int) := by omega
     have q2 : 56 - 8 * (j : Int) ≤ 63 := by omega
     have q3 : I64 (w64 (56 - 8 * (j : Int))) = 56 - 8 * (j : Int) := by rw [show 56 - 8 * (j : Int) = ((56 - 8 * j : Nat) : Int) by omega]; exact qBG _ yF
     have q4 : (56 - 8 * (j : Int)).toNat = 56 - 8 * j := by omega
     go_wp2_with ((first | ((with_reducible refine tM rfl ?_); refine mB ?_; try (clear M; (first | intro g w1 M | intro w1 M); try simp only [setC] at M)) | ((with_reducible refine tGuard ?_); refine gdC ?_ ?_ <;> (intro hgd; rw [hgd]; try (exfalso; simp at hgd; omega)))) <;> (try conv => arg 5; simp only [Act.put, List.setIfInBounds_toArray, setC]))
     rw [nonce_hj b n j hlt, ← ENN.out (), EL.out (), take_next nn 12 (4 + j) hn0 yF] at M
     go_roundw
     case rel => exact ⟨j + 1, by omega, by go_num, M⟩
     case measure => simp [intOf]; omega
    ·obtain rfl : j = 8 := by omega
     have e : nn.take (4 + 8) ++ List.replicate (12 - (4 + 8)) (0 : UInt8) = nn := by rw [List.take_of_length_le yF]; simp
     rw [e] at M
     clear e hln
     go_wp2_with ((first | ((with_reducible show Code.wp _ (Code.region 10 _ _) _ _ _); (have MR := M; refine qAB [(3, false), (0, false), (2, false), (1, true), (4, true), (5, false)] [] [(0, _), (2, _)] (IxOk MR [2, 0]) 6 yD yD rfl yD (lowA MR 2 0 (lowA MR 0 0 qAN)) (qAJ MR _) ?_; replace M := M.drew; simp only [planC, opAt, gE])) | (go_at_call 106; (refine (KC.out _).mono ?_; rintro e w1 ⟨rfl, hb⟩; replace M := M.call hb; clear hb)) | (go_at_call 105; (refine (SC.out _).mono ?_; rintro e w1 ⟨rfl, hb⟩; replace M := M.call hb; clear hb)) | ((with_reducible refine tM rfl ?_); refine mB ?_; try (clear M; (first | intro g w1 M | intro w1 M); try simp only [setC] at M)) | ((with_reducible first | show Seg _ _ _ _ | show OnlyN _ _ _ _ _); refine rA ?_) | ((with_reducible refine tGuard ?_); refine gdC ?_ ?_ <;> (intro hgd; rw [hgd]; try (exfalso; simp at hgd; omega)))) <;> (try conv => arg 5; simp only [Act.put, List.setIfInBounds_toArray, setC]))
     go_ret
     exact ⟨rfl, M.below⟩
theorem qGI (key : List UInt8) (k : Nat) (b : UInt32) (n : UInt64) (d t about : List UInt8) (w : World) (hk : key.length = 32) (ht : t.length = 32) (hkk : k ≤ 1048576) (ha : about.length ≤ 100000) (hd : d.length ≤ 100000) :
  Calls Tryz.prog 69 #[.agg (bs key).toArray, .agg (envC k b n d t).toArray, .string (mkS about)] w fun e w' => e = .returned (.agg (bs (tagL key k b n about d)).toArray) ∧ Below w.heap.size w w' := by
 have M := Mem.start [] w
 have SE : tagL key k b n about d = macL (macL key macT) (headL k b n ++ (textL about ++ textL d)) := rfl
 have KC := fun w => under_c key macT w hk yN
 have hm := qAq key macT
 have hh := qEJ k b n yF
 have hta : (textL about).length ≤ 100010 := by unfold textL; have := qAG about.length yF; simp; omega
 have htd : (textL d).length ≤ 100010 := by unfold textL; have := qAG d.length yF; simp; omega
 have HC := fun w => refHead_c k b n d t w hkk
 have T1 := fun w => Text01_c about w yF
 have T2 := fun w => Text01_c d w yF
 have TC := fun w => qEy (macL key macT) (headL k b n ++ (textL about ++ textL d)) w yF yC1
 obtain ⟨m, em⟩ : ∃ m, m = macL key macT := ⟨_, rfl⟩
 rw [← em] at KC SE hm TC
 obtain ⟨h0, eh⟩ : ∃ x, x = headL k b n := ⟨_, rfl⟩
 rw [← eh] at SE HC TC hh
 obtain ⟨u1, eu1⟩ : ∃ x, x = textL about := ⟨_, rfl⟩
 rw [← eu1] at SE T1 TC hta
 obtain ⟨u2, eu2⟩ : ∃ x, x = textL d := ⟨_, rfl⟩
 rw [← eu2] at SE T2 TC htd
 obtain ⟨r, er⟩ : ∃ x, x = macL m (h0 ++ (u1 ++ u2)) := ⟨_, rfl⟩
 have hr : r.length = 32 := by rw [er]; exact qAq _ _
 rw [← er] at SE TC
 have ER := Lib.hid fun _ : Unit => SE
 replace KC := Lib.hid KC
 replace HC := Lib.hid HC
 replace TC := Lib.hid TC
 replace T1 := Lib.hid T1
 replace T2 := Lib.hid T2
 clear em eh eu1 eu2 er SE
 go_enter Tryz.func69, Tryz.ntmps69
 go_wp2_with ((first | ((with_reducible refine tBox (some 3) ?_); refine w_box M _ _ rfl rfl _ rfl (bs key) rfl ?_; clear M; intro gk w1 M) | ((with_reducible refine tBox (some 4) ?_); refine w_box M _ _ rfl rfl _ rfl (envC k b n d t) rfl ?_; clear M; intro gx w1 M) | ((with_reducible refine tAlloc (some 6) 49 ?_); refine wal M _ rfl rfl (bs (List.replicate 32 (0 : UInt8))) yD ?_; clear M; intro gr w1 M) | ((with_reducible refine tAlloc (some 7) 49 ?_); refine wal M _ rfl rfl (bs (List.replicate 32 (0 : UInt8))) yD ?_; clear M; intro gm w1 M) | ((with_reducible show Code.wp _ (Code.region 2 _ _) _ _ _); (have MR := M; refine qAB [(0, false), (4, false), (7, false), (1, false), (2, false), (8, false), (3, true), (5, true), (6, false), (9, true), (10, false), (11, true), (12, true)] [(13, .str), (15, .str), (16, .str), (19, .str)] [(1, _), (2, _), (8, _)] (IxOk MR [0, 2]) 12 yD yD rfl yD (lowA MR 0 0 (qAa (qCd MR 2 rfl rfl yN yB yB yA1) (lowA MR 2 3 qAN))) (qAJ MR _) ?_; replace M := M.drew; simp only [planC, opAt, gE])) | (go_at_call 72; ((first | (with_reducible refine (T1.out _).mono ?_) | (with_reducible refine (T2.out _).mono ?_)); rintro e w1 ⟨rfl, hb⟩; replace M := M.call hb; clear hb)) | (go_at_call 106; (refine (KC.out _).mono ?_; rintro e w1 ⟨rfl, hb⟩; replace M := M.call hb; clear hb)) | (go_at_call 71; (refine (HC.out _).mono ?_; rintro e w1 ⟨rfl, hb⟩; replace M := M.call hb; clear hb)) | (go_at_call 48; (refine (TC.out _).mono ?_; rintro e w1 ⟨rfl, hb⟩; replace M := M.call hb; clear hb)) | ((with_reducible refine tLoad ?_); refine w_at _ _ rfl yI ?_; intro hx; (first | refine qAu M _ _ _ rfl yX hx rfl yB yB yC ?_ | refine qAj M _ _ _ rfl yX hx rfl yB yB yC ?_); clear hx) | ((with_reducible refine tStore ?_); refine w_at2 _ _ _ rfl yE yE ?_; intro hx hy; (first | refine qAL M _ _ _ _ rfl yX hx rfl hy rfl yB yC yC ?_ | refine qAL (k := 0) (b := 0) (n := 0) (d := []) (tg := zeroT) M _ _ _ _ rfl yX hx rfl hy rfl yB qAO yC ?_ | refine qAL (tg := zeroT) M _ _ _ _ rfl yX hx rfl hy rfl yB qAO yC ?_ | refine qAd M _ _ _ _ rfl yX hx rfl hy yB yC yC ?_ | refine qAU M _ _ _ _ rfl yX hx rfl hy yB ?_ | refine qAe M _ _ _ _ rfl yX hx rfl hy yB ?_); clear hx hy M; intro w1 M; (try simp only [setC] at M)) | ((with_reducible refine tConv _ 70 9 ?_); (first | refine qAT M _ _ _ _ _ rfl rfl yX rfl yC Tryz.underlying70 Tryz.underlying5 Tryz.underlying9 ?_)) | ((with_reducible refine tM rfl ?_); refine mB ?_; try (clear M; (first | intro g w1 M | intro w1 M); try simp only [setC] at M)) | ((with_reducible first | show Seg _ _ _ _ | show OnlyN _ _ _ _ _); refine rA ?_) | ((with_reducible refine tGuard ?_); refine gdC ?_ ?_ <;> (intro hgd; rw [hgd]; try (exfalso; simp at hgd; omega)))) <;> (try conv => arg 5; simp only [Act.put, List.setIfInBounds_toArray, setC]))
 exact bodyPost_ret (qAS rfl _ _ gr 0 (bs r) _ rfl (M.ok 1 _ rfl).2.1 Tryz.underlying49 rfl yF1) rfl ⟨congrArg (fun x => Ending.returned (.agg (bs x).toArray)) (ER.out ()).symm, M.below⟩
end Go.Proofs.YtidadhbaomieiaaGreat
