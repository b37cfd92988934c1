/- The walk of layer 4's reference's stream. Conditions: lengths. -/
import Derived.Test.YtidadhbaomieiaaGreatVRefA3
import Derived.Test.YtidadhbaomieiaaGreatZc
namespace Go.Proofs.YtidadhbaomieiaaGreat
open Go.RowKit Go.TL
set_option maxRecDepth 100000 in
set_option maxHeartbeats 8000000 in
theorem rStream_c (key nonce text : List UInt8) (w : World) (hk : key.length = 32) (hn : nonce.length = 12) (ht : text.length ≤ 1000000) :
    Calls Tryz.prog 105 #[.agg (bs key).toArray, .agg (bs nonce).toArray, .string (mkS text)] w fun e w' => e = .returned (.string (mkS (streamL key nonce text))) ∧ Below w.heap.size w w' := by
  have M := Mem.start [] w
  have hs := boxL_len
  have AC := refA_c
  have RA := rstr_all key nonce text hk hn ht
  have RC := fun (sv : Value) (w : World) (S : SeesB w sv boxL) => rsched_c key boxL sv w hk hs S
  have WL := wd_len boxL key 52
  obtain ⟨s, es⟩ : ∃ s, s = boxL := ⟨_, rfl⟩
  rw [← es] at hs AC RA RC WL
  clear es
  obtain ⟨ls, el⟩ : ∃ ls, ls = rsch s key 52 := ⟨_, rfl⟩
  rw [← el] at RA RC WL
  clear el
  obtain ⟨r, er⟩ : ∃ r, r = streamL key nonce text := ⟨_, rfl⟩
  rw [← er] at RA
  rw [← er]
  replace AC := Lib.hid AC
  replace RA := Lib.hid RA
  replace RC := Lib.hid RC
  clear er
  go_enter Tryz.func105, Tryz.ntmps105
  go_wp2_with ((first | ((with_reducible refine tBox (some 3) ?_); refine w_box M _ _ rfl rfl _ rfl (bs key) rfl ?_; clear M; intro gk w1 M) | ((with_reducible refine tBox (some 4) ?_); refine w_box M _ _ rfl rfl _ rfl (bs nonce) rfl ?_; clear M; intro gn w1 M) | (go_at_call 145; go_must (refine (AC.out _).mono ?_; rintro e w1 ⟨ps, cs, rfl, MP⟩; replace M := M.join MP; clear MP; simp only [List.cons_append, List.nil_append] at M)) | (go_at_call 146; go_must (refine (RC.out _ _ (sees_of (M.ok 0 _ rfl) hs.symm)).mono ?_; rintro e w1 ⟨pw, cw, vs, rfl, MP⟩; replace M := M.join MP; clear MP; simp only [List.cons_append, List.nil_append] at M)) | ((with_reducible refine tGuard ?_); first | refine gdS ?_ | (refine gdC ?_ ?_ <;> (intro hgd; rw [hgd]; try (exfalso; simp at hgd; omega)))) | ((with_reducible refine tConv _ 70 9 ?_); go_must (refine cvB ?_)) | ((with_reducible refine tLoad ?_); go_must (refine ldB ?_)) | ((with_reducible refine tStore ?_); go_must (refine stB ?_; clear M; intro w1 M; (try simp only [setC] at M))) | ((with_reducible refine tBox _ ?_); (refine bxA M ?_; clear M; intro g w1 M))) <;> (try conv => arg 5; simp only [Act.put, List.setIfInBounds_toArray, setC]))
  have hvl : vs.length = 60 := by have := (M.ok 0 _ rfl).1; omega
  obtain ⟨gs, os, rfl⟩ := own_addr (M.ok 2 _ rfl) (by omega)
  obtain ⟨gw, ow, rfl⟩ := own_addr (M.ok 0 _ rfl) (by omega)
  (try conv => arg 4; dsimp only [mkS_fold])
  go_loopw [9, 10] (fun ov iv wr => ∃ n : Nat, 16 * n < text.length + 16 ∧ ov = .string (mkS (rstrS ls s nonce text n)) ∧ iv = .int .i64 (16 * (n : Int)) ∧ Mem [] w wr [.sl 1 (.slice (some ⟨gw, ow, none⟩) 60 cw) 60 vs, rowsC vs ls, .sl 1 (.slice (some ⟨gs, os, none⟩) 256 cs) 256 (bs s), .row gn (bs nonce), .row gk (bs key)]) (fun _ iv _ => text.length + 16 - (intOf iv).toNat)
  case atStart => exact ⟨0, by omega, rfl, rfl, M⟩
  case round =>
    clear M
    obtain ⟨n, hn16, rfl, rfl, M⟩ := hrel
    by_cases hlt : 16 * n < text.length
    · have E := rstrS_succ ls s nonce text n
      have hol := rstrS_len ls s nonce text n
      obtain ⟨o, eo⟩ : ∃ o, o = rstrS ls s nonce text n := ⟨_, rfl⟩
      rw [← eo] at E hol
      rw [← eo]
      clear eo
      have hnc : (nonce ++ cntL n).length = 16 := by rw [List.length_append, hn]; rfl
      have OC := fun (bv sv wv : Value) (w : World) S SS SW => rone_c (nonce ++ cntL n) s bv sv wv vs ls w hnc hs S SS SW hvl WL
      have hbl : (roneL ls s (nonce ++ cntL n)).length = 16 := roneS_len ls s _ 14
      obtain ⟨b, eb⟩ : ∃ b, b = roneL ls s (nonce ++ cntL n) := ⟨_, rfl⟩
      rw [← eb] at E OC hbl
      clear eb
      replace E := Lib.hid fun _ : Unit => E
      replace OC := Lib.hid OC
      have hI : (16 * (n : Int)) < (text.length : Int) := by omega
      have hdv : (16 * (n : Int)) / 16 = n := by omega
      go_wp2_with ((first | ((with_reducible show wpList _ _ _ (Oper.mk _ (Op.buildSlice _ 0 _) _ _ _ _ :: _) _ _); go_must (refine w_build0 M bytesT rfl rfl ?_; clear M; intro g9 w1 M)) | ((with_reducible refine tApp ?_); go_must (first | (refine w_append M 0 bytesT _ _ _ rfl (.inr ⟨_, Tryz.underlying70⟩) rfl rfl rfl rfl 12 (bs nonce) (srcB (row_all (M.ok 4 _ rfl) hn (by decide)) hn) (by simp only [maxLen]; omega) (by omega) ?_; clear M; intro p8 c8 w1 M; simp only [setC, List.nil_append, Nat.zero_add] at M) | (refine w_append M 1 bytesT _ _ _ rfl (.inr ⟨_, Tryz.underlying70⟩) rfl rfl rfl rfl 4 (bs (cntL n)) (srcB (sees_of (M.ok 0 _ rfl) rfl) rfl) (by simp only [maxLen]; omega) (by omega) ?_; clear M; intro p7 c7 w1 M; simp only [setC] at M; rw [← bs_append] at M))) | ((with_reducible show wpList _ _ _ (Oper.mk _ (Op.buildSlice _ 4 _) _ _ _ _ :: _) _ _); go_must (refine w_build4 M bytesT _ _ _ _ rfl rfl (by first | exact ev_tmp rfl | exact ev_const) (by first | exact ev_tmp rfl | exact ev_const) (by first | exact ev_tmp rfl | exact ev_const) (by first | exact ev_tmp rfl | exact ev_const) ?_; clear M; intro g4 w1 M)) | (go_at_call 147; go_must (refine (OC.out _ _ _ _ (sees_of (M.ok 1 _ rfl) hnc.symm) (sees_of (M.ok 4 _ rfl) hs.symm) ⟨by rw [hvl]; exact Own.sees (M.ok 2 _ rfl), (M.ok 3 _ rfl).2.1⟩).mono ?_; rintro e w1 ⟨pb, cb, rfl, MP⟩; replace M := M.join MP; clear MP; simp only [List.cons_append, List.nil_append] at M)) | ((with_reducible refine tGuard ?_); first | refine gdS ?_ | (refine gdC ?_ ?_ <;> (intro hgd; rw [hgd]; try (exfalso; simp at hgd; omega)))) | ((with_reducible refine tConv _ 70 9 ?_); go_must (refine cvB ?_)) | ((with_reducible refine tLoad ?_); go_must (refine ldB ?_)) | ((with_reducible refine tStore ?_); go_must (refine stB ?_; clear M; intro w1 M; (try simp only [setC] at M))) | ((with_reducible refine tBox _ ?_); (refine bxA M ?_; clear M; intro g w1 M))) <;> (try conv => arg 5; simp only [Act.put, List.setIfInBounds_toArray, setC]))
      replace M := M.drop1.drop1
      obtain ⟨gb, ob, rfl⟩ := own_addr (M.ok 0 _ rfl) (by omega)
      obtain ⟨N, eN⟩ : ∃ N, N = min 16 (text.length - 16 * n) := ⟨_, rfl⟩
      rw [← eN] at E
      have hN1 : N ≤ 16 := by omega
      have hN2 : 16 * n + N ≤ text.length := by omega
      have hN3 : N = 16 ∨ 16 * n + N = text.length := by omega
      clear eN
      have e0 : o = o ++ rstrB b text (16 * n) 0 := by show o = o ++ []; rw [List.append_nil]
      go_loopw [9, 13] (fun ov iv wr => ∃ m : Nat, m ≤ N ∧ ov = .string (mkS (o ++ rstrB b text (16 * n) m)) ∧ iv = .int .i64 m ∧ Mem [] w wr [.sl 1 (.slice (some ⟨gb, ob, none⟩) 16 cb) 16 (bs b), .sl 1 (.slice (some ⟨gw, ow, none⟩) 60 cw) 60 vs, rowsC vs ls, .sl 1 (.slice (some ⟨gs, os, none⟩) 256 cs) 256 (bs s), .row gn (bs nonce), .row gk (bs key)]) (fun _ iv _ => 16 - (intOf iv).toNat)
      case atStart => exact ⟨0, by omega, by rw [← e0], rfl, M⟩
      case round =>
        clear M e0
        obtain ⟨m, hm, rfl, rfl, M⟩ := hrel
        have hrl := rstrB_len b text (16 * n) m
        have ER := rstrB_succ b text (16 * n) m
        by_cases hlm : m < N
        · obtain ⟨u, eu⟩ : ∃ u, u = rstrB b text (16 * n) m := ⟨_, rfl⟩
          rw [← eu] at ER hrl
          rw [← eu]
          replace ER := Lib.hid fun _ : Unit => ER
          clear eu
          have hm16 : (m : Int) < 16 := by omega
          have hmt : 16 * (n : Int) + (m : Int) < (text.length : Int) := by omega
          go_wp2_with ((first | ((with_reducible refine tGuard ?_); (with_reducible refine w_stripE ?_ ?_); (focus (refine ⟨_, rfl, ?_⟩; first | (with_reducible rfl) | exact decide_eq_false (by omega) | exact decide_eq_true (by omega)))) | ((with_reducible refine tGuard ?_); first | ((with_reducible refine w_skip1 ?_ ?_); (focus (refine ⟨_, rfl, ?_⟩; first | (with_reducible rfl) | exact decide_eq_false (by omega) | exact decide_eq_true (by omega)))) | ((with_reducible refine w_skip0 ?_ ?_); (focus (refine ⟨_, rfl, ?_⟩; first | (with_reducible rfl) | exact decide_eq_false (by omega) | exact decide_eq_true (by omega))))) | ((with_reducible show Code.wp _ (Code.region 12 _ _) _ _ _); go_must (refine region_det [(0, false), (1, false), (2, false), (3, false), (4, false), (5, false), (6, false), (7, false), (8, false), (9, false), (10, false), (11, true), (12, false), (13, false), (14, false)] [(59, .int), (60, .int), (62, .int), (66, .int), (57, .str), (69, .str)] (by kernel_rfl) (by kernel_rfl) rfl (by kernel_rfl) ?_; replace M := M.drew; simp only [reord, opAt, List.map_cons, List.map_nil, List.getElem?_toArray, List.getElem?_cons_zero, List.getElem?_cons_succ, Option.getD_some])) | ((with_reducible refine tLoad ?_); go_must (refine w_at _ _ rfl (by exact ev_tmp rfl) ?_; intro hx; (first | refine w_slB M 0 _ _ rfl rfl hx rfl (by decide +kernel) m (by first | rfl | omega) (by first | assumption | omega | (simp; omega)) ?_); clear hx)) | ((with_reducible show wpList _ _ _ (Oper.mk _ (Op.buildSlice 70 1 _) _ _ _ _ :: _) _ _); go_must (refine w_buildSliceB M bytesT _ rfl rfl (by first | exact ev_tmp rfl | exact ev_const) ?_; clear M; intro g w1 M)) | ((with_reducible show Seg _ _ _ _); go_must (first | refine Seg.intro ⟨fun h => absurd rfl h, ?_⟩ | refine Seg.intro ⟨fun _ => ixA, ?_⟩ | refine Seg.intro ⟨ndA, atA, ?_⟩)) | ((with_reducible show OnlyN _ _ _ _ _); refine OnlyN.intro (by kernel_rfl) ?_) | ((with_reducible refine tGuard ?_); first | refine gdS ?_ | (refine gdC ?_ ?_ <;> (intro hgd; rw [hgd]; try (exfalso; simp at hgd; omega)))) | ((with_reducible refine tConv _ 70 9 ?_); go_must (refine cvB ?_)) | ((with_reducible refine tLoad ?_); go_must (refine ldB ?_)) | ((with_reducible refine tStore ?_); go_must (refine stB ?_; clear M; intro w1 M; (try simp only [setC] at M))) | ((with_reducible refine tBox _ ?_); (refine bxA M ?_; clear M; intro g w1 M))) <;> (try conv => arg 5; simp only [Act.put, List.setIfInBounds_toArray, setC]))
          go_roundw
          case rel => exact ⟨m + 1, by omega, by rw [nth_at' b m, ER.out ()]; rfl, by go_num, M.tail⟩
          case measure => simp [intOf]; omega
        · obtain rfl : m = N := by omega
          rw [← E.out ()]
          rcases hN3 with h16 | hte
          · have hc : ¬ (m : Int) < 16 := by omega
            go_wp2_with ((first | ((with_reducible refine tGuard ?_); (with_reducible refine w_stripE ?_ ?_); (focus (refine ⟨_, rfl, ?_⟩; first | (with_reducible rfl) | exact decide_eq_false (by omega) | exact decide_eq_true (by omega)))) | ((with_reducible refine tGuard ?_); first | ((with_reducible refine w_skip1 ?_ ?_); (focus (refine ⟨_, rfl, ?_⟩; first | (with_reducible rfl) | exact decide_eq_false (by omega) | exact decide_eq_true (by omega)))) | ((with_reducible refine w_skip0 ?_ ?_); (focus (refine ⟨_, rfl, ?_⟩; first | (with_reducible rfl) | exact decide_eq_false (by omega) | exact decide_eq_true (by omega))))) | ((with_reducible refine tGuard ?_); first | refine gdS ?_ | (refine gdC ?_ ?_ <;> (intro hgd; rw [hgd]; try (exfalso; simp at hgd; omega)))) | ((with_reducible refine tConv _ 70 9 ?_); go_must (refine cvB ?_)) | ((with_reducible refine tLoad ?_); go_must (refine ldB ?_)) | ((with_reducible refine tStore ?_); go_must (refine stB ?_; clear M; intro w1 M; (try simp only [setC] at M))) | ((with_reducible refine tBox _ ?_); (refine bxA M ?_; clear M; intro g w1 M))) <;> (try conv => arg 5; simp only [Act.put, List.setIfInBounds_toArray, setC]))
            go_roundw
            case rel => exact ⟨n + 1, by omega, rfl, by go_num, M.tail⟩
            case measure => simp [intOf]; omega
          · by_cases h16 : m = 16
            · have hc : ¬ (m : Int) < 16 := by omega
              go_wp2_with ((first | ((with_reducible refine tGuard ?_); (with_reducible refine w_stripE ?_ ?_); (focus (refine ⟨_, rfl, ?_⟩; first | (with_reducible rfl) | exact decide_eq_false (by omega) | exact decide_eq_true (by omega)))) | ((with_reducible refine tGuard ?_); first | ((with_reducible refine w_skip1 ?_ ?_); (focus (refine ⟨_, rfl, ?_⟩; first | (with_reducible rfl) | exact decide_eq_false (by omega) | exact decide_eq_true (by omega)))) | ((with_reducible refine w_skip0 ?_ ?_); (focus (refine ⟨_, rfl, ?_⟩; first | (with_reducible rfl) | exact decide_eq_false (by omega) | exact decide_eq_true (by omega))))) | ((with_reducible refine tGuard ?_); first | refine gdS ?_ | (refine gdC ?_ ?_ <;> (intro hgd; rw [hgd]; try (exfalso; simp at hgd; omega)))) | ((with_reducible refine tConv _ 70 9 ?_); go_must (refine cvB ?_)) | ((with_reducible refine tLoad ?_); go_must (refine ldB ?_)) | ((with_reducible refine tStore ?_); go_must (refine stB ?_; clear M; intro w1 M; (try simp only [setC] at M))) | ((with_reducible refine tBox _ ?_); (refine bxA M ?_; clear M; intro g w1 M))) <;> (try conv => arg 5; simp only [Act.put, List.setIfInBounds_toArray, setC]))
              go_roundw
              case rel => exact ⟨n + 1, by omega, rfl, by go_num, M.tail⟩
              case measure => simp [intOf]; omega
            · have hc : (m : Int) < 16 := by omega
              have hc2 : ¬ 16 * (n : Int) + (m : Int) < (text.length : Int) := by omega
              go_wp2_with ((first | ((with_reducible refine tGuard ?_); (with_reducible refine w_stripE ?_ ?_); (focus (refine ⟨_, rfl, ?_⟩; first | (with_reducible rfl) | exact decide_eq_false (by omega) | exact decide_eq_true (by omega)))) | ((with_reducible refine tGuard ?_); first | ((with_reducible refine w_skip1 ?_ ?_); (focus (refine ⟨_, rfl, ?_⟩; first | (with_reducible rfl) | exact decide_eq_false (by omega) | exact decide_eq_true (by omega)))) | ((with_reducible refine w_skip0 ?_ ?_); (focus (refine ⟨_, rfl, ?_⟩; first | (with_reducible rfl) | exact decide_eq_false (by omega) | exact decide_eq_true (by omega))))) | ((with_reducible refine tGuard ?_); first | refine gdS ?_ | (refine gdC ?_ ?_ <;> (intro hgd; rw [hgd]; try (exfalso; simp at hgd; omega)))) | ((with_reducible refine tConv _ 70 9 ?_); go_must (refine cvB ?_)) | ((with_reducible refine tLoad ?_); go_must (refine ldB ?_)) | ((with_reducible refine tStore ?_); go_must (refine stB ?_; clear M; intro w1 M; (try simp only [setC] at M))) | ((with_reducible refine tBox _ ?_); (refine bxA M ?_; clear M; intro g w1 M))) <;> (try conv => arg 5; simp only [Act.put, List.setIfInBounds_toArray, setC]))
              go_roundw
              case rel => exact ⟨n + 1, by omega, rfl, by go_num, M.tail⟩
              case measure => simp [intOf]; omega
    · obtain ⟨n0, rfl⟩ : ∃ m, n = m := ⟨n, rfl⟩
      have e := RA.out n (by omega) (by omega)
      rw [e]
      have hI : (text.length : Int) ≤ 16 * (n : Int) := by omega
      go_wp2_with fail
      go_ret
      exact ⟨rfl, M.below⟩
end Go.Proofs.YtidadhbaomieiaaGreat
