/- The walks of the reference's layer 1: its reader's methods. Conditions: lengths. -/
import Derived.Test.YtidadhbaomieiaaGreatVRef01
namespace Go.Proofs.YtidadhbaomieiaaGreat
open Go.RowKit Go.TL
section
variable (g : Nat) (s : List UInt8) (x : InS) (w : World) (h : (Chunk.row g (irB s x)).ok w) (hx : OnS s x) (hs : s.length ≤ 1000000000)
include h hx hs
set_option maxRecDepth 100000 in
set_option maxHeartbeats 4000000 in
theorem InNum01_c : Calls Tryz.prog 85 #[.pointer (some ⟨g, 0, none⟩)] w fun e w' =>
    e = .returned (.int .u64 (x.most maxU).1) ∧ Upd w (.row g (irB s x)) w' (.row g (irB s (x.most maxU).2)) := by
  by_cases h0 : x.err = 0
  · rw [most_max x h0]
    have NC := fun (w : World) h => next01_c g s x w h hx hs
    have he := read_err x.rest maxU
    have hb := (readN_le x.rest maxU)
    obtain ⟨⟨v, k, er⟩, eR⟩ : ∃ R, R = readN x.rest maxU := ⟨_, rfl⟩
    rw [← eR] at NC he hb ⊢
    simp only at NC he hb ⊢
    have hxl := hx.2
    obtain ⟨rest, r, er0⟩ := x
    simp only at h0 hxl
    subst h0
    have ht : irB s (InS.take ⟨rest, r, 0⟩ k er) = [.string (mkS s), .int .i64 ((r : Int) + k), .int .i64 er] := by
      unfold InS.take irB
      by_cases e0 : er = 0
      · subst e0; rw [if_pos rfl]; rfl
      · rw [if_neg e0]
        rcases he with h1 | h1 | h1
        · exact absurd h1 e0
        · cases h1; simp
        · cases h1; simp
    rw [ht]
    have M := Mem.start1 h
    have hk : (k : Int) ≤ 10 := by omega
    have hr : (r : Int) ≤ 1000000000 := by omega
    replace NC := Lib.hid NC
    clear he hb ht eR hxl
    go_enter Tryz.func85, Tryz.ntmps85
    go_wp2_with ((first | (go_at_call 115; go_must (refine (NC.out _ (M.ok 0 _ rfl)).mono ?_; rintro e w1 ⟨rfl, U⟩; replace M := M.upd 0 rfl U; clear U; simp only [List.set_cons_zero, irB] at M)) | ((with_reducible refine tGuard ?_); first | refine gdS ?_ | (refine gdC ?_ ?_ <;> (intro hgd; rw [hgd]; try (exfalso; simp at hgd; omega)))) | ((with_reducible refine tConv _ 70 9 ?_); go_must (refine cvB ?_)) | ((with_reducible refine tLoad ?_); go_must (refine ldB ?_)) | ((with_reducible refine tStore ?_); go_must (refine stB ?_; clear M; intro w1 M; (try simp only [setC] at M))) | ((with_reducible refine tBox _ ?_); (refine bxA M ?_; clear M; intro g w1 M))) <;> (try conv => arg 5; simp only [Act.put, List.setIfInBounds_toArray, setC]))
    go_ret
    exact ⟨rfl, M.upd1 0 rfl⟩
  · have e : x.most maxU = (0, x) := InS.most_err h0 _
    rw [e]
    obtain ⟨rest, r, er⟩ := x
    simp only at h0
    have M := Mem.start1 h
    have hz : ((er : Int) == 0) = false := by simp; exact h0
    have hz' : ((er : Int) != 0) = true := by simp; exact h0
    clear e
    go_enter Tryz.func85, Tryz.ntmps85
    go_wp2_with ((first | ((with_reducible refine tGuard ?_); first | refine gdS ?_ | (refine gdC ?_ ?_ <;> (intro hgd; rw [hgd]; try (exfalso; simp at hgd; omega)))) | ((with_reducible refine tConv _ 70 9 ?_); go_must (refine cvB ?_)) | ((with_reducible refine tLoad ?_); go_must (refine ldB ?_)) | ((with_reducible refine tStore ?_); go_must (refine stB ?_; clear M; intro w1 M; (try simp only [setC] at M))) | ((with_reducible refine tBox _ ?_); (refine bxA M ?_; clear M; intro g w1 M))) <;> (try conv => arg 5; simp only [Act.put, List.setIfInBounds_toArray, setC]))
    go_ret
    exact ⟨rfl, M.upd1 0 rfl⟩
set_option maxRecDepth 100000 in
set_option maxHeartbeats 4000000 in
theorem InMost01_c (m : Nat) (a : Int) (ha : a = (m : Int)) (hm : m < 9223372036854775808) : Calls Tryz.prog 84 #[.pointer (some ⟨g, 0, none⟩), .int .i64 a] w fun e w' =>
    e = .returned (.int .i64 (x.most m).1) ∧ Upd w (.row g (irB s x)) w' (.row g (irB s (x.most m).2)) := by
  subst ha
  have NC := fun (w : World) h => InNum01_c g s x w h hx hs
  have M := Mem.start1 h
  by_cases h0 : x.err = 0
  · rw [most_of x m h0]
    have hxl := hx.2
    obtain ⟨⟨v, y⟩, eN⟩ : ∃ N, N = x.most maxU := ⟨_, rfl⟩
    have hv : v ≤ maxU := by have := InS.most_le x maxU; rw [← eN] at this; exact this
    rw [maxU_eq] at hv
    rw [← eN] at NC ⊢
    simp only at NC ⊢
    replace NC := Lib.hid NC
    clear eN
    obtain ⟨rest, r, er0⟩ := x
    simp only at h0 hxl
    subst h0
    obtain ⟨yr, yn, ye⟩ := y
    by_cases e0 : ye = 0
    · subst e0
      have ev : w64 (m : Int) = UInt64.ofNat m := w64_nat _
      have em : I64 (w64 (m : Int)) = (m : Int) := I64_nat _ (by omega)
      have hm0 : (0 : Int) ≤ (m : Int) := by omega
      by_cases hlt : m < v
      · rw [if_pos rfl, if_pos hlt]
        have hlt' : I64 (UInt64.ofNat m) < (v : Int) := by rw [← ev, em]; omega
        go_enter Tryz.func84, Tryz.ntmps84
        go_wp2_with ((first | (go_at_call 85; go_must (refine (NC.out _ (M.ok 0 _ rfl)).mono ?_; rintro e w1 ⟨rfl, U⟩; replace M := M.upd 0 rfl U; clear U; simp only [List.set_cons_zero, irB] at M)) | ((with_reducible refine tGuard ?_); first | refine gdS ?_ | (refine gdC ?_ ?_ <;> (intro hgd; rw [hgd]; try (exfalso; simp at hgd; omega)))) | ((with_reducible refine tConv _ 70 9 ?_); go_must (refine cvB ?_)) | ((with_reducible refine tLoad ?_); go_must (refine ldB ?_)) | ((with_reducible refine tStore ?_); go_must (refine stB ?_; clear M; intro w1 M; (try simp only [setC] at M))) | ((with_reducible refine tBox _ ?_); (refine bxA M ?_; clear M; intro g w1 M))) <;> (try conv => arg 5; simp only [Act.put, List.setIfInBounds_toArray, setC]))
        go_ret
        exact ⟨rfl, M.upd1 0 rfl⟩
      · rw [if_pos rfl, if_neg hlt]
        have hlt' : (v : Int) ≤ I64 (UInt64.ofNat m) := by rw [← ev, em]; omega
        go_enter Tryz.func84, Tryz.ntmps84
        go_wp2_with ((first | (go_at_call 85; go_must (refine (NC.out _ (M.ok 0 _ rfl)).mono ?_; rintro e w1 ⟨rfl, U⟩; replace M := M.upd 0 rfl U; clear U; simp only [List.set_cons_zero, irB] at M)) | ((with_reducible refine tGuard ?_); first | refine gdS ?_ | (refine gdC ?_ ?_ <;> (intro hgd; rw [hgd]; try (exfalso; simp at hgd; omega)))) | ((with_reducible refine tConv _ 70 9 ?_); go_must (refine cvB ?_)) | ((with_reducible refine tLoad ?_); go_must (refine ldB ?_)) | ((with_reducible refine tStore ?_); go_must (refine stB ?_; clear M; intro w1 M; (try simp only [setC] at M))) | ((with_reducible refine tBox _ ?_); (refine bxA M ?_; clear M; intro g w1 M))) <;> (try conv => arg 5; simp only [Act.put, List.setIfInBounds_toArray, setC]))
        go_ret
        exact ⟨rfl, M.upd1 0 rfl⟩
    · rw [if_neg e0]
      have hz : ((ye : Int) == 0) = false := by simp; exact e0
      have hz' : ((ye : Int) != 0) = true := by simp; exact e0
      go_enter Tryz.func84, Tryz.ntmps84
      go_wp2_with ((first | (go_at_call 85; go_must (refine (NC.out _ (M.ok 0 _ rfl)).mono ?_; rintro e w1 ⟨rfl, U⟩; replace M := M.upd 0 rfl U; clear U; simp only [List.set_cons_zero, irB] at M)) | ((with_reducible refine tGuard ?_); first | refine gdS ?_ | (refine gdC ?_ ?_ <;> (intro hgd; rw [hgd]; try (exfalso; simp at hgd; omega)))) | ((with_reducible refine tConv _ 70 9 ?_); go_must (refine cvB ?_)) | ((with_reducible refine tLoad ?_); go_must (refine ldB ?_)) | ((with_reducible refine tStore ?_); go_must (refine stB ?_; clear M; intro w1 M; (try simp only [setC] at M))) | ((with_reducible refine tBox _ ?_); (refine bxA M ?_; clear M; intro g w1 M))) <;> (try conv => arg 5; simp only [Act.put, List.setIfInBounds_toArray, setC]))
      go_ret
      exact ⟨rfl, M.upd1 0 rfl⟩
  · rw [InS.most_err h0 m]
    rw [InS.most_err h0 maxU] at NC
    obtain ⟨rest, r, er⟩ := x
    simp only at h0 NC
    replace NC := Lib.hid NC
    have hz : ((er : Int) == 0) = false := by simp; exact h0
    have hz' : ((er : Int) != 0) = true := by simp; exact h0
    go_enter Tryz.func84, Tryz.ntmps84
    go_wp2_with ((first | (go_at_call 85; go_must (refine (NC.out _ (M.ok 0 _ rfl)).mono ?_; rintro e w1 ⟨rfl, U⟩; replace M := M.upd 0 rfl U; clear U; simp only [List.set_cons_zero, irB] at M)) | ((with_reducible refine tGuard ?_); first | refine gdS ?_ | (refine gdC ?_ ?_ <;> (intro hgd; rw [hgd]; try (exfalso; simp at hgd; omega)))) | ((with_reducible refine tConv _ 70 9 ?_); go_must (refine cvB ?_)) | ((with_reducible refine tLoad ?_); go_must (refine ldB ?_)) | ((with_reducible refine tStore ?_); go_must (refine stB ?_; clear M; intro w1 M; (try simp only [setC] at M))) | ((with_reducible refine tBox _ ?_); (refine bxA M ?_; clear M; intro g w1 M))) <;> (try conv => arg 5; simp only [Act.put, List.setIfInBounds_toArray, setC]))
    go_ret
    exact ⟨rfl, M.upd1 0 rfl⟩
set_option maxRecDepth 100000 in
set_option maxHeartbeats 4000000 in
theorem InText01_c (m : Nat) (a : Int) (ha : a = (m : Int)) (hm : m < 9223372036854775808) : Calls Tryz.prog 86 #[.pointer (some ⟨g, 0, none⟩), .int .i64 a] w fun e w' =>
    e = .returned (.string (mkS (x.text m).1)) ∧ Upd w (.row g (irB s x)) w' (.row g (irB s (x.text m).2)) := by
  have MC := fun (w : World) h => InMost01_c g s x w h hx hs m a ha hm
  subst ha
  have M := Mem.start1 h
  by_cases h0 : x.err = 0
  · rw [text_of x m h0]
    have hxl := hx.2
    have hon := hx.most m
    have hml := InS.most_le x m
    obtain ⟨⟨n, y⟩, eN⟩ : ∃ N, N = x.most m := ⟨_, rfl⟩
    rw [← eN] at MC hon hml ⊢
    simp only at MC hon hml ⊢
    replace MC := Lib.hid MC
    clear eN
    obtain ⟨rest, r, er0⟩ := x
    simp only at h0 hxl
    subst h0
    obtain ⟨yr, yn, ye⟩ := y
    obtain ⟨hon1, hon2⟩ := hon
    simp only at hon1 hon2 ⊢
    by_cases e0 : ye = 0
    · subst e0
      have hyl : yr.length = s.length - yn := by rw [hon1, List.length_drop]
      by_cases hlt : n ≤ yr.length
      · rw [if_pos rfl, if_pos hlt]
        have hlt' : (n : Int) ≤ (s.length : Int) - (yn : Int) := by omega
        have hn9 : (n : Int) ≤ 1000000000 := by omega
        have hyn9 : (yn : Int) ≤ 1000000000 := by omega
        have hq : (s.take (yn + n)).drop yn = yr.take n := by rw [hon1, List.drop_take, Nat.add_sub_cancel_left]
        have hq' := Lib.hid fun _ : Unit => hq
        clear hq hon1
        go_enter Tryz.func86, Tryz.ntmps86
        go_wp2_with ((first | (go_at_call 84; go_must (refine (MC.out _ (M.ok 0 _ rfl)).mono ?_; rintro e w1 ⟨rfl, U⟩; replace M := M.upd 0 rfl U; clear U; simp only [List.set_cons_zero, irB] at M)) | ((with_reducible show Code.wp _ (Code.region 3 _ _) _ _ _); go_must (refine region_det [(0, false), (1, false), (2, false), (3, false), (4, false), (5, false), (6, false), (7, false), (8, false), (11, false), (12, false), (13, false), (16, false), (9, false), (10, false), (14, false), (15, false), (17, false), (18, false)] [(14, .ptr), (17, .int), (20, .ptr), (25, .ptr), (24, .int), (28, .int), (29, .int), (30, .int)] (by kernel_rfl) (by kernel_rfl) rfl (by kernel_rfl) ?_; replace M := M.drew; simp only [reord, opAt, List.map_cons, List.map_nil, List.getElem?_toArray, List.getElem?_cons_zero, List.getElem?_cons_succ, Option.getD_some])) | ((with_reducible show Code.wp _ (Code.region 9 _ _) _ _ _); go_must (refine region_det [(0, false), (1, false), (2, false), (4, false), (5, false), (6, false), (8, false), (10, false), (11, false), (12, false), (3, false), (7, false), (9, false), (13, false), (14, false), (15, false)] [(54, .ptr), (58, .ptr), (64, .ptr), (61, .int), (62, .int)] (by kernel_rfl) (by kernel_rfl) rfl (by kernel_rfl) ?_; replace M := M.drew; simp only [reord, opAt, List.map_cons, List.map_nil, List.getElem?_toArray, List.getElem?_cons_zero, List.getElem?_cons_succ, Option.getD_some])) | ((with_reducible show Seg _ _ _ _); go_must (first | refine Seg.intro ⟨fun h => absurd rfl h, ?_⟩ | refine Seg.intro ⟨fun _ => ixA, ?_⟩ | refine Seg.intro ⟨ndA, atA, ?_⟩)) | ((with_reducible show OnlyN _ _ _ _ _); refine OnlyN.intro (by kernel_rfl) ?_) | ((with_reducible refine tGuard ?_); first | refine gdS ?_ | (refine gdC ?_ ?_ <;> (intro hgd; rw [hgd]; try (exfalso; simp at hgd; omega)))) | ((with_reducible refine tConv _ 70 9 ?_); go_must (refine cvB ?_)) | ((with_reducible refine tLoad ?_); go_must (refine ldB ?_)) | ((with_reducible refine tStore ?_); go_must (refine stB ?_; clear M; intro w1 M; (try simp only [setC] at M))) | ((with_reducible refine tBox _ ?_); (refine bxA M ?_; clear M; intro g w1 M))) <;> (try conv => arg 5; simp only [Act.put, List.setIfInBounds_toArray, setC]))
        go_ret
        exact ⟨congrArg (fun z => Ending.returned (.string (mkS z))) (hq'.out ()), M.upd1 0 rfl⟩
      · rw [if_pos rfl, if_neg hlt]
        have hlt' : (s.length : Int) - (yn : Int) < (n : Int) := by omega
        go_enter Tryz.func86, Tryz.ntmps86
        go_wp2_with ((first | (go_at_call 84; go_must (refine (MC.out _ (M.ok 0 _ rfl)).mono ?_; rintro e w1 ⟨rfl, U⟩; replace M := M.upd 0 rfl U; clear U; simp only [List.set_cons_zero, irB] at M)) | ((with_reducible show Code.wp _ (Code.region 3 _ _) _ _ _); go_must (refine region_det [(0, false), (1, false), (2, false), (3, false), (4, false), (5, false), (6, false), (7, false), (8, false), (11, false), (12, false), (13, false), (16, false), (9, false), (10, false), (14, false), (15, false), (17, false), (18, false)] [(14, .ptr), (17, .int), (20, .ptr), (25, .ptr), (24, .int), (28, .int), (29, .int), (30, .int)] (by kernel_rfl) (by kernel_rfl) rfl (by kernel_rfl) ?_; replace M := M.drew; simp only [reord, opAt, List.map_cons, List.map_nil, List.getElem?_toArray, List.getElem?_cons_zero, List.getElem?_cons_succ, Option.getD_some])) | ((with_reducible show Code.wp _ (Code.region 9 _ _) _ _ _); go_must (refine region_det [(0, false), (1, false), (2, false), (4, false), (5, false), (6, false), (8, false), (10, false), (11, false), (12, false), (3, false), (7, false), (9, false), (13, false), (14, false), (15, false)] [(54, .ptr), (58, .ptr), (64, .ptr), (61, .int), (62, .int)] (by kernel_rfl) (by kernel_rfl) rfl (by kernel_rfl) ?_; replace M := M.drew; simp only [reord, opAt, List.map_cons, List.map_nil, List.getElem?_toArray, List.getElem?_cons_zero, List.getElem?_cons_succ, Option.getD_some])) | ((with_reducible show Seg _ _ _ _); go_must (first | refine Seg.intro ⟨fun h => absurd rfl h, ?_⟩ | refine Seg.intro ⟨fun _ => ixA, ?_⟩ | refine Seg.intro ⟨ndA, atA, ?_⟩)) | ((with_reducible show OnlyN _ _ _ _ _); refine OnlyN.intro (by kernel_rfl) ?_) | ((with_reducible refine tGuard ?_); first | refine gdS ?_ | (refine gdC ?_ ?_ <;> (intro hgd; rw [hgd]; try (exfalso; simp at hgd; omega)))) | ((with_reducible refine tConv _ 70 9 ?_); go_must (refine cvB ?_)) | ((with_reducible refine tLoad ?_); go_must (refine ldB ?_)) | ((with_reducible refine tStore ?_); go_must (refine stB ?_; clear M; intro w1 M; (try simp only [setC] at M))) | ((with_reducible refine tBox _ ?_); (refine bxA M ?_; clear M; intro g w1 M))) <;> (try conv => arg 5; simp only [Act.put, List.setIfInBounds_toArray, setC]))
        go_ret
        exact ⟨rfl, M.upd1 0 rfl⟩
    · rw [if_neg e0]
      have hz : ((ye : Int) == 0) = false := by simp; exact e0
      have hz' : ((ye : Int) != 0) = true := by simp; exact e0
      go_enter Tryz.func86, Tryz.ntmps86
      go_wp2_with ((first | (go_at_call 84; go_must (refine (MC.out _ (M.ok 0 _ rfl)).mono ?_; rintro e w1 ⟨rfl, U⟩; replace M := M.upd 0 rfl U; clear U; simp only [List.set_cons_zero, irB] at M)) | ((with_reducible show Code.wp _ (Code.region 3 _ _) _ _ _); go_must (refine region_det [(0, false), (1, false), (2, false), (3, false), (4, false), (5, false), (6, false), (7, false), (8, false), (11, false), (12, false), (13, false), (16, false), (9, false), (10, false), (14, false), (15, false), (17, false), (18, false)] [(14, .ptr), (17, .int), (20, .ptr), (25, .ptr), (24, .int), (28, .int), (29, .int), (30, .int)] (by kernel_rfl) (by kernel_rfl) rfl (by kernel_rfl) ?_; replace M := M.drew; simp only [reord, opAt, List.map_cons, List.map_nil, List.getElem?_toArray, List.getElem?_cons_zero, List.getElem?_cons_succ, Option.getD_some])) | ((with_reducible show Code.wp _ (Code.region 9 _ _) _ _ _); go_must (refine region_det [(0, false), (1, false), (2, false), (4, false), (5, false), (6, false), (8, false), (10, false), (11, false), (12, false), (3, false), (7, false), (9, false), (13, false), (14, false), (15, false)] [(54, .ptr), (58, .ptr), (64, .ptr), (61, .int), (62, .int)] (by kernel_rfl) (by kernel_rfl) rfl (by kernel_rfl) ?_; replace M := M.drew; simp only [reord, opAt, List.map_cons, List.map_nil, List.getElem?_toArray, List.getElem?_cons_zero, List.getElem?_cons_succ, Option.getD_some])) | ((with_reducible show Seg _ _ _ _); go_must (first | refine Seg.intro ⟨fun h => absurd rfl h, ?_⟩ | refine Seg.intro ⟨fun _ => ixA, ?_⟩ | refine Seg.intro ⟨ndA, atA, ?_⟩)) | ((with_reducible show OnlyN _ _ _ _ _); refine OnlyN.intro (by kernel_rfl) ?_) | ((with_reducible refine tGuard ?_); first | refine gdS ?_ | (refine gdC ?_ ?_ <;> (intro hgd; rw [hgd]; try (exfalso; simp at hgd; omega)))) | ((with_reducible refine tConv _ 70 9 ?_); go_must (refine cvB ?_)) | ((with_reducible refine tLoad ?_); go_must (refine ldB ?_)) | ((with_reducible refine tStore ?_); go_must (refine stB ?_; clear M; intro w1 M; (try simp only [setC] at M))) | ((with_reducible refine tBox _ ?_); (refine bxA M ?_; clear M; intro g w1 M))) <;> (try conv => arg 5; simp only [Act.put, List.setIfInBounds_toArray, setC]))
      go_ret
      exact ⟨rfl, M.upd1 0 rfl⟩
  · rw [InS.text_err h0 m]
    rw [InS.most_err h0 m] at MC
    obtain ⟨rest, r, er⟩ := x
    simp only at h0 MC
    replace MC := Lib.hid MC
    have hz : ((er : Int) == 0) = false := by simp; exact h0
    have hz' : ((er : Int) != 0) = true := by simp; exact h0
    go_enter Tryz.func86, Tryz.ntmps86
    go_wp2_with ((first | (go_at_call 84; go_must (refine (MC.out _ (M.ok 0 _ rfl)).mono ?_; rintro e w1 ⟨rfl, U⟩; replace M := M.upd 0 rfl U; clear U; simp only [List.set_cons_zero, irB] at M)) | ((with_reducible show Code.wp _ (Code.region 3 _ _) _ _ _); go_must (refine region_det [(0, false), (1, false), (2, false), (3, false), (4, false), (5, false), (6, false), (7, false), (8, false), (11, false), (12, false), (13, false), (16, false), (9, false), (10, false), (14, false), (15, false), (17, false), (18, false)] [(14, .ptr), (17, .int), (20, .ptr), (25, .ptr), (24, .int), (28, .int), (29, .int), (30, .int)] (by kernel_rfl) (by kernel_rfl) rfl (by kernel_rfl) ?_; replace M := M.drew; simp only [reord, opAt, List.map_cons, List.map_nil, List.getElem?_toArray, List.getElem?_cons_zero, List.getElem?_cons_succ, Option.getD_some])) | ((with_reducible show Code.wp _ (Code.region 9 _ _) _ _ _); go_must (refine region_det [(0, false), (1, false), (2, false), (4, false), (5, false), (6, false), (8, false), (10, false), (11, false), (12, false), (3, false), (7, false), (9, false), (13, false), (14, false), (15, false)] [(54, .ptr), (58, .ptr), (64, .ptr), (61, .int), (62, .int)] (by kernel_rfl) (by kernel_rfl) rfl (by kernel_rfl) ?_; replace M := M.drew; simp only [reord, opAt, List.map_cons, List.map_nil, List.getElem?_toArray, List.getElem?_cons_zero, List.getElem?_cons_succ, Option.getD_some])) | ((with_reducible show Seg _ _ _ _); go_must (first | refine Seg.intro ⟨fun h => absurd rfl h, ?_⟩ | refine Seg.intro ⟨fun _ => ixA, ?_⟩ | refine Seg.intro ⟨ndA, atA, ?_⟩)) | ((with_reducible show OnlyN _ _ _ _ _); refine OnlyN.intro (by kernel_rfl) ?_) | ((with_reducible refine tGuard ?_); first | refine gdS ?_ | (refine gdC ?_ ?_ <;> (intro hgd; rw [hgd]; try (exfalso; simp at hgd; omega)))) | ((with_reducible refine tConv _ 70 9 ?_); go_must (refine cvB ?_)) | ((with_reducible refine tLoad ?_); go_must (refine ldB ?_)) | ((with_reducible refine tStore ?_); go_must (refine stB ?_; clear M; intro w1 M; (try simp only [setC] at M))) | ((with_reducible refine tBox _ ?_); (refine bxA M ?_; clear M; intro g w1 M))) <;> (try conv => arg 5; simp only [Act.put, List.setIfInBounds_toArray, setC]))
    go_ret
    exact ⟨rfl, M.upd1 0 rfl⟩
end
end Go.Proofs.YtidadhbaomieiaaGreat
