/- The walks of the reference's layer 1: a number's and a text's bytes, and how they are read. Conditions: lengths. -/
import Derived.Test.YtidadhbaomieiaaGreatVRef01L
import Derived.Test.YtidadhbaomieiaaGreatVRef01T
import Derived.Test.YtidadhbaomieiaaGreatZc
import Derived.Test.YtidadhbaomieiaaGreatZb
import Derived.IntWalk
import Derived.OwnWalk
namespace Go
namespace TL
open Go.RowKit
/-- The reference's reader, its cells. -/
def irB (s : List UInt8) (x : InS) : List Value := [.string (mkS s), .int .i64 x.read, .int .i64 x.err]
theorem numV_step (s : List UInt8) (j : Nat) (h : j < s.length) : 128 * UInt64.ofNat (numV (s.drop (j + 1))) + w64 ((I8 (bt s j)).tmod 128) = UInt64.ofNat (numV (s.drop j)) := by
  rw [numV_drop s j h, I8_eq, show bt s j = s.getD j 0 from rfl, show (((s.getD j 0).toNat : Int).tmod 128) = (((s.getD j 0).toNat % 128 : Nat) : Int) from rfl, w64_nat]
  apply UInt64.toNat_inj.1
  simp
  omega
end TL
end Go
namespace Go.Proofs.YtidadhbaomieiaaGreat
open Go.RowKit Go.TL
set_option maxRecDepth 100000 in
set_option maxHeartbeats 2000000 in
theorem Value01_c (t : List UInt8) (w : World) (ht : t.length ≤ 100) :
    Calls Tryz.prog 155 #[.string (mkS t)] w fun e w' => e = .returned (.tuple #[.int .u64 (I64 (UInt64.ofNat (numV t))), .bool (numL (numV t % 18446744073709551616) == t)]) ∧ Below w.heap.size w w' := by
  have M := Mem.start [] w
  go_enter Tryz.func155, Tryz.ntmps155
  go_wp2_with fail
  go_loopw [4, 5] (fun nv iv wr => ∃ j : Nat, j ≤ t.length ∧ iv = .int .i64 ((j : Int) - 1) ∧ nv = .int .u64 (I64 (UInt64.ofNat (numV (t.drop j)))) ∧ Mem [] w wr []) (fun _ iv _ => (intOf iv + 1).toNat)
  case atStart => exact ⟨t.length, Nat.le_refl _, rfl, by rw [List.drop_eq_nil_of_le (Nat.le_refl _)]; rfl, M⟩
  case round =>
    clear M
    obtain ⟨j, hj, rfl, rfl, M⟩ := hrel
    by_cases h0 : j = 0
    · subst h0
      obtain ⟨V, eV⟩ : ∃ V, V = UInt64.ofNat (numV (t.drop 0)) := ⟨_, rfl⟩
      have eN : I64 V = ((numV t % 18446744073709551616 : Nat) : Int) := by rw [eV, I64_eq, UInt64.toNat_ofNat']; rfl
      have NC := fun w => Num01_c (numV t % 18446744073709551616) (I64 V) eN w (Nat.mod_lt _ (by omega))
      obtain ⟨r, er⟩ : ∃ r, r = numL (numV t % 18446744073709551616) := ⟨_, rfl⟩
      rw [← er] at NC
      rw [← eV]
      have ER := Lib.hid er
      have EV := Lib.hid eV
      replace NC := Lib.hid NC
      clear er eV eN
      go_wp2_with (first | (go_at_call 107; go_must (refine (NC.out _).mono ?_; rintro e w1 ⟨rfl, hb⟩; replace M := M.call hb; clear hb)))
      go_ret2
      exact ⟨by rw [EV.out, ER.out]; rfl, M.below⟩
    · obtain ⟨i, rfl⟩ : ∃ i, j = i + 1 := ⟨j - 1, by omega⟩
      have NS := Lib.hid (numV_step t i (by omega))
      obtain ⟨V, eV⟩ : ∃ V, V = UInt64.ofNat (numV (t.drop (i + 1))) := ⟨_, rfl⟩
      rw [← eV] at NS
      rw [← eV]
      clear eV
      have hi1 : (((i + 1 : Nat) : Int) - 1) = (i : Int) := by omega
      rw [hi1]
      have hi0 : (0 : Int) ≤ (i : Int) := by omega
      go_wp2_with fail
      go_roundw
      case rel => exact ⟨i, by omega, by go_num, by rw [← NS.out], M⟩
      case measure => simp [intOf]
section
variable (g : Nat) (s : List UInt8) (x : InS) (w : World) (h : (Chunk.row g (irB s x)).ok w) (hx : OnS s x) (hs : s.length ≤ 1000000000)
include h hx hs
set_option maxRecDepth 100000 in
set_option maxHeartbeats 4000000 in
theorem next01_c : Calls Tryz.prog 115 #[.pointer (some ⟨g, 0, none⟩)] w fun e w' =>
    e = .returned (.tuple #[.int .u64 (readN x.rest maxU).1, .int .i64 (readN x.rest maxU).2.1, .int .i64 (readN x.rest maxU).2.2]) ∧ Upd w (.row g (irB s x)) w' (.row g (irB s x)) := by
  obtain ⟨rest, r, er⟩ := x
  obtain ⟨hr, hle⟩ := hx
  simp only at hr hle
  subst hr
  have M := Mem.start1 (c := .row g [.string (mkS s), .int .i64 r, .int .i64 er]) h
  simp only
  show Calls _ _ _ _ fun e w' => e = _ ∧ Upd w (.row g [.string (mkS s), .int .i64 r, .int .i64 er]) w' (.row g [.string (mkS s), .int .i64 r, .int .i64 er])
  obtain ⟨⟨v, c, e⟩, eR⟩ : ∃ R, R = readN (s.drop r) maxU := ⟨_, rfl⟩
  rw [← eR]
  simp only
  have ER := Lib.hid fun _ : Unit => eR
  clear eR
  have hl : (s.drop r).length = s.length - r := List.length_drop
  obtain ⟨L, eL⟩ : ∃ L, L = lead (s.drop r) := ⟨_, rfl⟩
  have hL : L ≤ s.length - r := by rw [eL, ← hl]; exact lead_le _
  have EL := Lib.hid fun _ : Unit => eL
  clear eL hl
  go_enter Tryz.func115, Tryz.ntmps115
  go_wp2_with ((first | ((with_reducible refine tGuard ?_); first | refine gdS ?_ | (refine gdC ?_ ?_ <;> (intro hgd; rw [hgd]; try (exfalso; simp at hgd; omega)))) | ((with_reducible refine tConv _ 70 9 ?_); go_must (refine cvB ?_)) | ((with_reducible refine tLoad ?_); go_must (refine ldB ?_)) | ((with_reducible refine tStore ?_); go_must (refine stB ?_; clear M; intro w1 M; (try simp only [setC] at M))) | ((with_reducible refine tBox _ ?_); (refine bxA M ?_; clear M; intro g w1 M))) <;> (try conv => arg 5; simp only [Act.put, List.setIfInBounds_toArray, setC]))
  go_loopw [5] (fun nv wr => ∃ k : Nat, k ≤ L ∧ k ≤ 10 ∧ nv = .int .i64 ((k : Int) + 1) ∧ Mem (Chunk.row g [.string (mkS s), .int .i64 r, .int .i64 er]).fp w wr [.row g [.string (mkS s), .int .i64 r, .int .i64 er]]) (fun nv _ => 11 - (intOf nv).toNat)
  case atStart => exact ⟨0, by omega, by omega, rfl, M⟩
  case round =>
    clear M
    obtain ⟨k, hk, hk10, rfl, M⟩ := hrel
    by_cases h10 : k = 10
    · subst h10
      have e0 := ER.out ()
      rw [readN_form _ (by rw [← EL.out ()]; omega)] at e0
      simp only [Prod.mk.injEq] at e0
      obtain ⟨rfl, rfl, rfl⟩ := e0
      go_wp2_with ((first | ((with_reducible refine tGuard ?_); first | refine gdS ?_ | (refine gdC ?_ ?_ <;> (intro hgd; rw [hgd]; try (exfalso; simp at hgd; omega)))) | ((with_reducible refine tConv _ 70 9 ?_); go_must (refine cvB ?_)) | ((with_reducible refine tLoad ?_); go_must (refine ldB ?_)) | ((with_reducible refine tStore ?_); go_must (refine stB ?_; clear M; intro w1 M; (try simp only [setC] at M))) | ((with_reducible refine tBox _ ?_); (refine bxA M ?_; clear M; intro g w1 M))) <;> (try conv => arg 5; simp only [Act.put, List.setIfInBounds_toArray, setC]))
      go_ret3
      exact ⟨rfl, M.upd1 0 rfl⟩
    · have hk9 : (k : Int) + 1 ≤ 10 := by omega
      by_cases hend : s.length - r ≤ k
      · have e0 := ER.out ()
        rw [readN_short _ (by rw [← EL.out ()]; omega) (by rw [← EL.out ()]; rw [List.length_drop]; omega)] at e0
        simp only [Prod.mk.injEq] at e0
        obtain ⟨rfl, rfl, rfl⟩ := e0
        have hgt : (s.length : Int) < (r : Int) + ((k : Int) + 1) := by omega
        go_wp2_with ((first | ((with_reducible show Code.wp _ (Code.region 4 _ _) _ _ _); go_must (refine region_det [(0, false), (1, false), (2, false), (4, false), (6, false), (7, false), (8, false), (3, false), (5, false), (9, false), (10, false), (11, false)] [(12, .ptr), (18, .ptr), (15, .int), (16, .int), (17, .int), (22, .int)] (by kernel_rfl) (by kernel_rfl) rfl (by kernel_rfl) ?_; replace M := M.drew; simp only [reord, opAt, List.map_cons, List.map_nil, List.getElem?_toArray, List.getElem?_cons_zero, List.getElem?_cons_succ, Option.getD_some])) | ((with_reducible show Seg _ _ _ _); go_must (first | refine Seg.intro ⟨fun h => absurd rfl h, ?_⟩ | refine Seg.intro ⟨fun _ => ixA, ?_⟩ | refine Seg.intro ⟨ndA, atA, ?_⟩)) | ((with_reducible show OnlyN _ _ _ _ _); refine OnlyN.intro (by kernel_rfl) ?_) | ((with_reducible refine tGuard ?_); first | refine gdS ?_ | (refine gdC ?_ ?_ <;> (intro hgd; rw [hgd]; try (exfalso; simp at hgd; omega)))) | ((with_reducible refine tConv _ 70 9 ?_); go_must (refine cvB ?_)) | ((with_reducible refine tLoad ?_); go_must (refine ldB ?_)) | ((with_reducible refine tStore ?_); go_must (refine stB ?_; clear M; intro w1 M; (try simp only [setC] at M))) | ((with_reducible refine tBox _ ?_); (refine bxA M ?_; clear M; intro g w1 M))) <;> (try conv => arg 5; simp only [Act.put, List.setIfInBounds_toArray, setC]))
        go_ret3
        exact ⟨rfl, M.upd1 0 rfl⟩
      · have hgt : (r : Int) + ((k : Int) + 1) ≤ (s.length : Int) := by omega
        have hix : ((r : Int) + ((k : Int) + 1) - 1) = ((r + k : Nat) : Int) := by omega
        by_cases h128 : (bt s (r + k)).toNat < 128
        · have hc : I8 (bt s (r + k)) < 128 := by rw [I8_eq]; omega
          have hLk : lead (s.drop r) = k := lead_stop (s.drop r) k (by rw [← EL.out ()]; exact hk) (by rw [List.getD_eq_getElem?_getD, List.getElem?_drop, ← List.getD_eq_getElem?_getD]; exact h128)
          have hv := readN_value (s.drop r) (by rw [hLk]; omega) (by rw [hLk, List.length_drop]; omega)
          rw [hLk] at hv
          have hdt : (s.drop r).take (k + 1) = (s.take (r + (k + 1))).drop r := by rw [List.drop_take, Nat.add_sub_cancel_left]
          obtain ⟨t, et⟩ : ∃ t, t = (s.drop r).take (k + 1) := ⟨_, rfl⟩
          have VC0 := fun w => Value01_c t w (by rw [et, List.length_take]; omega)
          have VC : ∀ w : World, Calls Tryz.prog 155 #[.string (mkS (List.drop r (List.take (r + (k + 1)) s)))] w fun e w' => e = .returned (.tuple #[.int .u64 (I64 (UInt64.ofNat (numV t))), .bool (numL (numV t % 18446744073709551616) == t)]) ∧ Below w.heap.size w w' := fun w => by
            rw [← hdt, ← et]; exact VC0 w
          clear VC0
          rw [← et] at hv
          rw [← ER.out ()] at hv
          obtain ⟨V, eV⟩ : ∃ V, V = numV t % 18446744073709551616 := ⟨_, rfl⟩
          have eI : I64 (UInt64.ofNat (numV t)) = (V : Int) := by rw [eV, I64_eq, UInt64.toNat_ofNat']
          rw [eI, ← eV] at VC
          rw [← eV] at hv
          by_cases hq : numL V = t
          · rw [if_pos hq] at hv
            simp only [Prod.mk.injEq] at hv
            obtain ⟨rfl, rfl, rfl⟩ := hv
            rw [hq, beq_self_eq_true] at VC
            replace VC := Lib.hid VC
            clear eV eI hq hLk et hdt
            go_wp2_with ((first | ((with_reducible show Code.wp _ (Code.region 4 _ _) _ _ _); go_must (refine region_det [(0, false), (1, false), (2, false), (4, false), (6, false), (7, false), (8, false), (3, false), (5, false), (9, false), (10, false), (11, false)] [(12, .ptr), (18, .ptr), (15, .int), (16, .int), (17, .int), (22, .int)] (by kernel_rfl) (by kernel_rfl) rfl (by kernel_rfl) ?_; replace M := M.drew; simp only [reord, opAt, List.map_cons, List.map_nil, List.getElem?_toArray, List.getElem?_cons_zero, List.getElem?_cons_succ, Option.getD_some])) | ((with_reducible show Code.wp _ (Code.region 6 _ _) _ _ _); go_must (refine region_det [(0, false), (1, false), (2, false), (4, false), (5, false), (6, false), (8, false), (3, false), (7, false), (9, false), (10, false), (11, false), (12, false)] [(24, .ptr), (28, .ptr), (31, .int), (32, .int), (33, .int), (35, .int)] (by kernel_rfl) (by kernel_rfl) rfl (by kernel_rfl) ?_; replace M := M.drew; simp only [reord, opAt, List.map_cons, List.map_nil, List.getElem?_toArray, List.getElem?_cons_zero, List.getElem?_cons_succ, Option.getD_some])) | ((with_reducible show Code.wp _ (Code.region 7 _ _) _ _ _); go_must (refine region_det [(0, false), (1, false), (2, false), (4, false), (5, false), (6, false), (8, false), (9, false), (10, false), (12, false), (3, false), (7, false), (11, false), (13, false), (14, false), (15, true), (16, false), (17, false), (18, false), (19, false), (20, false)] [(38, .ptr), (42, .ptr), (46, .ptr), (49, .int), (50, .int)] (by kernel_rfl) (by kernel_rfl) rfl (by kernel_rfl) ?_; replace M := M.drew; simp only [reord, opAt, List.map_cons, List.map_nil, List.getElem?_toArray, List.getElem?_cons_zero, List.getElem?_cons_succ, Option.getD_some])) | (go_at_call 155; go_must (refine (VC.out _).mono ?_; rintro e w1 ⟨rfl, hb⟩; replace M := M.call hb; clear hb)) | ((with_reducible show Seg _ _ _ _); go_must (first | refine Seg.intro ⟨fun h => absurd rfl h, ?_⟩ | refine Seg.intro ⟨fun _ => ixA, ?_⟩ | refine Seg.intro ⟨ndA, atA, ?_⟩)) | ((with_reducible show OnlyN _ _ _ _ _); refine OnlyN.intro (by kernel_rfl) ?_) | ((with_reducible refine tGuard ?_); first | refine gdS ?_ | (refine gdC ?_ ?_ <;> (intro hgd; rw [hgd]; try (exfalso; simp at hgd; omega)))) | ((with_reducible refine tConv _ 70 9 ?_); go_must (refine cvB ?_)) | ((with_reducible refine tLoad ?_); go_must (refine ldB ?_)) | ((with_reducible refine tStore ?_); go_must (refine stB ?_; clear M; intro w1 M; (try simp only [setC] at M))) | ((with_reducible refine tBox _ ?_); (refine bxA M ?_; clear M; intro g w1 M))) <;> (try conv => arg 5; simp only [Act.put, List.setIfInBounds_toArray, setC]))
            go_ret3
            exact ⟨rfl, M.upd1 0 rfl⟩
          · rw [if_neg hq] at hv
            simp only [Prod.mk.injEq] at hv
            obtain ⟨rfl, rfl, rfl⟩ := hv
            rw [beq_eq_false_iff_ne.2 hq] at VC
            replace VC := Lib.hid VC
            clear eV eI hq hLk et hdt
            go_wp2_with ((first | ((with_reducible show Code.wp _ (Code.region 4 _ _) _ _ _); go_must (refine region_det [(0, false), (1, false), (2, false), (4, false), (6, false), (7, false), (8, false), (3, false), (5, false), (9, false), (10, false), (11, false)] [(12, .ptr), (18, .ptr), (15, .int), (16, .int), (17, .int), (22, .int)] (by kernel_rfl) (by kernel_rfl) rfl (by kernel_rfl) ?_; replace M := M.drew; simp only [reord, opAt, List.map_cons, List.map_nil, List.getElem?_toArray, List.getElem?_cons_zero, List.getElem?_cons_succ, Option.getD_some])) | ((with_reducible show Code.wp _ (Code.region 6 _ _) _ _ _); go_must (refine region_det [(0, false), (1, false), (2, false), (4, false), (5, false), (6, false), (8, false), (3, false), (7, false), (9, false), (10, false), (11, false), (12, false)] [(24, .ptr), (28, .ptr), (31, .int), (32, .int), (33, .int), (35, .int)] (by kernel_rfl) (by kernel_rfl) rfl (by kernel_rfl) ?_; replace M := M.drew; simp only [reord, opAt, List.map_cons, List.map_nil, List.getElem?_toArray, List.getElem?_cons_zero, List.getElem?_cons_succ, Option.getD_some])) | ((with_reducible show Code.wp _ (Code.region 7 _ _) _ _ _); go_must (refine region_det [(0, false), (1, false), (2, false), (4, false), (5, false), (6, false), (8, false), (9, false), (10, false), (12, false), (3, false), (7, false), (11, false), (13, false), (14, false), (15, true), (16, false), (17, false), (18, false), (19, false), (20, false)] [(38, .ptr), (42, .ptr), (46, .ptr), (49, .int), (50, .int)] (by kernel_rfl) (by kernel_rfl) rfl (by kernel_rfl) ?_; replace M := M.drew; simp only [reord, opAt, List.map_cons, List.map_nil, List.getElem?_toArray, List.getElem?_cons_zero, List.getElem?_cons_succ, Option.getD_some])) | (go_at_call 155; go_must (refine (VC.out _).mono ?_; rintro e w1 ⟨rfl, hb⟩; replace M := M.call hb; clear hb)) | ((with_reducible show Seg _ _ _ _); go_must (first | refine Seg.intro ⟨fun h => absurd rfl h, ?_⟩ | refine Seg.intro ⟨fun _ => ixA, ?_⟩ | refine Seg.intro ⟨ndA, atA, ?_⟩)) | ((with_reducible show OnlyN _ _ _ _ _); refine OnlyN.intro (by kernel_rfl) ?_) | ((with_reducible refine tGuard ?_); first | refine gdS ?_ | (refine gdC ?_ ?_ <;> (intro hgd; rw [hgd]; try (exfalso; simp at hgd; omega)))) | ((with_reducible refine tConv _ 70 9 ?_); go_must (refine cvB ?_)) | ((with_reducible refine tLoad ?_); go_must (refine ldB ?_)) | ((with_reducible refine tStore ?_); go_must (refine stB ?_; clear M; intro w1 M; (try simp only [setC] at M))) | ((with_reducible refine tBox _ ?_); (refine bxA M ?_; clear M; intro g w1 M))) <;> (try conv => arg 5; simp only [Act.put, List.setIfInBounds_toArray, setC]))
            go_ret3
            exact ⟨rfl, M.upd1 0 rfl⟩
        · have hc : 128 ≤ I8 (bt s (r + k)) := by rw [I8_eq]; omega
          have hkL : k < L := by
            have hne : lead (s.drop r) ≠ k := fun e => by
              have := lead_last (s.drop r) (by rw [e, List.length_drop]; omega)
              rw [e, List.getD_eq_getElem?_getD, List.getElem?_drop, ← List.getD_eq_getElem?_getD] at this
              exact h128 this
            rw [← EL.out ()] at hne
            omega
          go_wp2_with ((first | ((with_reducible show Code.wp _ (Code.region 4 _ _) _ _ _); go_must (refine region_det [(0, false), (1, false), (2, false), (4, false), (6, false), (7, false), (8, false), (3, false), (5, false), (9, false), (10, false), (11, false)] [(12, .ptr), (18, .ptr), (15, .int), (16, .int), (17, .int), (22, .int)] (by kernel_rfl) (by kernel_rfl) rfl (by kernel_rfl) ?_; replace M := M.drew; simp only [reord, opAt, List.map_cons, List.map_nil, List.getElem?_toArray, List.getElem?_cons_zero, List.getElem?_cons_succ, Option.getD_some])) | ((with_reducible show Code.wp _ (Code.region 6 _ _) _ _ _); go_must (refine region_det [(0, false), (1, false), (2, false), (4, false), (5, false), (6, false), (8, false), (3, false), (7, false), (9, false), (10, false), (11, false), (12, false)] [(24, .ptr), (28, .ptr), (31, .int), (32, .int), (33, .int), (35, .int)] (by kernel_rfl) (by kernel_rfl) rfl (by kernel_rfl) ?_; replace M := M.drew; simp only [reord, opAt, List.map_cons, List.map_nil, List.getElem?_toArray, List.getElem?_cons_zero, List.getElem?_cons_succ, Option.getD_some])) | ((with_reducible show Seg _ _ _ _); go_must (first | refine Seg.intro ⟨fun h => absurd rfl h, ?_⟩ | refine Seg.intro ⟨fun _ => ixA, ?_⟩ | refine Seg.intro ⟨ndA, atA, ?_⟩)) | ((with_reducible show OnlyN _ _ _ _ _); refine OnlyN.intro (by kernel_rfl) ?_) | ((with_reducible refine tGuard ?_); first | refine gdS ?_ | (refine gdC ?_ ?_ <;> (intro hgd; rw [hgd]; try (exfalso; simp at hgd; omega)))) | ((with_reducible refine tConv _ 70 9 ?_); go_must (refine cvB ?_)) | ((with_reducible refine tLoad ?_); go_must (refine ldB ?_)) | ((with_reducible refine tStore ?_); go_must (refine stB ?_; clear M; intro w1 M; (try simp only [setC] at M))) | ((with_reducible refine tBox _ ?_); (refine bxA M ?_; clear M; intro g w1 M))) <;> (try conv => arg 5; simp only [Act.put, List.setIfInBounds_toArray, setC]))
          go_roundw
          case rel => exact ⟨k + 1, by omega, by omega, by go_num, M⟩
          case measure => simp [intOf]; omega
end
end Go.Proofs.YtidadhbaomieiaaGreat
