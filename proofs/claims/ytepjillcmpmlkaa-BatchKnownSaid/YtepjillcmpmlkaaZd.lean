/- Texts of this seat, put together: BatM0, BatA, BatP. Each begins with a remark that says what is proved in it, and under which conditions. -/
import Derived.Test.YtepjillcmpmlkaaZc
/- The walks of batch.Right and of the reference's value. Conditions: lengths. -/
namespace Go
namespace TL
open Go.RowKit
theorem may_0 {l : List Mt} {ops : List Opr} (h : ops.length = 0) : mayO l ops = 1 := if_pos h
theorem may_4 {l : List Mt} {ops : List Opr} (h : 4 < ops.length) : mayO l ops = 3 := by unfold mayO; rw [if_neg (by omega), if_pos h]
theorem may_e {l : List Mt} {ops : List Opr} (h : 0 < ops.length) (h4 : ops.length ≤ 4) : mayO l ops = eachE (fun p => (ofP l p).2) ops := by unfold mayO; rw [if_neg (by omega), if_neg (by omega)]
theorem right_n {i e : Int} {ops : List Opr} (h : i < 1 ∨ 4611686018427387904 < i ∨ e < 1) : rightB i e ops = 1 := if_pos h
theorem right_4 {i e : Int} {ops : List Opr} (h : ¬ (i < 1 ∨ 4611686018427387904 < i ∨ e < 1)) (h4 : 4 < ops.length) : rightB i e ops = 3 := by unfold rightB; rw [if_neg h, if_pos h4]
theorem right_e {i e : Int} {ops : List Opr} (h : ¬ (i < 1 ∨ 4611686018427387904 < i ∨ e < 1)) (h4 : ops.length ≤ 4) : rightB i e ops = eachE cutE ops := by unfold rightB; rw [if_neg h, if_neg (by omega)]
end TL
end Go
namespace Go.Proofs.Ytepjillcmpmlkaa
open Go.RowKit Go.TL
set_option maxRecDepth 100000 in
set_option maxHeartbeats 4000000 in
theorem bRight_c (i e : Int) (ops : List Opr) (v : Value) (w : World) (S : SeesL w 3 opV v ops) (hl : ops.length ≤ 1000000) (hm : ∀ x ∈ ops, x.2.1.length ≤ 100000000 ∧ x.2.2.length ≤ 100000000) :
    Calls Try.prog 21 #[.agg #[.int .i64 i, .int .i64 e, v]] w fun e' w' => e' = .returned (.int .i64 (rightB i e ops)) ∧ Below w.heap.size w w' := by
  have M := Mem.start [] w
  have E := fun w S => EachR_c ops v w S hl hm
  obtain ⟨q, cap, rfl, hc⟩ := S.form
  by_cases h : i < 1 ∨ 4611686018427387904 < i ∨ e < 1
  · rw [right_n h]
    replace E := Lib.hid E
    rcases h with h | h
    · go_enter Try.func21, Try.ntmps21
      go_wp2_with ((first | ((with_reducible refine tBox (some 1) ?_); refine w_box M _ _ rfl rfl _ rfl ([.int .i64 i, .int .i64 e, .slice q ops.length cap]) rfl ?_; clear M; intro gx w1 M) | ((with_reducible refine tGuard ?_); first | ((with_reducible refine w_stripE ?_ ?_); exact dcd) | ((with_reducible refine w_skip1 ?_ ?_); exact dcd) | ((with_reducible refine w_skip0 ?_ ?_); exact dcd)) | ((with_reducible refine tM rfl ?_); refine mS ?_; try (clear M; (first | intro g w1 M | intro w1 M); try simp only [setC] at M)) | ((with_reducible refine tGuard ?_); refine gdC ?_ ?_ <;> (intro hgd; rw [hgd]; try (exfalso; simp at hgd; omega)))) <;> (try conv => arg 5; simp only [apS, setC]))
      go_ret
      exact ⟨rfl, M.below⟩
    · by_cases h1 : i < 1
      · clear h
        go_enter Try.func21, Try.ntmps21
        go_wp2_with ((first | ((with_reducible refine tBox (some 1) ?_); refine w_box M _ _ rfl rfl _ rfl ([.int .i64 i, .int .i64 e, .slice q ops.length cap]) rfl ?_; clear M; intro gx w1 M) | ((with_reducible refine tGuard ?_); first | ((with_reducible refine w_stripE ?_ ?_); exact dcd) | ((with_reducible refine w_skip1 ?_ ?_); exact dcd) | ((with_reducible refine w_skip0 ?_ ?_); exact dcd)) | ((with_reducible refine tM rfl ?_); refine mS ?_; try (clear M; (first | intro g w1 M | intro w1 M); try simp only [setC] at M)) | ((with_reducible refine tGuard ?_); refine gdC ?_ ?_ <;> (intro hgd; rw [hgd]; try (exfalso; simp at hgd; omega)))) <;> (try conv => arg 5; simp only [apS, setC]))
        go_ret
        exact ⟨rfl, M.below⟩
      · have h1' : 1 ≤ i := by omega
        rcases h with h | h
        · go_enter Try.func21, Try.ntmps21
          go_wp2_with ((first | ((with_reducible refine tBox (some 1) ?_); refine w_box M _ _ rfl rfl _ rfl ([.int .i64 i, .int .i64 e, .slice q ops.length cap]) rfl ?_; clear M; intro gx w1 M) | ((with_reducible refine tGuard ?_); first | ((with_reducible refine w_stripE ?_ ?_); exact dcd) | ((with_reducible refine w_skip1 ?_ ?_); exact dcd) | ((with_reducible refine w_skip0 ?_ ?_); exact dcd)) | ((with_reducible refine tM rfl ?_); refine mS ?_; try (clear M; (first | intro g w1 M | intro w1 M); try simp only [setC] at M)) | ((with_reducible refine tGuard ?_); refine gdC ?_ ?_ <;> (intro hgd; rw [hgd]; try (exfalso; simp at hgd; omega)))) <;> (try conv => arg 5; simp only [apS, setC]))
          go_ret
          exact ⟨rfl, M.below⟩
        · by_cases h2 : 4611686018427387904 < i
          · clear h
            go_enter Try.func21, Try.ntmps21
            go_wp2_with ((first | ((with_reducible refine tBox (some 1) ?_); refine w_box M _ _ rfl rfl _ rfl ([.int .i64 i, .int .i64 e, .slice q ops.length cap]) rfl ?_; clear M; intro gx w1 M) | ((with_reducible refine tGuard ?_); first | ((with_reducible refine w_stripE ?_ ?_); exact dcd) | ((with_reducible refine w_skip1 ?_ ?_); exact dcd) | ((with_reducible refine w_skip0 ?_ ?_); exact dcd)) | ((with_reducible refine tM rfl ?_); refine mS ?_; try (clear M; (first | intro g w1 M | intro w1 M); try simp only [setC] at M)) | ((with_reducible refine tGuard ?_); refine gdC ?_ ?_ <;> (intro hgd; rw [hgd]; try (exfalso; simp at hgd; omega)))) <;> (try conv => arg 5; simp only [apS, setC]))
            go_ret
            exact ⟨rfl, M.below⟩
          · have h2' : i ≤ 4611686018427387904 := by omega
            go_enter Try.func21, Try.ntmps21
            go_wp2_with ((first | ((with_reducible refine tBox (some 1) ?_); refine w_box M _ _ rfl rfl _ rfl ([.int .i64 i, .int .i64 e, .slice q ops.length cap]) rfl ?_; clear M; intro gx w1 M) | ((with_reducible refine tGuard ?_); first | ((with_reducible refine w_stripE ?_ ?_); exact dcd) | ((with_reducible refine w_skip1 ?_ ?_); exact dcd) | ((with_reducible refine w_skip0 ?_ ?_); exact dcd)) | ((with_reducible refine tM rfl ?_); refine mS ?_; try (clear M; (first | intro g w1 M | intro w1 M); try simp only [setC] at M)) | ((with_reducible refine tGuard ?_); refine gdC ?_ ?_ <;> (intro hgd; rw [hgd]; try (exfalso; simp at hgd; omega)))) <;> (try conv => arg 5; simp only [apS, setC]))
            go_ret
            exact ⟨rfl, M.below⟩
  · obtain ⟨h1, h2, h3⟩ : 1 ≤ i ∧ i ≤ 4611686018427387904 ∧ 1 ≤ e := by omega
    by_cases h4 : 4 < ops.length
    · rw [right_4 h h4]
      have h4' : (4 : Int) < (ops.length : Int) := by omega
      replace E := Lib.hid E
      clear h
      go_enter Try.func21, Try.ntmps21
      go_wp2_with ((first | ((with_reducible refine tBox (some 1) ?_); refine w_box M _ _ rfl rfl _ rfl ([.int .i64 i, .int .i64 e, .slice q ops.length cap]) rfl ?_; clear M; intro gx w1 M) | ((with_reducible refine tGuard ?_); first | ((with_reducible refine w_stripE ?_ ?_); exact dcd) | ((with_reducible refine w_skip1 ?_ ?_); exact dcd) | ((with_reducible refine w_skip0 ?_ ?_); exact dcd)) | ((with_reducible refine tM rfl ?_); refine mS ?_; try (clear M; (first | intro g w1 M | intro w1 M); try simp only [setC] at M)) | ((with_reducible refine tGuard ?_); refine gdC ?_ ?_ <;> (intro hgd; rw [hgd]; try (exfalso; simp at hgd; omega)))) <;> (try conv => arg 5; simp only [apS, setC]))
      go_ret
      exact ⟨rfl, M.below⟩
    · rw [right_e h (by omega)]
      have h4' : (ops.length : Int) ≤ 4 := by omega
      obtain ⟨R, eR⟩ : ∃ R, R = eachE cutE ops := ⟨_, rfl⟩
      rw [← eR] at E ⊢
      replace E := Lib.hid E
      clear h eR
      go_enter Try.func21, Try.ntmps21
      go_wp2_with ((first | ((with_reducible refine tBox (some 1) ?_); refine w_box M _ _ rfl rfl _ rfl ([.int .i64 i, .int .i64 e, .slice q ops.length cap]) rfl ?_; clear M; intro gx w1 M) | ((with_reducible refine tGuard ?_); first | ((with_reducible refine w_stripE ?_ ?_); exact dcd) | ((with_reducible refine w_skip1 ?_ ?_); exact dcd) | ((with_reducible refine w_skip0 ?_ ?_); exact dcd)) | (go_at_call 29; go_must (refine (E.out _ (S.now M)).mono ?_; rintro e w1 ⟨rfl, hb⟩; replace M := M.call hb; clear hb)) | ((with_reducible refine tM rfl ?_); refine mS ?_; try (clear M; (first | intro g w1 M | intro w1 M); try simp only [setC] at M)) | ((with_reducible refine tGuard ?_); refine gdC ?_ ?_ <;> (intro hgd; rw [hgd]; try (exfalso; simp at hgd; omega)))) <;> (try conv => arg 5; simp only [apS, setC]))
      go_ret
      exact ⟨rfl, M.below⟩
end Go.Proofs.Ytepjillcmpmlkaa

/- The walks of the laws' Great and GreatOps. Conditions: lengths. -/
namespace Go.Proofs.Ytepjillcmpmlkaa
open Go.RowKit Go.TL
end Go.Proofs.Ytepjillcmpmlkaa

/- The walks of path.Of and path.Ships, and of the reference's. Conditions: lengths. -/
namespace Go.Proofs.Ytepjillcmpmlkaa
open Go.RowKit Go.TL
set_option maxRecDepth 100000 in
set_option maxHeartbeats 2000000 in
theorem Of1_c (a m : List UInt8) (b : Bool) (gm : Nat) (w : World) (T : SeesL w 1 cellV (.slice (some ⟨gm, 0, none⟩) 1 1) [.string (mkS m)]) :
    Calls Try.prog 61 #[.agg #[.string (mkS a), .bool b], .pointer (some ⟨gm, 0, none⟩)] w fun e w' => e = .returned (.bool (a == m)) ∧ Below w.heap.size w w' := by
  have M := Mem.start [] w
  have HC : Hid ([Value.string (mkS m)][0]? = some (.string (mkS m))) := Lib.hid rfl
  go_enter Try.func61, Try.ntmps61
  go_wp2_with ((first | ((with_reducible refine tBox (some 2) ?_); refine w_box M _ _ rfl rfl _ rfl ([.string (mkS a), .bool b]) rfl ?_; clear M; intro gx w1 M) | ((with_reducible refine tLoad ?_); refine w_at _ _ rfl (by exact ev_tmp rfl) ?_; intro hx; first | (refine w_seeA M T HC.out _ _ rfl hx rfl (by decide +kernel) (by first | (with_reducible rfl) | omega) (by kernel_rfl) ?_; clear hx) | (refine w_see M T HC.out _ _ rfl hx rfl (by decide +kernel) 0 (by first | (with_reducible rfl) | omega) rfl ?_; clear hx) | (refine w_see M T HC.out _ _ rfl hx rfl (by decide +kernel) 1 (by first | (with_reducible rfl) | omega) rfl ?_; clear hx) | (refine w_see M T HC.out _ _ rfl hx rfl (by decide +kernel) 2 (by first | (with_reducible rfl) | omega) rfl ?_; clear hx)) | ((with_reducible refine tM rfl ?_); refine mS ?_; try (clear M; (first | intro g w1 M | intro w1 M); try simp only [setC] at M))) <;> (try conv => arg 5; simp only [apS, setC]))
  go_ret
  exact ⟨rfl, M.below⟩
set_option maxRecDepth 100000 in
set_option maxHeartbeats 2000000 in
theorem IndexFunc_c (l : List Mt) (m : List UInt8) (gm : Nat) (v : Value) (w : World) (S : SeesL w 2 mtV v l) (T : SeesL w 1 cellV (.slice (some ⟨gm, 0, none⟩) 1 1) [.string (mkS m)]) (hl : l.length ≤ 1000000) :
    Calls Try.prog 60 #[v, .func (.func 61) #[] #[.pointer (some ⟨gm, 0, none⟩)]] w fun e w' => e = .returned (.int .i64 (if findM l m < l.length then (findM l m : Int) else -1)) ∧ Below w.heap.size w w' := by
  obtain ⟨p, cap, rfl, hc⟩ := S.form
  have M := Mem.start [] w
  have HY : ∀ (k : Nat) (x : Mt), l[k]? = some x → x.1 = m → (∀ (j : Nat) (y : Mt), j < k → l[j]? = some y → y.1 ≠ m) → (if findM l m < l.length then (findM l m : Int) else -1) = k := fun k x h hx hb => by
    rw [findM_at h hx hb, if_pos (List.getElem?_eq_some_iff.1 h).1]
  have HN : (∀ (j : Nat) (y : Mt), l[j]? = some y → y.1 ≠ m) → (if findM l m < l.length then (findM l m : Int) else -1) = -1 := fun h => by rw [findM_no h, if_neg (by omega)]
  obtain ⟨R, eR⟩ : ∃ R : Int, R = (if findM l m < l.length then (findM l m : Int) else -1) := ⟨_, rfl⟩
  rw [← eR] at HY HN ⊢
  replace HY := Lib.hid HY
  replace HN := Lib.hid HN
  clear eR
  go_enter Try.func60, Try.ntmps60
  go_wp2_with fail
  go_loopw [8] (fun iv wr => ∃ k : Nat, k ≤ l.length ∧ iv = .int .i64 k ∧ Hid (∀ (j : Nat) (y : Mt), j < k → l[j]? = some y → y.1 ≠ m) ∧ Mem [] w wr []) (fun iv _ => l.length - (intOf iv).toNat)
  case atStart => exact ⟨0, by omega, rfl, Lib.hid (by omega), M⟩
  case round =>
    clear M
    obtain ⟨k, hk, rfl, HK, M⟩ := hrel
    by_cases hlt : k < l.length
    · obtain ⟨g, so, rfl⟩ := S.addr (by omega)
      obtain ⟨⟨a, b⟩, hx⟩ : ∃ x, l[k]? = some x := ⟨_, List.getElem?_eq_getElem hlt⟩
      have HX := Lib.hid hx
      clear hx
      by_cases ham : a = m
      · obtain rfl : R = k := HY.out k (a, b) HX.out ham HK.out
        subst ham
        have C := fun w T => Of1_c a a b gm w T
        simp only [beq_self_eq_true] at C
        replace C := Lib.hid C
        go_wp2_with ((first | ((with_reducible refine tLoad ?_); refine w_at _ _ rfl (by exact ev_tmp rfl) ?_; intro hx; first | (refine w_seeA M S HX.out _ _ rfl hx rfl (by decide +kernel) (by first | (with_reducible rfl) | omega) (by kernel_rfl) ?_; clear hx; (try conv => arg 5; simp only [Act.put, List.setIfInBounds_toArray, setC, mtV_eq])) | (refine w_see M S HX.out _ _ rfl hx rfl (by decide +kernel) 0 (by first | (with_reducible rfl) | omega) rfl ?_; clear hx) | (refine w_see M S HX.out _ _ rfl hx rfl (by decide +kernel) 1 (by first | (with_reducible rfl) | omega) rfl ?_; clear hx) | (refine w_see M S HX.out _ _ rfl hx rfl (by decide +kernel) 2 (by first | (with_reducible rfl) | omega) rfl ?_; clear hx)) | (go_at_call 61; go_must (refine (C.out _ (T.now M)).mono ?_; rintro e w1 ⟨rfl, hb⟩; replace M := M.call hb; clear hb)) | ((with_reducible refine tM rfl ?_); refine mS ?_; try (clear M; (first | intro g w1 M | intro w1 M); try simp only [setC] at M))) <;> (try conv => arg 5; simp only [apS, setC]))
        go_ret
        exact ⟨rfl, M.below⟩
      · have C := fun w T => Of1_c a m b gm w T
        have hne : (a == m) = false := by simpa using ham
        rw [hne] at C
        replace C := Lib.hid C
        have HA := Lib.hid ham
        clear hne ham
        go_wp2_with ((first | ((with_reducible refine tLoad ?_); refine w_at _ _ rfl (by exact ev_tmp rfl) ?_; intro hx; first | (refine w_seeA M S HX.out _ _ rfl hx rfl (by decide +kernel) (by first | (with_reducible rfl) | omega) (by kernel_rfl) ?_; clear hx; (try conv => arg 5; simp only [Act.put, List.setIfInBounds_toArray, setC, mtV_eq])) | (refine w_see M S HX.out _ _ rfl hx rfl (by decide +kernel) 0 (by first | (with_reducible rfl) | omega) rfl ?_; clear hx) | (refine w_see M S HX.out _ _ rfl hx rfl (by decide +kernel) 1 (by first | (with_reducible rfl) | omega) rfl ?_; clear hx) | (refine w_see M S HX.out _ _ rfl hx rfl (by decide +kernel) 2 (by first | (with_reducible rfl) | omega) rfl ?_; clear hx)) | (go_at_call 61; go_must (refine (C.out _ (T.now M)).mono ?_; rintro e w1 ⟨rfl, hb⟩; replace M := M.call hb; clear hb)) | ((with_reducible refine tM rfl ?_); refine mS ?_; try (clear M; (first | intro g w1 M | intro w1 M); try simp only [setC] at M))) <;> (try conv => arg 5; simp only [apS, setC]))
        go_roundw
        case rel => exact ⟨k + 1, by omega, by go_num, Lib.hid fun j y hj hy => by
          rcases Nat.lt_succ_iff_lt_or_eq.1 hj with hj | rfl
          · exact HK.out j y hj hy
          · have := HX.out; rw [hy] at this; cases this; exact HA.out, M⟩
        case measure => simp [intOf]; omega
    · obtain rfl : k = l.length := by omega
      obtain rfl : R = -1 := HN.out fun j x hx => HK.out j x (List.getElem?_eq_some_iff.1 hx).1 hx
      go_wp2_with fail
      go_ret
      exact ⟨rfl, M.below⟩
set_option maxRecDepth 100000 in
set_option maxHeartbeats 4000000 in
theorem Of_c (l : List Mt) (p : List UInt8) (v : Value) (w : World) (S : SeesL w 2 mtV v l) (hl : l.length ≤ 1000000) (hp : p.length ≤ 1000000000) :
    Calls Try.prog 31 #[v, .string (mkS p)] w fun e w' => e = .returned (.tuple #[.agg (mtV (ofP l p).1).toArray, .int .i64 (ofP l p).2]) ∧ Below w.heap.size w w' := by
  obtain ⟨q, cap, rfl, hc⟩ := S.form
  have M := Mem.start [] w
  have C := fun w => Cut_c p w hp
  have hmf : ∀ (fn : Fn) (first cap : Array Value) (w : World), (Instr.makeFunc fn first cap).run Try.prog w = .ok (.func fn first cap) w := fun _ _ _ _ => rfl
  obtain ⟨R, eR⟩ : ∃ R, R = ofP l p := ⟨_, rfl⟩
  rw [← eR]
  have ER := Lib.hid eR
  clear eR
  by_cases hok : (cutL p).2.2 = true
  · obtain ⟨⟨m, k, ok⟩, ec⟩ : ∃ c, c = cutL p := ⟨_, rfl⟩
    rw [← ec] at C hok
    simp only at C hok
    subst hok
    have EC := Lib.hid ec.symm
    replace C := Lib.hid C
    clear ec
    by_cases hf : findM l m < l.length
    · obtain ⟨⟨a, b⟩, hx⟩ : ∃ x, l[findM l m]? = some x := ⟨_, List.getElem?_eq_getElem hf⟩
      obtain ⟨i, ei⟩ : ∃ i, i = findM l m := ⟨_, rfl⟩
      have e : R = ((a, b), 0) := ER.out.trans (ofP_yes EC.out rfl hx)
      subst e
      have I := fun gm v w S T => IndexFunc_c l m gm v w S T hl
      rw [if_pos hf] at I
      rw [← ei] at I hf hx
      replace I := Lib.hid I
      have HX := Lib.hid hx
      clear ei hx
      obtain ⟨g, so, rfl⟩ := S.addr (by omega)
      go_enter Try.func31, Try.ntmps31
      go_wp2_with ((first | (go_at_call 50; go_must (refine (C.out _).mono ?_; rintro e w1 ⟨rfl, hb⟩; replace M := M.call hb; clear hb)) | (go_at_call 60; go_must (refine (I.out _ _ _ (S.now M) (SeesL.row1 (M.ok 0 _ rfl))).mono ?_; rintro e w1 ⟨rfl, hb⟩; replace M := M.call hb; clear hb)) | ((with_reducible refine tLoad ?_); refine w_at _ _ rfl (by exact ev_tmp rfl) ?_; intro hx; first | (refine w_seeA M S HX.out _ _ rfl hx rfl (by decide +kernel) (by first | (with_reducible rfl) | omega) (by kernel_rfl) ?_; clear hx; (try conv => arg 5; simp only [Act.put, List.setIfInBounds_toArray, setC, mtV_eq])) | (refine w_see M S HX.out _ _ rfl hx rfl (by decide +kernel) 0 (by first | (with_reducible rfl) | omega) rfl ?_; clear hx) | (refine w_see M S HX.out _ _ rfl hx rfl (by decide +kernel) 1 (by first | (with_reducible rfl) | omega) rfl ?_; clear hx) | (refine w_see M S HX.out _ _ rfl hx rfl (by decide +kernel) 2 (by first | (with_reducible rfl) | omega) rfl ?_; clear hx)) | ((with_reducible refine tAlloc (some 4) 55 ?_); refine w_alloc M _ rfl rfl (.agg #[.string (mkS []), .bool false]) (mtV ([], false)) (by kernel_rfl) rfl ?_; clear M; intro gr w1 M) | ((with_reducible refine tAlloc (some 6) 9 ?_); refine w_alloc M _ rfl rfl (.string (mkS [])) ([.string (mkS [])]) (by kernel_rfl) rfl ?_; clear M; intro gv w1 M) | ((with_reducible refine tM rfl ?_); refine mS ?_; try (clear M; (first | intro g w1 M | intro w1 M); try simp only [setC] at M))) <;> (try conv => arg 5; simp only [apS, setC]))
      refine bodyPost_ret (results_row2 rfl _ _ gr 0 (mtV (a, b)) _ _ rfl rfl (M.ok 1 _ rfl).2.1 Try.underlying55 rfl (by kernel_rfl)) rfl ⟨rfl, M.below⟩
    · have hf' : findM l m = l.length := by have : findM l m ≤ l.length := List.findIdx_le_length; omega
      have e : R = (([], false), 21) := ER.out.trans (ofP_no EC.out hf')
      subst e
      have I := fun gm v w S T => IndexFunc_c l m gm v w S T hl
      rw [if_neg hf] at I
      replace I := Lib.hid I
      clear hf hf'
      go_enter Try.func31, Try.ntmps31
      go_wp2_with ((first | (go_at_call 50; go_must (refine (C.out _).mono ?_; rintro e w1 ⟨rfl, hb⟩; replace M := M.call hb; clear hb)) | (go_at_call 60; go_must (refine (I.out _ _ _ (S.now M) (SeesL.row1 (M.ok 0 _ rfl))).mono ?_; rintro e w1 ⟨rfl, hb⟩; replace M := M.call hb; clear hb)) | ((with_reducible refine tAlloc (some 4) 55 ?_); refine w_alloc M _ rfl rfl (.agg #[.string (mkS []), .bool false]) (mtV ([], false)) (by kernel_rfl) rfl ?_; clear M; intro gr w1 M) | ((with_reducible refine tAlloc (some 6) 9 ?_); refine w_alloc M _ rfl rfl (.string (mkS [])) ([.string (mkS [])]) (by kernel_rfl) rfl ?_; clear M; intro gv w1 M) | ((with_reducible refine tM rfl ?_); refine mS ?_; try (clear M; (first | intro g w1 M | intro w1 M); try simp only [setC] at M))) <;> (try conv => arg 5; simp only [apS, setC]))
      refine bodyPost_ret (results_row2 rfl _ _ gr 0 (mtV ([], false)) _ _ rfl rfl (M.ok 1 _ rfl).2.1 Try.underlying55 rfl (by kernel_rfl)) rfl ⟨rfl, M.below⟩
  · rw [Bool.not_eq_true] at hok
    have e : R = (([], false), 20) := ER.out.trans (ofP_key hok)
    subst e
    obtain ⟨⟨m, k, ok⟩, ec⟩ : ∃ c, c = cutL p := ⟨_, rfl⟩
    rw [← ec] at C hok
    simp only at C hok
    subst hok
    replace C := Lib.hid C
    clear ec
    go_enter Try.func31, Try.ntmps31
    go_wp2_with ((first | (go_at_call 50; go_must (refine (C.out _).mono ?_; rintro e w1 ⟨rfl, hb⟩; replace M := M.call hb; clear hb)) | ((with_reducible refine tAlloc (some 4) 55 ?_); refine w_alloc M _ rfl rfl (.agg #[.string (mkS []), .bool false]) (mtV ([], false)) (by kernel_rfl) rfl ?_; clear M; intro gr w1 M) | ((with_reducible refine tAlloc (some 6) 9 ?_); refine w_alloc M _ rfl rfl (.string (mkS [])) ([.string (mkS [])]) (by kernel_rfl) rfl ?_; clear M; intro gv w1 M) | ((with_reducible refine tM rfl ?_); refine mS ?_; try (clear M; (first | intro g w1 M | intro w1 M); try simp only [setC] at M))) <;> (try conv => arg 5; simp only [apS, setC]))
    refine bodyPost_ret (results_row2 rfl _ _ gr 0 (mtV ([], false)) _ _ rfl rfl (M.ok 1 _ rfl).2.1 Try.underlying55 rfl (by kernel_rfl)) rfl ⟨rfl, M.below⟩
end Go.Proofs.Ytepjillcmpmlkaa
