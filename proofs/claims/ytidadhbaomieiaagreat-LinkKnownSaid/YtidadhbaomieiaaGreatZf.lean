/- Texts of this seat, put together: BatM0, BatD, BatT, BatB, MsgP, BatF0, BatR, MsgQ, MsgN, MsgK, MsgT, MsgR, MsgU, MsgV, MsgE. Each begins with a remark that says what is proved in it, and under which conditions. -/
import Derived.Test.YtidadhbaomieiaaGreatZb
import Derived.Test.YtidadhbaomieiaaGreatZd
import Derived.Test.YtidadhbaomieiaaGreatZe
/- The walks of batch.Right and of the reference's value. Conditions: lengths. -/
namespace Go
namespace TL
open Go.RowKit
/-- Why a value may not be. -/
def valE (q : UInt8) (b : List UInt8) : Nat := if 32 < b.length then 3 else if q = 2 ∧ b ≠ [] then 1 else 0
theorem op_val {f : List UInt8 → Nat} {q : UInt8} {a b : List UInt8} (h : q = 1 ∨ q = 2) (h2 : f a = 0) : opE f (q, a, b) = valE q b := by
  unfold opE valE
  rw [if_pos h, if_pos h2]
  by_cases h3 : 32 < b.length
  · rw [if_pos h3, if_neg (by simp only; omega)]
  · rw [if_neg h3, if_pos (by simp only; omega)]
theorem may_0 {l : List Mt} {ops : List Opr} (h : ops.length = 0) : mayO l ops = 1 := if_pos h
theorem may_4 {l : List Mt} {ops : List Opr} (h : 4 < ops.length) : mayO l ops = 3 := by unfold mayO; rw [if_neg (by omega), if_pos h]
theorem may_e {l : List Mt} {ops : List Opr} (h : 0 < ops.length) (h4 : ops.length ≤ 4) : mayO l ops = eachE (fun p => (ofP l p).2) ops := by unfold mayO; rw [if_neg (by omega), if_neg (by omega)]
theorem right_n {i e : Int} {ops : List Opr} (h : i < 1 ∨ 4611686018427387904 < i ∨ e < 1) : rightB i e ops = 1 := if_pos h
theorem right_4 {i e : Int} {ops : List Opr} (h : ¬ (i < 1 ∨ 4611686018427387904 < i ∨ e < 1)) (h4 : 4 < ops.length) : rightB i e ops = 3 := by unfold rightB; rw [if_neg h, if_pos h4]
theorem right_e {i e : Int} {ops : List Opr} (h : ¬ (i < 1 ∨ 4611686018427387904 < i ∨ e < 1)) (h4 : ops.length ≤ 4) : rightB i e ops = eachE cutE ops := by unfold rightB; rw [if_neg h, if_neg (by omega)]
end TL
end Go
namespace Go.Proofs.YtidadhbaomieiaaGreat
open Go.RowKit Go.TL
set_option maxRecDepth 100000 in
set_option maxHeartbeats 2000000 in
theorem value12_c (q : UInt8) (a b : List UInt8) (w : World) (hb : b.length ≤ 100000000) :
    Calls Tryz.prog 172 #[.agg #[.int .u8 (I8 q), .string (mkS a), .string (mkS b)]] w fun e w' => e = .returned (.int .i64 (valE q b)) ∧ Below w.heap.size w w' := by
  have M := Mem.start [] w
  unfold valE
  by_cases h1 : 32 < b.length
  · rw [if_pos h1]
    have h2 : (32 : Int) < (b.length : Int) := by omega
    go_enter Tryz.func172, Tryz.ntmps172
    go_wp2_with ((first | ((with_reducible refine tBox (some 1) ?_); refine w_box M _ _ rfl rfl _ rfl ([.int .u8 (I8 q), .string (mkS a), .string (mkS b)]) rfl ?_; clear M; intro gx w1 M) | ((with_reducible refine tGuard ?_); refine gdS ?_) | fail | ((with_reducible refine tLoad ?_); go_must (refine ldS ?_)) | ((with_reducible refine tStore ?_); go_must (refine stS ?_; clear M; intro w1 M; (try simp only [setC] at M))) | ((with_reducible refine tBox _ ?_); (refine bxA M ?_; clear M; intro g w1 M))) <;> (try conv => arg 5; simp only [Act.put, List.setIfInBounds_toArray, setC]))
    go_ret
    exact ⟨rfl, M.below⟩
  · rw [if_neg h1]
    have h2 : (b.length : Int) ≤ 32 := by omega
    by_cases hq : q = 2
    · have HI : I8 q = 2 := by rw [hq]; rfl
      by_cases hbe : b = []
      · subst hbe
        rw [if_neg (by simp)]
        clear hq
        go_enter Tryz.func172, Tryz.ntmps172
        go_wp2_with ((first | ((with_reducible refine tBox (some 1) ?_); refine w_box M _ _ rfl rfl _ rfl ([.int .u8 (I8 q), .string (mkS []), .string (mkS [])]) rfl ?_; clear M; intro gx w1 M) | ((with_reducible refine tGuard ?_); refine gdS ?_) | fail | ((with_reducible refine tLoad ?_); go_must (refine ldS ?_)) | ((with_reducible refine tStore ?_); go_must (refine stS ?_; clear M; intro w1 M; (try simp only [setC] at M))) | ((with_reducible refine tBox _ ?_); (refine bxA M ?_; clear M; intro g w1 M))) <;> (try conv => arg 5; simp only [Act.put, List.setIfInBounds_toArray, setC]))
        go_ret
        exact ⟨rfl, M.below⟩
      · rw [if_pos ⟨hq, hbe⟩]
        have hbe' : b.isEmpty = false := by simpa using hbe
        clear hq hbe
        go_enter Tryz.func172, Tryz.ntmps172
        go_wp2_with ((first | ((with_reducible refine tBox (some 1) ?_); refine w_box M _ _ rfl rfl _ rfl ([.int .u8 (I8 q), .string (mkS a), .string (mkS b)]) rfl ?_; clear M; intro gx w1 M) | ((with_reducible refine tGuard ?_); refine gdS ?_) | fail | ((with_reducible refine tLoad ?_); go_must (refine ldS ?_)) | ((with_reducible refine tStore ?_); go_must (refine stS ?_; clear M; intro w1 M; (try simp only [setC] at M))) | ((with_reducible refine tBox _ ?_); (refine bxA M ?_; clear M; intro g w1 M))) <;> (try conv => arg 5; simp only [Act.put, List.setIfInBounds_toArray, setC]))
        go_ret
        exact ⟨rfl, M.below⟩
    · rw [if_neg (fun h => hq h.1)]
      obtain ⟨h3, h3'⟩ := I8_ne (q := q) (c := 2) hq
      rw [show I8 2 = 2 from rfl] at h3 h3'
      clear hq
      go_enter Tryz.func172, Tryz.ntmps172
      go_wp2_with ((first | ((with_reducible refine tBox (some 1) ?_); refine w_box M _ _ rfl rfl _ rfl ([.int .u8 (I8 q), .string (mkS a), .string (mkS b)]) rfl ?_; clear M; intro gx w1 M) | ((with_reducible refine tGuard ?_); refine gdS ?_) | fail | ((with_reducible refine tLoad ?_); go_must (refine ldS ?_)) | ((with_reducible refine tStore ?_); go_must (refine stS ?_; clear M; intro w1 M; (try simp only [setC] at M))) | ((with_reducible refine tBox _ ?_); (refine bxA M ?_; clear M; intro g w1 M))) <;> (try conv => arg 5; simp only [Act.put, List.setIfInBounds_toArray, setC]))
      go_ret
      exact ⟨rfl, M.below⟩
set_option maxRecDepth 100000 in
set_option maxHeartbeats 4000000 in
theorem bRight_c (i e : Int) (ops : List Opr) (v : Value) (w : World) (S : SeesL w 3 opV v ops) (hl : ops.length ≤ 1000000) (hm : ∀ x ∈ ops, x.2.1.length ≤ 100000000 ∧ x.2.2.length ≤ 100000000) :
    Calls Tryz.prog 187 #[.agg #[.int .i64 i, .int .i64 e, v]] w fun e' w' => e' = .returned (.int .i64 (rightB i e ops)) ∧ Below w.heap.size w w' := by
  have M := Mem.start [] w
  have E := fun w S => EachR_c ops v w S hl hm
  obtain ⟨q, cap, rfl, hc⟩ := S.form
  by_cases h : i < 1 ∨ 4611686018427387904 < i ∨ e < 1
  · rw [right_n h]
    replace E := Lib.hid E
    rcases h with h | h
    · go_enter Tryz.func187, Tryz.ntmps187
      go_wp2_with ((first | ((with_reducible refine tBox (some 1) ?_); refine w_box M _ _ rfl rfl _ rfl ([.int .i64 i, .int .i64 e, .slice q ops.length cap]) rfl ?_; clear M; intro gx w1 M) | ((with_reducible refine tGuard ?_); (with_reducible refine w_stripE ?_ ?_); (focus (refine ⟨_, rfl, ?_⟩; first | (with_reducible rfl) | exact decide_eq_false (by omega) | exact decide_eq_true (by omega)))) | ((with_reducible refine tGuard ?_); first | refine gdS ?_ | (refine gdC ?_ ?_ <;> (intro hgd; rw [hgd]; try (exfalso; simp at hgd; omega)))) | fail | ((with_reducible refine tLoad ?_); go_must (refine ldS ?_)) | ((with_reducible refine tStore ?_); go_must (refine stS ?_; clear M; intro w1 M; (try simp only [setC] at M))) | ((with_reducible refine tBox _ ?_); (refine bxA M ?_; clear M; intro g w1 M))) <;> (try conv => arg 5; simp only [Act.put, List.setIfInBounds_toArray, setC]))
      go_ret
      exact ⟨rfl, M.below⟩
    · by_cases h1 : i < 1
      · clear h
        go_enter Tryz.func187, Tryz.ntmps187
        go_wp2_with ((first | ((with_reducible refine tBox (some 1) ?_); refine w_box M _ _ rfl rfl _ rfl ([.int .i64 i, .int .i64 e, .slice q ops.length cap]) rfl ?_; clear M; intro gx w1 M) | ((with_reducible refine tGuard ?_); (with_reducible refine w_stripE ?_ ?_); (focus (refine ⟨_, rfl, ?_⟩; first | (with_reducible rfl) | exact decide_eq_false (by omega) | exact decide_eq_true (by omega)))) | ((with_reducible refine tGuard ?_); first | refine gdS ?_ | (refine gdC ?_ ?_ <;> (intro hgd; rw [hgd]; try (exfalso; simp at hgd; omega)))) | fail | ((with_reducible refine tLoad ?_); go_must (refine ldS ?_)) | ((with_reducible refine tStore ?_); go_must (refine stS ?_; clear M; intro w1 M; (try simp only [setC] at M))) | ((with_reducible refine tBox _ ?_); (refine bxA M ?_; clear M; intro g w1 M))) <;> (try conv => arg 5; simp only [Act.put, List.setIfInBounds_toArray, setC]))
        go_ret
        exact ⟨rfl, M.below⟩
      · have h1' : 1 ≤ i := by omega
        rcases h with h | h
        · go_enter Tryz.func187, Tryz.ntmps187
          go_wp2_with ((first | ((with_reducible refine tBox (some 1) ?_); refine w_box M _ _ rfl rfl _ rfl ([.int .i64 i, .int .i64 e, .slice q ops.length cap]) rfl ?_; clear M; intro gx w1 M) | ((with_reducible refine tGuard ?_); (with_reducible refine w_stripE ?_ ?_); (focus (refine ⟨_, rfl, ?_⟩; first | (with_reducible rfl) | exact decide_eq_false (by omega) | exact decide_eq_true (by omega)))) | ((with_reducible refine tGuard ?_); first | refine gdS ?_ | (refine gdC ?_ ?_ <;> (intro hgd; rw [hgd]; try (exfalso; simp at hgd; omega)))) | fail | ((with_reducible refine tLoad ?_); go_must (refine ldS ?_)) | ((with_reducible refine tStore ?_); go_must (refine stS ?_; clear M; intro w1 M; (try simp only [setC] at M))) | ((with_reducible refine tBox _ ?_); (refine bxA M ?_; clear M; intro g w1 M))) <;> (try conv => arg 5; simp only [Act.put, List.setIfInBounds_toArray, setC]))
          go_ret
          exact ⟨rfl, M.below⟩
        · by_cases h2 : 4611686018427387904 < i
          · clear h
            go_enter Tryz.func187, Tryz.ntmps187
            go_wp2_with ((first | ((with_reducible refine tBox (some 1) ?_); refine w_box M _ _ rfl rfl _ rfl ([.int .i64 i, .int .i64 e, .slice q ops.length cap]) rfl ?_; clear M; intro gx w1 M) | ((with_reducible refine tGuard ?_); (with_reducible refine w_stripE ?_ ?_); (focus (refine ⟨_, rfl, ?_⟩; first | (with_reducible rfl) | exact decide_eq_false (by omega) | exact decide_eq_true (by omega)))) | ((with_reducible refine tGuard ?_); first | refine gdS ?_ | (refine gdC ?_ ?_ <;> (intro hgd; rw [hgd]; try (exfalso; simp at hgd; omega)))) | fail | ((with_reducible refine tLoad ?_); go_must (refine ldS ?_)) | ((with_reducible refine tStore ?_); go_must (refine stS ?_; clear M; intro w1 M; (try simp only [setC] at M))) | ((with_reducible refine tBox _ ?_); (refine bxA M ?_; clear M; intro g w1 M))) <;> (try conv => arg 5; simp only [Act.put, List.setIfInBounds_toArray, setC]))
            go_ret
            exact ⟨rfl, M.below⟩
          · have h2' : i ≤ 4611686018427387904 := by omega
            go_enter Tryz.func187, Tryz.ntmps187
            go_wp2_with ((first | ((with_reducible refine tBox (some 1) ?_); refine w_box M _ _ rfl rfl _ rfl ([.int .i64 i, .int .i64 e, .slice q ops.length cap]) rfl ?_; clear M; intro gx w1 M) | ((with_reducible refine tGuard ?_); (with_reducible refine w_stripE ?_ ?_); (focus (refine ⟨_, rfl, ?_⟩; first | (with_reducible rfl) | exact decide_eq_false (by omega) | exact decide_eq_true (by omega)))) | ((with_reducible refine tGuard ?_); first | refine gdS ?_ | (refine gdC ?_ ?_ <;> (intro hgd; rw [hgd]; try (exfalso; simp at hgd; omega)))) | fail | ((with_reducible refine tLoad ?_); go_must (refine ldS ?_)) | ((with_reducible refine tStore ?_); go_must (refine stS ?_; clear M; intro w1 M; (try simp only [setC] at M))) | ((with_reducible refine tBox _ ?_); (refine bxA M ?_; clear M; intro g w1 M))) <;> (try conv => arg 5; simp only [Act.put, List.setIfInBounds_toArray, setC]))
            go_ret
            exact ⟨rfl, M.below⟩
  · obtain ⟨h1, h2, h3⟩ : 1 ≤ i ∧ i ≤ 4611686018427387904 ∧ 1 ≤ e := by omega
    by_cases h4 : 4 < ops.length
    · rw [right_4 h h4]
      have h4' : (4 : Int) < (ops.length : Int) := by omega
      replace E := Lib.hid E
      clear h
      go_enter Tryz.func187, Tryz.ntmps187
      go_wp2_with ((first | ((with_reducible refine tBox (some 1) ?_); refine w_box M _ _ rfl rfl _ rfl ([.int .i64 i, .int .i64 e, .slice q ops.length cap]) rfl ?_; clear M; intro gx w1 M) | ((with_reducible refine tGuard ?_); (with_reducible refine w_stripE ?_ ?_); (focus (refine ⟨_, rfl, ?_⟩; first | (with_reducible rfl) | exact decide_eq_false (by omega) | exact decide_eq_true (by omega)))) | ((with_reducible refine tGuard ?_); first | refine gdS ?_ | (refine gdC ?_ ?_ <;> (intro hgd; rw [hgd]; try (exfalso; simp at hgd; omega)))) | fail | ((with_reducible refine tLoad ?_); go_must (refine ldS ?_)) | ((with_reducible refine tStore ?_); go_must (refine stS ?_; clear M; intro w1 M; (try simp only [setC] at M))) | ((with_reducible refine tBox _ ?_); (refine bxA M ?_; clear M; intro g w1 M))) <;> (try conv => arg 5; simp only [Act.put, List.setIfInBounds_toArray, setC]))
      go_ret
      exact ⟨rfl, M.below⟩
    · rw [right_e h (by omega)]
      have h4' : (ops.length : Int) ≤ 4 := by omega
      obtain ⟨R, eR⟩ : ∃ R, R = eachE cutE ops := ⟨_, rfl⟩
      rw [← eR] at E ⊢
      replace E := Lib.hid E
      clear h eR
      go_enter Tryz.func187, Tryz.ntmps187
      go_wp2_with ((first | ((with_reducible refine tBox (some 1) ?_); refine w_box M _ _ rfl rfl _ rfl ([.int .i64 i, .int .i64 e, .slice q ops.length cap]) rfl ?_; clear M; intro gx w1 M) | ((with_reducible refine tGuard ?_); (with_reducible refine w_stripE ?_ ?_); (focus (refine ⟨_, rfl, ?_⟩; first | (with_reducible rfl) | exact decide_eq_false (by omega) | exact decide_eq_true (by omega)))) | (go_at_call 201; go_must (refine (E.out _ (S.now M)).mono ?_; rintro e w1 ⟨rfl, hb⟩; replace M := M.call hb; clear hb)) | ((with_reducible refine tGuard ?_); first | refine gdS ?_ | (refine gdC ?_ ?_ <;> (intro hgd; rw [hgd]; try (exfalso; simp at hgd; omega)))) | fail | ((with_reducible refine tLoad ?_); go_must (refine ldS ?_)) | ((with_reducible refine tStore ?_); go_must (refine stS ?_; clear M; intro w1 M; (try simp only [setC] at M))) | ((with_reducible refine tBox _ ?_); (refine bxA M ?_; clear M; intro g w1 M))) <;> (try conv => arg 5; simp only [Act.put, List.setIfInBounds_toArray, setC]))
      go_ret
      exact ⟨rfl, M.below⟩
end Go.Proofs.YtidadhbaomieiaaGreat

/- Plain laws of a batch's reading, step by step. No program in this text. No conditions but those each lemma names. -/
namespace Go
namespace TL
theorem InS.byte_q (x : InS) : ∃ q : UInt8, x.byte.1 = q.toNat := by
  unfold InS.byte
  split
  · split
    · exact ⟨0, rfl⟩
    · rename_i b _ _; exact ⟨b, rfl⟩
  · exact ⟨0, rfl⟩
theorem rdO_zero (x : InS) : rdOps 0 x = ([], x) := rfl
theorem rdO_err {m n : Nat} {x x1 : InS} (h : x.byte = (n, x1)) (he : x1.err ≠ 0) : rdOps (m + 1) x = ([], x1) := by rw [rdOps, h, if_neg he]
theorem rdO_kind {m : Nat} {q : UInt8} {x x1 : InS} (h : x.byte = (q.toNat, x1)) (he : x1.err = 0) (hq : ¬ (q = 1 ∨ q = 2)) : rdOps (m + 1) x = ([], x1.bad 10) := by
  rw [rdOps, h, if_pos he, if_neg]
  rintro (e | e)
  · exact hq (.inl (UInt8.toNat_inj.1 e))
  · exact hq (.inr (UInt8.toNat_inj.1 e))
theorem rdO_put {m : Nat} {x x1 : InS} (h : x.byte = (UInt8.toNat 1, x1)) (he : x1.err = 0) : rdOps (m + 1) x = ((1, (x1.text 33).1, ((x1.text 33).2.text 32).1) :: (rdOps m ((x1.text 33).2.text 32).2).1, (rdOps m ((x1.text 33).2.text 32).2).2) := by
  simp only [rdOps, h, if_pos he]; rfl
theorem rdO_del {m : Nat} {x x1 : InS} (h : x.byte = (UInt8.toNat 2, x1)) (he : x1.err = 0) : rdOps (m + 1) x = ((2, (x1.text 33).1, []) :: (rdOps m (x1.text 33).2).1, (rdOps m (x1.text 33).2).2) := by
  simp only [rdOps, h, if_pos he]; rfl
theorem readB_fin {s : List UInt8} {i e n : Nat} {x0 x : InS} {d : List Opr} (h : nums3 s = (i, e, n, x0)) (hr : rdOps n x0 = (d, x)) (hf : x.fin ≠ 0) : readB s = ((0, 0, []), x.fin) := by
  unfold readB; simp only [h, hr]; rw [if_neg hf]
theorem readB_bad {s : List UInt8} {i e n : Nat} {x0 x : InS} {d : List Opr} {r : Nat} (h : nums3 s = (i, e, n, x0)) (hr : rdOps n x0 = (d, x)) (hf : x.fin = 0) (hp : rightB i e d = r) (hr0 : r ≠ 0) : readB s = ((0, 0, []), r) := by
  unfold readB; simp only [h, hr]; rw [if_pos hf, if_neg (by rw [hp]; exact hr0), hp]
theorem readB_ok {s : List UInt8} {i e n : Nat} {x0 x : InS} {d : List Opr} (h : nums3 s = (i, e, n, x0)) (hr : rdOps n x0 = (d, x)) (hf : x.fin = 0) (hp : rightB i e d = 0) : readB s = ((i, e, d), 0) := by
  unfold readB; simp only [h, hr]; rw [if_pos hf, if_pos hp]
theorem bad_fin (x : InS) {e : Nat} (h : e ≠ 0) : (x.bad e).fin = e := by unfold InS.bad InS.fin; rw [if_neg h]
theorem rdO_stop {x : InS} (h : x.err ≠ 0) : ∀ m, (rdOps m x).2.err = x.err
  | 0 => rfl
  | m + 1 => by
    have e : x.byte = (0, x) := by unfold InS.byte; rw [if_neg h]
    rw [rdO_err e h]
end TL
end Go

/- Plain laws of layer 12 (batch): a batch's bytes, read, are the batch; cut they end too early; what is read has just its bytes; what is shipped; which operations fit. No program in this text. No conditions but those each lemma names. -/
namespace Go
namespace TL
def fitO (x : Opr) : Prop := (x.1 = 1 ∨ x.1 = 2) ∧ x.2.1.length ≤ 33 ∧ x.2.2.length ≤ 32 ∧ (x.1 = 2 → x.2.2 = [])
theorem byte_consB (b : UInt8) (r : List UInt8) (k : Nat) : InS.byte ⟨b :: r, k, 0⟩ = (b.toNat, ⟨r, k + 1, 0⟩) := rfl
theorem byte_nilB (k : Nat) : InS.byte ⟨[], k, 0⟩ = (0, ⟨[], k, 7⟩) := rfl
theorem opB_1 (p v : List UInt8) : opB (1, p, v) = 1 :: (textL p ++ textL v) := rfl
theorem opB_2 (p v : List UInt8) : opB (2, p, v) = 2 :: textL p := by unfold opB; rw [if_neg (by simp), List.append_nil]
theorem rd_ops : ∀ (l : List Opr) (r : List UInt8) (k : Nat), (∀ x ∈ l, fitO x) → ∃ k', rdOps l.length ⟨l.flatMap opB ++ r, k, 0⟩ = (l, ⟨r, k', 0⟩)
  | [], r, k, _ => ⟨k, by simp [rdOps]⟩
  | (q, p, v) :: l, r, k, h => by
    obtain ⟨hq, h1, h2, h3⟩ := h (q, p, v) List.mem_cons_self
    simp only at hq h1 h2 h3
    rcases hq with rfl | rfl
    · obtain ⟨k', ih⟩ := rd_ops l r (k + 1 + (textL p).length + (textL v).length) fun y hy => h y (List.mem_cons_of_mem _ hy)
      refine ⟨k', ?_⟩
      rw [List.length_cons, List.flatMap_cons, opB_1, List.cons_append, List.cons_append, List.append_assoc, List.append_assoc]
      rw [rdO_put (byte_consB _ _ _) rfl, text_text h1 (by omega)]
      simp only
      rw [text_text h2 (by omega)]
      simp only
      rw [ih]
    · obtain rfl := h3 rfl
      obtain ⟨k', ih⟩ := rd_ops l r (k + 1 + (textL p).length) fun y hy => h y (List.mem_cons_of_mem _ hy)
      refine ⟨k', ?_⟩
      rw [List.length_cons, List.flatMap_cons, opB_2, List.cons_append, List.cons_append, List.append_assoc]
      rw [rdO_del (byte_consB _ _ _) rfl, text_text h1 (by omega)]
      simp only
      rw [ih]
theorem rd_ocut : ∀ (l : List Opr) (j k : Nat), (∀ x ∈ l, fitO x) → j < (l.flatMap opB).length → (rdOps l.length ⟨(l.flatMap opB).take j, k, 0⟩).2.err = 7
  | [], j, k, _, hj => by simp at hj
  | (q, p, v) :: l, 0, k, h, hj => by
    rw [List.take_zero, List.length_cons, rdO_err (byte_nilB k) (by simp)]
  | (q, p, v) :: l, j + 1, k, h, hj => by
    obtain ⟨hq, h1, h2, h3⟩ := h (q, p, v) List.mem_cons_self
    have hl := fun y hy => h y (List.mem_cons_of_mem _ hy)
    simp only at hq h1 h2 h3
    rcases hq with rfl | rfl
    · rw [List.flatMap_cons, opB_1] at hj ⊢
      rw [List.cons_append, List.append_assoc] at hj ⊢
      rw [List.length_cons, List.take_succ_cons, rdO_put (byte_consB _ _ _) rfl]
      simp only
      simp only [List.length_cons, List.length_append] at hj
      have c1 := text_cut (m := 33) (k := k + 1) (j := j) (t := p) (r := textL v ++ l.flatMap opB) h1 (by omega)
      by_cases hj1 : j < (textL p).length
      · rw [if_pos hj1] at c1
        have e := InS.text_err (x := (InS.text ⟨(textL p ++ (textL v ++ l.flatMap opB)).take j, k + 1, 0⟩ 33).2) (by rw [c1]; decide) 32
        rw [e]; simp only
        rw [rdO_stop (by rw [c1]; decide)]; exact c1
      · rw [if_neg hj1] at c1
        rw [c1]; simp only
        have c2 := text_cut (m := 32) (k := k + 1 + (textL p).length) (j := j - (textL p).length) (t := v) (r := l.flatMap opB) h2 (by omega)
        by_cases hj2 : j - (textL p).length < (textL v).length
        · rw [if_pos hj2] at c2
          rw [rdO_stop (by rw [c2]; decide)]; exact c2
        · rw [if_neg hj2] at c2
          rw [c2]; simp only
          exact rd_ocut l _ _ hl (by omega)
    · rw [List.flatMap_cons, opB_2] at hj ⊢
      rw [List.cons_append] at hj ⊢
      rw [List.length_cons, List.take_succ_cons, rdO_del (byte_consB _ _ _) rfl]
      simp only
      simp only [List.length_cons, List.length_append] at hj
      have c1 := text_cut (m := 33) (k := k + 1) (j := j) (t := p) (r := l.flatMap opB) h1 (by omega)
      by_cases hj1 : j < (textL p).length
      · rw [if_pos hj1] at c1
        rw [rdO_stop (by rw [c1]; decide)]; exact c1
      · rw [if_neg hj1] at c1
        rw [c1]; simp only
        exact rd_ocut l _ _ hl (by omega)
theorem rd_oonly : ∀ (n : Nat) (x : InS) (l : List Opr) (y : InS), rdOps n x = (l, y) → x.err = 0 → y.err = 0 → x.rest = l.flatMap opB ++ y.rest ∧ l.length = n
  | 0, x, l, y, h, _, _ => by
    simp only [rdOps, Prod.mk.injEq] at h
    obtain ⟨rfl, rfl⟩ := h
    simp
  | n + 1, x, l, y, h, hx, hy => by
    obtain ⟨rest, k, er⟩ := x
    simp only at hx; subst hx
    cases rest with
    | nil =>
      rw [rdO_err (byte_nilB k) (by simp)] at h
      simp only [Prod.mk.injEq] at h
      obtain ⟨_, rfl⟩ := h
      cases hy
    | cons b r =>
      by_cases hq : b = 1 ∨ b = 2
      · rcases hq with rfl | rfl
        · rw [rdO_put (byte_consB _ _ _) rfl] at h
          obtain ⟨⟨p, x3⟩, e3⟩ : ∃ R, R = InS.text ⟨r, k + 1, 0⟩ 33 := ⟨_, rfl⟩
          rw [← e3] at h
          simp only at h
          obtain ⟨⟨v, x4⟩, e4⟩ : ∃ R, R = x3.text 32 := ⟨_, rfl⟩
          rw [← e4] at h
          simp only [Prod.mk.injEq] at h
          obtain ⟨rfl, rfl⟩ := h
          have h4 : x4.err = 0 := by
            by_cases h0 : x4.err = 0
            · exact h0
            · rw [rdO_stop h0] at hy; exact hy
          have h3 : x3.err = 0 := text_err0 (m := 32) (by rw [← e4]; exact h4)
          have t1 := text_ok e3.symm rfl h3
          have t2 := text_ok e4.symm h3 h4
          obtain ⟨r1, r2⟩ := rd_oonly n x4 _ _ (Prod.ext rfl rfl) h4 hy
          refine ⟨?_, by simp [r2]⟩
          simp only at t1 ⊢
          rw [List.flatMap_cons, opB_1, List.cons_append, List.cons_append, t1.1, t2.1, r1]
          simp only [List.append_assoc]
        · rw [rdO_del (byte_consB _ _ _) rfl] at h
          obtain ⟨⟨p, x3⟩, e3⟩ : ∃ R, R = InS.text ⟨r, k + 1, 0⟩ 33 := ⟨_, rfl⟩
          rw [← e3] at h
          simp only [Prod.mk.injEq] at h
          obtain ⟨rfl, rfl⟩ := h
          have h3 : x3.err = 0 := by
            by_cases h0 : x3.err = 0
            · exact h0
            · rw [rdO_stop h0] at hy; exact hy
          have t1 := text_ok e3.symm rfl h3
          obtain ⟨r1, r2⟩ := rd_oonly n x3 _ _ (Prod.ext rfl rfl) h3 hy
          refine ⟨?_, by simp [r2]⟩
          simp only at t1 ⊢
          rw [List.flatMap_cons, opB_2, List.cons_append, List.cons_append, t1.1, r1]
          simp only [List.append_assoc]
      · rw [rdO_kind (byte_consB _ _ _) rfl hq] at h
        simp only [Prod.mk.injEq] at h
        obtain ⟨_, rfl⟩ := h
        cases hy
/-! ### Batches -/
theorem cutE_ok {p : List UInt8} (h : cutE p = 0) : p.length ≤ 33 ∧ (cutL p).2.2 = true := by
  unfold cutE at h
  split at h
  · rename_i h0
    obtain ⟨⟨m, k, ok⟩, e⟩ : ∃ c, c = cutL p := ⟨_, rfl⟩
    rw [← e] at h0 ⊢
    simp only at h0; subst h0
    obtain ⟨hp, _, _, hm, hk', _⟩ := cut_ok e.symm
    refine ⟨?_, rfl⟩
    rw [hp]; simp; omega
  · cases h
theorem right_fit {i e : Int} {ops : List Opr} (h : rightB i e ops = 0) : ∀ x ∈ ops, fitO x := fun x hx => by
  obtain ⟨_, _, _, _, h4⟩ := right_ok h
  obtain ⟨k1, k2, k3, k4⟩ := op_zero (each_ok h4 x hx)
  exact ⟨k1, (cutE_ok k2).1, k3, k4⟩
theorem nums_bat {i e : Nat} {ops : List Opr} (r : List UInt8) (hi : i ≤ 4611686018427387904) (he : e ≤ 9223372036854775807) (hl : ops.length ≤ 4) : ∃ k, nums3 (batB i e ops ++ r) = (i, e, ops.length, ⟨ops.flatMap opB ++ r, k, 0⟩) := by
  unfold nums3 batB
  simp only [List.append_assoc]
  rw [most_num hi (by omega)]
  simp only
  rw [most_num he (by omega)]
  simp only
  rw [most_num hl (by omega)]
  exact ⟨_, rfl⟩
/-- A batch's bytes, read, are the batch; nothing may be behind them. -/
theorem read_bat {i e : Nat} {ops : List Opr} (h : rightB i e ops = 0) (he : e ≤ 9223372036854775807) (r : List UInt8) : readB (batB i e ops ++ r) = if r = [] then ((i, e, ops), 0) else ((0, 0, []), 8) := by
  obtain ⟨h1, h2, h3, h4, _⟩ := right_ok h
  obtain ⟨k, hn⟩ := nums_bat (ops := ops) r (by omega : i ≤ 4611686018427387904) he h4
  obtain ⟨k', hr⟩ := rd_ops ops r k (right_fit h)
  by_cases e0 : r = []
  · subst e0
    rw [if_pos rfl]
    exact readB_ok hn hr rfl h
  · rw [if_neg e0]
    have hf : (InS.mk r k' 0).fin = 8 := by unfold InS.fin; rw [if_pos rfl, if_neg (by simpa using e0)]
    rw [readB_fin hn hr (by rw [hf]; decide), hf]
/-- A batch's proper beginning ends too early. -/
theorem read_batcut {i e : Nat} {ops : List Opr} (h : rightB i e ops = 0) (he : e ≤ 9223372036854775807) {j : Nat} (hj : j < (batB i e ops).length) : readB ((batB i e ops).take j) = ((0, 0, []), 7) := by
  obtain ⟨h1, h2, h3, h4, _⟩ := right_ok h
  have key : ∀ (a b c : Nat) (x : InS), nums3 ((batB i e ops).take j) = (a, b, c, x) → (rdOps c x).2.err = 7 → readB ((batB i e ops).take j) = ((0, 0, []), 7) := fun a b c x hn hx => by
    have hf : (rdOps c x).2.fin = 7 := by unfold InS.fin; rw [if_neg (by rw [hx]; decide), hx]
    rw [readB_fin hn (Prod.ext rfl rfl) (by rw [hf]; decide), hf]
  have c1 := most_cut (m := 4611686018427387904) (n := i) (k := 0) (j := j) (r := numL e ++ (numL ops.length ++ ops.flatMap opB)) (by omega) (by omega)
  have e0 : nums3 ((batB i e ops).take j) = nums3 ((numL i ++ (numL e ++ (numL ops.length ++ ops.flatMap opB))).take j) := rfl
  unfold nums3 at e0 key
  simp only at e0 key
  unfold batB at hj key
  simp only [List.length_append] at hj
  by_cases hj1 : j < (numL i).length
  · rw [if_pos hj1] at c1
    refine key _ _ _ _ rfl ?_
    rw [c1]; simp only
    rw [InS.most_err (by simp) 9223372036854775807]; simp only
    rw [InS.most_err (by simp) 4]; simp only
    exact rdO_stop (by simp) _
  · rw [if_neg hj1] at c1
    have c2 := most_cut (m := 9223372036854775807) (n := e) (k := 0 + (numL i).length) (j := j - (numL i).length) (r := numL ops.length ++ ops.flatMap opB) he (by omega)
    by_cases hj2 : j - (numL i).length < (numL e).length
    · rw [if_pos hj2] at c2
      refine key _ _ _ _ rfl ?_
      rw [c1]; simp only
      rw [c2]; simp only
      rw [InS.most_err (by simp) 4]; simp only
      exact rdO_stop (by simp) _
    · rw [if_neg hj2] at c2
      have c3 := most_cut (m := 4) (n := ops.length) (k := 0 + (numL i).length + (numL e).length) (j := j - (numL i).length - (numL e).length) (r := ops.flatMap opB) h4 (by omega)
      by_cases hj3 : j - (numL i).length - (numL e).length < (numL ops.length).length
      · rw [if_pos hj3] at c3
        refine key _ _ _ _ rfl ?_
        rw [c1]; simp only
        rw [c2]; simp only
        rw [c3]; simp only
        exact rdO_stop (by simp) _
      · rw [if_neg hj3] at c3
        refine key _ _ _ _ rfl ?_
        rw [c1]; simp only
        rw [c2]; simp only
        rw [c3]; simp only
        exact rd_ocut ops _ _ (right_fit h) (by omega)
theorem readB_zero {s : List UInt8} (h : (readB s).2 ≠ 0) : (readB s).1 = (0, 0, []) := by
  unfold readB at h ⊢
  simp only at h ⊢
  split
  · rename_i h1
    rw [if_pos h1] at h
    split
    · rename_i h2; rw [if_pos h2] at h; exact absurd rfl h
    · rfl
  · rfl
/-- What is read has just its bytes. -/
theorem read_batonly {s : List UInt8} {i e : Nat} {d : List Opr} (h : readB s = ((i, e, d), 0)) : s = batB i e d ∧ rightB i e d = 0 ∧ e ≤ 9223372036854775807 := by
  unfold readB at h
  simp only at h
  split at h
  · rename_i hfin
    split at h
    · rename_i hr
      simp only [Prod.mk.injEq, and_true] at h
      obtain ⟨rfl, rfl, rfl⟩ := h
      refine ⟨?_, hr, InS.most_le _ _⟩
      unfold nums3 at hfin hr ⊢
      simp only at hfin hr ⊢
      obtain ⟨⟨i, x0⟩, e0⟩ : ∃ R, R = InS.most ⟨s, 0, 0⟩ 4611686018427387904 := ⟨_, rfl⟩
      rw [← e0] at hfin hr ⊢
      simp only at hfin hr ⊢
      obtain ⟨⟨e, x1⟩, e1⟩ : ∃ R, R = x0.most 9223372036854775807 := ⟨_, rfl⟩
      rw [← e1] at hfin hr ⊢
      simp only at hfin hr ⊢
      obtain ⟨⟨n, x2⟩, e2⟩ : ∃ R, R = x1.most 4 := ⟨_, rfl⟩
      rw [← e2] at hfin hr ⊢
      simp only at hfin hr ⊢
      obtain ⟨⟨l, x⟩, e3⟩ : ∃ R, R = rdOps n x2 := ⟨_, rfl⟩
      rw [← e3] at hfin hr ⊢
      simp only at hfin hr ⊢
      have hx : x.err = 0 := by
        unfold InS.fin at hfin; split at hfin
        · assumption
        · assumption
      have hxr : x.rest = [] := by
        unfold InS.fin at hfin; rw [if_pos hx] at hfin; split at hfin
        · rename_i hz; simpa using hz
        · cases hfin
      have hx2 : x2.err = 0 := by
        by_cases h0 : x2.err = 0
        · exact h0
        · have := rdO_stop h0 n
          rw [← e3] at this
          exact absurd (this.symm.trans hx) h0
      have hx1 : x1.err = 0 := most_err0 (m := 4) (by rw [← e2]; exact hx2)
      have hx0 : x0.err = 0 := most_err0 (m := 9223372036854775807) (by rw [← e1]; exact hx1)
      have m0 := most_ok e0.symm rfl hx0
      have m1 := most_ok e1.symm hx0 hx1
      have m2 := most_ok e2.symm hx1 hx2
      obtain ⟨r1, r2⟩ := rd_oonly n x2 l x e3.symm hx2 hx
      rw [hxr, List.append_nil] at r1
      have : s = numL i ++ x0.rest := m0.1
      unfold batB
      rw [this, m1.1, m2.1, r1, r2]
    · simp only [Prod.mk.injEq] at h
      rename_i hr
      exact absurd h.2 hr
  · rename_i hfin
    simp only [Prod.mk.injEq] at h
    exact absurd h.2 hfin
/-! ### What is shipped -/
theorem filt_filt (l : List Mt) (ops : List Opr) : filtB l (filtB l ops) = filtB l ops := by unfold filtB; rw [List.filter_filter]; simp
theorem filt_right {l : List Mt} {i e : Int} {ops : List Opr} (h : rightB i e ops = 0) : rightB i e (filtB l ops) = 0 := by
  obtain ⟨h1, h2, h3, h4, h5⟩ := right_ok h
  have hl : (filtB l ops).length ≤ ops.length := List.length_filter_le _ _
  unfold rightB
  rw [if_neg (by omega), if_neg (by omega)]
  exact each_of fun x hx => each_ok h5 x (List.mem_filter.1 hx).1
/-! ### What fits -/
theorem of_cut {l : List Mt} {p : List UInt8} (h : (ofP l p).2 = 0) : cutE p = 0 := by
  unfold ofP at h; unfold cutE
  split at h
  · rename_i h0; rw [if_pos h0]
  · cases h
theorem cut_of {l : List Mt} {p : List UInt8} (h : cutE p = 0) : (ofP l p).2 = 0 ∨ (ofP l p).2 = 21 := by
  have h0 := (cutE_ok h).2
  unfold ofP
  rw [if_pos h0]
  split
  · exact .inl rfl
  · exact .inr rfl
theorem may_right {l : List Mt} {i e : Int} {ops : List Opr} (h : mayO l ops = 0) : rightB i e ops = 0 ↔ (1 ≤ i ∧ i ≤ 4611686018427387904 ∧ 1 ≤ e) := by
  constructor
  · intro h2; obtain ⟨h1, h2, h3, _⟩ := right_ok h2; exact ⟨h1, h2, h3⟩
  · rintro ⟨h1, h2, h3⟩
    unfold mayO at h
    split at h
    · cases h
    · split at h
      · cases h
      · unfold rightB
        rw [if_neg (by omega), if_neg (by omega)]
        refine each_of fun x hx => ?_
        obtain ⟨k1, k2, k3, k4⟩ := op_zero (each_ok h x hx)
        exact op_good k1 (of_cut k2) k3 k4
theorem right_may {l : List Mt} {i e : Int} {ops : List Opr} (h : rightB i e ops = 0) : mayO l ops = 0 ∨ mayO l ops = 21 ∨ (mayO l ops = 1 ∧ ops.length = 0) := by
  obtain ⟨_, _, _, h4, h5⟩ := right_ok h
  unfold mayO
  by_cases h0 : ops.length = 0
  · rw [if_pos h0]; exact .inr (.inr ⟨rfl, h0⟩)
  · rw [if_neg h0, if_neg (by omega)]
    have key : ∀ ops : List Opr, eachE cutE ops = 0 → eachE (fun p => (ofP l p).2) ops = 0 ∨ eachE (fun p => (ofP l p).2) ops = 21 := by
      intro ops
      induction ops with
      | nil => intro _; exact .inl rfl
      | cons x t ih =>
        intro h5
        obtain ⟨k1, k2, k3, k4⟩ := op_zero (each_ok h5 x List.mem_cons_self)
        have ht := ih (each_of fun y hy => each_ok h5 y (List.mem_cons_of_mem _ hy))
        rcases cut_of (l := l) k2 with e0 | e0
        · rw [eachE, if_pos (op_good k1 e0 k3 k4)]; exact ht
        · right
          have e1 : opE (fun p => (ofP l p).2) x = 21 := (op_path k1 (by rw [e0]; decide)).trans e0
          rw [eachE, if_neg (by rw [e1]; decide), e1]
    rcases key ops h5 with e0 | e0
    · exact .inl e0
    · exact .inr (.inl e0)
end TL
end Go

/- The walks of batch.Bytes and of the reference's Bytes. Conditions: lengths; the numbers are int's. -/
namespace Go
namespace TL
theorem opB_len {x : Opr} (h1 : x.2.1.length ≤ 1000) (h2 : x.2.2.length ≤ 1000) : (opB x).length ≤ 2021 := by
  unfold opB textL
  have := numL_length_le x.2.1.length (by omega)
  have := numL_length_le x.2.2.length (by omega)
  split <;> simp <;> omega
theorem opsB_len : ∀ {l : List Opr}, (∀ x ∈ l, x.2.1.length ≤ 1000 ∧ x.2.2.length ≤ 1000) → (l.flatMap opB).length ≤ l.length * 2021
  | [], _ => by simp
  | x :: l, h => by
    have h1 := h x List.mem_cons_self
    have := opB_len h1.1 h1.2
    have := opsB_len (l := l) fun y hy => h y (List.mem_cons_of_mem _ hy)
    simp only [List.flatMap_cons, List.length_append, List.length_cons]; omega
theorem flatO_take {l : List Opr} {k : Nat} {x : Opr} (h : l[k]? = some x) : (l.take (k + 1)).flatMap opB = (l.take k).flatMap opB ++ opB x := by
  obtain ⟨hk, rfl⟩ := List.getElem?_eq_some_iff.1 h
  rw [List.take_succ_eq_append_getElem hk, List.flatMap_append, List.flatMap_cons, List.flatMap_nil, List.append_nil]
theorem opB_put {q : UInt8} {a b : List UInt8} (h : q = 1) : opB (q, a, b) = [q] ++ textL a ++ textL b := by unfold opB; rw [if_pos h]; rfl
theorem opB_del {q : UInt8} {a b : List UInt8} (h : q ≠ 1) : opB (q, a, b) = [q] ++ textL a := by unfold opB; rw [if_neg h, List.append_nil]; rfl
theorem bytesB_no {i e : Int} {ops : List Opr} (h : rightB i e ops ≠ 0) : bytesB i e ops = ([], rightB i e ops) := if_neg h
theorem bytesB_ok {i e : Int} {ops : List Opr} (h : rightB i e ops = 0) : bytesB i e ops = (batB i.toNat e.toNat ops, 0) := if_pos h
end TL
end Go
namespace Go.Proofs.YtidadhbaomieiaaGreat
open Go.RowKit Go.TL
set_option maxRecDepth 100000 in
set_option maxHeartbeats 8000000 in
theorem bBytes_c (i e : Int) (he : e ≤ 9223372036854775807) (ops : List Opr) (v : Value) (w : World) (S : SeesL w 3 opV v ops) (hl : ops.length ≤ 1000) (hm0 : ∀ x ∈ ops, x.2.1.length ≤ 100000000 ∧ x.2.2.length ≤ 100000000) :
    Calls Tryz.prog 168 #[.agg #[.int .i64 i, .int .i64 e, v]] w fun r w' => r = .returned (.tuple #[.string (mkS (bytesB i e ops).1), .int .i64 (bytesB i e ops).2]) ∧ Below w.heap.size w w' := by
  have M := Mem.start [] w
  have Y := fun w (S : SeesL w 3 opV v ops) => bRight_c i e ops v w S (by omega) (fun x hx => by have := hm0 x hx; omega)
  have BN := @bytesB_no i e ops
  have BO := @bytesB_ok i e ops
  have RO := @right_ok i e ops
  have hm : rightB i e ops = 0 → ∀ x ∈ ops, x.2.1.length ≤ 1000 ∧ x.2.2.length ≤ 1000 := fun h x hx => by
    obtain ⟨_, k2, k3, _⟩ := right_fit h x hx
    omega
  obtain ⟨A, eA⟩ : ∃ A, A = bytesB i e ops := ⟨_, rfl⟩
  obtain ⟨R, eR⟩ : ∃ R, R = rightB i e ops := ⟨_, rfl⟩
  rw [← eA, ← eR] at BN
  rw [← eA, ← eR] at BO
  rw [← eR] at RO Y hm
  rw [← eA]
  replace Y := Lib.hid Y
  clear eA eR
  obtain ⟨p, cap, rfl, hc⟩ := S.form
  by_cases hR : R = 0
  · subst hR
    obtain ⟨h1, h2, h3, h4, _⟩ := RO rfl
    have e0 := BO rfl
    replace hm := hm rfl
    clear BN BO RO
    obtain ⟨i, rfl⟩ : ∃ n : Nat, i = n := ⟨i.toNat, by omega⟩
    obtain ⟨e, rfl⟩ : ∃ n : Nat, e = n := ⟨e.toNat, by omega⟩
    rw [Int.toNat_natCast, Int.toNat_natCast] at e0
    unfold batB at e0
    subst e0
    have hni := numL_length_le i (by omega)
    have hne := numL_length_le e (by omega)
    have hnn := numL_length_le ops.length (by omega)
    have hz : (i : Int) ≤ 4611686018427387904 := by omega
    have hz' : (e : Int) ≤ 9223372036854775807 := by omega
    have hz2 : 0 ≤ (i : Int) := by omega
    have hz3 : 0 ≤ (e : Int) := by omega
    go_enter Tryz.func168, Tryz.ntmps168
    have hmB := fun k => opsB_len (l := ops.take k) (fun x hx => hm x (List.mem_of_mem_take hx))
    go_wp2_with ((first | ((with_reducible refine tBox (some 1) ?_); refine w_box M _ _ rfl rfl _ rfl ([.int .i64 i, .int .i64 e, .slice p ops.length cap]) rfl ?_; clear M; intro gb w1 M) | ((with_reducible refine tBox (some 14) ?_); refine w_box M _ _ rfl rfl _ rfl ([.slice none 0 0]) rfl ?_; clear M; intro go w1 M) | (go_at_call 187; go_must (refine (Y.out _ (S.now M)).mono ?_; rintro e w1 ⟨rfl, hb⟩; replace M := M.call hb; clear hb)) | (go_at_call 113; go_must (first | ((with_reducible refine (Num_c _ _ _ i _ (I64_nat i (by omega)) _ (by omega) (by simp) (M.outNew.ok 0 _ rfl)).mono ?_); rintro e w2 ⟨rfl, v1, U⟩; replace M := M.outNew.upd 0 rfl U; clear U; simp only [List.set_cons_zero, List.nil_append] at M) | ((with_reducible refine (Num_c _ _ _ e _ (I64_nat e (by omega)) _ (by omega) (by omega) (M.ok 0 _ rfl)).mono ?_); rintro e w2 ⟨rfl, v1, U⟩; replace M := M.upd 0 rfl U; clear U; simp only [List.set_cons_zero] at M) | ((with_reducible refine (Num_c _ _ _ ops.length _ (I64_nat ops.length (by omega)) _ (by omega) (by simp; omega) (M.ok 0 _ rfl)).mono ?_); rintro e w2 ⟨rfl, v1, U⟩; replace M := M.upd 0 rfl U; clear U; simp only [List.set_cons_zero] at M))) | ((with_reducible refine tGuard ?_); refine gdS ?_) | fail | ((with_reducible refine tLoad ?_); go_must (refine ldS ?_)) | ((with_reducible refine tStore ?_); go_must (refine stS ?_; clear M; intro w1 M; (try simp only [setC] at M))) | ((with_reducible refine tBox _ ?_); (refine bxA M ?_; clear M; intro g w1 M))) <;> (try conv => arg 5; simp only [Act.put, List.setIfInBounds_toArray, setC]))
    rw [List.append_assoc] at M
    go_loopw [34] (fun iv wr => ∃ (k : Nat) (v : Value), k ≤ ops.length ∧ iv = .int .i64 k ∧ Mem [] w wr [outC go v (numL i ++ (numL e ++ (numL ops.length ++ (ops.take k).flatMap opB))), .row gb [.int .i64 i, .int .i64 e, .slice p ops.length cap]]) (fun iv _ => ops.length - (intOf iv).toNat)
    case atStart => exact ⟨0, _, by omega, rfl, by simpa using M⟩
    case round =>
      clear M
      obtain ⟨k, v0, hk, rfl, M⟩ := hrel
      have hB := hmB k
      have hk2 : (ops.take k).length ≤ k := List.length_take_le _ _
      by_cases hlt : k < ops.length
      · obtain ⟨g, so, rfl⟩ := S.addr (by omega)
        obtain ⟨⟨q, a, b⟩, hx⟩ : ∃ x, ops[k]? = some x := ⟨_, List.getElem?_eq_getElem hlt⟩
        obtain ⟨ha, hb⟩ := hm (q, a, b) (List.mem_of_getElem? hx)
        simp only at ha hb
        have HT := Lib.hid (flatO_take hx)
        obtain ⟨d, ed⟩ : ∃ d, d = numL i ++ (numL e ++ (numL ops.length ++ (ops.take k).flatMap opB)) := ⟨_, rfl⟩
        have hd : d.length ≤ 200000 := by rw [ed]; simp only [List.length_append]; omega
        rw [← ed] at M
        have ED := Lib.hid ed
        have HX := Lib.hid hx
        have hta : (textL a).length ≤ 1010 := by unfold textL; have := numL_length_le a.length (by omega); simp; omega
        clear hx ed hmB hB
        by_cases hq : q = 1
        · have HQ := Lib.hid hq
          have hq1 : (I8 q == 1) = true := by rw [hq]; rfl
          clear hq
          go_wp2_with ((first | ((with_reducible refine tLoad ?_); refine w_at _ _ rfl (by exact ev_tmp rfl) ?_; intro hx; first | (refine w_seeA M S HX.out _ _ rfl hx rfl (by decide +kernel) (by first | (with_reducible rfl) | omega) (by kernel_rfl) ?_; clear hx; (try conv => arg 5; simp only [Act.put, List.setIfInBounds_toArray, setC, opV_eq])) | (refine w_see M S HX.out _ _ rfl hx rfl (by decide +kernel) 0 (by first | (with_reducible rfl) | omega) rfl ?_; clear hx) | (refine w_see M S HX.out _ _ rfl hx rfl (by decide +kernel) 1 (by first | (with_reducible rfl) | omega) rfl ?_; clear hx) | (refine w_see M S HX.out _ _ rfl hx rfl (by decide +kernel) 2 (by first | (with_reducible rfl) | omega) rfl ?_; clear hx)) | ((with_reducible refine tAlloc (some 7) 181 ?_); refine w_alloc M _ rfl rfl (.agg #[.int .u8 0, .string (mkS []), .string (mkS [])]) (opV (0, [], [])) (by kernel_rfl) rfl ?_; clear M; intro gx w1 M) | (go_at_call 91; go_must (refine (Out_Byte_c _ _ _ q _ (by omega) (M.ok 1 _ rfl)).mono ?_; rintro e w2 ⟨rfl, v1, U⟩; replace M := M.upd 1 rfl U; clear U; simp only [List.set_cons_zero, List.set_cons_succ] at M)) | (go_at_call 80; go_must (refine (Out_Text_c _ _ _ _ _ (by omega) (by first | omega | (simp; omega)) (M.ok 1 _ rfl)).mono ?_; rintro e w2 ⟨rfl, v1, U⟩; replace M := M.upd 1 rfl U; clear U; simp only [List.set_cons_zero, List.set_cons_succ] at M)) | ((with_reducible refine tGuard ?_); refine gdS ?_) | fail | ((with_reducible refine tLoad ?_); go_must (refine ldS ?_)) | ((with_reducible refine tStore ?_); go_must (refine stS ?_; clear M; intro w1 M; (try simp only [setC] at M))) | ((with_reducible refine tBox _ ?_); (refine bxA M ?_; clear M; intro g w1 M))) <;> (try conv => arg 5; simp only [Act.put, List.setIfInBounds_toArray, setC]))
          go_roundw
          case rel => exact ⟨k + 1, _, by omega, by go_num, by
            rw [HT.out, opB_put HQ.out]
            have e9 : numL i ++ (numL e ++ (numL ops.length ++ ((ops.take k).flatMap opB ++ ([q] ++ textL a ++ textL b)))) = d ++ [q] ++ textL a ++ textL b := by rw [ED.out]; simp only [List.append_assoc]
            rw [e9]; exact M.tail⟩
          case measure => simp [intOf]; omega
        · have HQ := Lib.hid hq
          obtain ⟨hq1, hq2⟩ := I8_ne (q := q) (c := 1) hq
          rw [show I8 1 = 1 from rfl] at hq1 hq2
          clear hq
          go_wp2_with ((first | ((with_reducible refine tLoad ?_); refine w_at _ _ rfl (by exact ev_tmp rfl) ?_; intro hx; first | (refine w_seeA M S HX.out _ _ rfl hx rfl (by decide +kernel) (by first | (with_reducible rfl) | omega) (by kernel_rfl) ?_; clear hx; (try conv => arg 5; simp only [Act.put, List.setIfInBounds_toArray, setC, opV_eq])) | (refine w_see M S HX.out _ _ rfl hx rfl (by decide +kernel) 0 (by first | (with_reducible rfl) | omega) rfl ?_; clear hx) | (refine w_see M S HX.out _ _ rfl hx rfl (by decide +kernel) 1 (by first | (with_reducible rfl) | omega) rfl ?_; clear hx) | (refine w_see M S HX.out _ _ rfl hx rfl (by decide +kernel) 2 (by first | (with_reducible rfl) | omega) rfl ?_; clear hx)) | ((with_reducible refine tAlloc (some 7) 181 ?_); refine w_alloc M _ rfl rfl (.agg #[.int .u8 0, .string (mkS []), .string (mkS [])]) (opV (0, [], [])) (by kernel_rfl) rfl ?_; clear M; intro gx w1 M) | (go_at_call 91; go_must (refine (Out_Byte_c _ _ _ q _ (by omega) (M.ok 1 _ rfl)).mono ?_; rintro e w2 ⟨rfl, v1, U⟩; replace M := M.upd 1 rfl U; clear U; simp only [List.set_cons_zero, List.set_cons_succ] at M)) | (go_at_call 80; go_must (refine (Out_Text_c _ _ _ _ _ (by omega) (by first | omega | (simp; omega)) (M.ok 1 _ rfl)).mono ?_; rintro e w2 ⟨rfl, v1, U⟩; replace M := M.upd 1 rfl U; clear U; simp only [List.set_cons_zero, List.set_cons_succ] at M)) | ((with_reducible refine tGuard ?_); refine gdS ?_) | fail | ((with_reducible refine tLoad ?_); go_must (refine ldS ?_)) | ((with_reducible refine tStore ?_); go_must (refine stS ?_; clear M; intro w1 M; (try simp only [setC] at M))) | ((with_reducible refine tBox _ ?_); (refine bxA M ?_; clear M; intro g w1 M))) <;> (try conv => arg 5; simp only [Act.put, List.setIfInBounds_toArray, setC]))
          go_roundw
          case rel => exact ⟨k + 1, _, by omega, by go_num, by
            rw [HT.out, opB_del HQ.out]
            have e9 : numL i ++ (numL e ++ (numL ops.length ++ ((ops.take k).flatMap opB ++ ([q] ++ textL a)))) = d ++ [q] ++ textL a := by rw [ED.out]; simp only [List.append_assoc]
            rw [e9]; exact M.tail⟩
          case measure => simp [intOf]; omega
      · obtain rfl : k = ops.length := by omega
        rw [List.take_length] at M
        go_wp2_with (first | (go_at_call 81; go_must (refine (Out_String_c _ _ _ _ (M.ok 0 _ rfl)).mono ?_; rintro e w1 ⟨rfl, rfl⟩)))
        go_ret2
        exact ⟨rfl, M.below⟩
  · have e0 := BN hR
    subst e0
    clear BN BO RO
    have hz : ((R : Int) == 0) = false := by simp; exact hR
    have hz' : ((R : Int) != 0) = true := by simp; exact hR
    clear hR
    go_enter Tryz.func168, Tryz.ntmps168
    go_wp2_with ((first | ((with_reducible refine tBox (some 1) ?_); refine w_box M _ _ rfl rfl _ rfl ([.int .i64 i, .int .i64 e, .slice p ops.length cap]) rfl ?_; clear M; intro gb w1 M) | (go_at_call 187; go_must (refine (Y.out _ (S.now M)).mono ?_; rintro e w1 ⟨rfl, hb⟩; replace M := M.call hb; clear hb)) | ((with_reducible refine tGuard ?_); refine gdS ?_) | fail | ((with_reducible refine tLoad ?_); go_must (refine ldS ?_)) | ((with_reducible refine tStore ?_); go_must (refine stS ?_; clear M; intro w1 M; (try simp only [setC] at M))) | ((with_reducible refine tBox _ ?_); (refine bxA M ?_; clear M; intro g w1 M))) <;> (try conv => arg 5; simp only [Act.put, List.setIfInBounds_toArray, setC]))
    go_ret2
    exact ⟨rfl, M.below⟩
end Go.Proofs.YtidadhbaomieiaaGreat

/- The walks of layer 18's fields that are written: a batch, pairs. Conditions: lengths; the numbers are int's. -/
namespace Go
namespace TL
open Go.RowKit
theorem bytesB_len {i e : Int} (he : e ≤ 9223372036854775807) (ops : List Opr) : (bytesB i e ops).1.length ≤ 10000 := by
  unfold bytesB
  split
  · rename_i h
    obtain ⟨h1, h2, h3, h4, _⟩ := right_ok h
    have := opsB_len (l := ops) fun x hx => by obtain ⟨_, k2, k3, _⟩ := right_fit h x hx; omega
    have := numL_length_le i.toNat (by omega)
    have := numL_length_le e.toNat (by omega)
    have := numL_length_le ops.length (by omega)
    unfold batB
    simp only [List.length_append]
    omega
  · simp
section
variable {P : Program} {ops : Array Oper} {rest : List Oper} {o : Oper} {a : Act} {w w0 : World} {Q : Exit → Act → World → Prop} {F : List Nat} {L : List Chunk} {g : Nat}
/-- A field of one cell, of a message that came in. -/
theorem w_rowFN {m : Ms} (M : Mem F w0 w L) (R : (Chunk.row g (msgC m)).ok w0) (hF : g ∉ F) (t : TypeId) (x : Operand) (ho : o.op = .load t x) {off : Nat} (hx : a.eval x = .pointer (some ⟨g, off, none⟩)) (hw : Region.wanted o (yielded ops a.tmps) = true)
    (ht : scalarT P t = true) (hm : m.fit) (f : Nf) (hoff : off = f.off) (h : wpList P ops Q rest (a.put o.dst (f.get m)) w) : wpList P ops Q (o :: rest) a w := by
  subst hoff
  exact w_rowF M R hF t x ho hx hw ht (msgC_at hm f) h
/-- Its batch. -/
theorem w_rowFBt {m : Ms} (M : Mem F w0 w L) (R : (Chunk.row g (msgC m)).ok w0) (hF : g ∉ F) (t : TypeId) (x : Operand) (ho : o.op = .load t x) (hx : a.eval x = .pointer (some ⟨g, 4, none⟩)) (hw : Region.wanted o (yielded ops a.tmps) = true)
    (ht : rowT P t = true) (hn : (P.info? t).map (·.size) = some 3) (h : wpList P ops Q rest (a.put o.dst (.agg #[.int .i64 m.bi, .int .i64 m.be, m.ov])) w) : wpList P ops Q (o :: rest) a w :=
  w_rowFA M R hF t x ho hx hw ht [.int .u8 (I8 m.k), .int .i64 m.e, .int .i64 m.a, .int .i64 m.o] [.int .i64 m.bi, .int .i64 m.be, m.ov] ([.int .i64 m.p] ++ (bs m.r ++ ([.int .i64 m.v, .int .i64 m.i] ++ (bs m.lf ++ (bs m.rt ++ [m.pv]))))) rfl rfl hn h
end
/-- A whole element of a slice that is seen now. -/
theorem w_seeNA {α : Type} {P : Program} {ops : Array Oper} {rest : List Oper} {o : Oper} {a : Act} {w : World} {Q : Exit → Act → World → Prop} {size : Nat} {f : α → List Value} {l : List α} {g so n cap : Nat} (S : SeesL w size f (.slice (some ⟨g, so, none⟩) n cap) l) {k : Nat} {x : α} (hk : l[k]? = some x) (t : TypeId) (op : Operand) (ho : o.op = .load t op) {off : Nat} (hx : a.eval op = .pointer (some ⟨g, off, none⟩)) (hw : Region.wanted o (yielded ops a.tmps) = true)
    (ht : rowT P t = true) (hoff : off = so + k * size) (hn : (P.info? t).map (·.size) = some (f x).length) (h : wpList P ops Q rest (a.put o.dst (.agg (f x).toArray)) w) : wpList P ops Q (o :: rest) a w :=
  wpW hw fun _ hK => by
    subst hoff
    unfold rowT at ht
    cases hu : P.underlying t with
    | none => simp [hu] at ht
    | some d =>
      simp only [hu] at ht
      refine wp_load_mid t op ho g _ hx (f x) d ?_ hu ht hn (hK _ _ h)
      intro j val hv
      rw [Nat.add_assoc]
      exact S.cell hk hv
/-- An element of a slice that came in, beside pieces that are turned. -/
theorem SeesL.nowF {α : Type} {size : Nat} {f : α → List Value} {v : Value} {l : List α} {F : List Nat} {w0 w : World} {L : List Chunk} (M : Mem F w0 w L) (S : SeesL w0 size f v l) (hF : ∀ k, v.ownBlock = some k → k ∉ F) : SeesL w size f v l := S.kept M.kept hF
end TL
end Go
namespace Go.Proofs.YtidadhbaomieiaaGreat
open Go.RowKit Go.TL
set_option maxRecDepth 100000 in
set_option maxHeartbeats 8000000 in
theorem putBatch_c (L : Lm) (ov pv : Value) (gm go : Nat) (v : Value) (l : List UInt8) (w : World) (_hm : (L.ms ov pv).fit) (hbe : L.be ≤ 9223372036854775807) (hl : l.length ≤ 900000) (ho : (outC go v l).ok w)
    (R : (Chunk.row gm (msgC (L.ms ov pv))).ok w) (n0 : gm ∉ (outC go v l).fp) (S : SeesL w 3 opV ov L.ops) (h1 : L.ops.length ≤ 1000) (h2 : ∀ x ∈ L.ops, x.2.1.length ≤ 100000000 ∧ x.2.2.length ≤ 100000000) :
    Calls Tryz.prog 133 #[.pointer (some ⟨go, 0, none⟩), .pointer (some ⟨gm, 0, none⟩)] w fun e w' => e = .returned (.bool (Fld.bat.ok L)) ∧ ∃ v', Upd w (outC go v l) w' (outC go v' (l ++ Fld.bat.put L)) := by
  have M := Mem.start1 ho
  have Y := fun w (S : SeesL w 3 opV ov L.ops) => bBytes_c L.bi L.be hbe L.ops ov w S h1 h2
  have hA := bytesB_len (i := L.bi) hbe L.ops
  simp only [Fld.ok, Fld.put]
  obtain ⟨⟨s, e⟩, eA⟩ : ∃ A, A = bytesB L.bi L.be L.ops := ⟨_, rfl⟩
  rw [← eA] at Y hA ⊢
  simp only at Y hA ⊢
  clear eA
  replace Y := Lib.hid Y
  go_enter Tryz.func133, Tryz.ntmps133
  by_cases he : e = 0
  · subst he
    go_wp2_with ((first | ((with_reducible refine tLoad ?_); go_must (refine w_at _ _ rfl (by exact ev_tmp rfl) ?_; intro hx; (first | refine w_rowFBt M R n0 _ _ rfl hx rfl (by decide +kernel) (by kernel_rfl) ?_); clear hx)) | (go_at_call 168; go_must (refine (Y.out _ S).mono ?_; rintro e w1 ⟨rfl, hb⟩; replace M := M.call hb; clear hb)) | (go_at_call 80; go_must (refine (Out_Text_c _ _ l s _ (by omega) (by omega) (M.ok 0 _ rfl)).mono ?_; rintro r w2 ⟨rfl, v1, U⟩; replace M := M.upd 0 rfl U; clear U; simp only [setC] at M)) | ((with_reducible refine tGuard ?_); (with_reducible refine w_stripE ?_ ?_); (focus (refine ⟨_, rfl, ?_⟩; first | (with_reducible rfl) | exact decide_eq_false (by omega) | exact decide_eq_true (by omega)))) | ((with_reducible refine tGuard ?_); first | ((with_reducible refine w_skip1 ?_ ?_); (focus (refine ⟨_, rfl, ?_⟩; first | (with_reducible rfl) | exact decide_eq_false (by omega) | exact decide_eq_true (by omega)))) | ((with_reducible refine w_skip0 ?_ ?_); (focus (refine ⟨_, rfl, ?_⟩; first | (with_reducible rfl) | exact decide_eq_false (by omega) | exact decide_eq_true (by omega))))) | ((with_reducible refine tGuard ?_); refine gdS ?_) | fail | ((with_reducible refine tLoad ?_); go_must (refine ldS ?_)) | ((with_reducible refine tStore ?_); go_must (refine stS ?_; clear M; intro w1 M; (try simp only [setC] at M))) | ((with_reducible refine tBox _ ?_); (refine bxA M ?_; clear M; intro g w1 M))) <;> (try conv => arg 5; simp only [Act.put, List.setIfInBounds_toArray, setC]))
    go_ret
    exact ⟨by simp; omega, _, M.upd1 0 rfl⟩
  · have hz : ((e : Int) == 0) = false := by simp; exact he
    have hz2 : (e == 0) = false := by simp; exact he
    clear he
    go_wp2_with ((first | ((with_reducible refine tLoad ?_); go_must (refine w_at _ _ rfl (by exact ev_tmp rfl) ?_; intro hx; (first | refine w_rowFBt M R n0 _ _ rfl hx rfl (by decide +kernel) (by kernel_rfl) ?_); clear hx)) | (go_at_call 168; go_must (refine (Y.out _ S).mono ?_; rintro e w1 ⟨rfl, hb⟩; replace M := M.call hb; clear hb)) | (go_at_call 80; go_must (refine (Out_Text_c _ _ l s _ (by omega) (by omega) (M.ok 0 _ rfl)).mono ?_; rintro r w2 ⟨rfl, v1, U⟩; replace M := M.upd 0 rfl U; clear U; simp only [setC] at M)) | ((with_reducible refine tGuard ?_); (with_reducible refine w_stripE ?_ ?_); (focus (refine ⟨_, rfl, ?_⟩; first | (with_reducible rfl) | exact decide_eq_false (by omega) | exact decide_eq_true (by omega)))) | ((with_reducible refine tGuard ?_); first | ((with_reducible refine w_skip1 ?_ ?_); (focus (refine ⟨_, rfl, ?_⟩; first | (with_reducible rfl) | exact decide_eq_false (by omega) | exact decide_eq_true (by omega)))) | ((with_reducible refine w_skip0 ?_ ?_); (focus (refine ⟨_, rfl, ?_⟩; first | (with_reducible rfl) | exact decide_eq_false (by omega) | exact decide_eq_true (by omega))))) | ((with_reducible refine tGuard ?_); refine gdS ?_) | fail | ((with_reducible refine tLoad ?_); go_must (refine ldS ?_)) | ((with_reducible refine tStore ?_); go_must (refine stS ?_; clear M; intro w1 M; (try simp only [setC] at M))) | ((with_reducible refine tBox _ ?_); (refine bxA M ?_; clear M; intro g w1 M))) <;> (try conv => arg 5; simp only [Act.put, List.setIfInBounds_toArray, setC]))
    go_ret
    exact ⟨by rw [hz2]; rfl, _, M.upd1 0 rfl⟩
set_option maxRecDepth 100000 in
set_option maxHeartbeats 8000000 in
theorem putPairs_c (L : Lm) (ov pv : Value) (gm go : Nat) (v : Value) (l : List UInt8) (w : World) (hm : (L.ms ov pv).fit) (hl : l.length ≤ 700000) (ho : (outC go v l).ok w)
    (R : (Chunk.row gm (msgC (L.ms ov pv))).ok w) (n0 : gm ∉ (outC go v l).fp) (S : SeesL w 2 prV pv L.prs) (nS : ∀ k, pv.ownBlock = some k → k ∉ (outC go v l).fp) (h1 : L.prs.length ≤ 1000) (h2 : ∀ x ∈ L.prs, x.1.length ≤ 100000 ∧ x.2.length ≤ 100000) (h3 : (L.prs.flatMap prBm).length ≤ 100000) :
    Calls Tryz.prog 135 #[.pointer (some ⟨go, 0, none⟩), .pointer (some ⟨gm, 0, none⟩)] w fun e w' => e = .returned (.bool (Fld.prs.ok L)) ∧ ∃ v', Upd w (outC go v l) w' (outC go v' (l ++ Fld.prs.put L)) := by
  have M := Mem.start1 ho
  simp only [Fld.ok, Fld.put]
  have HQ := msgC_at hm .pv
  obtain ⟨p, cap, rfl, hc⟩ := S.form
  obtain ⟨d, ed⟩ : ∃ d, d = L.prs := ⟨_, rfl⟩
  rw [← ed] at S h1 h2 h3 hc ⊢
  have HQ' : Nf.pv.get (L.ms ov (.slice p L.prs.length cap)) = .slice p d.length cap := by rw [ed]; rfl
  rw [HQ'] at HQ
  have R0 := R
  clear R HQ'
  obtain ⟨cs, ecs⟩ : ∃ cs, cs = msgC (L.ms ov (.slice p L.prs.length cap)) := ⟨_, rfl⟩
  rw [← ed] at nS
  rw [← ecs] at R0 HQ
  clear ecs ed hm
  replace HQ := Lib.hid HQ
  have hnl := numL_length_le d.length (by omega)
  have e1 := I64_nat d.length (by omega)
  go_enter Tryz.func135, Tryz.ntmps135
  go_wp2_with ((first | ((with_reducible refine tLoad ?_); go_must (refine w_at _ _ rfl (by exact ev_tmp rfl) ?_; intro hx; (first | refine w_rowF M R0 n0 _ _ rfl hx rfl (by decide +kernel) HQ.out ?_); clear hx)) | (go_at_call 113; go_must (refine (Num_c _ _ l d.length (d.length : Int) rfl _ (by omega) (by omega) (M.ok 0 _ rfl)).mono ?_; rintro r w2 ⟨rfl, v1, U⟩; replace M := M.upd 0 rfl U; clear U; simp only [setC] at M)) | ((with_reducible refine tGuard ?_); refine gdS ?_) | fail | ((with_reducible refine tLoad ?_); go_must (refine ldS ?_)) | ((with_reducible refine tStore ?_); go_must (refine stS ?_; clear M; intro w1 M; (try simp only [setC] at M))) | ((with_reducible refine tBox _ ?_); (refine bxA M ?_; clear M; intro g w1 M))) <;> (try conv => arg 5; simp only [Act.put, List.setIfInBounds_toArray, setC]))
  have HB : ∀ (k : Nat) (x : List UInt8 × List UInt8), d[k]? = some x → (decide (d.length ≤ 48) && (d.take (k + 1)).all okP) = ((decide (d.length ≤ 48) && (d.take k).all okP) && okP x) := fun k x hx => by
    obtain ⟨hk, rfl⟩ := List.getElem?_eq_some_iff.1 hx
    rw [List.take_succ_eq_append_getElem hk, List.all_append, List.all_cons, List.all_nil, Bool.and_true, Bool.and_assoc]
  have HT : ∀ (k : Nat) (x : List UInt8 × List UInt8), d[k]? = some x → (d.take (k + 1)).flatMap prBm = (d.take k).flatMap prBm ++ (textL x.1 ++ textL x.2) := fun k x hx => by
    obtain ⟨hk, rfl⟩ := List.getElem?_eq_some_iff.1 hx
    rw [List.take_succ_eq_append_getElem hk, List.flatMap_append, List.flatMap_cons, List.flatMap_nil, List.append_nil]; rfl
  have HL : ∀ k, ((d.take k).flatMap prBm).length ≤ 100000 := fun k => by
    have : (d.take k).flatMap prBm ++ (d.drop k).flatMap prBm = d.flatMap prBm := by rw [← List.flatMap_append, List.take_append_drop]
    have := congrArg List.length this
    rw [List.length_append] at this
    omega
  have hfp : ∀ (v v' : Value) (l l' : List UInt8), True := fun _ _ _ _ => trivial
  clear hfp
  replace HB := Lib.hid HB
  replace HT := Lib.hid HT
  replace HL := Lib.hid HL
  clear h3
  go_loopw [5, 27] (fun bv iv wr => ∃ (k : Nat) (v1 : Value), k ≤ d.length ∧ iv = .int .i64 k ∧ bv = .bool (decide (d.length ≤ 48) && (d.take k).all okP) ∧ Mem (outC go v l).fp w wr [outC go v1 (l ++ (numL d.length ++ (d.take k).flatMap prBm))]) (fun _ iv _ => d.length - (intOf iv).toNat)
  case atStart => exact ⟨0, _, by omega, rfl, by simp; omega, by simpa using M⟩
  case round =>
    clear M
    obtain ⟨k, v1, hk, rfl, rfl, M⟩ := hrel
    have hB := HL.out k
    by_cases hlt : k < d.length
    · have S' := S.nowF M nS
      obtain ⟨g, so, rfl⟩ := S.addr (by omega)
      obtain ⟨⟨x, y⟩, hx⟩ : ∃ x, d[k]? = some x := ⟨_, List.getElem?_eq_getElem hlt⟩
      obtain ⟨hx1, hy1⟩ := h2 (x, y) (List.mem_of_getElem? hx)
      simp only at hx1 hy1
      have HB1 := HB.out k _ hx
      have HT1 := HT.out k _ hx
      simp only at HT1
      obtain ⟨b, eb⟩ : ∃ b, b = (decide (d.length ≤ 48) && (d.take k).all okP) := ⟨_, rfl⟩
      rw [← eb] at HB1 ⊢
      obtain ⟨z, ez⟩ : ∃ z, z = l ++ (numL d.length ++ (d.take k).flatMap prBm) := ⟨_, rfl⟩
      have hz : z.length ≤ 800010 := by rw [ez]; simp only [List.length_append]; omega
      have EZ : l ++ (numL d.length ++ (d.take (k + 1)).flatMap prBm) = z ++ textL x ++ textL y := by rw [HT1, ez]; simp only [List.append_assoc]
      rw [← ez] at M
      have hta : (textL x).length ≤ 100010 := by unfold textL; have := numL_length_le x.length (by omega); simp; omega
      replace EZ := Lib.hid EZ
      replace HB1 := Lib.hid HB1
      have HX := Lib.hid hx
      have hkt : (k : Int) < (d.length : Int) := by omega
      have hkt2 : decide ((k : Int) < (d.length : Int)) = true := decide_eq_true hkt
      clear ez eb HT1 hx hB
      cases b with
      | false =>
        go_wp2_with ((first | ((with_reducible show wpList _ _ _ (Oper.mk _ (Op.load 120 _) _ _ _ _ :: _) _ _); go_must (refine w_at _ _ rfl (by exact ev_tmp rfl) ?_; intro hx; refine w_seeNA S' HX.out _ _ rfl hx rfl (by decide +kernel) (by first | (with_reducible rfl) | omega) (by kernel_rfl) ?_; clear hx; (try conv => arg 5; simp only [Act.put, List.setIfInBounds_toArray, setC, prV_eq]))) | ((with_reducible refine tAlloc (some 7) 120 ?_); refine w_alloc M _ rfl rfl (.agg #[.string (mkS []), .string (mkS [])]) (prV ([], [])) (by kernel_rfl) rfl ?_; clear M; intro gx w1 M) | (go_at_call 80; go_must (refine (Out_Text_c _ _ _ _ _ (by omega) (by first | omega | (simp; omega)) (M.ok 1 _ rfl)).mono ?_; rintro e w2 ⟨rfl, v1, U⟩; replace M := M.upd 1 rfl U; clear U; simp only [setC] at M)) | ((with_reducible refine tGuard ?_); (with_reducible refine w_stripE ?_ ?_); (focus (refine ⟨_, rfl, ?_⟩; first | (with_reducible rfl) | exact decide_eq_false (by omega) | exact decide_eq_true (by omega)))) | ((with_reducible refine tGuard ?_); first | ((with_reducible refine w_skip1 ?_ ?_); (focus (refine ⟨_, rfl, ?_⟩; first | (with_reducible rfl) | exact decide_eq_false (by omega) | exact decide_eq_true (by omega)))) | ((with_reducible refine w_skip0 ?_ ?_); (focus (refine ⟨_, rfl, ?_⟩; first | (with_reducible rfl) | exact decide_eq_false (by omega) | exact decide_eq_true (by omega))))) | ((with_reducible refine tGuard ?_); refine gdS ?_) | fail | ((with_reducible refine tLoad ?_); go_must (refine ldS ?_)) | ((with_reducible refine tStore ?_); go_must (refine stS ?_; clear M; intro w1 M; (try simp only [setC] at M))) | ((with_reducible refine tBox _ ?_); (refine bxA M ?_; clear M; intro g w1 M))) <;> (try conv => arg 5; simp only [Act.put, List.setIfInBounds_toArray, setC]))
        go_roundw
        case rel => exact ⟨k + 1, _, by omega, by go_num, by rw [HB1.out]; rfl, by rw [EZ.out]; exact M.tail⟩
        case measure => simp [intOf]; omega
      | true =>
        by_cases hx33 : x.length ≤ 33
        · have hok : okP (x, y) = decide (y.length ≤ 32) := by unfold okP; rw [decide_eq_true hx33]; rfl
          replace hok := Lib.hid hok
          go_wp2_with ((first | ((with_reducible show wpList _ _ _ (Oper.mk _ (Op.load 120 _) _ _ _ _ :: _) _ _); go_must (refine w_at _ _ rfl (by exact ev_tmp rfl) ?_; intro hx; refine w_seeNA S' HX.out _ _ rfl hx rfl (by decide +kernel) (by first | (with_reducible rfl) | omega) (by kernel_rfl) ?_; clear hx; (try conv => arg 5; simp only [Act.put, List.setIfInBounds_toArray, setC, prV_eq]))) | ((with_reducible refine tAlloc (some 7) 120 ?_); refine w_alloc M _ rfl rfl (.agg #[.string (mkS []), .string (mkS [])]) (prV ([], [])) (by kernel_rfl) rfl ?_; clear M; intro gx w1 M) | (go_at_call 80; go_must (refine (Out_Text_c _ _ _ _ _ (by omega) (by first | omega | (simp; omega)) (M.ok 1 _ rfl)).mono ?_; rintro e w2 ⟨rfl, v1, U⟩; replace M := M.upd 1 rfl U; clear U; simp only [setC] at M)) | ((with_reducible refine tGuard ?_); (with_reducible refine w_stripE ?_ ?_); (focus (refine ⟨_, rfl, ?_⟩; first | (with_reducible rfl) | exact decide_eq_false (by omega) | exact decide_eq_true (by omega)))) | ((with_reducible refine tGuard ?_); first | ((with_reducible refine w_skip1 ?_ ?_); (focus (refine ⟨_, rfl, ?_⟩; first | (with_reducible rfl) | exact decide_eq_false (by omega) | exact decide_eq_true (by omega)))) | ((with_reducible refine w_skip0 ?_ ?_); (focus (refine ⟨_, rfl, ?_⟩; first | (with_reducible rfl) | exact decide_eq_false (by omega) | exact decide_eq_true (by omega))))) | ((with_reducible refine tGuard ?_); refine gdS ?_) | fail | ((with_reducible refine tLoad ?_); go_must (refine ldS ?_)) | ((with_reducible refine tStore ?_); go_must (refine stS ?_; clear M; intro w1 M; (try simp only [setC] at M))) | ((with_reducible refine tBox _ ?_); (refine bxA M ?_; clear M; intro g w1 M))) <;> (try conv => arg 5; simp only [Act.put, List.setIfInBounds_toArray, setC]))
          go_roundw
          case rel => exact ⟨k + 1, _, by omega, by go_num, by rw [HB1.out, hok.out, Bool.true_and, decide_eq_true (show (x.length : Int) ≤ 33 by omega), Bool.true_and]; simp; omega, by rw [EZ.out]; exact M.tail⟩
          case measure => simp [intOf]; omega
        · have hok : okP (x, y) = false := by unfold okP; rw [decide_eq_false hx33]; rfl
          replace hok := Lib.hid hok
          go_wp2_with ((first | ((with_reducible show wpList _ _ _ (Oper.mk _ (Op.load 120 _) _ _ _ _ :: _) _ _); go_must (refine w_at _ _ rfl (by exact ev_tmp rfl) ?_; intro hx; refine w_seeNA S' HX.out _ _ rfl hx rfl (by decide +kernel) (by first | (with_reducible rfl) | omega) (by kernel_rfl) ?_; clear hx; (try conv => arg 5; simp only [Act.put, List.setIfInBounds_toArray, setC, prV_eq]))) | ((with_reducible refine tAlloc (some 7) 120 ?_); refine w_alloc M _ rfl rfl (.agg #[.string (mkS []), .string (mkS [])]) (prV ([], [])) (by kernel_rfl) rfl ?_; clear M; intro gx w1 M) | (go_at_call 80; go_must (refine (Out_Text_c _ _ _ _ _ (by omega) (by first | omega | (simp; omega)) (M.ok 1 _ rfl)).mono ?_; rintro e w2 ⟨rfl, v1, U⟩; replace M := M.upd 1 rfl U; clear U; simp only [setC] at M)) | ((with_reducible refine tGuard ?_); (with_reducible refine w_stripE ?_ ?_); (focus (refine ⟨_, rfl, ?_⟩; first | (with_reducible rfl) | exact decide_eq_false (by omega) | exact decide_eq_true (by omega)))) | ((with_reducible refine tGuard ?_); first | ((with_reducible refine w_skip1 ?_ ?_); (focus (refine ⟨_, rfl, ?_⟩; first | (with_reducible rfl) | exact decide_eq_false (by omega) | exact decide_eq_true (by omega)))) | ((with_reducible refine w_skip0 ?_ ?_); (focus (refine ⟨_, rfl, ?_⟩; first | (with_reducible rfl) | exact decide_eq_false (by omega) | exact decide_eq_true (by omega))))) | ((with_reducible refine tGuard ?_); refine gdS ?_) | fail | ((with_reducible refine tLoad ?_); go_must (refine ldS ?_)) | ((with_reducible refine tStore ?_); go_must (refine stS ?_; clear M; intro w1 M; (try simp only [setC] at M))) | ((with_reducible refine tBox _ ?_); (refine bxA M ?_; clear M; intro g w1 M))) <;> (try conv => arg 5; simp only [Act.put, List.setIfInBounds_toArray, setC]))
          go_roundw
          case rel => exact ⟨k + 1, _, by omega, by go_num, by rw [HB1.out, hok.out]; rfl, by rw [EZ.out]; exact M.tail⟩
          case measure => simp [intOf]; omega
    · obtain rfl : k = d.length := by omega
      rw [List.take_length] at M ⊢
      go_wp2_with ((first | ((with_reducible refine tGuard ?_); refine gdS ?_) | fail | ((with_reducible refine tLoad ?_); go_must (refine ldS ?_)) | ((with_reducible refine tStore ?_); go_must (refine stS ?_; clear M; intro w1 M; (try simp only [setC] at M))) | ((with_reducible refine tBox _ ?_); (refine bxA M ?_; clear M; intro g w1 M))) <;> (try conv => arg 5; simp only [Act.put, List.setIfInBounds_toArray, setC]))
      go_ret
      exact ⟨rfl, _, M.upd1 0 rfl⟩
end Go.Proofs.YtidadhbaomieiaaGreat

/- A slice of operations, as a type. No conditions. -/
namespace Go.Proofs.YtidadhbaomieiaaGreat
open Go.RowKit Go.TL
set_option maxRecDepth 1000000 in
theorem opT : SliceT Tryz.prog 61 181 3 40 := ⟨Tryz.underlying61, ⟨_, _, rfl, rfl, rfl, rfl, rfl⟩, by omega⟩
end Go.Proofs.YtidadhbaomieiaaGreat

/- The walk of batch.Read. Conditions: lengths. -/
namespace Go
namespace TL
open Go.RowKit
/-- What a batch's reader hands on. -/
def batR (i e r : Nat) (z : Value) : Value := .tuple #[.agg #[.int .i64 i, .int .i64 e, z], .int .i64 r]
end TL
end Go
namespace Go.Proofs.YtidadhbaomieiaaGreat
open Go.RowKit Go.TL
set_option maxRecDepth 100000 in
set_option maxHeartbeats 16000000 in
theorem bRead_c (s : List UInt8) (w : World) (hs : s.length ≤ 1000000) :
    Calls Tryz.prog 169 #[.string (mkS s)] w (Gives 3 opV (readB s).1.2.2 (batR (readB s).1.1 (readB s).1.2.1 (readB s).2) w) := by
  have M := (Mem.start [] w).nil 3
  have hst : (inStart s).fit := by unfold inStart InS.fit; simp; omega
  have RF := @readB_fin s
  have RB := @readB_bad s
  have RO := @readB_ok s
  obtain ⟨A, eA⟩ : ∃ A, A = readB s := ⟨_, rfl⟩
  rw [← eA] at RF RB RO ⊢
  clear eA
  have e3 : nums3 s = (((inStart s).most 4611686018427387904).1, ((inStart s).most 4611686018427387904).2.most 9223372036854775807 |>.1, (((inStart s).most 4611686018427387904).2.most 9223372036854775807).2.most 4) := rfl
  have T0 := fun g w h => Most_c g (inStart s) w h hst 4611686018427387904 4611686018427387904 rfl (by omega)
  have hf0 := InS.most_fit hst 4611686018427387904
  have hi0 := InS.most_le (inStart s) 4611686018427387904
  obtain ⟨⟨i, x0⟩, e0⟩ : ∃ R, R = (inStart s).most 4611686018427387904 := ⟨_, rfl⟩
  rw [← e0] at e3 T0 hf0 hi0
  simp only at e3 T0 hf0 hi0
  clear e0
  have T1 := fun g w h => Most_c g x0 w h hf0 9223372036854775807 9223372036854775807 rfl (by omega)
  have hf1 := InS.most_fit hf0 9223372036854775807
  have hi1 := InS.most_le x0 9223372036854775807
  obtain ⟨⟨e, x1⟩, e1⟩ : ∃ R, R = x0.most 9223372036854775807 := ⟨_, rfl⟩
  rw [← e1] at e3 T1 hf1 hi1
  simp only at e3 T1 hf1 hi1
  clear e1
  have T2 := fun g w h => Most_c g x1 w h hf1 4 4 rfl (by omega)
  have hf2 := InS.most_fit hf1 4
  have hi2 := InS.most_le x1 4
  obtain ⟨⟨n0, x2⟩, e2⟩ : ∃ R, R = x1.most 4 := ⟨_, rfl⟩
  rw [← e2] at e3 T2 hf2 hi2
  simp only at e3 T2 hf2 hi2
  clear e2
  replace RF := fun d x => @RF i e n0 x2 x d e3
  replace RB := fun d x r => @RB i e n0 x2 x d r e3
  replace RO := fun d x => @RO i e n0 x2 x d e3
  replace RF := Lib.hid RF
  replace RB := Lib.hid RB
  replace RO := Lib.hid RO
  replace T0 := Lib.hid T0
  replace T1 := Lib.hid T1
  replace T2 := Lib.hid T2
  clear e3
  go_enter Tryz.func169, Tryz.ntmps169
  go_wp2_with ((first | ((with_reducible refine tAlloc (some 2) 63 ?_); refine w_alloc M _ rfl rfl (.agg #[.int .i64 0, .int .i64 0, .slice none 0 0]) ([.int .i64 0, .int .i64 0, .slice none 0 0]) (by kernel_rfl) rfl ?_; clear M; intro gr w1 M) | (go_at_call 57; go_must (refine (packOf_c _ _).mono ?_; rintro e w1 ⟨gi, rfl, MP⟩; replace M := M.join MP; clear MP; simp only [List.cons_append, List.nil_append] at M)) | (go_at_call 58; go_must (first | ((first | (with_reducible refine (T0.out gi _ (M.ok 0 _ rfl)).mono ?_) | (with_reducible refine (T1.out gi _ (M.ok 0 _ rfl)).mono ?_)); rintro e w1 ⟨rfl, U⟩; replace M := M.upd 0 rfl U; clear U; simp only [List.set_cons_zero] at M) | ((with_reducible refine (T2.out gi _ (M.ok 1 _ rfl)).mono ?_); rintro e w1 ⟨rfl, U⟩; replace M := M.upd 1 rfl U; clear U; simp only [List.set_cons_zero, List.set_cons_succ] at M))) | ((with_reducible refine tAlloc (some 5) 63 ?_); refine w_alloc M _ rfl rfl (.agg #[.int .i64 0, .int .i64 0, .slice none 0 0]) ([.int .i64 0, .int .i64 0, .slice none 0 0]) (by kernel_rfl) rfl ?_; clear M; intro gb w1 M) | ((with_reducible refine tGuard ?_); refine gdS ?_) | fail | ((with_reducible refine tLoad ?_); go_must (refine ldS ?_)) | ((with_reducible refine tStore ?_); go_must (refine stS ?_; clear M; intro w1 M; (try simp only [setC] at M))) | ((with_reducible refine tBox _ ?_); (refine bxA M ?_; clear M; intro g w1 M))) <;> (try conv => arg 5; simp only [Act.put, List.setIfInBounds_toArray, setC]))
  clear T0 T1 T2
  go_loopw [6] (fun nv wr => ∃ (m : Nat) (d : List Opr) (x : InS) (q : Option Addr) (c : Nat), nv = .int .i64 m ∧ x.fit ∧ d.length + m ≤ 4 ∧ Hid (rdOps n0 x2 = (d ++ (rdOps m x).1, (rdOps m x).2) ∧ ∀ y ∈ d, y.2.1.length ≤ 33 ∧ y.2.2.length ≤ 32) ∧ Mem [] w wr [.row gb [.int .i64 i, .int .i64 e, .slice q d.length c], .row gi (inV x), .row gr [.int .i64 0, .int .i64 0, .slice none 0 0], .sl 3 (.slice q d.length c) d.length (d.flatMap opV)]) (fun nv _ => (intOf nv).toNat)
  case atStart => exact ⟨n0, [], x2, none, 0, rfl, hf2, by simp; omega, Lib.hid ⟨by simp, by simp⟩, M⟩
  case round =>
    clear M
    obtain ⟨m, d, x, q, c, rfl, hf, hdm, HR, M⟩ := hrel
    cases m with
    | zero =>
      have hR : rdOps n0 x2 = (d, x) := by simpa [rdO_zero] using HR.out.1
      have hm := HR.out.2
      have RA := RF.out d x hR
      have RC := RB.out d x
      have RD := RO.out d x hR
      replace RC := fun r => RC r hR
      clear hR
      by_cases hfin : x.fin = 0
      · have P := fun w S => bRight_c i e d (.slice q d.length c) w S (by omega) (fun y hy => by have := hm y hy; omega)
        replace RC := RC _ hfin rfl
        replace RD := RD hfin
        obtain ⟨pe, ep⟩ : ∃ R, R = rightB i e d := ⟨_, rfl⟩
        rw [← ep] at P RC RD
        replace RC := Lib.hid RC
        replace RD := Lib.hid RD
        replace P := Lib.hid P
        have E := fun w h => End_c gi x w h hf
        rw [hfin] at E
        replace E := Lib.hid E
        clear ep hfin RA
        by_cases hpe : pe = 0
        · subst hpe
          have e0 := RD.out rfl
          subst e0
          clear RC RD
          go_wp2_with ((first | (go_at_call 62; go_must (refine (E.out _ (M.ok 1 _ rfl)).mono ?_; rintro e w1 ⟨rfl, hb⟩; replace M := M.call hb; clear hb)) | (go_at_call 187; go_must (refine (P.out _ (SeesL.own M 3 rfl rfl opV_len)).mono ?_; rintro e w1 ⟨rfl, hb⟩; replace M := M.call hb; clear hb)) | ((with_reducible refine tGuard ?_); refine gdS ?_) | fail | ((with_reducible refine tLoad ?_); go_must (refine ldS ?_)) | ((with_reducible refine tStore ?_); go_must (refine stS ?_; clear M; intro w1 M; (try simp only [setC] at M))) | ((with_reducible refine tBox _ ?_); (refine bxA M ?_; clear M; intro g w1 M))) <;> (try conv => arg 5; simp only [Act.put, List.setIfInBounds_toArray, setC]))
          refine bodyPost_ret (results_row2 rfl _ _ gr 0 [.int .i64 i, .int .i64 e, .slice q d.length c] _ (.int .i64 ((0 : Nat) : Int)) rfl rfl (M.ok 2 _ rfl).2.1 Tryz.underlying63 rfl (by kernel_rfl)) rfl (Gives.at (r := batR i e 0) M 3 rfl)
        · have e0 := RC.out hpe
          subst e0
          clear RC RD
          have hz : ((pe : Int) == 0) = false := by simp; exact hpe
          have hz' : ((pe : Int) != 0) = true := by simp; exact hpe
          clear hpe
          go_wp2_with ((first | (go_at_call 62; go_must (refine (E.out _ (M.ok 1 _ rfl)).mono ?_; rintro e w1 ⟨rfl, hb⟩; replace M := M.call hb; clear hb)) | (go_at_call 187; go_must (refine (P.out _ (SeesL.own M 3 rfl rfl opV_len)).mono ?_; rintro e w1 ⟨rfl, hb⟩; replace M := M.call hb; clear hb)) | ((with_reducible refine tGuard ?_); refine gdS ?_) | fail | ((with_reducible refine tLoad ?_); go_must (refine ldS ?_)) | ((with_reducible refine tStore ?_); go_must (refine stS ?_; clear M; intro w1 M; (try simp only [setC] at M))) | ((with_reducible refine tBox _ ?_); (refine bxA M ?_; clear M; intro g w1 M))) <;> (try conv => arg 5; simp only [Act.put, List.setIfInBounds_toArray, setC]))
          refine bodyPost_ret (results_row2 rfl _ _ gr 0 [.int .i64 0, .int .i64 0, .slice none 0 0] _ (.int .i64 ((pe : Nat) : Int)) rfl rfl (M.ok 2 _ rfl).2.1 Tryz.underlying63 rfl (by kernel_rfl)) rfl (Gives.intro (r := batR 0 0 pe) (p := none) (cap := 0) (M.nil 3))
      · have e0 := RA hfin
        have E := fun w h => End_c gi x w h hf
        obtain ⟨fe, efe⟩ : ∃ f, f = x.fin := ⟨_, rfl⟩
        rw [← efe] at e0 E hfin
        subst e0
        replace E := Lib.hid E
        clear RA RC RD efe
        have hz : ((fe : Int) == 0) = false := by simp; exact hfin
        have hz' : ((fe : Int) != 0) = true := by simp; exact hfin
        clear hfin
        go_wp2_with ((first | (go_at_call 62; go_must (refine (E.out _ (M.ok 1 _ rfl)).mono ?_; rintro e w1 ⟨rfl, hb⟩; replace M := M.call hb; clear hb)) | ((with_reducible refine tGuard ?_); refine gdS ?_) | fail | ((with_reducible refine tLoad ?_); go_must (refine ldS ?_)) | ((with_reducible refine tStore ?_); go_must (refine stS ?_; clear M; intro w1 M; (try simp only [setC] at M))) | ((with_reducible refine tBox _ ?_); (refine bxA M ?_; clear M; intro g w1 M))) <;> (try conv => arg 5; simp only [Act.put, List.setIfInBounds_toArray, setC]))
        refine bodyPost_ret (results_row2 rfl _ _ gr 0 [.int .i64 0, .int .i64 0, .slice none 0 0] _ (.int .i64 ((fe : Nat) : Int)) rfl rfl (M.ok 2 _ rfl).2.1 Tryz.underlying63 rfl (by kernel_rfl)) rfl (Gives.intro (r := batR 0 0 fe) (p := none) (cap := 0) (M.nil 3))
    | succ m =>
      obtain ⟨ki, hki⟩ := InS.byte_q x
      have hf1 := InS.byte_fit hf
      have B := fun g w h => In_Byte_c g x w h hf
      have GE := @rdO_err m ki.toNat x
      have GK := @rdO_kind m ki x
      have GP := fun x1 (h : x.byte = (ki.toNat, x1)) (h1 : ki = 1) => @rdO_put m x x1 (by rw [h, h1])
      have GD := fun x1 (h : x.byte = (ki.toNat, x1)) (h1 : ki = 2) => @rdO_del m x x1 (by rw [h, h1])
      obtain ⟨⟨nb, x3⟩, e1⟩ : ∃ R, R = x.byte := ⟨_, rfl⟩
      rw [← e1] at hki hf1 B GE GK GP GD
      simp only at hki hf1 B
      subst hki
      simp only [← I8_eq] at B
      replace GE := GE rfl
      replace GK := GK rfl
      replace GP := GP _ rfl
      replace GD := GD _ rfl
      replace B := Lib.hid B
      clear e1
      by_cases he : x3.err = 0
      · have HE := Lib.hid he
        replace GK := GK he
        clear he GE
        by_cases hq : ki = 1 ∨ ki = 2
        · clear GK
          have hf4 := InS.text_fit hf1 33
          have hp := InS.text_len x3 33
          have T1 := fun g w h => In_Text_c g x3 w h hf1 33 33 rfl (by omega)
          replace GP := fun h => GP h HE.out
          replace GD := fun h => GD h HE.out
          obtain ⟨⟨pa, x4⟩, e1⟩ : ∃ R, R = x3.text 33 := ⟨_, rfl⟩
          rw [← e1] at hf4 hp T1 GP GD
          simp only at hf4 hp T1 GP GD
          replace T1 := Lib.hid T1
          clear e1
          by_cases h1 : ki = 1
          · replace GP := GP h1
            clear GD hq
            subst h1
            have hf5 := InS.text_fit hf4 32
            have hv := InS.text_len x4 32
            have T2 := fun g w h => In_Text_c g x4 w h hf4 32 32 rfl (by omega)
            obtain ⟨⟨va, x5⟩, e2⟩ : ∃ R, R = x4.text 32 := ⟨_, rfl⟩
            rw [← e2] at hf5 hv T2 GP
            simp only at hf5 hv T2 GP
            replace T2 := Lib.hid T2
            replace GP := Lib.hid GP
            clear e2
            go_wp2_with ((first | ((with_reducible refine tGuard ?_); (with_reducible refine w_stripE ?_ ?_); (focus (refine ⟨_, rfl, ?_⟩; first | (with_reducible rfl) | exact decide_eq_false (by omega) | exact decide_eq_true (by omega)))) | ((with_reducible refine tGuard ?_); first | ((with_reducible refine w_skip1 ?_ ?_); (focus (refine ⟨_, rfl, ?_⟩; first | (with_reducible rfl) | exact decide_eq_false (by omega) | exact decide_eq_true (by omega)))) | ((with_reducible refine w_skip0 ?_ ?_); (focus (refine ⟨_, rfl, ?_⟩; first | (with_reducible rfl) | exact decide_eq_false (by omega) | exact decide_eq_true (by omega))))) | (go_at_call 61; go_must (refine (B.out _ _ (M.ok 1 _ rfl)).mono ?_; rintro e w1 ⟨rfl, U⟩; replace M := M.upd 1 rfl U; clear U; simp only [List.set_cons_zero, List.set_cons_succ] at M)) | (go_at_call 60; go_must ((first | (with_reducible refine (T1.out _ _ (M.ok 2 _ rfl)).mono ?_) | (with_reducible refine (T2.out _ _ (M.ok 2 _ rfl)).mono ?_)); rintro e w1 ⟨rfl, U⟩; replace M := M.upd 2 rfl U; clear U; simp only [List.set_cons_zero, List.set_cons_succ] at M)) | ((with_reducible refine tAlloc (some 7) 181 ?_); refine w_alloc M _ rfl rfl (.agg #[.int .u8 0, .string (mkS []), .string (mkS [])]) (opV (0, [], [])) (by kernel_rfl) rfl ?_; clear M; intro gp w1 M) | (go_at_call 92; go_must (refine (Fault_ok _ _ _ (M.ok 2 _ rfl) HE.out).mono ?_; rintro e w1 ⟨rfl, rfl⟩)) | ((with_reducible show wpList _ _ _ (Oper.mk _ (Op.buildSlice _ 1 _) _ _ _ _ :: _) _ _); go_must (refine w_buildSlice1 M opT (by decide) _ rfl rfl (by first | exact ev_tmp rfl | exact ev_const) _ rfl rfl ?_; clear M; intro g w1 M)) | ((with_reducible refine tApp ?_); go_must (refine w_append_new M 4 opT _ _ rfl rfl rfl rfl rfl rfl (by first | decide | (intro q hq; simp at hq; subst hq; rfl) | (intro q hq; simp at hq; rcases hq with rfl | rfl; rfl; rfl) | (intro q hq; simp at hq; rcases hq with rfl | rfl | rfl <;> rfl)) (by decide) (by first | (simp only [maxLen]; omega) | (simp [maxLen]; omega)) (by first | omega | (simp; omega)) ?_; clear M; intro q cap w1 M; (try simp only [setC] at M))) | ((with_reducible refine tGuard ?_); refine gdS ?_) | fail | ((with_reducible refine tLoad ?_); go_must (refine ldS ?_)) | ((with_reducible refine tStore ?_); go_must (refine stS ?_; clear M; intro w1 M; (try simp only [setC] at M))) | ((with_reducible refine tBox _ ?_); (refine bxA M ?_; clear M; intro g w1 M))) <;> (try conv => arg 5; simp only [Act.put, List.setIfInBounds_toArray, setC]))
            go_roundw
            case rel => exact ⟨m, d ++ [(1, pa, va)], x5, q, cap, by go_num, hf5, by simp; omega, Lib.hid ⟨by rw [HR.out.1, GP.out]; simp, fun y hy => by
              rcases List.mem_append.1 hy with hy | hy
              · exact HR.out.2 y hy
              · obtain rfl : y = (1, pa, va) := by simpa using hy
                exact ⟨hp, hv⟩⟩, by simpa [opV] using M.tail⟩
            case measure => simp [intOf]
          · have h2 : ki = 2 := hq.resolve_left h1
            replace GD := GD h2
            clear GP hq h1
            subst h2
            replace GD := Lib.hid GD
            go_wp2_with ((first | ((with_reducible refine tGuard ?_); (with_reducible refine w_stripE ?_ ?_); (focus (refine ⟨_, rfl, ?_⟩; first | (with_reducible rfl) | exact decide_eq_false (by omega) | exact decide_eq_true (by omega)))) | ((with_reducible refine tGuard ?_); first | ((with_reducible refine w_skip1 ?_ ?_); (focus (refine ⟨_, rfl, ?_⟩; first | (with_reducible rfl) | exact decide_eq_false (by omega) | exact decide_eq_true (by omega)))) | ((with_reducible refine w_skip0 ?_ ?_); (focus (refine ⟨_, rfl, ?_⟩; first | (with_reducible rfl) | exact decide_eq_false (by omega) | exact decide_eq_true (by omega))))) | (go_at_call 61; go_must (refine (B.out _ _ (M.ok 1 _ rfl)).mono ?_; rintro e w1 ⟨rfl, U⟩; replace M := M.upd 1 rfl U; clear U; simp only [List.set_cons_zero, List.set_cons_succ] at M)) | (go_at_call 60; go_must (refine (T1.out _ _ (M.ok 2 _ rfl)).mono ?_; rintro e w1 ⟨rfl, U⟩; replace M := M.upd 2 rfl U; clear U; simp only [List.set_cons_zero, List.set_cons_succ] at M)) | ((with_reducible refine tAlloc (some 7) 181 ?_); refine w_alloc M _ rfl rfl (.agg #[.int .u8 0, .string (mkS []), .string (mkS [])]) (opV (0, [], [])) (by kernel_rfl) rfl ?_; clear M; intro gp w1 M) | (go_at_call 92; go_must (refine (Fault_ok _ _ _ (M.ok 2 _ rfl) HE.out).mono ?_; rintro e w1 ⟨rfl, rfl⟩)) | ((with_reducible show wpList _ _ _ (Oper.mk _ (Op.buildSlice _ 1 _) _ _ _ _ :: _) _ _); go_must (refine w_buildSlice1 M opT (by decide) _ rfl rfl (by first | exact ev_tmp rfl | exact ev_const) _ rfl rfl ?_; clear M; intro g w1 M)) | ((with_reducible refine tApp ?_); go_must (refine w_append_new M 4 opT _ _ rfl rfl rfl rfl rfl rfl (by first | decide | (intro q hq; simp at hq; subst hq; rfl) | (intro q hq; simp at hq; rcases hq with rfl | rfl; rfl; rfl) | (intro q hq; simp at hq; rcases hq with rfl | rfl | rfl <;> rfl)) (by decide) (by first | (simp only [maxLen]; omega) | (simp [maxLen]; omega)) (by first | omega | (simp; omega)) ?_; clear M; intro q cap w1 M; (try simp only [setC] at M))) | ((with_reducible refine tGuard ?_); refine gdS ?_) | fail | ((with_reducible refine tLoad ?_); go_must (refine ldS ?_)) | ((with_reducible refine tStore ?_); go_must (refine stS ?_; clear M; intro w1 M; (try simp only [setC] at M))) | ((with_reducible refine tBox _ ?_); (refine bxA M ?_; clear M; intro g w1 M))) <;> (try conv => arg 5; simp only [Act.put, List.setIfInBounds_toArray, setC]))
            go_roundw
            case rel => exact ⟨m, d ++ [(2, pa, [])], x4, q, cap, by go_num, hf4, by simp; omega, Lib.hid ⟨by rw [HR.out.1, GD.out]; simp, fun y hy => by
              rcases List.mem_append.1 hy with hy | hy
              · exact HR.out.2 y hy
              · obtain rfl : y = (2, pa, []) := by simpa using hy
                exact ⟨hp, by simp⟩⟩, by simpa [opV] using M.tail⟩
            case measure => simp [intOf]
        · replace GK := GK hq
          have hR : rdOps n0 x2 = (d, x3.bad 10) := by rw [HR.out.1, GK]; simp
          have e0 := RF.out _ _ hR (by rw [bad_fin _ (by decide)]; decide)
          rw [bad_fin _ (by decide)] at e0
          obtain ⟨h1, h1'⟩ := I8_ne (q := ki) (c := 1) (fun h => hq (.inl h))
          obtain ⟨h2, h2'⟩ := I8_ne (q := ki) (c := 2) (fun h => hq (.inr h))
          rw [show I8 1 = 1 from rfl] at h1 h1'
          rw [show I8 2 = 2 from rfl] at h2 h2'
          subst e0
          clear hq GK GP GD hR
          go_wp2_with ((first | ((with_reducible refine tGuard ?_); (with_reducible refine w_stripE ?_ ?_); (focus (refine ⟨_, rfl, ?_⟩; first | (with_reducible rfl) | exact decide_eq_false (by omega) | exact decide_eq_true (by omega)))) | ((with_reducible refine tGuard ?_); first | ((with_reducible refine w_skip1 ?_ ?_); (focus (refine ⟨_, rfl, ?_⟩; first | (with_reducible rfl) | exact decide_eq_false (by omega) | exact decide_eq_true (by omega)))) | ((with_reducible refine w_skip0 ?_ ?_); (focus (refine ⟨_, rfl, ?_⟩; first | (with_reducible rfl) | exact decide_eq_false (by omega) | exact decide_eq_true (by omega))))) | (go_at_call 61; go_must (refine (B.out _ _ (M.ok 1 _ rfl)).mono ?_; rintro e w1 ⟨rfl, U⟩; replace M := M.upd 1 rfl U; clear U; simp only [List.set_cons_zero, List.set_cons_succ] at M)) | ((with_reducible refine tAlloc (some 7) 181 ?_); refine w_alloc M _ rfl rfl (.agg #[.int .u8 0, .string (mkS []), .string (mkS [])]) (opV (0, [], [])) (by kernel_rfl) rfl ?_; clear M; intro gp w1 M) | (go_at_call 92; go_must (refine (Fault_ok _ _ _ (M.ok 2 _ rfl) HE.out).mono ?_; rintro e w1 ⟨rfl, rfl⟩)) | ((with_reducible refine tGuard ?_); refine gdS ?_) | fail | ((with_reducible refine tLoad ?_); go_must (refine ldS ?_)) | ((with_reducible refine tStore ?_); go_must (refine stS ?_; clear M; intro w1 M; (try simp only [setC] at M))) | ((with_reducible refine tBox _ ?_); (refine bxA M ?_; clear M; intro g w1 M))) <;> (try conv => arg 5; simp only [Act.put, List.setIfInBounds_toArray, setC]))
          refine bodyPost_ret (results_row2 rfl _ _ gr 0 [.int .i64 0, .int .i64 0, .slice none 0 0] _ (.int .i64 ((10 : Nat) : Int)) rfl rfl (M.ok 3 _ rfl).2.1 Tryz.underlying63 rfl (by kernel_rfl)) rfl (Gives.intro (r := batR 0 0 10) (p := none) (cap := 0) (M.nil 3))
      · have HE := Lib.hid he
        replace GE := GE he
        have hR : rdOps n0 x2 = (d, x3) := by rw [HR.out.1, GE]; simp
        have e0 := RF.out _ _ hR (by rw [fin_err he]; exact he)
        rw [fin_err he] at e0
        obtain ⟨fe, efe⟩ : ∃ f, f = x3.err := ⟨_, rfl⟩
        have F := fun w h => Fault_no gi x3 w h HE.out
        rw [← efe] at e0 F HE
        have HF := HE.out
        have hz : ((fe : Int) == 0) = false := by simp; exact HF
        have hz' : ((fe : Int) != 0) = true := by simp; exact HF
        replace F := Lib.hid F
        subst e0
        clear efe hR HF he GE GK GP GD
        go_wp2_with ((first | (go_at_call 61; go_must (refine (B.out _ _ (M.ok 1 _ rfl)).mono ?_; rintro e w1 ⟨rfl, U⟩; replace M := M.upd 1 rfl U; clear U; simp only [List.set_cons_zero, List.set_cons_succ] at M)) | ((with_reducible refine tAlloc (some 7) 181 ?_); refine w_alloc M _ rfl rfl (.agg #[.int .u8 0, .string (mkS []), .string (mkS [])]) (opV (0, [], [])) (by kernel_rfl) rfl ?_; clear M; intro gp w1 M) | (go_at_call 92; go_must (refine (F.out _ (M.ok 2 _ rfl)).mono ?_; rintro e w1 ⟨rfl, hb⟩; replace M := M.call hb; clear hb)) | ((with_reducible refine tGuard ?_); refine gdS ?_) | fail | ((with_reducible refine tLoad ?_); go_must (refine ldS ?_)) | ((with_reducible refine tStore ?_); go_must (refine stS ?_; clear M; intro w1 M; (try simp only [setC] at M))) | ((with_reducible refine tBox _ ?_); (refine bxA M ?_; clear M; intro g w1 M))) <;> (try conv => arg 5; simp only [Act.put, List.setIfInBounds_toArray, setC]))
        refine bodyPost_ret (results_row2 rfl _ _ gr 0 [.int .i64 0, .int .i64 0, .slice none 0 0] _ (.int .i64 ((fe : Nat) : Int)) rfl rfl (M.ok 3 _ rfl).2.1 Tryz.underlying63 rfl (by kernel_rfl)) rfl (Gives.intro (r := batR 0 0 fe) (p := none) (cap := 0) (M.nil 3))
end Go.Proofs.YtidadhbaomieiaaGreat

/- The walks of layer 18's fields that are read: a batch, pairs. Conditions: lengths. -/
namespace Go
namespace TL
open Go.RowKit
/-- Some of the pieces, in another order. -/
theorem Mem.sel {F : List Nat} {w0 w : World} {L : List Chunk} (M : Mem F w0 w L) (is : List Nat) (L' : List Chunk) (hd : is.Nodup) (hl : L'.map some = is.map (L[·]?)) : Mem F w0 w L' := by
  have hn : L'.length = is.length := by simpa using congrArg List.length hl
  have key : ∀ (i : Nat) (c : Chunk), L'[i]? = some c → ∃ k, is[i]? = some k ∧ L[k]? = some c := fun i c h => by
    have h2 := congrArg (fun l : List (Option Chunk) => l[i]?) hl
    simp only [List.getElem?_map, h, Option.map_some] at h2
    cases hk : is[i]? with
    | none => rw [hk] at h2; cases h2
    | some k => rw [hk] at h2; simp only [Option.map_some, Option.some.injEq] at h2; exact ⟨k, rfl, h2.symm⟩
  refine M.pick L' (fun i => is.getD i 0) (fun i j hi hj h => ?_) fun i c h => ?_
  · have hi' : i < is.length := by omega
    have hj' : j < is.length := by omega
    simp only [List.getD_eq_getElem?_getD, List.getElem?_eq_getElem hi', List.getElem?_eq_getElem hj', Option.getD_some] at h
    exact (List.getElem_inj hd).1 h
  · obtain ⟨k, hk, hc⟩ := key i c h
    simp only [List.getD_eq_getElem?_getD, hk, Option.getD_some]
    exact hc
theorem sl_form {w : World} {size n : Nat} {v : Value} {xs : List Value} (h : (Chunk.sl size v n xs).ok w) : ∃ p cap, v = .slice p n cap := by
  obtain ⟨p, cap, e, _⟩ := (Own.sees h).form; exact ⟨p, cap, e⟩
end TL
end Go
namespace Go.Proofs.YtidadhbaomieiaaGreat
open Go.RowKit Go.TL
set_option maxRecDepth 100000 in
set_option maxHeartbeats 8000000 in
theorem getBatch_c (L : Lm) (ov pv : Value) (gm gi : Nat) (x : InS) (F : List Nat) (w : World) (hL : L.fit) (hf : x.fit)
    (M : Mem F w w [.row gi (inV x), .row gm (msgC (L.ms ov pv)), .sl 3 ov L.ops.length (L.ops.flatMap opV), .sl 2 pv L.prs.length (L.prs.flatMap prV)]) :
    Calls Tryz.prog 134 #[.pointer (some ⟨gi, 0, none⟩), .pointer (some ⟨gm, 0, none⟩)] w fun e w' => e = .returned (.int .i64 (Fld.bat.get L x).1) ∧ ∃ ov', Mem F w w' [.row gi (inV (Fld.bat.get L x).2.2), .row gm (msgC ((Fld.bat.get L x).2.1.ms ov' pv)), .sl 3 ov' (Fld.bat.get L x).2.1.ops.length ((Fld.bat.get L x).2.1.ops.flatMap opV), .sl 2 pv (Fld.bat.get L x).2.1.prs.length ((Fld.bat.get L x).2.1.prs.flatMap prV)] := by
  obtain ⟨op, oc, rfl⟩ := sl_form (M.ok 2 _ rfl)
  obtain ⟨pp, pc, rfl⟩ := sl_form (M.ok 3 _ rfl)
  have T := fun g w h => In_Text_c g x w h hf 512 512 rfl (by omega)
  have hl := InS.text_len x 512
  have hfit := Lm.ms_fit hL (ov := .slice op L.ops.length oc) (pv := .slice pp L.prs.length pc) rfl rfl
  simp only [Fld.get]
  obtain ⟨⟨s, y⟩, ey⟩ : ∃ R, R = x.text 512 := ⟨_, rfl⟩
  rw [← ey] at T hl ⊢
  simp only at T hl ⊢
  clear ey
  replace T := Lib.hid T
  replace hL := Lib.hid hL
  by_cases hy : y.err = 0
  · rw [if_pos hy]
    have Y := fun w => bRead_c s w (by omega)
    obtain ⟨⟨⟨i, e, d⟩, r⟩, er⟩ : ∃ R, R = readB s := ⟨_, rfl⟩
    rw [← er] at Y ⊢
    simp only at Y ⊢
    clear er
    replace Y := Lib.hid Y
    have HY := Lib.hid hy
    clear hy
    go_enter Tryz.func134, Tryz.ntmps134
    go_wp2_with ((first | (go_at_call 60; go_must (refine (T.out gi _ (M.ok 0 _ rfl)).mono ?_; rintro e w1 ⟨rfl, U⟩; replace M := M.upd 0 rfl U; clear U; simp only [setC] at M)) | (go_at_call 92; go_must (refine (Fault_ok gi y _ (M.ok 0 _ rfl) HY.out).mono ?_; rintro e w1 ⟨rfl, rfl⟩)) | (go_at_call 169; go_must (refine (Y.out _).mono ?_; rintro e w1 ⟨q, c, rfl, N⟩; simp only [batR]; replace M := M.join N; clear N; simp only [List.cons_append, List.nil_append] at M)) | ((with_reducible refine tAlloc (some 8) 63 ?_); refine w_alloc M _ rfl rfl (.agg #[.int .i64 0, .int .i64 0, .slice none 0 0]) ([.int .i64 0, .int .i64 0, .slice none 0 0]) (by kernel_rfl) rfl ?_; clear M; intro gb w1 M) | ((with_reducible refine tStore ?_); refine w_at2 _ _ _ rfl (by exact ev_tmp rfl) (by first | exact ev_tmp rfl | exact ev_const) ?_; intro hx hy; (refine w_storeBt M 3 _ _ _ rfl rfl hx rfl hy (by decide +kernel) rfl ?_); clear hx hy M; intro w1 M; (try simp only [setC] at M)) | ((with_reducible refine tGuard ?_); refine gdS ?_) | fail | ((with_reducible refine tLoad ?_); go_must (refine ldS ?_)) | ((with_reducible refine tStore ?_); go_must (refine stS ?_; clear M; intro w1 M; (try simp only [setC] at M))) | ((with_reducible refine tBox _ ?_); (refine bxA M ?_; clear M; intro g w1 M))) <;> (try conv => arg 5; simp only [Act.put, List.setIfInBounds_toArray, setC]))
    go_ret
    exact ⟨rfl, _, M.sel [2, 3, 1, 5] _ (by decide) rfl⟩
  · rw [if_neg hy]
    simp only
    have HY := Lib.hid hy
    obtain ⟨r, er⟩ : ∃ r, r = y.err := ⟨_, rfl⟩
    rw [← er] at hy
    have hz : ((r : Int) == 0) = false := by simp; exact hy
    have hz' : ((r : Int) != 0) = true := by simp; exact hy
    rw [← er]
    have N := fun w h => Fault_no gi y w h HY.out
    rw [← er] at N
    replace N := Lib.hid N
    clear hy er
    go_enter Tryz.func134, Tryz.ntmps134
    go_wp2_with ((first | (go_at_call 60; go_must (refine (T.out gi _ (M.ok 0 _ rfl)).mono ?_; rintro e w1 ⟨rfl, U⟩; replace M := M.upd 0 rfl U; clear U; simp only [setC] at M)) | (go_at_call 92; go_must (refine (N.out _ (M.ok 0 _ rfl)).mono ?_; rintro e w1 ⟨rfl, hb⟩; replace M := M.call hb; clear hb)) | ((with_reducible refine tGuard ?_); refine gdS ?_) | fail | ((with_reducible refine tLoad ?_); go_must (refine ldS ?_)) | ((with_reducible refine tStore ?_); go_must (refine stS ?_; clear M; intro w1 M; (try simp only [setC] at M))) | ((with_reducible refine tBox _ ?_); (refine bxA M ?_; clear M; intro g w1 M))) <;> (try conv => arg 5; simp only [Act.put, List.setIfInBounds_toArray, setC]))
    go_ret
    exact ⟨rfl, _, M⟩
set_option maxRecDepth 100000 in
theorem pairT18 : SliceT Tryz.prog 65 120 2 32 := ⟨Tryz.underlying65, ⟨_, _, rfl, rfl, rfl, rfl, rfl⟩, by omega⟩
set_option maxRecDepth 100000 in
set_option maxHeartbeats 8000000 in
theorem getPairs_c (L : Lm) (ov pv : Value) (gm gi : Nat) (x : InS) (F : List Nat) (w : World) (hL : L.fit) (hf : x.fit) (hp : L.prs.length ≤ 1000)
    (M : Mem F w w [.row gi (inV x), .row gm (msgC (L.ms ov pv)), .sl 3 ov L.ops.length (L.ops.flatMap opV), .sl 2 pv L.prs.length (L.prs.flatMap prV)]) :
    Calls Tryz.prog 136 #[.pointer (some ⟨gi, 0, none⟩), .pointer (some ⟨gm, 0, none⟩)] w fun e w' => e = .returned (.int .i64 0) ∧ ∃ pv', Mem F w w' [.row gi (inV (Fld.prs.get L x).2.2), .row gm (msgC ((Fld.prs.get L x).2.1.ms ov pv')), .sl 3 ov (Fld.prs.get L x).2.1.ops.length ((Fld.prs.get L x).2.1.ops.flatMap opV), .sl 2 pv' (Fld.prs.get L x).2.1.prs.length ((Fld.prs.get L x).2.1.prs.flatMap prV)] := by
  obtain ⟨op, oc, rfl⟩ := sl_form (M.ok 2 _ rfl)
  obtain ⟨pp, pc, rfl⟩ := sl_form (M.ok 3 _ rfl)
  have T := fun g w h => Most_c g x w h hf 48 48 rfl (by omega)
  have hf0 := InS.most_fit hf 48
  have hn := InS.most_le x 48
  simp only [Fld.get]
  obtain ⟨⟨n, y⟩, ey⟩ : ∃ R, R = x.most 48 := ⟨_, rfl⟩
  rw [← ey] at T hf0 hn ⊢
  simp only at T hf0 hn ⊢
  clear ey
  replace T := Lib.hid T
  have sn := prS_succ y
  have s0 := prS_zero y
  have sl := prS_len y
  have sf := prS_fit hf0
  obtain ⟨S, eS⟩ : ∃ S, S = prS y := ⟨_, rfl⟩
  rw [← eS] at sn s0 sl sf ⊢
  clear eS
  replace sn := Lib.hid sn
  replace sf := Lib.hid sf
  replace sl := Lib.hid sl
  have hx2 : ∀ (z : InS), z.fit → (z.text 33).2.fit ∧ ((z.text 33).2.text 32).2.fit := fun z h => ⟨InS.text_fit h 33, InS.text_fit (InS.text_fit h 33) 32⟩
  have HPV : ∀ v : Value, v.oneCell' = true → (msgC (L.ms (.slice op L.ops.length oc) v))[106]? = some v := fun v hv => msgC_at (Lm.ms_fit hL (ov := .slice op L.ops.length oc) rfl hv) .pv
  have HFT : ∀ v : Value, v.oneCell' = true → (L.ms (.slice op L.ops.length oc) v).fit := fun v hv => Lm.ms_fit hL rfl hv
  replace HPV := Lib.hid HPV
  replace HFT := Lib.hid HFT
  replace hL := Lib.hid hL
  go_enter Tryz.func136, Tryz.ntmps136
  go_wp2_with ((first | (go_at_call 58; go_must (refine (T.out gi _ (M.ok 0 _ rfl)).mono ?_; rintro e w1 ⟨rfl, U⟩; replace M := M.upd 0 rfl U; clear U; simp only [setC] at M)) | ((with_reducible refine tGuard ?_); refine gdS ?_) | fail | ((with_reducible refine tLoad ?_); go_must (refine ldS ?_)) | ((with_reducible refine tStore ?_); go_must (refine stS ?_; clear M; intro w1 M; (try simp only [setC] at M))) | ((with_reducible refine tBox _ ?_); (refine bxA M ?_; clear M; intro g w1 M))) <;> (try conv => arg 5; simp only [Act.put, List.setIfInBounds_toArray, setC]))
  go_loopw [7] (fun iv wr => ∃ (j : Nat) (q : Option Addr) (c : Nat), j ≤ n ∧ iv = .int .i64 j ∧ Mem F w wr [.row gi (inV (S j).2), .row gm (msgC (L.ms (.slice op L.ops.length oc) (.slice q (L.prs.length + j) c))), .sl 3 (.slice op L.ops.length oc) L.ops.length (L.ops.flatMap opV), .sl 2 (.slice q (L.prs.length + j) c) (L.prs.length + j) ((L.prs ++ (S j).1).flatMap prV)]) (fun iv _ => n - (intOf iv).toNat)
  case atStart => exact ⟨0, pp, pc, by omega, rfl, by rw [s0]; simpa using M⟩
  case round =>
    clear M
    obtain ⟨j, q, c, hj, rfl, M⟩ := hrel
    by_cases hlt : j < n
    · have SN := sn.out j
      have SL := sl.out j
      have hfy := sf.out j
      have hkt2 : decide ((j : Int) < (n : Int)) = true := decide_eq_true (by omega)
      obtain ⟨z, ez⟩ : ∃ z, z = (S j).2 := ⟨_, rfl⟩
      obtain ⟨d, ed⟩ : ∃ d, d = (S j).1 := ⟨_, rfl⟩
      rw [← ez] at M SN hfy
      rw [← ed] at M SN SL
      obtain ⟨hfz, _⟩ := hx2 z hfy
      have A := fun g w h => In_Text_c g z w h hfy 33 33 rfl (by omega)
      have B := fun g w h => In_Text_c g (z.text 33).2 w h hfz 32 32 rfl (by omega)
      have HQ := HPV.out (.slice q (L.prs.length + j) c) rfl
      have hfit := HFT.out (.slice q (L.prs.length + j) c) rfl
      replace HQ := Lib.hid HQ
      obtain ⟨⟨a, z1⟩, e1⟩ : ∃ R, R = z.text 33 := ⟨_, rfl⟩
      rw [← e1] at A B SN
      simp only at A B SN
      obtain ⟨⟨b, z2⟩, e2⟩ : ∃ R, R = z1.text 32 := ⟨_, rfl⟩
      rw [← e2] at B SN
      simp only at B SN
      replace A := Lib.hid A
      replace B := Lib.hid B
      replace SN := Lib.hid fun _ : Unit => SN
      clear e1 e2 ez ed
      go_wp2_with ((first | ((with_reducible show Code.wp _ (Code.region 3 _ _) _ _ _); go_must (have MR := M; refine region_lowc [(0, false), (1, false), (2, false), (3, false), (5, false), (7, false), (4, false), (6, true), (8, true), (9, true), (10, true), (11, true), (12, true), (13, false), (14, true)] [(10, .ptr)] [(4, _)] (IxOk MR [1]) 14 (by kernel_rfl) (by kernel_rfl) rfl (by kernel_rfl) (lows_cons (stab_ix MR 1 106 rfl rfl (by decide) (by decide +kernel) HQ.out) lows_nil) (ixOk_self MR _) ?_; replace M := M.drew; simp only [planC, opAt, List.getElem?_toArray, List.getElem?_cons_zero, List.getElem?_cons_succ, Option.getD_some])) | (go_at_call 60; go_must ((first | (with_reducible refine (A.out gi _ (M.ok 0 _ rfl)).mono ?_) | (with_reducible refine (B.out gi _ (M.ok 0 _ rfl)).mono ?_)); rintro e w1 ⟨rfl, U⟩; replace M := M.upd 0 rfl U; clear U; simp only [setC] at M)) | ((with_reducible refine tLoad ?_); refine w_at _ _ rfl (by exact ev_tmp rfl) ?_; intro hx; refine w_load M 1 _ _ rfl rfl hx rfl (by decide +kernel) HQ.out ?_; clear hx) | ((with_reducible show wpList _ _ _ (Oper.mk _ (Op.buildSlice _ 1 _) _ _ _ _ :: _) _ _); go_must (refine w_buildSlice1 M pairT18 (by decide) _ rfl rfl (by first | exact ev_tmp rfl | exact ev_const) _ rfl rfl ?_; clear M; intro g w1 M)) | ((with_reducible refine tApp ?_); go_must (refine w_append_new M 3 pairT18 _ _ rfl rfl rfl rfl rfl rfl (by first | decide | (intro q hq; simp at hq; subst hq; rfl) | (intro q hq; simp at hq; rcases hq with rfl | rfl; rfl; rfl) | (intro q hq; simp at hq; rcases hq with rfl | rfl | rfl <;> rfl)) (by decide) (by first | (simp only [maxLen]; omega) | (simp [maxLen]; omega)) (by first | omega | (simp; omega)) ?_; clear M; intro q cap w1 M; (try simp only [setC] at M))) | ((with_reducible refine tStore ?_); refine w_at2 _ _ _ rfl (by exact ev_tmp rfl) (by first | exact ev_tmp rfl | exact ev_const) ?_; intro hx hy; (refine w_storePv M 1 _ _ _ rfl rfl hx rfl hy rfl rfl (by decide +kernel) hfit ?_); clear hx hy M; intro w1 M; (try simp only [setC] at M)) | ((with_reducible show Seg _ _ _ _); go_must (first | refine Seg.intro ⟨fun h => absurd rfl h, ?_⟩ | refine Seg.intro ⟨fun _ => ixA, ?_⟩ | refine Seg.intro ⟨ndA, atA, ?_⟩)) | ((with_reducible show OnlyN _ _ _ _ _); refine OnlyN.intro (by kernel_rfl) ?_) | ((with_reducible refine tGuard ?_); refine gdS ?_) | fail | ((with_reducible refine tLoad ?_); go_must (refine ldS ?_)) | ((with_reducible refine tStore ?_); go_must (refine stS ?_; clear M; intro w1 M; (try simp only [setC] at M))) | ((with_reducible refine tBox _ ?_); (refine bxA M ?_; clear M; intro g w1 M))) <;> (try conv => arg 5; simp only [Act.put, List.setIfInBounds_toArray, setC]))
      go_roundw
      case rel => exact ⟨j + 1, _, _, by omega, by go_num, by
        rw [SN.out ()]
        simp only
        rw [← List.append_assoc, List.flatMap_append (xs := L.prs ++ d)]
        exact M⟩
      case measure => simp [intOf]; omega
    · obtain rfl : j = n := by omega
      go_wp2_with fail
      go_ret
      refine ⟨rfl, .slice q (L.prs.length + j) c, ?_⟩
      rw [List.length_append, sl.out]
      exact M
end Go.Proofs.YtidadhbaomieiaaGreat

/- The walk of layer 18's numbers below nought. Conditions: lengths. -/
namespace Go.Proofs.YtidadhbaomieiaaGreat
open Go.RowKit Go.TL
set_option maxRecDepth 100000 in
set_option maxHeartbeats 8000000 in
/-- A number below nought is put: it is wrong. -/
theorem numPutN_c (q : Mf) (_most : Int) (gm g1 g2 go : Nat) (m : Ms) (v : Value) (l : List UInt8) (w : World) (hm : m.fit) (hn : -9223372036854775808 ≤ q.get m ∧ q.get m < 0) (hl : l.length ≤ 1000000) (ho : (outC go v l).ok w)
    (R : (Chunk.row gm (msgC m)).ok w) (B2 : (Chunk.row g2 [.func (.func (mfFn q)) #[] #[]]).ok w) (n0 : gm ∉ (outC go v l).fp) (n2 : g2 ∉ (outC go v l).fp) :
    Calls Tryz.prog 164 #[.pointer (some ⟨go, 0, none⟩), .pointer (some ⟨gm, 0, none⟩), .pointer (some ⟨g2, 0, none⟩), .pointer (some ⟨g1, 0, none⟩)] w fun e w' => e = .returned (.bool false) ∧ ∃ v' l', Upd w (outC go v l) w' (outC go v' l') := by
  have M := Mem.start1 ho
  have HQ := msgC_num hm q
  obtain ⟨z, ez⟩ : ∃ z, z = q.get m := ⟨_, rfl⟩
  rw [← ez] at HQ hn
  clear ez
  replace HQ := Lib.hid HQ
  obtain ⟨hn1, hn2⟩ := hn
  cases q
  all_goals
    simp only [mfFn] at B2
    go_enter Tryz.func164, Tryz.ntmps164
    go_wp2_with ((first | ((with_reducible refine tGuard ?_); (with_reducible refine w_stripE ?_ ?_); (focus (refine ⟨_, rfl, ?_⟩; first | (with_reducible rfl) | exact decide_eq_false (by omega) | exact decide_eq_true (by omega)))) | ((with_reducible refine tGuard ?_); first | ((with_reducible refine w_skip1 ?_ ?_); (focus (refine ⟨_, rfl, ?_⟩; first | (with_reducible rfl) | exact decide_eq_false (by omega) | exact decide_eq_true (by omega)))) | ((with_reducible refine w_skip0 ?_ ?_); (focus (refine ⟨_, rfl, ?_⟩; first | (with_reducible rfl) | exact decide_eq_false (by omega) | exact decide_eq_true (by omega))))) | ((with_reducible refine tLoad ?_); go_must (refine w_at _ _ rfl (by exact ev_tmp rfl) ?_; intro hx; (first | refine w_rowF M B2 n2 _ _ rfl hx rfl (by decide +kernel) rfl ?_ | refine w_rowF M R n0 _ _ rfl hx rfl (by decide +kernel) HQ.out ?_); clear hx)) | ((first | (go_at_call 123; refine (at1F_c _ _).mono ?_) | (go_at_call 124; refine (at2F_c _ _).mono ?_) | (go_at_call 125; refine (at3F_c _ _).mono ?_) | (go_at_call 126; refine (at4F_c _ _).mono ?_) | (go_at_call 127; refine (at5F_c _ _).mono ?_) | (go_at_call 128; refine (at6F_c _ _).mono ?_)); rintro e w1 ⟨rfl, rfl⟩) | (go_at_call 113; go_must (refine (Num_c _ _ l (w64 z).toNat (I64 (w64 z)) rfl _ (w64 z).toNat_lt (by omega) (M.ok 0 _ rfl)).mono ?_; rintro r w2 ⟨rfl, v1, U⟩; replace M := M.upd 0 rfl U; clear U; simp only [setC] at M)) | ((with_reducible refine tGuard ?_); refine gdS ?_) | fail | ((with_reducible refine tLoad ?_); go_must (refine ldS ?_)) | ((with_reducible refine tStore ?_); go_must (refine stS ?_; clear M; intro w1 M; (try simp only [setC] at M))) | ((with_reducible refine tBox _ ?_); (refine bxA M ?_; clear M; intro g w1 M))) <;> (try conv => arg 5; simp only [Act.put, List.setIfInBounds_toArray, setC]))
    go_ret
    exact ⟨rfl, _, _, M.upd1 0 rfl⟩
end Go.Proofs.YtidadhbaomieiaaGreat

/- The walk of msg.fields: the fields of a kind, each with its two functions. No conditions. -/
namespace Go
namespace TL
open Go.RowKit
def tagLk : Nat → List (List Value) → List (Nat × Value)
  | _, [] => []
  | k, x :: l => (k, .agg x.toArray) :: tagLk (k + 1) l
theorem fill_tag (size : Nat) : ∀ (l : List (List Value)) (k : Nat) (C : Array Value), (∀ x ∈ l, x.length = size) → C.size = (k + l.length) * size →
    Instr.fill (fun i => some (i * size, size)) C (tagLk k l) = some (C.toList.take (k * size) ++ l.flatten).toArray
  | [], k, C, _, hC => by
    simp only [tagLk, Instr.fill, List.flatten_nil, List.append_nil]
    rw [List.take_of_length_le (by rw [Array.length_toList, hC]; simp)]
  | x :: l, k, C, h, hC => by
    have hx := h x List.mem_cons_self
    rw [tagLk, Instr.fill]
    simp only
    have hs : (Value.agg x.toArray).cells = x.toArray := rfl
    simp only [List.length_cons] at hC
    have hsz : k * size + size ≤ C.size := by rw [hC]; have : (k + (l.length + 1)) * size = k * size + size + l.length * size := by rw [← Nat.add_assoc, Nat.succ_mul, Nat.add_mul]; omega
                                              omega
    rw [hs, if_neg (by simp [hx]; omega)]
    have e : (x.toArray.zipIdx.foldl (fun cs (c, j) => cs.setIfInBounds (k * size + j) c) C) = (C.toList.take (k * size) ++ x ++ C.toList.drop (k * size + size)).toArray := by
      have e1 := foldl_set x (k * size) C (by rw [hx]; exact hsz)
      apply Array.ext'
      rw [← Array.foldl_toList, hx] at *
      rw [← e1]
      rw [Array.toList_zipIdx]
      have : x.zipIdx (k * size) = (x.zipIdx 0).map fun p => (p.1, k * size + p.2) := by
        rw [List.zipIdx_eq_map_add]
      rw [this, List.foldl_map]
    rw [e]
    rw [fill_tag size l (k + 1) _ (fun y hy => h y (List.mem_cons_of_mem _ hy)) (by
      simp only [List.size_toArray, List.length_append, List.length_take, List.length_drop, Array.length_toList, hx]
      rw [Nat.min_eq_left (by omega)]
      have : k + (l.length + 1) = k + 1 + l.length := by omega
      rw [this] at hC
      omega)]
    congr 2
    rw [List.flatten_cons, ← List.append_assoc]
    congr 1
    have h1 : (List.take (k * size) C.toList ++ x).length = (k + 1) * size := by rw [List.length_append, List.length_take, Array.length_toList, hx, Nat.min_eq_left (by omega), Nat.succ_mul]
    rw [List.take_append_of_le_length (by rw [h1]; exact Nat.le_refl _), List.take_of_length_le (by rw [h1]; exact Nat.le_refl _)]
section
variable {P : Program} {ops : Array Oper} {rest : List Oper} {o : Oper} {a : Act} {w w0 : World} {Q : Exit → Act → World → Prop} {F : List Nat} {L : List Chunk}
/-- A slice literal of structs. -/
theorem w_buildSliceN (M : Mem F w0 w L) {t e : TypeId} {size bytes : Nat} (T : SliceT P t e size bytes) (len : Nat) (parts : Array (Nat × Operand)) (ho : o.op = .buildSlice t len parts) (hw : Region.wanted o (yielded ops a.tmps) = true) (hlen : 0 < len ∧ len * size ≤ 16777216)
    (l : List (List Value)) (hl : l.length = len) (hx : ∀ x ∈ l, x.length = size) (hp : (parts.map fun (i, x) => (i, a.eval x)).toList = tagLk 0 l)
    (h : ∀ (g : Nat) (w' : World), Mem F w0 w' (.row g l.flatten :: L) → wpList P ops Q rest (a.put o.dst (.slice (some ⟨g, 0, none⟩) len len)) w') : wpList P ops Q (o :: rest) a w := by
  have T' := T
  obtain ⟨ht, ⟨i, z', hi, hz', hsize, hby, hzs⟩, hsz⟩ := T'
  refine w_buildSlice M T len parts ho hw hlen z' (by simp [hi, hz']) l.flatten ?_ h
  rw [hp, fill_tag size l 0 _ hx (by simp [hl])]
  simp
theorem w_buildA (M : Mem F w0 w L) {t e : TypeId} {bytes : Nat} (T : SliceT P t e 2 bytes) (x0 : Operand) (ho : o.op = .buildSlice t 1 #[(0, x0)]) (hw : Region.wanted o (yielded ops a.tmps) = true)
    {a0 b0 : Value} (h0 : a.eval x0 = .agg #[a0, b0])
    (h : ∀ (g : Nat) (w' : World), Mem F w0 w' (.row g [a0, b0] :: L) → wpList P ops Q rest (a.put o.dst (.slice (some ⟨g, 0, none⟩) 1 1)) w') : wpList P ops Q (o :: rest) a w :=
  w_buildSliceN M T 1 _ ho hw ⟨by omega, by omega⟩ [[a0, b0]] rfl (by simp) (by simp [tagLk, h0]) h
theorem w_buildC (M : Mem F w0 w L) {t e : TypeId} {bytes : Nat} (T : SliceT P t e 2 bytes) (x0 x1 x2 : Operand) (ho : o.op = .buildSlice t 3 #[(0, x0), (1, x1), (2, x2)]) (hw : Region.wanted o (yielded ops a.tmps) = true)
    {a0 b0 a1 b1 a2 b2 : Value} (h0 : a.eval x0 = .agg #[a0, b0]) (h1 : a.eval x1 = .agg #[a1, b1]) (h2 : a.eval x2 = .agg #[a2, b2])
    (h : ∀ (g : Nat) (w' : World), Mem F w0 w' (.row g [a0, b0, a1, b1, a2, b2] :: L) → wpList P ops Q rest (a.put o.dst (.slice (some ⟨g, 0, none⟩) 3 3)) w') : wpList P ops Q (o :: rest) a w :=
  w_buildSliceN M T 3 _ ho hw ⟨by omega, by omega⟩ [[a0, b0], [a1, b1], [a2, b2]] rfl (by simp) (by simp [tagLk, h0, h1, h2]) h
theorem w_buildD (M : Mem F w0 w L) {t e : TypeId} {bytes : Nat} (T : SliceT P t e 2 bytes) (x0 x1 x2 x3 : Operand) (ho : o.op = .buildSlice t 4 #[(0, x0), (1, x1), (2, x2), (3, x3)]) (hw : Region.wanted o (yielded ops a.tmps) = true)
    {a0 b0 a1 b1 a2 b2 a3 b3 : Value} (h0 : a.eval x0 = .agg #[a0, b0]) (h1 : a.eval x1 = .agg #[a1, b1]) (h2 : a.eval x2 = .agg #[a2, b2]) (h3 : a.eval x3 = .agg #[a3, b3])
    (h : ∀ (g : Nat) (w' : World), Mem F w0 w' (.row g [a0, b0, a1, b1, a2, b2, a3, b3] :: L) → wpList P ops Q rest (a.put o.dst (.slice (some ⟨g, 0, none⟩) 4 4)) w') : wpList P ops Q (o :: rest) a w :=
  w_buildSliceN M T 4 _ ho hw ⟨by omega, by omega⟩ [[a0, b0], [a1, b1], [a2, b2], [a3, b3]] rfl (by simp) (by simp [tagLk, h0, h1, h2, h3]) h
theorem w_buildF (M : Mem F w0 w L) {t e : TypeId} {bytes : Nat} (T : SliceT P t e 2 bytes) (x0 x1 x2 x3 x4 x5 : Operand) (ho : o.op = .buildSlice t 6 #[(0, x0), (1, x1), (2, x2), (3, x3), (4, x4), (5, x5)]) (hw : Region.wanted o (yielded ops a.tmps) = true)
    {a0 b0 a1 b1 a2 b2 a3 b3 a4 b4 a5 b5 : Value} (h0 : a.eval x0 = .agg #[a0, b0]) (h1 : a.eval x1 = .agg #[a1, b1]) (h2 : a.eval x2 = .agg #[a2, b2]) (h3 : a.eval x3 = .agg #[a3, b3]) (h4 : a.eval x4 = .agg #[a4, b4]) (h5 : a.eval x5 = .agg #[a5, b5])
    (h : ∀ (g : Nat) (w' : World), Mem F w0 w' (.row g [a0, b0, a1, b1, a2, b2, a3, b3, a4, b4, a5, b5] :: L) → wpList P ops Q rest (a.put o.dst (.slice (some ⟨g, 0, none⟩) 6 6)) w') : wpList P ops Q (o :: rest) a w :=
  w_buildSliceN M T 6 _ ho hw ⟨by omega, by omega⟩ [[a0, b0], [a1, b1], [a2, b2], [a3, b3], [a4, b4], [a5, b5]] rfl (by simp) (by simp [tagLk, h0, h1, h2, h3, h4, h5]) h
end
theorem row_seesL {α : Type} {w : World} {g size : Nat} {f : α → List Value} {l : List α} (h : (Chunk.row g (l.flatMap f)).ok w) (hf : ∀ x, (f x).length = size) (hl : l.length ≤ 1000000) : SeesL w size f (.slice (some ⟨g, 0, none⟩) l.length l.length) l :=
  ⟨⟨flat_len hf l, .inr ⟨g, 0, l.length, rfl, h.1, Nat.le_refl _, by simp only [maxLen]; omega, h.2.1⟩⟩, hf⟩
end TL
end Go
namespace Go.Proofs.YtidadhbaomieiaaGreat
open Go.RowKit Go.TL
set_option maxRecDepth 100000 in
theorem fieldT : SliceT Tryz.prog 168 175 2 16 := ⟨Tryz.underlying168, ⟨_, _, rfl, rfl, rfl, rfl, rfl⟩, by omega⟩
/-- A field's cells: its two functions, each with its variables. -/
def fdV (b1 b2 : Mf → Nat) (b3 : Hf → Nat) : Fld → List Value
  | .num q => [.func (.func 164) #[] #[.pointer (some ⟨b2 q, 0, none⟩), .pointer (some ⟨b1 q, 0, none⟩)], .func (.func 165) #[] #[.pointer (some ⟨b1 q, 0, none⟩), .pointer (some ⟨b2 q, 0, none⟩)]]
  | .hash q => [.func (.func 166) #[] #[.pointer (some ⟨b3 q, 0, none⟩)], .func (.func 167) #[] #[.pointer (some ⟨b3 q, 0, none⟩)]]
  | .bat => [.func (.func 133) #[] #[], .func (.func 134) #[] #[]]
  | .prs => [.func (.func 135) #[] #[], .func (.func 136) #[] #[]]
theorem fdV_len (b1 b2 : Mf → Nat) (b3 : Hf → Nat) (f : Fld) : (fdV b1 b2 b3 f).length = 2 := by cases f <;> rfl
/-- The fields' variables stand. -/
structure Boxes (b1 b2 : Mf → Nat) (b3 : Hf → Nat) (n : Nat) (w : World) : Prop where
  m : ∀ q, (Chunk.row (b1 q) [.int .i64 (q.most : Int)]).ok w ∧ n ≤ b1 q
  f : ∀ q, (Chunk.row (b2 q) [.func (.func (mfFn q)) #[] #[]]).ok w ∧ n ≤ b2 q
  h : ∀ q, (Chunk.row (b3 q) [.func (.func (hfFn q)) #[] #[]]).ok w ∧ n ≤ b3 q
/-- What fields hands on. -/
def Fields (k : UInt8) (w : World) (e : Ending) (w' : World) : Prop := ∃ (b1 b2 : Mf → Nat) (b3 : Hf → Nat) (p : Option Addr) (c : Nat), e = .returned (.tuple #[.slice p (fdsL k).length c, .bool (isK k)]) ∧ Below w.heap.size w w' ∧ Boxes b1 b2 b3 w.heap.size w' ∧
  SeesL w' 2 (fdV b1 b2 b3) (.slice p (fdsL k).length c) (fdsL k) ∧ ∀ g, (Value.slice p (fdsL k).length c).ownBlock = some g → w.heap.size ≤ g
set_option maxRecDepth 100000 in
set_option maxHeartbeats 16000000 in
theorem fields_c (k : UInt8) (w : World) : Calls Tryz.prog 90 #[.int .u8 (I8 k)] w (Fields k w) := by
  have M := Mem.start [] w
  by_cases hk : isK k = true
  · rcases kinds hk with rfl | rfl | rfl | rfl | rfl | rfl | rfl
    all_goals
      clear hk
      go_enter Tryz.func90, Tryz.ntmps90
      go_wp2_with ((first | (go_at_call 122; go_must (first | ((with_reducible refine (msgNumber_c 9223372036854775807 123 _).mono ?_); rintro e w1 ⟨e1, e2, rfl, N⟩; simp only [numF]; replace M := M.join N; clear N; simp only [List.cons_append, List.nil_append] at M) | ((with_reducible refine (msgNumber_c 9223372036854775807 124 _).mono ?_); rintro e w1 ⟨a1, a2, rfl, N⟩; simp only [numF]; replace M := M.join N; clear N; simp only [List.cons_append, List.nil_append] at M) | ((with_reducible refine (msgNumber_c 9223372036854775807 125 _).mono ?_); rintro e w1 ⟨o1, o2, rfl, N⟩; simp only [numF]; replace M := M.join N; clear N; simp only [List.cons_append, List.nil_append] at M) | ((with_reducible refine (msgNumber_c 9223372036854775807 126 _).mono ?_); rintro e w1 ⟨p1, p2, rfl, N⟩; simp only [numF]; replace M := M.join N; clear N; simp only [List.cons_append, List.nil_append] at M) | ((with_reducible refine (msgNumber_c 4 127 _).mono ?_); rintro e w1 ⟨v1, v2, rfl, N⟩; simp only [numF]; replace M := M.join N; clear N; simp only [List.cons_append, List.nil_append] at M) | ((with_reducible refine (msgNumber_c 15 128 _).mono ?_); rintro e w1 ⟨i1, i2, rfl, N⟩; simp only [numF]; replace M := M.join N; clear N; simp only [List.cons_append, List.nil_append] at M))) | (go_at_call 129; go_must (first | ((with_reducible refine (msgHash_c 130 _).mono ?_); rintro e w1 ⟨r1, rfl, N⟩; simp only [hashF]; replace M := M.join N; clear N; simp only [List.cons_append, List.nil_append] at M) | ((with_reducible refine (msgHash_c 131 _).mono ?_); rintro e w1 ⟨l1, rfl, N⟩; simp only [hashF]; replace M := M.join N; clear N; simp only [List.cons_append, List.nil_append] at M) | ((with_reducible refine (msgHash_c 132 _).mono ?_); rintro e w1 ⟨t1, rfl, N⟩; simp only [hashF]; replace M := M.join N; clear N; simp only [List.cons_append, List.nil_append] at M))) | ((with_reducible refine tAlloc (some 4) 175 ?_); refine w_alloc M _ rfl rfl (.agg #[.nilFunc, .nilFunc]) ([.nilFunc, .nilFunc]) (by kernel_rfl) rfl ?_; clear M; intro z0 w1 M) | ((with_reducible refine tAlloc (some 5) 175 ?_); refine w_alloc M _ rfl rfl (.agg #[.nilFunc, .nilFunc]) ([.nilFunc, .nilFunc]) (by kernel_rfl) rfl ?_; clear M; intro z1 w1 M) | ((with_reducible refine tAlloc (some 6) 175 ?_); refine w_alloc M _ rfl rfl (.agg #[.nilFunc, .nilFunc]) ([.nilFunc, .nilFunc]) (by kernel_rfl) rfl ?_; clear M; intro z2 w1 M) | ((with_reducible refine tAlloc (some 7) 175 ?_); refine w_alloc M _ rfl rfl (.agg #[.nilFunc, .nilFunc]) ([.nilFunc, .nilFunc]) (by kernel_rfl) rfl ?_; clear M; intro z3 w1 M) | ((with_reducible refine tAlloc (some 8) 175 ?_); refine w_alloc M _ rfl rfl (.agg #[.nilFunc, .nilFunc]) ([.nilFunc, .nilFunc]) (by kernel_rfl) rfl ?_; clear M; intro z4 w1 M) | ((with_reducible refine tAlloc (some 9) 175 ?_); refine w_alloc M _ rfl rfl (.agg #[.nilFunc, .nilFunc]) ([.nilFunc, .nilFunc]) (by kernel_rfl) rfl ?_; clear M; intro z5 w1 M) | ((with_reducible refine tAlloc (some 10) 175 ?_); refine w_alloc M _ rfl rfl (.agg #[.nilFunc, .nilFunc]) ([.nilFunc, .nilFunc]) (by kernel_rfl) rfl ?_; clear M; intro z6 w1 M) | ((with_reducible refine tAlloc (some 11) 175 ?_); refine w_alloc M _ rfl rfl (.agg #[.nilFunc, .nilFunc]) ([.nilFunc, .nilFunc]) (by kernel_rfl) rfl ?_; clear M; intro z7 w1 M) | ((with_reducible refine tAlloc (some 12) 175 ?_); refine w_alloc M _ rfl rfl (.agg #[.nilFunc, .nilFunc]) ([.nilFunc, .nilFunc]) (by kernel_rfl) rfl ?_; clear M; intro z8 w1 M) | ((with_reducible show wpList _ _ _ (Oper.mk _ (Op.buildSlice _ 1 _) _ _ _ _ :: _) _ _); go_must (refine w_buildA M fieldT _ rfl rfl (by first | exact ev_tmp rfl | rfl) ?_; clear M; intro gs w1 M)) | ((with_reducible show wpList _ _ _ (Oper.mk _ (Op.buildSlice _ 3 _) _ _ _ _ :: _) _ _); go_must (refine w_buildC M fieldT _ _ _ rfl rfl (by first | exact ev_tmp rfl | rfl) (by first | exact ev_tmp rfl | rfl) (by first | exact ev_tmp rfl | rfl) ?_; clear M; intro gs w1 M)) | ((with_reducible show wpList _ _ _ (Oper.mk _ (Op.buildSlice _ 4 _) _ _ _ _ :: _) _ _); go_must (refine w_buildD M fieldT _ _ _ _ rfl rfl (by first | exact ev_tmp rfl | rfl) (by first | exact ev_tmp rfl | rfl) (by first | exact ev_tmp rfl | rfl) (by first | exact ev_tmp rfl | rfl) ?_; clear M; intro gs w1 M)) | ((with_reducible show wpList _ _ _ (Oper.mk _ (Op.buildSlice _ 6 _) _ _ _ _ :: _) _ _); go_must (refine w_buildF M fieldT _ _ _ _ _ _ rfl rfl (by first | exact ev_tmp rfl | rfl) (by first | exact ev_tmp rfl | rfl) (by first | exact ev_tmp rfl | rfl) (by first | exact ev_tmp rfl | rfl) (by first | exact ev_tmp rfl | rfl) (by first | exact ev_tmp rfl | rfl) ?_; clear M; intro gs w1 M)) | ((with_reducible refine tLoad ?_); go_must (refine w_at _ _ rfl (by exact ev_tmp rfl) ?_; intro hx; (first | refine w_loadR M 21 _ _ rfl rfl hx rfl (by decide +kernel) (by kernel_rfl) ?_ | refine w_loadR M 18 _ _ rfl rfl hx rfl (by decide +kernel) (by kernel_rfl) ?_ | refine w_loadR M 15 _ _ rfl rfl hx rfl (by decide +kernel) (by kernel_rfl) ?_ | refine w_loadR M 12 _ _ rfl rfl hx rfl (by decide +kernel) (by kernel_rfl) ?_ | refine w_loadR M 9 _ _ rfl rfl hx rfl (by decide +kernel) (by kernel_rfl) ?_ | refine w_loadR M 6 _ _ rfl rfl hx rfl (by decide +kernel) (by kernel_rfl) ?_ | refine w_loadR M 4 _ _ rfl rfl hx rfl (by decide +kernel) (by kernel_rfl) ?_ | refine w_loadR M 2 _ _ rfl rfl hx rfl (by decide +kernel) (by kernel_rfl) ?_ | refine w_loadR M 0 _ _ rfl rfl hx rfl (by decide +kernel) (by kernel_rfl) ?_); clear hx)) | ((with_reducible refine tGuard ?_); refine gdS ?_) | fail | ((with_reducible refine tLoad ?_); go_must (refine ldS ?_)) | ((with_reducible refine tStore ?_); go_must (refine stS ?_; clear M; intro w1 M; (try simp only [setC] at M))) | ((with_reducible refine tBox _ ?_); (refine bxA M ?_; clear M; intro g w1 M))) <;> (try conv => arg 5; simp only [Act.put, List.setIfInBounds_toArray, setC]))
      go_ret2
      have own : ∀ (i : Nat) (g : Nat) (cs : List Value), _ → w.heap.size ≤ g := fun i g cs h => (M.own i (.row g cs) h g (by simp [Chunk.fp])).resolve_left (by simp)
      exact ⟨fun q => match q with | .e => e1 | .a => a1 | .o => o1 | .p => p1 | .v => v1 | .i => i1, fun q => match q with | .e => e2 | .a => a2 | .o => o2 | .p => p2 | .v => v2 | .i => i2, fun q => match q with | .r => r1 | .lf => l1 | .rt => t1, some ⟨gs, 0, none⟩, _, rfl, M.below, ⟨fun q => by cases q <;> first | exact ⟨M.ok 24 _ rfl, own 24 _ _ rfl⟩ | exact ⟨M.ok 21 _ rfl, own 21 _ _ rfl⟩ | exact ⟨M.ok 18 _ rfl, own 18 _ _ rfl⟩ | exact ⟨M.ok 15 _ rfl, own 15 _ _ rfl⟩ | exact ⟨M.ok 12 _ rfl, own 12 _ _ rfl⟩ | exact ⟨M.ok 9 _ rfl, own 9 _ _ rfl⟩, fun q => by cases q <;> first | exact ⟨M.ok 23 _ rfl, own 23 _ _ rfl⟩ | exact ⟨M.ok 20 _ rfl, own 20 _ _ rfl⟩ | exact ⟨M.ok 17 _ rfl, own 17 _ _ rfl⟩ | exact ⟨M.ok 14 _ rfl, own 14 _ _ rfl⟩ | exact ⟨M.ok 11 _ rfl, own 11 _ _ rfl⟩ | exact ⟨M.ok 8 _ rfl, own 8 _ _ rfl⟩, fun q => by cases q <;> first | exact ⟨M.ok 6 _ rfl, own 6 _ _ rfl⟩ | exact ⟨M.ok 4 _ rfl, own 4 _ _ rfl⟩ | exact ⟨M.ok 2 _ rfl, own 2 _ _ rfl⟩⟩, row_seesL (l := fdsL _) (M.ok 0 _ rfl) (fdV_len _ _ _) (by decide), fun g h => by cases h; exact own 0 _ _ rfl⟩
  · have h0 : fdsL k = [] := by
      unfold fdsL
      have : ∀ j : UInt8, isK j = true → ¬ k = j := fun j hj e => hk (e ▸ hj)
      rw [if_neg (this 1 (by decide)), if_neg (this 2 (by decide)), if_neg (this 3 (by decide)), if_neg (this 4 (by decide)), if_neg (this 5 (by decide)), if_neg (this 6 (by decide)), if_neg (this 7 (by decide))]
    have h1 : isK k = false := by cases h : isK k <;> simp_all
    have hne : ∀ j : UInt8, isK j = true → (I8 k == I8 j) = false := fun j hj => by
      rw [beq_eq_false_iff_ne]; intro e; rw [I8_inj] at e; exact hk (e ▸ hj)
    have n1 : (I8 k == 1) = false := hne 1 (by decide)
    have n2 : (I8 k == 2) = false := hne 2 (by decide)
    have n3 : (I8 k == 3) = false := hne 3 (by decide)
    have n4 : (I8 k == 4) = false := hne 4 (by decide)
    have n5 : (I8 k == 5) = false := hne 5 (by decide)
    have n6 : (I8 k == 6) = false := hne 6 (by decide)
    have n7 : (I8 k == 7) = false := hne 7 (by decide)
    unfold Fields
    rw [h0, h1]
    clear h0 h1 hk hne
    go_enter Tryz.func90, Tryz.ntmps90
    go_wp2_with ((first | (go_at_call 122; go_must (first | ((with_reducible refine (msgNumber_c 9223372036854775807 123 _).mono ?_); rintro e w1 ⟨e1, e2, rfl, N⟩; simp only [numF]; replace M := M.join N; clear N; simp only [List.cons_append, List.nil_append] at M) | ((with_reducible refine (msgNumber_c 9223372036854775807 124 _).mono ?_); rintro e w1 ⟨a1, a2, rfl, N⟩; simp only [numF]; replace M := M.join N; clear N; simp only [List.cons_append, List.nil_append] at M) | ((with_reducible refine (msgNumber_c 9223372036854775807 125 _).mono ?_); rintro e w1 ⟨o1, o2, rfl, N⟩; simp only [numF]; replace M := M.join N; clear N; simp only [List.cons_append, List.nil_append] at M) | ((with_reducible refine (msgNumber_c 9223372036854775807 126 _).mono ?_); rintro e w1 ⟨p1, p2, rfl, N⟩; simp only [numF]; replace M := M.join N; clear N; simp only [List.cons_append, List.nil_append] at M) | ((with_reducible refine (msgNumber_c 4 127 _).mono ?_); rintro e w1 ⟨v1, v2, rfl, N⟩; simp only [numF]; replace M := M.join N; clear N; simp only [List.cons_append, List.nil_append] at M) | ((with_reducible refine (msgNumber_c 15 128 _).mono ?_); rintro e w1 ⟨i1, i2, rfl, N⟩; simp only [numF]; replace M := M.join N; clear N; simp only [List.cons_append, List.nil_append] at M))) | (go_at_call 129; go_must (first | ((with_reducible refine (msgHash_c 130 _).mono ?_); rintro e w1 ⟨r1, rfl, N⟩; simp only [hashF]; replace M := M.join N; clear N; simp only [List.cons_append, List.nil_append] at M) | ((with_reducible refine (msgHash_c 131 _).mono ?_); rintro e w1 ⟨l1, rfl, N⟩; simp only [hashF]; replace M := M.join N; clear N; simp only [List.cons_append, List.nil_append] at M) | ((with_reducible refine (msgHash_c 132 _).mono ?_); rintro e w1 ⟨t1, rfl, N⟩; simp only [hashF]; replace M := M.join N; clear N; simp only [List.cons_append, List.nil_append] at M))) | ((with_reducible refine tAlloc (some 4) 175 ?_); refine w_alloc M _ rfl rfl (.agg #[.nilFunc, .nilFunc]) ([.nilFunc, .nilFunc]) (by kernel_rfl) rfl ?_; clear M; intro z0 w1 M) | ((with_reducible refine tAlloc (some 5) 175 ?_); refine w_alloc M _ rfl rfl (.agg #[.nilFunc, .nilFunc]) ([.nilFunc, .nilFunc]) (by kernel_rfl) rfl ?_; clear M; intro z1 w1 M) | ((with_reducible refine tAlloc (some 6) 175 ?_); refine w_alloc M _ rfl rfl (.agg #[.nilFunc, .nilFunc]) ([.nilFunc, .nilFunc]) (by kernel_rfl) rfl ?_; clear M; intro z2 w1 M) | ((with_reducible refine tAlloc (some 7) 175 ?_); refine w_alloc M _ rfl rfl (.agg #[.nilFunc, .nilFunc]) ([.nilFunc, .nilFunc]) (by kernel_rfl) rfl ?_; clear M; intro z3 w1 M) | ((with_reducible refine tAlloc (some 8) 175 ?_); refine w_alloc M _ rfl rfl (.agg #[.nilFunc, .nilFunc]) ([.nilFunc, .nilFunc]) (by kernel_rfl) rfl ?_; clear M; intro z4 w1 M) | ((with_reducible refine tAlloc (some 9) 175 ?_); refine w_alloc M _ rfl rfl (.agg #[.nilFunc, .nilFunc]) ([.nilFunc, .nilFunc]) (by kernel_rfl) rfl ?_; clear M; intro z5 w1 M) | ((with_reducible refine tAlloc (some 10) 175 ?_); refine w_alloc M _ rfl rfl (.agg #[.nilFunc, .nilFunc]) ([.nilFunc, .nilFunc]) (by kernel_rfl) rfl ?_; clear M; intro z6 w1 M) | ((with_reducible refine tAlloc (some 11) 175 ?_); refine w_alloc M _ rfl rfl (.agg #[.nilFunc, .nilFunc]) ([.nilFunc, .nilFunc]) (by kernel_rfl) rfl ?_; clear M; intro z7 w1 M) | ((with_reducible refine tAlloc (some 12) 175 ?_); refine w_alloc M _ rfl rfl (.agg #[.nilFunc, .nilFunc]) ([.nilFunc, .nilFunc]) (by kernel_rfl) rfl ?_; clear M; intro z8 w1 M) | ((with_reducible show wpList _ _ _ (Oper.mk _ (Op.buildSlice _ 1 _) _ _ _ _ :: _) _ _); go_must (refine w_buildA M fieldT _ rfl rfl (by first | exact ev_tmp rfl | rfl) ?_; clear M; intro gs w1 M)) | ((with_reducible show wpList _ _ _ (Oper.mk _ (Op.buildSlice _ 3 _) _ _ _ _ :: _) _ _); go_must (refine w_buildC M fieldT _ _ _ rfl rfl (by first | exact ev_tmp rfl | rfl) (by first | exact ev_tmp rfl | rfl) (by first | exact ev_tmp rfl | rfl) ?_; clear M; intro gs w1 M)) | ((with_reducible show wpList _ _ _ (Oper.mk _ (Op.buildSlice _ 4 _) _ _ _ _ :: _) _ _); go_must (refine w_buildD M fieldT _ _ _ _ rfl rfl (by first | exact ev_tmp rfl | rfl) (by first | exact ev_tmp rfl | rfl) (by first | exact ev_tmp rfl | rfl) (by first | exact ev_tmp rfl | rfl) ?_; clear M; intro gs w1 M)) | ((with_reducible show wpList _ _ _ (Oper.mk _ (Op.buildSlice _ 6 _) _ _ _ _ :: _) _ _); go_must (refine w_buildF M fieldT _ _ _ _ _ _ rfl rfl (by first | exact ev_tmp rfl | rfl) (by first | exact ev_tmp rfl | rfl) (by first | exact ev_tmp rfl | rfl) (by first | exact ev_tmp rfl | rfl) (by first | exact ev_tmp rfl | rfl) (by first | exact ev_tmp rfl | rfl) ?_; clear M; intro gs w1 M)) | ((with_reducible refine tLoad ?_); go_must (refine w_at _ _ rfl (by exact ev_tmp rfl) ?_; intro hx; (first | refine w_loadR M 21 _ _ rfl rfl hx rfl (by decide +kernel) (by kernel_rfl) ?_ | refine w_loadR M 18 _ _ rfl rfl hx rfl (by decide +kernel) (by kernel_rfl) ?_ | refine w_loadR M 15 _ _ rfl rfl hx rfl (by decide +kernel) (by kernel_rfl) ?_ | refine w_loadR M 12 _ _ rfl rfl hx rfl (by decide +kernel) (by kernel_rfl) ?_ | refine w_loadR M 9 _ _ rfl rfl hx rfl (by decide +kernel) (by kernel_rfl) ?_ | refine w_loadR M 6 _ _ rfl rfl hx rfl (by decide +kernel) (by kernel_rfl) ?_ | refine w_loadR M 4 _ _ rfl rfl hx rfl (by decide +kernel) (by kernel_rfl) ?_ | refine w_loadR M 2 _ _ rfl rfl hx rfl (by decide +kernel) (by kernel_rfl) ?_ | refine w_loadR M 0 _ _ rfl rfl hx rfl (by decide +kernel) (by kernel_rfl) ?_); clear hx)) | ((with_reducible refine tGuard ?_); refine gdS ?_) | fail | ((with_reducible refine tLoad ?_); go_must (refine ldS ?_)) | ((with_reducible refine tStore ?_); go_must (refine stS ?_; clear M; intro w1 M; (try simp only [setC] at M))) | ((with_reducible refine tBox _ ?_); (refine bxA M ?_; clear M; intro g w1 M))) <;> (try conv => arg 5; simp only [Act.put, List.setIfInBounds_toArray, setC]))
    go_ret2
    have own : ∀ (i : Nat) (g : Nat) (cs : List Value), _ → w.heap.size ≤ g := fun i g cs h => (M.own i (.row g cs) h g (by simp [Chunk.fp])).resolve_left (by simp)
    exact ⟨fun q => match q with | .e => e1 | .a => a1 | .o => o1 | .p => p1 | .v => v1 | .i => i1, fun q => match q with | .e => e2 | .a => a2 | .o => o2 | .p => p2 | .v => v2 | .i => i2, fun q => match q with | .r => r1 | .lf => l1 | .rt => t1, none, 0, rfl, M.below, ⟨fun q => by cases q <;> first | exact ⟨M.ok 23 _ rfl, own 23 _ _ rfl⟩ | exact ⟨M.ok 20 _ rfl, own 20 _ _ rfl⟩ | exact ⟨M.ok 17 _ rfl, own 17 _ _ rfl⟩ | exact ⟨M.ok 14 _ rfl, own 14 _ _ rfl⟩ | exact ⟨M.ok 11 _ rfl, own 11 _ _ rfl⟩ | exact ⟨M.ok 8 _ rfl, own 8 _ _ rfl⟩, fun q => by cases q <;> first | exact ⟨M.ok 22 _ rfl, own 22 _ _ rfl⟩ | exact ⟨M.ok 19 _ rfl, own 19 _ _ rfl⟩ | exact ⟨M.ok 16 _ rfl, own 16 _ _ rfl⟩ | exact ⟨M.ok 13 _ rfl, own 13 _ _ rfl⟩ | exact ⟨M.ok 10 _ rfl, own 10 _ _ rfl⟩ | exact ⟨M.ok 7 _ rfl, own 7 _ _ rfl⟩, fun q => by cases q <;> first | exact ⟨M.ok 5 _ rfl, own 5 _ _ rfl⟩ | exact ⟨M.ok 3 _ rfl, own 3 _ _ rfl⟩ | exact ⟨M.ok 1 _ rfl, own 1 _ _ rfl⟩⟩, seesL_nil _ _ (fdV_len _ _ _) _, fun g h => by cases h⟩
end Go.Proofs.YtidadhbaomieiaaGreat

/- Layer 18's fields that are read, each under one form. Conditions: lengths. -/
namespace Go
namespace TL
open Go.RowKit
/-- The reader, the message, its operations and its pairs. -/
def msK (gi gm : Nat) (x : InS) (L : Lm) (ov pv : Value) : List Chunk := [.row gi (inV x), .row gm (msgC (L.ms ov pv)), .sl 3 ov L.ops.length (L.ops.flatMap opV), .sl 2 pv L.prs.length (L.prs.flatMap prV)]
/-- What a field that is read hands on. -/
def GetP (gi gm : Nat) (F : List Nat) (w : World) (t : Nat × Lm × InS) (e : Ending) (w' : World) : Prop := e = .returned (.int .i64 t.1) ∧ ∃ ov pv, Mem F w w' (msK gi gm t.2.2 t.2.1 ov pv)
theorem Mem.apart {F : List Nat} {w0 w : World} {L : List Chunk} (M : Mem F w0 w L) {b : Nat} (hb : b < w0.heap.size) (hF : b ∉ F) {i : Nat} {c : Chunk} (hc : L[i]? = some c) : b ∉ c.fp := fun h => by
  rcases M.own i c hc b h with h | h
  · exact hF h
  · omega
theorem Mem.aparts {F : List Nat} {w0 w : World} {L : List Chunk} (M : Mem F w0 w L) {b : Nat} (hb : b < w0.heap.size) (hF : b ∉ F) : b ∉ L.flatMap Chunk.fp := fun h => by
  obtain ⟨c, hc, h⟩ := List.mem_flatMap.1 h
  obtain ⟨i, hi⟩ := List.mem_iff_getElem?.1 hc
  exact M.apart hb hF hi h
theorem Mem.again0 {F : List Nat} {w0 w : World} {K : List Chunk} (M : Mem F w0 w K) : Mem (K.flatMap Chunk.fp) w w K := Mem.again (L := []) (by rw [List.append_nil]; exact M)
theorem Mem.turn0 {F : List Nat} {w0 w w' : World} {K K' : List Chunk} (M : Mem F w0 w K) (U : Mem (K.flatMap Chunk.fp) w w' K') : Mem F w0 w' K' := by
  have := Mem.turn (L := []) (by rw [List.append_nil]; exact M) U
  rwa [List.append_nil] at this
theorem row_lt {w : World} {g : Nat} {cs : List Value} (h : (Chunk.row g cs).ok w) : g < w.heap.size := h.1
theorem sl_fit {L : Lm} (hL : L.fit) {gi gm : Nat} {x : InS} {ov pv : Value} {F : List Nat} {w0 w : World} (M : Mem F w0 w (msK gi gm x L ov pv)) : (L.ms ov pv).fit := by
  obtain ⟨op, oc, rfl⟩ := sl_form (M.ok 2 _ rfl)
  obtain ⟨pp, pc, rfl⟩ := sl_form (M.ok 3 _ rfl)
  exact Lm.ms_fit hL rfl rfl
theorem Fld.get_prs {L : Lm} {x : InS} (f : Fld) : (f.get L x).2.1.prs.length ≤ L.prs.length + 48 := by
  cases f with
  | num q =>
    have : (q.sl L ((x.most q.most).1 : Int)).prs = L.prs := by cases q <;> rfl
    show (q.sl L ((x.most q.most).1 : Int)).prs.length ≤ _
    rw [this]; omega
  | hash q =>
    simp only [Fld.get]
    generalize hashS (q.gl L) x 32 = z
    have : (q.sl L z.2).prs = L.prs := by cases q <;> rfl
    rw [this]; omega
  | bat =>
    simp only [Fld.get]
    split
    · exact Nat.le_add_right _ _
    · exact Nat.le_add_right _ _
  | prs =>
    have h := InS.most_le x 48
    simp only [Fld.get]
    generalize x.most 48 = z at h ⊢
    rw [List.length_append, prS_len]; omega
end TL
end Go
namespace Go.Proofs.YtidadhbaomieiaaGreat
open Go.RowKit Go.TL
section
variable (L : Lm) (ov pv : Value) (gm gi : Nat) (x : InS) (F : List Nat) (w : World) (hL : L.fit) (hf : x.fit) (M : Mem F w w (msK gi gm x L ov pv))
include hL hf M
theorem numGetP (q : Mf) (g1 g2 : Nat) (B1 : (Chunk.row g1 [.int .i64 (q.most : Int)]).ok w) (B2 : (Chunk.row g2 [.func (.func (mfFn q)) #[] #[]]).ok w) (n1 : g1 ∉ F) (n2 : g2 ∉ F) :
    Calls Tryz.prog 165 #[.pointer (some ⟨gi, 0, none⟩), .pointer (some ⟨gm, 0, none⟩), .pointer (some ⟨g1, 0, none⟩), .pointer (some ⟨g2, 0, none⟩)] w (GetP gi gm F w ((Fld.num q).get L x)) := by
  have hm := sl_fit hL M
  have A := Mem.again (K := [.row gi (inV x), .row gm (msgC (L.ms ov pv))]) (L := [.sl 3 ov L.ops.length (L.ops.flatMap opV), .sl 2 pv L.prs.length (L.prs.flatMap prV)]) M
  have ap : ∀ b, b < w.heap.size → b ∉ F → b ∉ [Chunk.row gi (inV x), .row gm (msgC (L.ms ov pv))].flatMap Chunk.fp := fun b hb hF h => by
    refine M.aparts hb hF ?_
    simp only [msK, List.flatMap_cons, List.flatMap_nil, List.mem_append, List.not_mem_nil, or_false] at h ⊢
    rcases h with h | h
    · exact .inl h
    · exact .inr (.inl h)
  have hq := q.most_le
  refine (numGet_c q q.most gm g1 g2 gi (L.ms ov pv) x _ w hm hf (by omega) A B1 B2 (ap _ B1.1 n1) (ap _ B2.1 n2)).mono ?_
  rintro e w' ⟨rfl, U⟩
  refine ⟨rfl, ov, pv, ?_⟩
  have T := Mem.turn (L := [.sl 3 ov L.ops.length (L.ops.flatMap opV), .sl 2 pv L.prs.length (L.prs.flatMap prV)]) M U
  rw [Mf.set_ms] at T
  simp only [Fld.get]
  cases q <;> exact T
theorem hashGetP (q : Hf) (g1 : Nat) (B1 : (Chunk.row g1 [.func (.func (hfFn q)) #[] #[]]).ok w) (n1 : g1 ∉ F) :
    Calls Tryz.prog 167 #[.pointer (some ⟨gi, 0, none⟩), .pointer (some ⟨gm, 0, none⟩), .pointer (some ⟨g1, 0, none⟩)] w (GetP gi gm F w ((Fld.hash q).get L x)) := by
  have hm := sl_fit hL M
  have A := Mem.again (K := [.row gi (inV x), .row gm (msgC (L.ms ov pv))]) (L := [.sl 3 ov L.ops.length (L.ops.flatMap opV), .sl 2 pv L.prs.length (L.prs.flatMap prV)]) M
  have ap : ∀ b, b < w.heap.size → b ∉ F → b ∉ [Chunk.row gi (inV x), .row gm (msgC (L.ms ov pv))].flatMap Chunk.fp := fun b hb hF h => by
    refine M.aparts hb hF ?_
    simp only [msK, List.flatMap_cons, List.flatMap_nil, List.mem_append, List.not_mem_nil, or_false] at h ⊢
    rcases h with h | h
    · exact .inl h
    · exact .inr (.inl h)
  have C := hashGet_c q gm g1 gi (L.ms ov pv) x _ w hm hf A B1 (ap _ B1.1 n1)
  simp only [Fld.get]
  rw [Hf.get_ms] at C
  generalize hashS (q.gl L) x 32 = z at C ⊢
  rw [Hf.set_ms] at C
  refine C.mono ?_
  rintro e w' ⟨rfl, U⟩
  refine ⟨rfl, ov, pv, ?_⟩
  have T := Mem.turn (L := [.sl 3 ov L.ops.length (L.ops.flatMap opV), .sl 2 pv L.prs.length (L.prs.flatMap prV)]) M U
  cases q <;> exact T
theorem batGetP : Calls Tryz.prog 134 #[.pointer (some ⟨gi, 0, none⟩), .pointer (some ⟨gm, 0, none⟩)] w (GetP gi gm F w (Fld.bat.get L x)) :=
  (getBatch_c L ov pv gm gi x F w hL hf M).mono fun _ _ ⟨h, ov', U⟩ => ⟨h, ov', pv, U⟩
theorem prsGetP (hp : L.prs.length ≤ 1000) : Calls Tryz.prog 136 #[.pointer (some ⟨gi, 0, none⟩), .pointer (some ⟨gm, 0, none⟩)] w (GetP gi gm F w (Fld.prs.get L x)) :=
  (getPairs_c L ov pv gm gi x F w hL hf hp M).mono fun _ _ ⟨h, pv', U⟩ => ⟨h, ov, pv', U⟩
end
end Go.Proofs.YtidadhbaomieiaaGreat

/- The walk of msg.Read. Conditions: lengths. -/
namespace Go
namespace TL
open Go.RowKit
theorem readM_err {s : List UInt8} {kb : UInt8} {y : InS} (h : (inStart s).byte = (kb.toNat, y)) (hy : y.err ≠ 0) : readM s = (zeroL, y.err) := by
  unfold readM; rw [h]; simp only; rw [if_neg hy]
theorem readM_kind {s : List UInt8} {kb : UInt8} {y : InS} (h : (inStart s).byte = (kb.toNat, y)) (hy : y.err = 0) (hk : isK kb = false) : readM s = (zeroL, 10) := by
  unfold readM; rw [h]; simp only [UInt8.ofNat_toNat]; rw [if_pos hy, if_neg (by rw [hk]; decide)]
theorem readM_run {s : List UInt8} {kb : UInt8} {y : InS} (h : (inStart s).byte = (kb.toNat, y)) (hy : y.err = 0) (hk : isK kb = true) (r : Nat) (L : Lm) (x : InS) (hr : runF (fdsL kb) (kindL kb) y = (r, L, x)) :
    readM s = if r = 0 then (if x.fin = 0 then (L, 0) else (zeroL, x.fin)) else (zeroL, r) := by
  unfold readM; rw [h]; simp only [UInt8.ofNat_toNat]; rw [if_pos hy, if_pos hk, hr]
theorem runF_nil (L : Lm) (x : InS) : runF [] L x = (0, L, x) := rfl
theorem runF_go {f : Fld} {l : List Fld} {L : Lm} {x : InS} {r : Nat} {L' : Lm} {x' : InS} (h : f.get L x = (r, L', x')) (h0 : r = 0) (h1 : x'.err = 0) : runF (f :: l) L x = runF l L' x' := by
  rw [runF, h, Fld.say]; simp only; rw [if_pos h1, if_pos h0]
theorem runF_say {f : Fld} {l : List Fld} {L : Lm} {x : InS} {r : Nat} {L' : Lm} {x' : InS} (h : f.get L x = (r, L', x')) (h0 : r ≠ 0) (h1 : x'.err = 0) : runF (f :: l) L x = (r, L', x') := by
  rw [runF, h, Fld.say]; simp only; rw [if_pos h1, if_neg h0]
theorem runF_err {f : Fld} {l : List Fld} {L : Lm} {x : InS} {r : Nat} {L' : Lm} {x' : InS} (h : f.get L x = (r, L', x')) (h1 : x'.err ≠ 0) : runF (f :: l) L x = (x'.err, L', x') := by
  rw [runF, h, Fld.say]; simp only; rw [if_neg h1, if_neg h1]
/-- What msg.Read hands on. -/
def GivesM (t : Lm × Nat) (w : World) (e : Ending) (w' : World) : Prop := ∃ ov pv, e = .returned (.tuple #[.agg (msgC (t.1.ms ov pv)).toArray, .int .i64 t.2]) ∧ Mem [] w w' [.sl 3 ov t.1.ops.length (t.1.ops.flatMap opV), .sl 2 pv t.1.prs.length (t.1.prs.flatMap prV)]
theorem GivesM.zero {w w' : World} {r : Nat} {L : List Chunk} (M : Mem [] w w' L) : GivesM (zeroL, r) w (.returned (.tuple #[.agg (msgC zeroM).toArray, .int .i64 r])) w' :=
  ⟨.slice none 0 0, .slice none 0 0, rfl, ((M.nil 2).nil 3).sel [0, 1] _ (by decide) rfl⟩
theorem zeroM_len : (msgC zeroM).length = 107 := msgC_len zeroM_fit
end TL
end Go
namespace Go.Proofs.YtidadhbaomieiaaGreat
open Go.RowKit Go.TL
theorem fdV_num (b1 b2 : Mf → Nat) (b3 : Hf → Nat) (q : Mf) : fdV b1 b2 b3 (.num q) = [.func (.func 164) #[] #[.pointer (some ⟨b2 q, 0, none⟩), .pointer (some ⟨b1 q, 0, none⟩)], .func (.func 165) #[] #[.pointer (some ⟨b1 q, 0, none⟩), .pointer (some ⟨b2 q, 0, none⟩)]] := rfl
theorem fdV_hash (b1 b2 : Mf → Nat) (b3 : Hf → Nat) (q : Hf) : fdV b1 b2 b3 (.hash q) = [.func (.func 166) #[] #[.pointer (some ⟨b3 q, 0, none⟩)], .func (.func 167) #[] #[.pointer (some ⟨b3 q, 0, none⟩)]] := rfl
theorem fdV_bat (b1 b2 : Mf → Nat) (b3 : Hf → Nat) : fdV b1 b2 b3 .bat = [.func (.func 133) #[] #[], .func (.func 134) #[] #[]] := rfl
theorem fdV_prs (b1 b2 : Mf → Nat) (b3 : Hf → Nat) : fdV b1 b2 b3 .prs = [.func (.func 135) #[] #[], .func (.func 136) #[] #[]] := rfl
/-- The function that reads a field, and its variables. -/
def getN : Fld → Nat
  | .num _ => 165 | .hash _ => 167 | .bat => 134 | .prs => 136
def getA (b1 b2 : Mf → Nat) (b3 : Hf → Nat) : Fld → List Value
  | .num q => [.pointer (some ⟨b1 q, 0, none⟩), .pointer (some ⟨b2 q, 0, none⟩)] | .hash q => [.pointer (some ⟨b3 q, 0, none⟩)] | _ => []
/-- A field is read, among what else there is. -/
theorem get_all {n : Nat} {w5 : World} {b1 b2 : Mf → Nat} {b3 : Hf → Nat} (BX : Boxes b1 b2 b3 n w5) {F : List Nat} (hF : ∀ b, n ≤ b → b ∉ F) {L : Lm} {x : InS} (hL : L.fit) (hf : x.fit) (hp : L.prs.length ≤ 1000) (gi gm : Nat) (ov pv : Value) (R : List Chunk) (f : Fld) (w : World) (M : Mem F w5 w (msK gi gm x L ov pv ++ R)) :
    Calls Tryz.prog (getN f) (.pointer (some ⟨gi, 0, none⟩) :: .pointer (some ⟨gm, 0, none⟩) :: getA b1 b2 b3 f).toArray w fun e w' => e = .returned (.int .i64 (f.get L x).1) ∧ ∃ ov' pv', Mem F w5 w' (msK gi gm (f.get L x).2.2 (f.get L x).2.1 ov' pv' ++ R) := by
  have N := Mem.again M
  have ap : ∀ b, b < w5.heap.size → n ≤ b → b ∉ (msK gi gm x L ov pv).flatMap Chunk.fp := fun b hb hn h => by
    refine M.aparts hb (hF b hn) ?_
    rw [List.flatMap_append]
    exact List.mem_append_left _ h
  have st : ∀ (b : Nat) (cs : List Value), (Chunk.row b cs).ok w5 → n ≤ b → (Chunk.row b cs).ok w := fun b cs h hn => M.staysF h fun k hk => by
    simp only [Chunk.fp, List.mem_singleton] at hk; subst hk; exact hF _ hn
  cases f with
  | num q => exact (numGetP L ov pv gm gi x _ w hL hf N q (b1 q) (b2 q) (st _ _ (BX.m q).1 (BX.m q).2) (st _ _ (BX.f q).1 (BX.f q).2) (ap _ (BX.m q).1.1 (BX.m q).2) (ap _ (BX.f q).1.1 (BX.f q).2)).mono fun e w' ⟨h, ov', pv', U⟩ => ⟨h, ov', pv', Mem.turn M U⟩
  | hash q => exact (hashGetP L ov pv gm gi x _ w hL hf N q (b3 q) (st _ _ (BX.h q).1 (BX.h q).2) (ap _ (BX.h q).1.1 (BX.h q).2)).mono fun e w' ⟨h, ov', pv', U⟩ => ⟨h, ov', pv', Mem.turn M U⟩
  | bat => exact (batGetP L ov pv gm gi x _ w hL hf N).mono fun e w' ⟨h, ov', pv', U⟩ => ⟨h, ov', pv', Mem.turn M U⟩
  | prs => exact (prsGetP L ov pv gm gi x _ w hL hf N hp).mono fun e w' ⟨h, ov', pv', U⟩ => ⟨h, ov', pv', Mem.turn M U⟩
end Go.Proofs.YtidadhbaomieiaaGreat

/- Layer 18's fields that are written, under one form. Conditions: lengths; the numbers are int's. -/
namespace Go
namespace TL
open Go.RowKit
/-- A message's numbers are int's, and its texts are no longer than what statements go through. -/
structure Lm.rng (L : Lm) : Prop where
  num : ∀ q : Mf, -9223372036854775808 ≤ q.gl L ∧ q.gl L ≤ 9223372036854775807
  be : L.be ≤ 9223372036854775807
  o1 : L.ops.length ≤ 1000
  o2 : ∀ x ∈ L.ops, x.2.1.length ≤ 100000 ∧ x.2.2.length ≤ 100000
  p1 : L.prs.length ≤ 1000
  p2 : ∀ x ∈ L.prs, x.1.length ≤ 100000 ∧ x.2.length ≤ 100000
  p3 : (L.prs.flatMap prBm).length ≤ 100000
theorem SeesL.old {α : Type} {w : World} {size : Nat} {f : α → List Value} {v : Value} {l : List α} (S : SeesL w size f v l) : ∀ k, v.ownBlock = some k → k < w.heap.size := fun k hk => by
  rcases S.sees.2 with ⟨rfl, _⟩ | ⟨g, so, c, rfl, hlt, _⟩
  · cases hk
  · cases hk; exact hlt
theorem Fld.put_len {L : Lm} (h : L.rng) (hL : L.fit) (f : Fld) : (f.put L).length ≤ 100100 := by
  cases f with
  | num q =>
    have := numL_length_le (q.gl L).toNat (by have := (h.num q).2; omega)
    simp only [Fld.put]; omega
  | hash q =>
    have := q.gl_len hL
    simp only [Fld.put]; omega
  | bat =>
    have h1 := bytesB_len (i := L.bi) h.be L.ops
    have h2 := numL_length_le (bytesB L.bi L.be L.ops).1.length (by omega)
    simp only [Fld.put, textL, List.length_append]; omega
  | prs =>
    have h1 := h.p3
    have h2 := numL_length_le L.prs.length (by have := h.p1; omega)
    simp only [Fld.put, List.length_append]; omega
end TL
end Go
namespace Go.Proofs.YtidadhbaomieiaaGreat
open Go.RowKit Go.TL
/-- The function that writes a field, and its variables. -/
def putN : Fld → Nat
  | .num _ => 164 | .hash _ => 166 | .bat => 133 | .prs => 135
def putA (b1 b2 : Mf → Nat) (b3 : Hf → Nat) : Fld → List Value
  | .num q => [.pointer (some ⟨b2 q, 0, none⟩), .pointer (some ⟨b1 q, 0, none⟩)] | .hash q => [.pointer (some ⟨b3 q, 0, none⟩)] | _ => []
/-- A field is written, among what else there is. -/
theorem put_all {n : Nat} {w5 : World} {b1 b2 : Mf → Nat} {b3 : Hf → Nat} (BX : Boxes b1 b2 b3 n w5) {F : List Nat} (hF : ∀ b, n ≤ b → b ∉ F) {L : Lm} (hL : L.fit) (hr : L.rng) (go gm : Nat) {ov pv : Value} (S : SeesL w5 3 opV ov L.ops) (T : SeesL w5 2 prV pv L.prs)
    (hS : ∀ k, ov.ownBlock = some k → k ∉ F) (hT : ∀ k, pv.ownBlock = some k → k ∉ F) (R : List Chunk) (f : Fld) (v : Value) (l : List UInt8) (hl : l.length ≤ 700000) (w : World) (M : Mem F w5 w (outC go v l :: .row gm (msgC (L.ms ov pv)) :: R)) :
    Calls Tryz.prog (putN f) (.pointer (some ⟨go, 0, none⟩) :: .pointer (some ⟨gm, 0, none⟩) :: putA b1 b2 b3 f).toArray w fun e w' => ∃ v' l', e = .returned (.bool (f.ok L)) ∧ (f.ok L = true → l' = l ++ f.put L) ∧ Mem F w5 w' (outC go v' l' :: .row gm (msgC (L.ms ov pv)) :: R) := by
  obtain ⟨op, oc, rfl, _⟩ := S.form
  obtain ⟨pp, pc, rfl, _⟩ := T.form
  have hm : (L.ms (.slice op L.ops.length oc) (.slice pp L.prs.length pc)).fit := Lm.ms_fit hL rfl rfl
  have ap : ∀ b, b < w5.heap.size → n ≤ b → b ∉ (outC go v l).fp := fun b hb hn => M.apart hb (hF b hn) (i := 0) rfl
  have st : ∀ (b : Nat) (cs : List Value), (Chunk.row b cs).ok w5 → n ≤ b → (Chunk.row b cs).ok w := fun b cs h hn => M.staysF h fun k hk => by
    simp only [Chunk.fp, List.mem_singleton] at hk; subst hk; exact hF _ hn
  have n0 : gm ∉ (outC go v l).fp := fun h => M.nd 0 1 _ _ (by decide) rfl rfl gm h (by simp [Chunk.fp])
  have R0 := M.ok 1 _ rfl
  have ho := M.ok 0 _ rfl
  cases f with
  | num q =>
    have hq := q.most_le
    have hn := hr.num q
    by_cases h0 : 0 ≤ q.gl L
    · refine (numPut_c q (q.most : Int) gm (b1 q) (b2 q) go _ v l w hm (by rw [Mf.get_ms]; exact ⟨h0, hn.2⟩) (by omega) ho R0 (st _ _ (BX.m q).1 (BX.m q).2) (st _ _ (BX.f q).1 (BX.f q).2) n0 (ap _ (BX.m q).1.1 (BX.m q).2) (ap _ (BX.f q).1.1 (BX.f q).2)).mono ?_
      rintro e w' ⟨rfl, v', U⟩
      rw [Mf.get_ms] at U ⊢
      refine ⟨v', _, ?_, fun _ => rfl, M.upd 0 rfl U⟩
      simp only [Fld.ok]
      congr 2
      by_cases h : q.gl L ≤ (q.most : Int)
      · rw [decide_eq_true h, decide_eq_true ⟨h0, h⟩]
      · rw [decide_eq_false h, decide_eq_false (fun hh => h hh.2)]
    · refine (numPutN_c q (q.most : Int) gm (b1 q) (b2 q) go _ v l w hm (by rw [Mf.get_ms]; exact ⟨hn.1, by omega⟩) (by omega) ho R0 (st _ _ (BX.f q).1 (BX.f q).2) n0 (ap _ (BX.f q).1.1 (BX.f q).2)).mono ?_
      rintro e w' ⟨rfl, v', l', U⟩
      have hk : (Fld.num q).ok L = false := by simp only [Fld.ok]; exact decide_eq_false (fun hh => h0 hh.1)
      rw [hk]
      exact ⟨v', l', rfl, fun h => (by cases h), M.upd 0 rfl U⟩
  | hash q =>
    refine (hashPut_c q gm (b3 q) go _ v l w hm (by omega) ho R0 (st _ _ (BX.h q).1 (BX.h q).2) n0 (ap _ (BX.h q).1.1 (BX.h q).2)).mono ?_
    rintro e w' ⟨rfl, v', U⟩
    rw [Hf.get_ms] at U
    exact ⟨v', _, rfl, fun _ => rfl, M.upd 0 rfl U⟩
  | bat =>
    refine (putBatch_c L _ _ gm go v l w hm hr.be (by omega) ho R0 n0 (S.nowF M hS) hr.o1 (fun x hx => by have := hr.o2 x hx; omega)).mono ?_
    rintro e w' ⟨rfl, v', U⟩
    exact ⟨v', _, rfl, fun _ => rfl, M.upd 0 rfl U⟩
  | prs =>
    refine (putPairs_c L _ _ gm go v l w hm hl ho R0 n0 (T.nowF M hT) (fun k hk => M.apart (T.old k hk) (hT k hk) (i := 0) rfl) hr.p1 hr.p2 hr.p3).mono ?_
    rintro e w' ⟨rfl, v', U⟩
    exact ⟨v', _, rfl, fun _ => rfl, M.upd 0 rfl U⟩
end Go.Proofs.YtidadhbaomieiaaGreat

/- The walk of msg.Read. Conditions: lengths. -/
namespace Go.Proofs.YtidadhbaomieiaaGreat
open Go.RowKit Go.TL
set_option maxRecDepth 100000 in
set_option maxHeartbeats 16000000 in
theorem Read_c (s : List UInt8) (w : World) (hs : s.length ≤ 1000000) : Calls Tryz.prog 53 #[.string (mkS s)] w (GivesM (readM s) w) := by
  have M := Mem.start [] w
  have hst : (inStart s).fit := by unfold inStart InS.fit; simp; omega
  obtain ⟨kb, hkb⟩ := byte_some (inStart s)
  have hfy := InS.byte_fit hst
  have YC := fun g w h => In_Byte_c g (inStart s) w h hst
  obtain ⟨y, ey⟩ : ∃ y, y = (inStart s).byte.2 := ⟨_, rfl⟩
  have hb : (inStart s).byte = (kb.toNat, y) := by rw [ey, ← hkb]
  rw [hkb, ← I8_eq, ← ey] at YC
  rw [← ey] at hfy
  have R1 := readM_err hb
  have R2 := readM_kind hb
  have R3 := readM_run hb
  obtain ⟨A, eA⟩ : ∃ A, A = readM s := ⟨_, rfl⟩
  rw [← eA] at R1 R2 R3 ⊢
  clear ey hb eA hkb
  replace R3 := Lib.hid R3
  replace YC := Lib.hid YC
  have hzk := kindM_fit kb
  by_cases hy : y.err = 0
  · have HY := Lib.hid hy
    have FC := fun w => fields_c kb w
    unfold Fields at FC
    cases hk : isK kb with
    | false =>
      have e0 := R2 hy hk
      subst e0
      rw [hk] at FC
      replace FC := Lib.hid FC
      clear R1 R2 R3 hk hy
      go_enter Tryz.func53, Tryz.ntmps53
      go_wp2_with ((first | ((with_reducible refine tAlloc (some 2) 67 ?_); refine w_alloc M _ rfl rfl (.agg (msgC zeroM).toArray) (msgC zeroM) (by kernel_rfl) rfl ?_; clear M; intro gr w1 M) | ((with_reducible refine tAlloc (some 5) 67 ?_); refine w_alloc M _ rfl rfl (.agg (msgC zeroM).toArray) (msgC zeroM) (by kernel_rfl) rfl ?_; clear M; intro gm w1 M) | (go_at_call 57; go_must (refine (packOf_c _ _).mono ?_; rintro e w1 ⟨gi, rfl, MP⟩; replace M := M.join MP; clear MP; simp only [List.cons_append, List.nil_append] at M)) | (go_at_call 61; go_must (refine (YC.out gi _ (M.ok 0 _ rfl)).mono ?_; rintro r w2 ⟨rfl, U⟩; replace M := M.upd 0 rfl U; clear U; simp only [setC] at M)) | (go_at_call 92; go_must (refine (Fault_ok gi y _ (M.ok 1 _ rfl) HY.out).mono ?_; rintro e w1 ⟨rfl, rfl⟩)) | (go_at_call 90; go_must (have hgm := (M.ok 0 _ rfl).1; have hgi := (M.ok 1 _ rfl).1; have hgr := (M.ok 2 _ rfl).1; refine (FC.out _).mono ?_; rintro e w5 ⟨b1, b2, b3, p, c, rfl, hbl, BX, SF, hso⟩; replace M := M.call hbl; clear hbl)) | ((with_reducible show wpList _ _ _ (Oper.mk _ (Op.load 5 _) _ _ _ _ :: _) _ _); refine w_at _ _ rfl (by exact ev_tmp rfl) ?_; intro hx; refine w_load M 0 _ _ rfl rfl hx rfl (by decide +kernel) (show (msgC (kindM kb))[0]? = some (.int .u8 (I8 kb)) from rfl) ?_; clear hx) | ((with_reducible refine tStore ?_); refine w_at2 _ _ _ rfl (by exact ev_tmp rfl) (by first | exact ev_tmp rfl | exact ev_const) ?_; intro hx hy; (first | refine w_storeMs (m := kindM kb) M 0 _ _ _ rfl rfl hx rfl hy rfl (by kernel_rfl) hzk zeroM_fit ?_ | refine w_storeMs (m := zeroM) M 2 _ _ _ rfl rfl hx rfl hy rfl (by kernel_rfl) zeroM_fit zeroM_fit ?_); clear hx hy M; intro w1 M; (try simp only [setC] at M)) | ((with_reducible refine tGuard ?_); refine gdS ?_) | fail | ((with_reducible refine tLoad ?_); go_must (refine ldS ?_)) | ((with_reducible refine tStore ?_); go_must (refine stS ?_; clear M; intro w1 M; (try simp only [setC] at M))) | ((with_reducible refine tBox _ ?_); (refine bxA M ?_; clear M; intro g w1 M))) <;> (try conv => arg 5; simp only [Act.put, List.setIfInBounds_toArray, setC]))
      exact bodyPost_ret (results_row2 rfl _ _ gr 0 (msgC zeroM) _ (.int .i64 ((10 : Nat) : Int)) rfl rfl (M.ok 2 _ rfl).2.1 Tryz.underlying67 rfl (by rw [zeroM_len]; kernel_rfl)) rfl (GivesM.zero M)
    | true =>
      have hn6 := fds_len kb
      replace R3 := R3.out hy hk
      rw [hk] at FC
      obtain ⟨l, el⟩ : ∃ l, l = fdsL kb := ⟨_, rfl⟩
      rw [← el] at FC R3 hn6
      replace R3 := Lib.hid R3
      replace FC := Lib.hid FC
      clear R1 R2 hk hy el
      go_enter Tryz.func53, Tryz.ntmps53
      go_wp2_with ((first | ((with_reducible refine tAlloc (some 2) 67 ?_); refine w_alloc M _ rfl rfl (.agg (msgC zeroM).toArray) (msgC zeroM) (by kernel_rfl) rfl ?_; clear M; intro gr w1 M) | ((with_reducible refine tAlloc (some 5) 67 ?_); refine w_alloc M _ rfl rfl (.agg (msgC zeroM).toArray) (msgC zeroM) (by kernel_rfl) rfl ?_; clear M; intro gm w1 M) | (go_at_call 57; go_must (refine (packOf_c _ _).mono ?_; rintro e w1 ⟨gi, rfl, MP⟩; replace M := M.join MP; clear MP; simp only [List.cons_append, List.nil_append] at M)) | (go_at_call 61; go_must (refine (YC.out gi _ (M.ok 0 _ rfl)).mono ?_; rintro r w2 ⟨rfl, U⟩; replace M := M.upd 0 rfl U; clear U; simp only [setC] at M)) | (go_at_call 92; go_must (refine (Fault_ok gi y _ (M.ok 1 _ rfl) HY.out).mono ?_; rintro e w1 ⟨rfl, rfl⟩)) | (go_at_call 90; go_must (have hgm := (M.ok 0 _ rfl).1; have hgi := (M.ok 1 _ rfl).1; have hgr := (M.ok 2 _ rfl).1; refine (FC.out _).mono ?_; rintro e w5 ⟨b1, b2, b3, p, c, rfl, hbl, BX, SF, hso⟩; replace M := M.call hbl; clear hbl)) | ((with_reducible show wpList _ _ _ (Oper.mk _ (Op.load 5 _) _ _ _ _ :: _) _ _); refine w_at _ _ rfl (by exact ev_tmp rfl) ?_; intro hx; refine w_load M 0 _ _ rfl rfl hx rfl (by decide +kernel) (show (msgC (kindM kb))[0]? = some (.int .u8 (I8 kb)) from rfl) ?_; clear hx) | ((with_reducible refine tStore ?_); refine w_at2 _ _ _ rfl (by exact ev_tmp rfl) (by first | exact ev_tmp rfl | exact ev_const) ?_; intro hx hy; (first | refine w_storeMs (m := kindM kb) M 0 _ _ _ rfl rfl hx rfl hy rfl (by kernel_rfl) hzk zeroM_fit ?_ | refine w_storeMs (m := zeroM) M 2 _ _ _ rfl rfl hx rfl hy rfl (by kernel_rfl) zeroM_fit zeroM_fit ?_); clear hx hy M; intro w1 M; (try simp only [setC] at M)) | ((with_reducible refine tGuard ?_); refine gdS ?_) | fail | ((with_reducible refine tLoad ?_); go_must (refine ldS ?_)) | ((with_reducible refine tStore ?_); go_must (refine stS ?_; clear M; intro w1 M; (try simp only [setC] at M))) | ((with_reducible refine tBox _ ?_); (refine bxA M ?_; clear M; intro g w1 M))) <;> (try conv => arg 5; simp only [Act.put, List.setIfInBounds_toArray, setC]))
      obtain ⟨n, hgm, hgi, hgr, BX, hso⟩ : ∃ n, gm < n ∧ gi < n ∧ gr < n ∧ Boxes b1 b2 b3 n w5 ∧ ∀ g, (Value.slice p l.length c).ownBlock = some g → n ≤ g := ⟨_, hgm, hgi, hgr, BX, hso⟩
      have MO : Mem [] w w5 (msK gi gm y (kindL kb) (.slice none 0 0) (.slice none 0 0) ++ [Chunk.row gr (msgC zeroM)]) := ((M.nil 2).nil 3).sel [3, 2, 0, 1, 4] _ (by decide) rfl
      clear M
      have M := MO.again0
      have hF : ∀ b, n ≤ b → b ∉ (msK gi gm y (kindL kb) (.slice none 0 0) (.slice none 0 0) ++ [Chunk.row gr (msgC zeroM)]).flatMap Chunk.fp := fun b hb h => by
        simp [msK, Chunk.fp, Value.ownBlock] at h
        omega
      have TR : ∀ (w' : World) (K : List Chunk), Mem ((msK gi gm y (kindL kb) (.slice none 0 0) (.slice none 0 0) ++ [Chunk.row gr (msgC zeroM)]).flatMap Chunk.fp) w5 w' K → Mem [] w w' K := fun w' K U => MO.turn0 U
      obtain ⟨F, eF⟩ : ∃ F, F = (msK gi gm y (kindL kb) (.slice none 0 0) (.slice none 0 0) ++ [Chunk.row gr (msgC zeroM)]).flatMap Chunk.fp := ⟨_, rfl⟩
      rw [← eF] at M hF TR
      clear eF MO
      have hFo : ∀ g, (Value.slice p l.length c).ownBlock = some g → g ∉ F := fun g h => hF g (hso g h)
      have GG := fun (L : Lm) (x : InS) (hL : L.fit) (hf : x.fit) (hp : L.prs.length ≤ 1000) (ov pv : Value) (f : Fld) (w : World) M => get_all BX hF hL hf hp gi gm ov pv [Chunk.row gr (msgC zeroM)] f w M
      replace GG := Lib.hid GG
      replace TR := Lib.hid TR
      have hLk : (kindL kb).fit := kindL_fit kb
      obtain ⟨L0, eL0⟩ : ∃ L0, L0 = kindL kb := ⟨_, rfl⟩
      have hp0 : L0.prs.length = 0 := by rw [eL0]; rfl
      rw [← eL0] at M R3 hLk
      clear eL0 BX hso hgm hgi hgr hzk FC YC
      go_loopw [41] (fun iv wr => ∃ (j : Nat) (L : Lm) (x : InS) (ov pv : Value), j ≤ l.length ∧ iv = .int .i64 j ∧ L.fit ∧ x.fit ∧ L.prs.length ≤ 48 * j ∧ Hid (runF l L0 y = runF (l.drop j) L x) ∧ Mem F w5 wr (msK gi gm x L ov pv ++ [Chunk.row gr (msgC zeroM)])) (fun iv _ => l.length - (intOf iv).toNat)
      case atStart => exact ⟨0, L0, y, _, _, by omega, rfl, hLk, hfy, by omega, Lib.hid rfl, M⟩
      case round =>
        clear M
        obtain ⟨j, L, x, ov, pv, hj, rfl, hL, hf, hpl, HR, M⟩ := hrel
        by_cases hlt : j < l.length
        · obtain ⟨ga, so, rfl⟩ := SF.addr (by omega)
          obtain ⟨f, hx⟩ : ∃ f, l[j]? = some f := ⟨_, List.getElem?_eq_getElem hlt⟩
          have ED : l.drop j = f :: l.drop (j + 1) := by obtain ⟨h, rfl⟩ := List.getElem?_eq_some_iff.1 hx; exact List.drop_eq_getElem_cons h
          have HR' := HR.out
          rw [ED] at HR'
          clear HR ED
          have SF' := SF.nowF M hFo
          have HX := Lib.hid hx
          clear hx
          have hkt2 : decide ((j : Int) < (l.length : Int)) = true := decide_eq_true (by omega)
          obtain ⟨hL', hf'⟩ := Fld.get_fit hL hf f
          have hp' := Fld.get_prs (L := L) (x := x) f
          have G := fun w M => GG.out L x hL hf (by omega) ov pv f w M
          have GO := @runF_go f (l.drop (j + 1)) L x
          have GS := @runF_say f (l.drop (j + 1)) L x
          have GE := @runF_err f (l.drop (j + 1)) L x
          obtain ⟨⟨r, L', x'⟩, et⟩ : ∃ R, R = f.get L x := ⟨_, rfl⟩
          rw [← et] at hL' hf' hp' G GO GS GE
          simp only at hL' hf' hp' G
          replace GO := GO rfl
          replace GS := GS rfl
          replace GE := GE rfl
          rw [← HR'] at GO GS GE
          replace G := Lib.hid G
          clear et HR'
          by_cases hx' : x'.err = 0
          · have HX' := Lib.hid hx'
            by_cases hr : r = 0
            · subst hr
              have HN := Lib.hid fun _ : Unit => GO rfl hx'
              clear GO GS GE hx'
              cases f
              all_goals
                simp only [getN, getA] at G
                go_wp2_with ((first | ((with_reducible show wpList _ _ _ (Oper.mk _ (Op.load 175 _) _ _ _ _ :: _) _ _); go_must (refine w_at _ _ rfl (by exact ev_tmp rfl) ?_; intro hx; refine w_seeNA SF' HX.out _ _ rfl hx rfl (by decide +kernel) (by first | (with_reducible rfl) | omega) (by kernel_rfl) ?_; clear hx; (try conv => arg 5; simp only [Act.put, List.setIfInBounds_toArray, setC, fdV_num, fdV_hash, fdV_bat, fdV_prs]))) | ((with_reducible refine tAlloc (some 11) 175 ?_); refine w_alloc M _ rfl rfl (.agg #[.nilFunc, .nilFunc]) ([.nilFunc, .nilFunc]) (by kernel_rfl) rfl ?_; clear M; intro gz w1 M) | ((with_reducible show wpList _ _ _ (Oper.mk _ (Op.store 175 _ _) _ _ _ _ :: _) _ _); go_must (refine w_at2 _ _ _ rfl (by exact ev_tmp rfl) (by first | exact ev_tmp rfl | exact ev_const) ?_; intro hx hy; refine w_storeR M 0 _ _ _ rfl rfl hx rfl _ hy rfl (by kernel_rfl) (by simp [Value.oneCell']) rfl ?_; clear hx hy M; intro w1 M; (try simp only [setC] at M))) | ((first | go_at_call 165 | go_at_call 167 | go_at_call 134 | go_at_call 136); go_must (replace M := M.tail; refine (G.out _ M).mono ?_; rintro e w6 ⟨rfl, ov', pv', N⟩; clear M; have M := N; clear N)) | (go_at_call 92; go_must (refine (Fault_ok gi x' _ (M.ok 0 _ rfl) HX'.out).mono ?_; rintro e w1 ⟨rfl, rfl⟩)) | ((with_reducible refine tStore ?_); refine w_at2 _ _ _ rfl (by exact ev_tmp rfl) (by first | exact ev_tmp rfl | exact ev_const) ?_; intro hx hy; (first | refine w_storeMs (m := zeroM) M 4 _ _ _ rfl rfl hx rfl hy rfl (by kernel_rfl) zeroM_fit zeroM_fit ?_); clear hx hy M; intro w1 M; (try simp only [setC] at M)) | ((with_reducible refine tGuard ?_); refine gdS ?_) | fail | ((with_reducible refine tLoad ?_); go_must (refine ldS ?_)) | ((with_reducible refine tStore ?_); go_must (refine stS ?_; clear M; intro w1 M; (try simp only [setC] at M))) | ((with_reducible refine tBox _ ?_); (refine bxA M ?_; clear M; intro g w1 M))) <;> (try conv => arg 5; simp only [Act.put, List.setIfInBounds_toArray, setC]))
                go_roundw
                case rel => exact ⟨j + 1, L', x', _, _, by omega, by go_num, hL', hf', by omega, Lib.hid (HN.out ()), M⟩
                case measure => simp [intOf]; omega
            · have e0 := R3.out _ _ _ (GS hr hx')
              rw [if_neg hr] at e0
              subst e0
              have hz : ((r : Int) == 0) = false := by simp; exact hr
              have hz' : ((r : Int) != 0) = true := by simp; exact hr
              clear GO GS GE hx' hr R3
              cases f
              all_goals
                simp only [getN, getA] at G
                go_wp2_with ((first | ((with_reducible show wpList _ _ _ (Oper.mk _ (Op.load 175 _) _ _ _ _ :: _) _ _); go_must (refine w_at _ _ rfl (by exact ev_tmp rfl) ?_; intro hx; refine w_seeNA SF' HX.out _ _ rfl hx rfl (by decide +kernel) (by first | (with_reducible rfl) | omega) (by kernel_rfl) ?_; clear hx; (try conv => arg 5; simp only [Act.put, List.setIfInBounds_toArray, setC, fdV_num, fdV_hash, fdV_bat, fdV_prs]))) | ((with_reducible refine tAlloc (some 11) 175 ?_); refine w_alloc M _ rfl rfl (.agg #[.nilFunc, .nilFunc]) ([.nilFunc, .nilFunc]) (by kernel_rfl) rfl ?_; clear M; intro gz w1 M) | ((with_reducible show wpList _ _ _ (Oper.mk _ (Op.store 175 _ _) _ _ _ _ :: _) _ _); go_must (refine w_at2 _ _ _ rfl (by exact ev_tmp rfl) (by first | exact ev_tmp rfl | exact ev_const) ?_; intro hx hy; refine w_storeR M 0 _ _ _ rfl rfl hx rfl _ hy rfl (by kernel_rfl) (by simp [Value.oneCell']) rfl ?_; clear hx hy M; intro w1 M; (try simp only [setC] at M))) | ((first | go_at_call 165 | go_at_call 167 | go_at_call 134 | go_at_call 136); go_must (replace M := M.tail; refine (G.out _ M).mono ?_; rintro e w6 ⟨rfl, ov', pv', N⟩; clear M; have M := N; clear N)) | (go_at_call 92; go_must (refine (Fault_ok gi x' _ (M.ok 0 _ rfl) HX'.out).mono ?_; rintro e w1 ⟨rfl, rfl⟩)) | ((with_reducible refine tStore ?_); refine w_at2 _ _ _ rfl (by exact ev_tmp rfl) (by first | exact ev_tmp rfl | exact ev_const) ?_; intro hx hy; (first | refine w_storeMs (m := zeroM) M 4 _ _ _ rfl rfl hx rfl hy rfl (by kernel_rfl) zeroM_fit zeroM_fit ?_); clear hx hy M; intro w1 M; (try simp only [setC] at M)) | ((with_reducible refine tGuard ?_); refine gdS ?_) | fail | ((with_reducible refine tLoad ?_); go_must (refine ldS ?_)) | ((with_reducible refine tStore ?_); go_must (refine stS ?_; clear M; intro w1 M; (try simp only [setC] at M))) | ((with_reducible refine tBox _ ?_); (refine bxA M ?_; clear M; intro g w1 M))) <;> (try conv => arg 5; simp only [Act.put, List.setIfInBounds_toArray, setC]))
                exact bodyPost_ret (results_row2 rfl _ _ gr 0 (msgC zeroM) _ (.int .i64 (r : Int)) rfl rfl (M.ok 4 _ rfl).2.1 Tryz.underlying67 rfl (by rw [zeroM_len]; kernel_rfl)) rfl (GivesM.zero (TR.out _ _ M))
          · have e0 := R3.out _ _ _ (GE hx')
            rw [if_neg hx'] at e0
            have N := fun w h => Fault_no gi x' w h hx'
            obtain ⟨q, eq⟩ : ∃ q, q = x'.err := ⟨_, rfl⟩
            rw [← eq] at N hx' e0
            subst e0
            replace N := Lib.hid N
            have hz : ((q : Int) == 0) = false := by simp; exact hx'
            have hz' : ((q : Int) != 0) = true := by simp; exact hx'
            clear GO GS GE hx' R3 eq
            cases f
            all_goals
              simp only [getN, getA] at G
              go_wp2_with ((first | ((with_reducible show wpList _ _ _ (Oper.mk _ (Op.load 175 _) _ _ _ _ :: _) _ _); go_must (refine w_at _ _ rfl (by exact ev_tmp rfl) ?_; intro hx; refine w_seeNA SF' HX.out _ _ rfl hx rfl (by decide +kernel) (by first | (with_reducible rfl) | omega) (by kernel_rfl) ?_; clear hx; (try conv => arg 5; simp only [Act.put, List.setIfInBounds_toArray, setC, fdV_num, fdV_hash, fdV_bat, fdV_prs]))) | ((with_reducible refine tAlloc (some 11) 175 ?_); refine w_alloc M _ rfl rfl (.agg #[.nilFunc, .nilFunc]) ([.nilFunc, .nilFunc]) (by kernel_rfl) rfl ?_; clear M; intro gz w1 M) | ((with_reducible show wpList _ _ _ (Oper.mk _ (Op.store 175 _ _) _ _ _ _ :: _) _ _); go_must (refine w_at2 _ _ _ rfl (by exact ev_tmp rfl) (by first | exact ev_tmp rfl | exact ev_const) ?_; intro hx hy; refine w_storeR M 0 _ _ _ rfl rfl hx rfl _ hy rfl (by kernel_rfl) (by simp [Value.oneCell']) rfl ?_; clear hx hy M; intro w1 M; (try simp only [setC] at M))) | ((first | go_at_call 165 | go_at_call 167 | go_at_call 134 | go_at_call 136); go_must (replace M := M.tail; refine (G.out _ M).mono ?_; rintro e w6 ⟨rfl, ov', pv', N⟩; clear M; have M := N; clear N)) | (go_at_call 92; go_must (refine (N.out _ (M.ok 0 _ rfl)).mono ?_; rintro e w1 ⟨rfl, hb⟩; replace M := M.call hb; clear hb)) | ((with_reducible refine tStore ?_); refine w_at2 _ _ _ rfl (by exact ev_tmp rfl) (by first | exact ev_tmp rfl | exact ev_const) ?_; intro hx hy; (first | refine w_storeMs (m := zeroM) M 4 _ _ _ rfl rfl hx rfl hy rfl (by kernel_rfl) zeroM_fit zeroM_fit ?_); clear hx hy M; intro w1 M; (try simp only [setC] at M)) | ((with_reducible refine tGuard ?_); refine gdS ?_) | fail | ((with_reducible refine tLoad ?_); go_must (refine ldS ?_)) | ((with_reducible refine tStore ?_); go_must (refine stS ?_; clear M; intro w1 M; (try simp only [setC] at M))) | ((with_reducible refine tBox _ ?_); (refine bxA M ?_; clear M; intro g w1 M))) <;> (try conv => arg 5; simp only [Act.put, List.setIfInBounds_toArray, setC]))
              exact bodyPost_ret (results_row2 rfl _ _ gr 0 (msgC zeroM) _ (.int .i64 (q : Int)) rfl rfl (M.ok 4 _ rfl).2.1 Tryz.underlying67 rfl (by rw [zeroM_len]; kernel_rfl)) rfl (GivesM.zero (TR.out _ _ M))
        · obtain rfl : j = l.length := by omega
          have h0 : runF (l.drop l.length) L x = (0, L, x) := by rw [List.drop_length, runF_nil]
          have e0 := R3.out 0 L x (HR.out.trans h0)
          clear h0
          rw [if_pos rfl] at e0
          have E := fun w h => End_c gi x w h hf
          have hfit := sl_fit hL (M.sel [0, 1, 2, 3] (msK gi gm x L ov pv) (by decide) rfl)
          by_cases hfin : x.fin = 0
          · rw [if_pos hfin] at e0
            subst e0
            rw [hfin] at E
            replace E := Lib.hid E
            clear hfin R3 HR
            go_wp2_with ((first | (go_at_call 62; go_must (refine (E.out _ (M.ok 0 _ rfl)).mono ?_; rintro e w1 ⟨rfl, hb⟩; replace M := M.call hb; clear hb)) | ((with_reducible refine tLoad ?_); refine w_at _ _ rfl (by exact ev_tmp rfl) ?_; intro hx; refine w_loadMs M 1 _ _ rfl rfl hx rfl (by decide +kernel) (by kernel_rfl) hfit ?_; clear hx) | ((with_reducible refine tStore ?_); refine w_at2 _ _ _ rfl (by exact ev_tmp rfl) (by first | exact ev_tmp rfl | exact ev_const) ?_; intro hx hy; (first | refine w_storeMs (m := L.ms ov pv) M 4 _ _ _ rfl rfl hx rfl hy rfl (by kernel_rfl) hfit zeroM_fit ?_); clear hx hy M; intro w1 M; (try simp only [setC] at M)) | ((with_reducible refine tGuard ?_); refine gdS ?_) | fail | ((with_reducible refine tLoad ?_); go_must (refine ldS ?_)) | ((with_reducible refine tStore ?_); go_must (refine stS ?_; clear M; intro w1 M; (try simp only [setC] at M))) | ((with_reducible refine tBox _ ?_); (refine bxA M ?_; clear M; intro g w1 M))) <;> (try conv => arg 5; simp only [Act.put, List.setIfInBounds_toArray, setC]))
            exact bodyPost_ret (results_row2 rfl _ _ gr 0 (msgC (L.ms ov pv)) _ (.int .i64 ((0 : Nat) : Int)) rfl rfl (M.ok 4 _ rfl).2.1 Tryz.underlying67 rfl (by rw [msgC_len hfit]; kernel_rfl)) rfl (⟨ov, pv, rfl, (TR.out _ _ M).sel [2, 3] _ (by decide) rfl⟩)
          · rw [if_neg hfin] at e0
            obtain ⟨q, eq⟩ : ∃ q, q = x.fin := ⟨_, rfl⟩
            rw [← eq] at E hfin e0
            subst e0
            replace E := Lib.hid E
            have hz : ((q : Int) == 0) = false := by simp; exact hfin
            have hz' : ((q : Int) != 0) = true := by simp; exact hfin
            clear hfin R3 HR eq
            go_wp2_with ((first | (go_at_call 62; go_must (refine (E.out _ (M.ok 0 _ rfl)).mono ?_; rintro e w1 ⟨rfl, hb⟩; replace M := M.call hb; clear hb)) | ((with_reducible refine tStore ?_); refine w_at2 _ _ _ rfl (by exact ev_tmp rfl) (by first | exact ev_tmp rfl | exact ev_const) ?_; intro hx hy; (first | refine w_storeMs (m := zeroM) M 4 _ _ _ rfl rfl hx rfl hy rfl (by kernel_rfl) zeroM_fit zeroM_fit ?_); clear hx hy M; intro w1 M; (try simp only [setC] at M)) | ((with_reducible refine tGuard ?_); refine gdS ?_) | fail | ((with_reducible refine tLoad ?_); go_must (refine ldS ?_)) | ((with_reducible refine tStore ?_); go_must (refine stS ?_; clear M; intro w1 M; (try simp only [setC] at M))) | ((with_reducible refine tBox _ ?_); (refine bxA M ?_; clear M; intro g w1 M))) <;> (try conv => arg 5; simp only [Act.put, List.setIfInBounds_toArray, setC]))
            exact bodyPost_ret (results_row2 rfl _ _ gr 0 (msgC zeroM) _ (.int .i64 (q : Int)) rfl rfl (M.ok 4 _ rfl).2.1 Tryz.underlying67 rfl (by rw [zeroM_len]; kernel_rfl)) rfl (GivesM.zero (TR.out _ _ M))
  · have e0 := R1 hy
    subst e0
    clear R1 R2 R3
    have HY := Lib.hid hy
    obtain ⟨r, er⟩ : ∃ r, r = y.err := ⟨_, rfl⟩
    rw [← er] at hy ⊢
    have hz : ((r : Int) == 0) = false := by simp; exact hy
    have hz' : ((r : Int) != 0) = true := by simp; exact hy
    have N := fun g w h => Fault_no g y w h HY.out
    rw [← er] at N
    replace N := Lib.hid N
    clear hy er
    go_enter Tryz.func53, Tryz.ntmps53
    go_wp2_with ((first | ((with_reducible refine tAlloc (some 2) 67 ?_); refine w_alloc M _ rfl rfl (.agg (msgC zeroM).toArray) (msgC zeroM) (by kernel_rfl) rfl ?_; clear M; intro gr w1 M) | ((with_reducible refine tAlloc (some 5) 67 ?_); refine w_alloc M _ rfl rfl (.agg (msgC zeroM).toArray) (msgC zeroM) (by kernel_rfl) rfl ?_; clear M; intro gm w1 M) | (go_at_call 57; go_must (refine (packOf_c _ _).mono ?_; rintro e w1 ⟨gi, rfl, MP⟩; replace M := M.join MP; clear MP; simp only [List.cons_append, List.nil_append] at M)) | (go_at_call 61; go_must (refine (YC.out gi _ (M.ok 0 _ rfl)).mono ?_; rintro r w2 ⟨rfl, U⟩; replace M := M.upd 0 rfl U; clear U; simp only [setC] at M)) | (go_at_call 92; go_must (refine (N.out gi _ (M.ok 1 _ rfl)).mono ?_; rintro e w1 ⟨rfl, hb⟩; replace M := M.call hb; clear hb)) | ((with_reducible refine tStore ?_); refine w_at2 _ _ _ rfl (by exact ev_tmp rfl) (by first | exact ev_tmp rfl | exact ev_const) ?_; intro hx hy; (first | refine w_storeMs (m := kindM kb) M 0 _ _ _ rfl rfl hx rfl hy rfl (by kernel_rfl) hzk zeroM_fit ?_ | refine w_storeMs (m := zeroM) M 2 _ _ _ rfl rfl hx rfl hy rfl (by kernel_rfl) zeroM_fit zeroM_fit ?_); clear hx hy M; intro w1 M; (try simp only [setC] at M)) | ((with_reducible refine tGuard ?_); refine gdS ?_) | fail | ((with_reducible refine tLoad ?_); go_must (refine ldS ?_)) | ((with_reducible refine tStore ?_); go_must (refine stS ?_; clear M; intro w1 M; (try simp only [setC] at M))) | ((with_reducible refine tBox _ ?_); (refine bxA M ?_; clear M; intro g w1 M))) <;> (try conv => arg 5; simp only [Act.put, List.setIfInBounds_toArray, setC]))
    exact bodyPost_ret (results_row2 rfl _ _ gr 0 (msgC zeroM) _ (.int .i64 (r : Int)) rfl rfl (M.ok 2 _ rfl).2.1 Tryz.underlying67 rfl (by rw [zeroM_len]; kernel_rfl)) rfl (GivesM.zero M)
end Go.Proofs.YtidadhbaomieiaaGreat

/- The walk of slices.Equal of pairs. Conditions: lengths. -/
namespace Go
namespace TL
theorem eqP_ne {l m : List (List UInt8 × List UInt8)} (k : Nat) (x y : List UInt8 × List UInt8) (h1 : l[k]? = some x) (h2 : m[k]? = some y) (h : x ≠ y) : (l == m) = false := by
  rw [beq_eq_false_iff_ne]; rintro rfl; rw [h1] at h2; cases h2; exact h rfl
theorem eqP_eq {l m : List (List UInt8 × List UInt8)} (h0 : l.length = m.length) (h : ∀ (k : Nat), k < l.length → l[k]? = m[k]?) : (l == m) = true := by
  rw [beq_iff_eq]
  apply List.ext_getElem?
  intro k
  by_cases hk : k < l.length
  · exact h k hk
  · rw [List.getElem?_eq_none (by omega), List.getElem?_eq_none (by omega)]
theorem eqP_len {l m : List (List UInt8 × List UInt8)} (h : l.length ≠ m.length) : (l == m) = false := by
  rw [beq_eq_false_iff_ne]; rintro rfl; exact h rfl
theorem prV_ne {a b c d : List UInt8} (h : (a, b) ≠ (c, d)) : ¬ (a = c ∧ b = d) := by
  rintro ⟨rfl, rfl⟩; exact h rfl
end TL
end Go
namespace Go.Proofs.YtidadhbaomieiaaGreat
open Go.RowKit Go.TL
set_option maxRecDepth 100000 in
set_option maxHeartbeats 4000000 in
theorem EqualP_c (l m : List (List UInt8 × List UInt8)) (v u : Value) (w : World) (S : SeesL w 2 prV v l) (T : SeesL w 2 prV u m) (hl : l.length ≤ 1000000) (_hm : m.length ≤ 1000000) :
    Calls Tryz.prog 55 #[v, u] w fun e w' => e = .returned (.bool (l == m)) ∧ Below w.heap.size w w' := by
  obtain ⟨p, cap, rfl, hc⟩ := S.form
  obtain ⟨q, cap', rfl, hc'⟩ := T.form
  have hne := @eqP_ne l m
  have heq := @eqP_eq l m
  have hln := @eqP_len l m
  obtain ⟨R, eR⟩ : ∃ R, R = (l == m) := ⟨_, rfl⟩
  rw [← eR] at hne heq hln ⊢
  replace hne := Lib.hid hne
  replace heq := Lib.hid heq
  replace hln := Lib.hid hln
  clear eR
  have M := Mem.start [] w
  by_cases hn : l.length = m.length
  · have hq : ((l.length : Int) != (m.length : Int)) = false := by simp; omega
    go_enter Tryz.func55, Tryz.ntmps55
    replace hn := Lib.hid hn
    go_wp2_with fail
    go_loopw [13] (fun iv wr => ∃ k : Nat, k ≤ l.length ∧ iv = .int .i64 k ∧ Hid (∀ (j : Nat), j < k → l[j]? = m[j]?) ∧ Mem [] w wr []) (fun iv _ => l.length - (intOf iv).toNat)
    case atStart => exact ⟨0, by omega, rfl, Lib.hid (by omega), M⟩
    case round =>
      clear M
      obtain ⟨k, hk, rfl, HK, M⟩ := hrel
      by_cases hlt : k < l.length
      · obtain ⟨g, so, rfl⟩ := S.addr (by omega)
        obtain ⟨g', so', rfl⟩ := T.addr (by have := hn.out; omega)
        have hkm : k < m.length := by have := hn.out; omega
        obtain ⟨⟨a, b⟩, hx⟩ : ∃ x, l[k]? = some x := ⟨_, List.getElem?_eq_getElem hlt⟩
        obtain ⟨⟨c, d⟩, hy⟩ : ∃ x, m[k]? = some x := ⟨_, List.getElem?_eq_getElem hkm⟩
        have HX := Lib.hid hx; clear hx
        have HY := Lib.hid hy; clear hy
        by_cases hab : (a, b) = (c, d)
        · simp only [Prod.mk.injEq] at hab
          obtain ⟨rfl, rfl⟩ := hab
          go_wp2_with ((first | ((with_reducible refine tLoad ?_); refine w_at _ _ rfl (by exact ev_tmp rfl) ?_; intro hx; first | (refine w_seeA M S HX.out _ _ rfl hx rfl (by decide +kernel) (by first | (with_reducible rfl) | omega) (by kernel_rfl) ?_; clear hx; (try conv => arg 5; simp only [Act.put, List.setIfInBounds_toArray, setC, prV_eq])) | (refine w_see M S HX.out _ _ rfl hx rfl (by decide +kernel) 0 (by first | (with_reducible rfl) | omega) rfl ?_; clear hx) | (refine w_see M S HX.out _ _ rfl hx rfl (by decide +kernel) 1 (by first | (with_reducible rfl) | omega) rfl ?_; clear hx) | (refine w_see M S HX.out _ _ rfl hx rfl (by decide +kernel) 2 (by first | (with_reducible rfl) | omega) rfl ?_; clear hx) | (refine w_seeA M T HY.out _ _ rfl hx rfl (by decide +kernel) (by first | (with_reducible rfl) | omega) (by kernel_rfl) ?_; clear hx; (try conv => arg 5; simp only [Act.put, List.setIfInBounds_toArray, setC, prV_eq])) | (refine w_see M T HY.out _ _ rfl hx rfl (by decide +kernel) 0 (by first | (with_reducible rfl) | omega) rfl ?_; clear hx) | (refine w_see M T HY.out _ _ rfl hx rfl (by decide +kernel) 1 (by first | (with_reducible rfl) | omega) rfl ?_; clear hx) | (refine w_see M T HY.out _ _ rfl hx rfl (by decide +kernel) 2 (by first | (with_reducible rfl) | omega) rfl ?_; clear hx)) | ((with_reducible show Code.wp _ (Code.region 6 _ _) _ _ _); go_must (refine region_det [(0, false), (1, false), (2, false), (4, false), (5, false), (6, false), (3, false), (7, false), (8, false)] [(19, .cells), (23, .cells)] (by kernel_rfl) (by kernel_rfl) rfl (by kernel_rfl) ?_; replace M := M.drew; simp only [reord, opAt, List.map_cons, List.map_nil, List.getElem?_toArray, List.getElem?_cons_zero, List.getElem?_cons_succ, Option.getD_some])) | ((with_reducible show Seg _ _ _ _); go_must (first | refine Seg.intro ⟨fun h => absurd rfl h, ?_⟩ | refine Seg.intro ⟨fun _ => ixA, ?_⟩ | refine Seg.intro ⟨ndA, atA, ?_⟩)) | ((with_reducible show OnlyN _ _ _ _ _); refine OnlyN.intro (by kernel_rfl) ?_) | ((with_reducible refine tGuard ?_); refine gdS ?_) | fail | ((with_reducible refine tLoad ?_); go_must (refine ldS ?_)) | ((with_reducible refine tStore ?_); go_must (refine stS ?_; clear M; intro w1 M; (try simp only [setC] at M))) | ((with_reducible refine tBox _ ?_); (refine bxA M ?_; clear M; intro g w1 M))) <;> (try conv => arg 5; simp only [Act.put, List.setIfInBounds_toArray, setC]))
          go_roundw
          case rel => exact ⟨k + 1, by omega, by go_num, Lib.hid fun j hj => by
            rcases Nat.lt_succ_iff_lt_or_eq.1 hj with hj | rfl
            · exact HK.out j hj
            · exact HX.out.trans HY.out.symm, M⟩
          case measure => simp [intOf]; omega
        · have e0 : R = false := hne.out k _ _ HX.out HY.out hab
          subst e0
          have hab := Lib.hid (prV_ne hab)
          go_wp2_with ((first | ((with_reducible refine tLoad ?_); refine w_at _ _ rfl (by exact ev_tmp rfl) ?_; intro hx; first | (refine w_seeA M S HX.out _ _ rfl hx rfl (by decide +kernel) (by first | (with_reducible rfl) | omega) (by kernel_rfl) ?_; clear hx; (try conv => arg 5; simp only [Act.put, List.setIfInBounds_toArray, setC, prV_eq])) | (refine w_see M S HX.out _ _ rfl hx rfl (by decide +kernel) 0 (by first | (with_reducible rfl) | omega) rfl ?_; clear hx) | (refine w_see M S HX.out _ _ rfl hx rfl (by decide +kernel) 1 (by first | (with_reducible rfl) | omega) rfl ?_; clear hx) | (refine w_see M S HX.out _ _ rfl hx rfl (by decide +kernel) 2 (by first | (with_reducible rfl) | omega) rfl ?_; clear hx) | (refine w_seeA M T HY.out _ _ rfl hx rfl (by decide +kernel) (by first | (with_reducible rfl) | omega) (by kernel_rfl) ?_; clear hx; (try conv => arg 5; simp only [Act.put, List.setIfInBounds_toArray, setC, prV_eq])) | (refine w_see M T HY.out _ _ rfl hx rfl (by decide +kernel) 0 (by first | (with_reducible rfl) | omega) rfl ?_; clear hx) | (refine w_see M T HY.out _ _ rfl hx rfl (by decide +kernel) 1 (by first | (with_reducible rfl) | omega) rfl ?_; clear hx) | (refine w_see M T HY.out _ _ rfl hx rfl (by decide +kernel) 2 (by first | (with_reducible rfl) | omega) rfl ?_; clear hx)) | ((with_reducible show Code.wp _ (Code.region 6 _ _) _ _ _); go_must (refine region_det [(0, false), (1, false), (2, false), (4, false), (5, false), (6, false), (3, false), (7, false), (8, false)] [(19, .cells), (23, .cells)] (by kernel_rfl) (by kernel_rfl) rfl (by kernel_rfl) ?_; replace M := M.drew; simp only [reord, opAt, List.map_cons, List.map_nil, List.getElem?_toArray, List.getElem?_cons_zero, List.getElem?_cons_succ, Option.getD_some])) | ((with_reducible show Seg _ _ _ _); go_must (first | refine Seg.intro ⟨fun h => absurd rfl h, ?_⟩ | refine Seg.intro ⟨fun _ => ixA, ?_⟩ | refine Seg.intro ⟨ndA, atA, ?_⟩)) | ((with_reducible show OnlyN _ _ _ _ _); refine OnlyN.intro (by kernel_rfl) ?_) | ((with_reducible refine tGuard ?_); refine gdS ?_) | fail | ((with_reducible refine tLoad ?_); go_must (refine ldS ?_)) | ((with_reducible refine tStore ?_); go_must (refine stS ?_; clear M; intro w1 M; (try simp only [setC] at M))) | ((with_reducible refine tBox _ ?_); (refine bxA M ?_; clear M; intro g w1 M))) <;> (try conv => arg 5; simp only [Act.put, List.setIfInBounds_toArray, setC]))
          all_goals (first | exact absurd ⟨‹a = c›, ‹b = d›⟩ hab.out | (go_ret; exact ⟨rfl, M.below⟩))
      · obtain rfl : k = l.length := by omega
        have e0 : R = true := heq.out hn.out HK.out
        subst e0
        have hkm : ¬ l.length < m.length := by have := hn.out; omega
        go_wp2_with ((first | ((with_reducible refine tGuard ?_); refine gdS ?_) | fail | ((with_reducible refine tLoad ?_); go_must (refine ldS ?_)) | ((with_reducible refine tStore ?_); go_must (refine stS ?_; clear M; intro w1 M; (try simp only [setC] at M))) | ((with_reducible refine tBox _ ?_); (refine bxA M ?_; clear M; intro g w1 M))) <;> (try conv => arg 5; simp only [Act.put, List.setIfInBounds_toArray, setC]))
        go_ret
        exact ⟨rfl, M.below⟩
  · have e0 : R = false := hln.out hn
    subst e0
    have hq : ((l.length : Int) != (m.length : Int)) = true := by simp; omega
    go_enter Tryz.func55, Tryz.ntmps55
    go_wp2_with fail
    go_ret
    exact ⟨rfl, M.below⟩
end Go.Proofs.YtidadhbaomieiaaGreat
