/- The walk of the acts' Great. Conditions: lengths. -/
import Derived.Test.YtidadhbaomieiaaGreatVSees
import Derived.Test.YtidadhbaomieiaaGreatZb
namespace Go
namespace TL
def stV (s : List UInt8) : List Value := [.string (mkS s)]
theorem stV_len (x : List UInt8) : (stV x).length = 1 := rfl
def u8V (b : UInt8) : List Value := [.int .u8 (I8 b)]
theorem u8V_len (b : UInt8) : (u8V b).length = 1 := rfl
def itV (a : Nat) : List Value := [.int .i64 a]
theorem itV_len (a : Nat) : (itV a).length = 1 := rfl
/-- What is done to a ring. -/
structure ActS where
  what : Int
  about : List UInt8
  text : List UInt8
  b : List UInt8
  back : Int
def acV (x : ActS) : List Value := [.int .i64 x.what, .string (mkS x.about), .string (mkS x.text), .string (mkS x.b), .int .i64 x.back]
theorem acV_len (x : ActS) : (acV x).length = 5 := rfl
theorem acV_eq {q : Int} {a t b : List UInt8} {o : Int} : acV ⟨q, a, t, b, o⟩ = [.int .i64 q, .string (mkS a), .string (mkS t), .string (mkS b), .int .i64 o] := rfl
def ActS.big (x : ActS) : Prop := 300 < x.about.length ∨ (300 < x.text.length ∧ x.text.length ≤ 8192) ∨ 20000 < x.text.length ∨ 3000 < x.b.length
instance (x : ActS) : Decidable x.big := by unfold ActS.big; infer_instance
/-- Are acts more than the statements go through? -/
def greatA (l : List ActS) : Bool := decide (30 < l.length) || l.any fun x => decide x.big
theorem greatA_long {l : List ActS} (h : 30 < l.length) : greatA l = true := by unfold greatA; rw [decide_eq_true h]; rfl
theorem greatA_at {l : List ActS} {k : Nat} {x : ActS} (h : l[k]? = some x) (hb : x.big) : greatA l = true := by
  unfold greatA
  rw [Bool.or_eq_true]; right
  rw [List.any_eq_true]
  exact ⟨x, List.mem_of_getElem? h, by simpa using hb⟩
theorem greatA_no {l : List ActS} (hl : l.length ≤ 30) (h : ∀ (k : Nat) (x : ActS), l[k]? = some x → ¬ x.big) : greatA l = false := by
  unfold greatA
  rw [Bool.or_eq_false_iff]
  refine ⟨by simpa using hl, ?_⟩
  rw [List.any_eq_false]
  intro x hx
  obtain ⟨k, hk⟩ := List.getElem?_of_mem hx
  simpa using h k x hk
theorem greatA_small {l : List ActS} (h : greatA l = false) : l.length ≤ 30 ∧ ∀ x ∈ l, ¬ x.big := by
  unfold greatA at h
  rw [Bool.or_eq_false_iff, List.any_eq_false] at h
  refine ⟨by simpa using h.1, fun x hx => ?_⟩
  have := h.2 x hx
  simpa using this
end TL
end Go
namespace Go.Proofs.YtidadhbaomieiaaGreat
open Go.RowKit Go.TL
set_option maxRecDepth 100000 in
set_option maxHeartbeats 4000000 in
theorem GreatActs_c (l : List ActS) (v : Value) (w : World) (S : SeesL w 5 acV v l) :
    Calls Tryz.prog 11 #[v] w fun e w' => e = .returned (.bool (greatA l)) ∧ w = w' := by
  obtain ⟨p, cap, rfl, hc⟩ := S.form
  have HL := @greatA_long l
  have HY := fun k x => @greatA_at l k x
  have HN := @greatA_no l
  obtain ⟨R, eR⟩ : ∃ R, R = greatA l := ⟨_, rfl⟩
  rw [← eR] at HY HN HL ⊢
  replace HY := Lib.hid HY
  replace HN := Lib.hid HN
  replace HL := Lib.hid HL
  clear eR
  have M := Mem.start [] w
  go_enter Tryz.func11, Tryz.ntmps11
  go_wp2_with fail
  go_loop [3] (fun iv => ∃ k : Nat, k ≤ l.length ∧ k ≤ 31 ∧ iv = .int .i64 k ∧ Hid (∀ (j : Nat) (x : ActS), j < k → l[j]? = some x → ¬ x.big)) (fun iv => l.length - (intOf iv).toNat)
  case atStart => exact ⟨0, by omega, by omega, rfl, Lib.hid (by omega)⟩
  case round =>
    obtain ⟨k, hk, hk31, rfl, HK⟩ := hrel
    by_cases hlt : k < l.length
    · by_cases h30 : k ≤ 30
      · obtain ⟨g, so, rfl⟩ := S.addr (by omega)
        obtain ⟨⟨q, a, t, b, o⟩, hx⟩ : ∃ x, l[k]? = some x := ⟨_, List.getElem?_eq_getElem hlt⟩
        have HX := Lib.hid hx
        have hy := HY.out k _ hx
        have hkk := HK.out
        clear hx
        by_cases hbig : (ActS.mk q a t b o).big
        · have hR := hy hbig
          subst hR
          unfold ActS.big at hbig
          simp only at hbig
          clear hy hkk
          rcases (by omega : (300 : Int) < a.length ∨ ((a.length : Int) ≤ 300 ∧ (300 : Int) < t.length ∧ (t.length : Int) ≤ 8192) ∨ ((a.length : Int) ≤ 300 ∧ (20000 : Int) < t.length) ∨ ((a.length : Int) ≤ 300 ∧ (t.length : Int) ≤ 300 ∧ (3000 : Int) < b.length) ∨ ((a.length : Int) ≤ 300 ∧ (8192 : Int) < t.length ∧ (t.length : Int) ≤ 20000 ∧ (3000 : Int) < b.length)) with h1 | ⟨h1, h2, h3⟩ | ⟨h1, h2⟩ | ⟨h1, h2, h3⟩ | ⟨h1, h2, h3, h4⟩
          all_goals
            clear hbig
            go_wp2_with ((first | ((with_reducible refine tGuard ?_); (with_reducible refine w_stripE ?_ ?_); (focus (refine ⟨_, rfl, ?_⟩; first | (with_reducible rfl) | exact decide_eq_false (by omega) | exact decide_eq_true (by omega)))) | ((with_reducible refine tGuard ?_); first | ((with_reducible refine w_skip1 ?_ ?_); (focus (refine ⟨_, rfl, ?_⟩; first | (with_reducible rfl) | exact decide_eq_false (by omega) | exact decide_eq_true (by omega)))) | ((with_reducible refine w_skip0 ?_ ?_); (focus (refine ⟨_, rfl, ?_⟩; first | (with_reducible rfl) | exact decide_eq_false (by omega) | exact decide_eq_true (by omega))))) | ((with_reducible refine tGuard ?_); (with_reducible refine w_stripE ?_ ?_); (focus (refine ⟨_, rfl, ?_⟩; first | (simp; omega) | (simp; done)))) | ((with_reducible refine tGuard ?_); first | ((with_reducible refine w_skip1 ?_ ?_); (focus (refine ⟨_, rfl, ?_⟩; first | (simp; omega) | (simp; done)))) | ((with_reducible refine w_skip0 ?_ ?_); (focus (refine ⟨_, rfl, ?_⟩; first | (simp; omega) | (simp; done))))) | ((with_reducible refine tLoad ?_); refine w_at _ _ rfl (by exact ev_tmp rfl) ?_; intro hx; first | (refine w_seeA M S HX.out _ _ rfl hx rfl (by decide +kernel) (by first | (with_reducible rfl) | omega) (by kernel_rfl) ?_; clear hx; (try conv => arg 5; simp only [Act.put, List.setIfInBounds_toArray, setC, acV_eq])) | (refine w_see M S HX.out _ _ rfl hx rfl (by decide +kernel) 0 (by first | (with_reducible rfl) | omega) rfl ?_; clear hx) | (refine w_see M S HX.out _ _ rfl hx rfl (by decide +kernel) 1 (by first | (with_reducible rfl) | omega) rfl ?_; clear hx) | (refine w_see M S HX.out _ _ rfl hx rfl (by decide +kernel) 2 (by first | (with_reducible rfl) | omega) rfl ?_; clear hx) | (refine w_see M S HX.out _ _ rfl hx rfl (by decide +kernel) 3 (by first | (with_reducible rfl) | omega) rfl ?_; clear hx) | (refine w_see M S HX.out _ _ rfl hx rfl (by decide +kernel) 4 (by first | (with_reducible rfl) | omega) rfl ?_; clear hx)) | ((with_reducible refine tGuard ?_); refine gdS ?_) | fail | ((with_reducible refine tLoad ?_); go_must (refine ldS ?_)) | ((with_reducible refine tStore ?_); go_must (refine stS ?_; clear M; intro w1 M; (try simp only [setC] at M))) | ((with_reducible refine tBox _ ?_); (refine bxA M ?_; clear M; intro g w1 M))) <;> (try conv => arg 5; simp only [Act.put, List.setIfInBounds_toArray, setC]))
            go_ret
            exact ⟨rfl, rfl⟩
        · have hb2 := hbig
          unfold ActS.big at hb2
          simp only at hb2
          clear hy hkk
          have hbig' := Lib.hid hbig
          clear hbig
          rcases (by omega : ((a.length : Int) ≤ 300 ∧ (t.length : Int) ≤ 300 ∧ (b.length : Int) ≤ 3000) ∨ ((a.length : Int) ≤ 300 ∧ (8192 : Int) < t.length ∧ (t.length : Int) ≤ 20000 ∧ (b.length : Int) ≤ 3000)) with ⟨h1, h2, h3⟩ | ⟨h1, h2, h3, h4⟩
          all_goals
            clear hb2
            go_wp2_with ((first | ((with_reducible refine tGuard ?_); (with_reducible refine w_stripE ?_ ?_); (focus (refine ⟨_, rfl, ?_⟩; first | (with_reducible rfl) | exact decide_eq_false (by omega) | exact decide_eq_true (by omega)))) | ((with_reducible refine tGuard ?_); first | ((with_reducible refine w_skip1 ?_ ?_); (focus (refine ⟨_, rfl, ?_⟩; first | (with_reducible rfl) | exact decide_eq_false (by omega) | exact decide_eq_true (by omega)))) | ((with_reducible refine w_skip0 ?_ ?_); (focus (refine ⟨_, rfl, ?_⟩; first | (with_reducible rfl) | exact decide_eq_false (by omega) | exact decide_eq_true (by omega))))) | ((with_reducible refine tGuard ?_); (with_reducible refine w_stripE ?_ ?_); (focus (refine ⟨_, rfl, ?_⟩; first | (simp; omega) | (simp; done)))) | ((with_reducible refine tGuard ?_); first | ((with_reducible refine w_skip1 ?_ ?_); (focus (refine ⟨_, rfl, ?_⟩; first | (simp; omega) | (simp; done)))) | ((with_reducible refine w_skip0 ?_ ?_); (focus (refine ⟨_, rfl, ?_⟩; first | (simp; omega) | (simp; done))))) | ((with_reducible refine tLoad ?_); refine w_at _ _ rfl (by exact ev_tmp rfl) ?_; intro hx; first | (refine w_seeA M S HX.out _ _ rfl hx rfl (by decide +kernel) (by first | (with_reducible rfl) | omega) (by kernel_rfl) ?_; clear hx; (try conv => arg 5; simp only [Act.put, List.setIfInBounds_toArray, setC, acV_eq])) | (refine w_see M S HX.out _ _ rfl hx rfl (by decide +kernel) 0 (by first | (with_reducible rfl) | omega) rfl ?_; clear hx) | (refine w_see M S HX.out _ _ rfl hx rfl (by decide +kernel) 1 (by first | (with_reducible rfl) | omega) rfl ?_; clear hx) | (refine w_see M S HX.out _ _ rfl hx rfl (by decide +kernel) 2 (by first | (with_reducible rfl) | omega) rfl ?_; clear hx) | (refine w_see M S HX.out _ _ rfl hx rfl (by decide +kernel) 3 (by first | (with_reducible rfl) | omega) rfl ?_; clear hx) | (refine w_see M S HX.out _ _ rfl hx rfl (by decide +kernel) 4 (by first | (with_reducible rfl) | omega) rfl ?_; clear hx)) | ((with_reducible refine tGuard ?_); refine gdS ?_) | fail | ((with_reducible refine tLoad ?_); go_must (refine ldS ?_)) | ((with_reducible refine tStore ?_); go_must (refine stS ?_; clear M; intro w1 M; (try simp only [setC] at M))) | ((with_reducible refine tBox _ ?_); (refine bxA M ?_; clear M; intro g w1 M))) <;> (try conv => arg 5; simp only [Act.put, List.setIfInBounds_toArray, setC]))
            go_roundw
            case rel => exact ⟨k + 1, by omega, by omega, by go_num, Lib.hid fun j x hj hxx => by
              by_cases hjk : j < k
              · exact HK.out j x hjk hxx
              · obtain rfl : j = k := by omega
                rw [HX.out] at hxx; injection hxx with hxx; subst hxx; exact hbig'.out⟩
            case measure => simp [intOf]; omega
      · have hR := HL.out (by omega)
        subst hR
        go_wp2_with ((first | ((with_reducible refine tGuard ?_); (with_reducible refine w_stripE ?_ ?_); (focus (refine ⟨_, rfl, ?_⟩; first | (with_reducible rfl) | exact decide_eq_false (by omega) | exact decide_eq_true (by omega)))) | ((with_reducible refine tGuard ?_); first | ((with_reducible refine w_skip1 ?_ ?_); (focus (refine ⟨_, rfl, ?_⟩; first | (with_reducible rfl) | exact decide_eq_false (by omega) | exact decide_eq_true (by omega)))) | ((with_reducible refine w_skip0 ?_ ?_); (focus (refine ⟨_, rfl, ?_⟩; first | (with_reducible rfl) | exact decide_eq_false (by omega) | exact decide_eq_true (by omega))))) | ((with_reducible refine tGuard ?_); refine gdS ?_) | fail | ((with_reducible refine tLoad ?_); go_must (refine ldS ?_)) | ((with_reducible refine tStore ?_); go_must (refine stS ?_; clear M; intro w1 M; (try simp only [setC] at M))) | ((with_reducible refine tBox _ ?_); (refine bxA M ?_; clear M; intro g w1 M))) <;> (try conv => arg 5; simp only [Act.put, List.setIfInBounds_toArray, setC]))
        go_ret
        exact ⟨by first | rfl | (simp; omega), rfl⟩
    · obtain rfl : k = l.length := by omega
      by_cases h30 : l.length ≤ 30
      · have hR := HN.out h30 fun j x hx => HK.out j x (List.getElem?_eq_some_iff.1 hx).1 hx
        subst hR
        go_wp2_with ((first | ((with_reducible refine tGuard ?_); (with_reducible refine w_stripE ?_ ?_); (focus (refine ⟨_, rfl, ?_⟩; first | (with_reducible rfl) | exact decide_eq_false (by omega) | exact decide_eq_true (by omega)))) | ((with_reducible refine tGuard ?_); first | ((with_reducible refine w_skip1 ?_ ?_); (focus (refine ⟨_, rfl, ?_⟩; first | (with_reducible rfl) | exact decide_eq_false (by omega) | exact decide_eq_true (by omega)))) | ((with_reducible refine w_skip0 ?_ ?_); (focus (refine ⟨_, rfl, ?_⟩; first | (with_reducible rfl) | exact decide_eq_false (by omega) | exact decide_eq_true (by omega))))) | ((with_reducible refine tGuard ?_); refine gdS ?_) | fail | ((with_reducible refine tLoad ?_); go_must (refine ldS ?_)) | ((with_reducible refine tStore ?_); go_must (refine stS ?_; clear M; intro w1 M; (try simp only [setC] at M))) | ((with_reducible refine tBox _ ?_); (refine bxA M ?_; clear M; intro g w1 M))) <;> (try conv => arg 5; simp only [Act.put, List.setIfInBounds_toArray, setC]))
        go_ret
        exact ⟨by first | rfl | (simp; omega), rfl⟩
      · have hR := HL.out (by omega)
        subst hR
        go_wp2_with ((first | ((with_reducible refine tGuard ?_); (with_reducible refine w_stripE ?_ ?_); (focus (refine ⟨_, rfl, ?_⟩; first | (with_reducible rfl) | exact decide_eq_false (by omega) | exact decide_eq_true (by omega)))) | ((with_reducible refine tGuard ?_); first | ((with_reducible refine w_skip1 ?_ ?_); (focus (refine ⟨_, rfl, ?_⟩; first | (with_reducible rfl) | exact decide_eq_false (by omega) | exact decide_eq_true (by omega)))) | ((with_reducible refine w_skip0 ?_ ?_); (focus (refine ⟨_, rfl, ?_⟩; first | (with_reducible rfl) | exact decide_eq_false (by omega) | exact decide_eq_true (by omega))))) | ((with_reducible refine tGuard ?_); refine gdS ?_) | fail | ((with_reducible refine tLoad ?_); go_must (refine ldS ?_)) | ((with_reducible refine tStore ?_); go_must (refine stS ?_; clear M; intro w1 M; (try simp only [setC] at M))) | ((with_reducible refine tBox _ ?_); (refine bxA M ?_; clear M; intro g w1 M))) <;> (try conv => arg 5; simp only [Act.put, List.setIfInBounds_toArray, setC]))
        go_ret
        exact ⟨by first | rfl | (simp; omega), rfl⟩
end Go.Proofs.YtidadhbaomieiaaGreat
