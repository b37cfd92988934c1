/- Texts of this seat, put together: BuckR, Ref14R, BuckT, BuckW, Frame. Each begins with a remark that says what is proved in it, and under which conditions. -/
import Derived.ProofKit
import Derived.OpenShut
import Derived.ShutString
import Derived.ChangeOld
import Derived.Below
import Derived.Test.YtjmhjkgcdglpaaaZa
import Derived.Test.YtjmhjkgcdglpaaaZb
import Derived.Test.YtjmhjkgcdglpaaaZf
/- The walk of bucket.Read. Conditions: lengths. -/
namespace Go
namespace TL
theorem readL_arg {i : Int} {s : List UInt8} (h : inB i = false) : readL i s = ([], 1) := by unfold readL; rw [if_neg (by rw [h]; decide)]
theorem readL_fin {i : Int} {s : List UInt8} {d : List Pr} {x : InS} (h : inB i = true) (hr : rdPairs ((inStart s).most 48).1 ((inStart s).most 48).2 = (d, x)) (hf : x.fin ≠ 0) : readL i s = ([], x.fin) := by
  unfold readL; rw [if_pos h, hr, if_neg hf]
theorem readL_form {i : Int} {s : List UInt8} {d : List Pr} {x : InS} (h : inB i = true) (hr : rdPairs ((inStart s).most 48).1 ((inStart s).most 48).2 = (d, x)) (hf : x.fin = 0) (hp : (pageL i d).2 ≠ 0) : readL i s = ([], 8) := by
  unfold readL; rw [if_pos h, hr, if_pos hf, if_neg hp]
theorem readL_ok {i : Int} {s : List UInt8} {d : List Pr} {x : InS} (h : inB i = true) (hr : rdPairs ((inStart s).most 48).1 ((inStart s).most 48).2 = (d, x)) (hf : x.fin = 0) (hp : (pageL i d).2 = 0) : readL i s = (d, 0) := by
  unfold readL; rw [if_pos h, hr, if_pos hf, if_pos hp]
theorem rd_zero (x : InS) : rdPairs 0 x = ([], x) := rfl
theorem rd_bad {n : Nat} {x : InS} (h : ((x.text 33).2.text 32).2.err ≠ 0) : rdPairs (n + 1) x = ([], ((x.text 33).2.text 32).2) := by rw [rdPairs, if_neg h]
theorem rd_good {n : Nat} {x : InS} (h : ((x.text 33).2.text 32).2.err = 0) : rdPairs (n + 1) x = (((x.text 33).1, ((x.text 33).2.text 32).1) :: (rdPairs n ((x.text 33).2.text 32).2).1, (rdPairs n ((x.text 33).2.text 32).2).2) := by rw [rdPairs, if_pos h]
theorem fin_err {x : InS} (h : x.err ≠ 0) : x.fin = x.err := by unfold InS.fin; rw [if_neg h]
end TL
end Go
namespace Go.Proofs.Ytjmhjkgcdglpaaa
open Go.RowKit Go.TL
set_option maxRecDepth 100000 in
set_option maxHeartbeats 8000000 in
theorem Read_c (i : Int) (s : List UInt8) (w : World) (hs : s.length ≤ 1000000) :
    Calls Try.prog 17 #[.int .i64 i, .string (mkS s)] w (Gives 2 prV (readL i s).1 (fun u => .tuple #[u, .int .i64 (readL i s).2]) w) := by
  have M := (Mem.start [] w).nil 2
  have B := fun w => bucket_c i w
  obtain ⟨A, eA⟩ : ∃ A, A = readL i s := ⟨_, rfl⟩
  rw [← eA]
  have EA := Lib.hid eA
  clear eA
  by_cases h1 : inB i = true
  · rw [h1] at B
    replace B := Lib.hid B
    have H1 := Lib.hid h1
    clear h1
    have hst : (inStart s).fit := by unfold inStart InS.fit; simp; omega
    obtain ⟨⟨n0, x0⟩, e0⟩ : ∃ R, R = (inStart s).most 48 := ⟨_, rfl⟩
    have hf0 : x0.fit := by have := InS.most_fit hst 48; rwa [← e0] at this
    have hn0 : n0 ≤ 48 := by have := InS.most_le (inStart s) 48; rwa [← e0] at this
    have E0 := Lib.hid e0
    clear e0
    go_enter Try.func17, Try.ntmps17
    go_wp2_with (first | (go_at_call 26; go_must (refine (B.out _).mono ?_; rintro e w1 ⟨rfl, rfl⟩)) | (go_at_call 30; go_must (refine (packOf_c _ _).mono ?_; rintro e w1 ⟨gi, rfl, MP⟩; replace M := M.join MP; clear MP; simp only [List.cons_append, List.nil_append] at M)) | (go_at_call 31; go_must (refine (Most_c gi (inStart s) _ (M.ok 0 _ rfl) hst 48 _ rfl (by omega)).mono ?_; rintro e w1 ⟨rfl, U⟩; replace M := M.upd 0 rfl U; clear U; rw [← E0.out] at M ⊢; simp only [List.set_cons_zero] at M)))
    go_loopw [7, 8] (fun lv nv wr => ∃ (m : Nat) (d : List Pr) (x : InS) (q : Option Addr) (c : Nat), nv = .int .i64 m ∧ lv = .slice q d.length c ∧ x.fit ∧ d.length + m ≤ 48 ∧ Hid (rdPairs n0 x0 = (d ++ (rdPairs m x).1, (rdPairs m x).2) ∧ ∀ y ∈ d, y.1.length ≤ 33 ∧ y.2.length ≤ 32) ∧ Mem [] w wr [.row gi (inV x), .sl 2 (.slice q d.length c) d.length (d.flatMap prV)]) (fun _ nv _ => (intOf nv).toNat)
    case atStart => exact ⟨n0, [], x0, none, 0, rfl, rfl, hf0, by simp; omega, Lib.hid ⟨by simp, by simp⟩, M⟩
    case round =>
      clear M
      obtain ⟨m, d, x, q, c, rfl, rfl, hf, hdm, HR, M⟩ := hrel
      cases m with
      | zero =>
        have hR : rdPairs ((inStart s).most 48).1 ((inStart s).most 48).2 = (d, x) := by rw [← E0.out]; simpa [rd_zero] using HR.out.1
        have hm := HR.out.2
        have RA := @readL_fin i s d x H1.out hR
        have RB := @readL_form i s d x H1.out hR
        have RC := @readL_ok i s d x H1.out hR
        rw [← EA.out] at RA RB RC
        replace RA := Lib.hid RA
        replace RB := Lib.hid RB
        replace RC := Lib.hid RC
        clear hR
        by_cases hfin : x.fin = 0
        · have HF := Lib.hid hfin
          have S := SeesL.own M 1 rfl rfl prV_len
          have P := fun w S => Page_c i d (.slice q d.length c) w S (by omega) (fun y hy => by have := hm y hy; omega)
          obtain ⟨⟨ps, pe⟩, ep⟩ : ∃ R, R = pageL i d := ⟨_, rfl⟩
          have RB := RB.out
          have RC := RC.out
          rw [← ep] at P RB RC
          replace RB := Lib.hid RB
          replace RC := Lib.hid RC
          replace P := Lib.hid P
          clear ep
          have E := fun w h => End_c gi x w h hf
          rw [hfin] at E
          replace E := Lib.hid E
          clear hfin
          by_cases hpe : pe = 0
          · subst hpe
            have e := RC.out HF.out rfl
            subst e
            clear RA RB RC
            go_wp2_with (first | (go_at_call 34; go_must (refine (E.out _ (M.ok 0 _ rfl)).mono ?_; rintro e w1 ⟨rfl, hb⟩; replace M := M.call hb; clear hb)) | (go_at_call 16; go_must (refine (P.out _ (SeesL.own M 1 rfl rfl prV_len)).mono ?_; rintro e w1 ⟨rfl, hb⟩; replace M := M.call hb; clear hb)))
            go_ret2
            exact Gives.intro M.tail
          · have e := RB.out HF.out hpe
            subst e
            clear RA RB RC
            have hz : ((pe : Int) == 0) = false := by simp; exact hpe
            have hz' : ((pe : Int) != 0) = true := by simp; exact hpe
            go_wp2_with (first | (go_at_call 34; go_must (refine (E.out _ (M.ok 0 _ rfl)).mono ?_; rintro e w1 ⟨rfl, hb⟩; replace M := M.call hb; clear hb)) | (go_at_call 16; go_must (refine (P.out _ (SeesL.own M 1 rfl rfl prV_len)).mono ?_; rintro e w1 ⟨rfl, hb⟩; replace M := M.call hb; clear hb)))
            go_ret2
            exact Gives.intro (p := none) (cap := 0) (M.nil 2)
        · have e := RA.out hfin
          have E := fun w h => End_c gi x w h hf
          obtain ⟨fe, efe⟩ : ∃ f, f = x.fin := ⟨_, rfl⟩
          rw [← efe] at e E hfin
          subst e
          replace E := Lib.hid E
          clear RA RB RC efe
          have hz : ((fe : Int) == 0) = false := by simp; exact hfin
          have hz' : ((fe : Int) != 0) = true := by simp; exact hfin
          go_wp2_with (first | (go_at_call 34; go_must (refine (E.out _ (M.ok 0 _ rfl)).mono ?_; rintro e w1 ⟨rfl, hb⟩; replace M := M.call hb; clear hb)))
          go_ret2
          exact Gives.intro (p := none) (cap := 0) (M.nil 2)
      | succ m =>
        have hf1 := InS.text_fit hf 33
        have hp := InS.text_len x 33
        have T1 := fun g w h => In_Text_c g x w h hf 33 33 rfl (by omega)
        have hb := @rd_bad m x
        have hg := @rd_good m x
        obtain ⟨⟨p, x1⟩, e1⟩ : ∃ R, R = x.text 33 := ⟨_, rfl⟩
        rw [← e1] at hf1 hp T1 hb hg
        simp only at hf1 hp T1 hb hg
        have hf2 := InS.text_fit hf1 32
        have hv := InS.text_len x1 32
        have T2 := fun g w h => In_Text_c g x1 w h hf1 32 32 rfl (by omega)
        obtain ⟨⟨v, x2⟩, e2⟩ : ∃ R, R = x1.text 32 := ⟨_, rfl⟩
        rw [← e2] at hf2 hv T2 hb hg
        simp only at hf2 hv T2 hb hg
        replace T1 := Lib.hid T1
        replace T2 := Lib.hid T2
        replace hb := Lib.hid hb
        replace hg := Lib.hid hg
        clear e1 e2
        by_cases he : x2.err = 0
        · have HE := Lib.hid he
          clear he
          go_wp2_with (first | (go_at_call 32; go_must ((first | (with_reducible refine (T1.out _ _ (M.ok 0 _ rfl)).mono ?_) | (with_reducible refine (T2.out _ _ (M.ok 0 _ rfl)).mono ?_)); rintro e w1 ⟨rfl, U⟩; replace M := M.upd 0 rfl U; clear U; simp only [List.set_cons_zero] at M)) | ((with_reducible show wpList _ _ _ (Oper.mk (some 9) (Op.alloc 28) _ _ _ _ :: _) _ _); refine w_alloc M _ rfl rfl (.agg #[.string (mkS []), .string (mkS [])]) (prV ([], [])) (by kernel_rfl) rfl ?_; clear M; intro gp w1 M; (try conv => arg 5; dsimp only [Act.put, List.setIfInBounds_toArray, List.set_cons_succ, List.set_cons_zero])) | (go_at_call 33; go_must (refine (Fault_ok _ _ _ (M.ok 1 _ rfl) HE.out).mono ?_; rintro e w1 ⟨rfl, rfl⟩)) | ((with_reducible show wpList _ _ _ (Oper.mk _ (Op.buildSlice _ 1 _) _ _ _ _ :: _) _ _); go_must (refine w_buildSlice1 M pairT (by decide) _ rfl rfl (by first | exact ev_tmp rfl | exact ev_const) _ rfl rfl ?_; clear M; intro g w1 M; (try conv => arg 5; dsimp only [Act.put, List.setIfInBounds_toArray, List.set_cons_succ, List.set_cons_zero]))) | ((with_reducible show wpList _ _ _ (Oper.mk _ (Op.call ⟨Callee.builtin Builtin.append, _, _⟩) _ _ _ _ :: _) _ _); go_must (refine w_append_new M 2 pairT _ _ rfl rfl rfl rfl rfl rfl (by first | decide | (intro q hq; simp at hq; subst hq; rfl) | (intro q hq; simp at hq; rcases hq with rfl | rfl; rfl; rfl)) (by decide) (by first | (simp only [maxLen]; omega) | (simp [maxLen]; omega)) (by first | omega | (simp; omega)) ?_; clear M; intro q cap w1 M; (try simp only [List.set_cons_succ, List.set_cons_zero] at M); (try conv => arg 5; dsimp only [Act.put, List.setIfInBounds_toArray, List.set_cons_succ, List.set_cons_zero]))) | ((with_reducible show wpList _ _ _ (Oper.mk _ _ _ _ _ (some _) :: _) _ _); refine w_strip rfl (by with_reducible rfl) ?_) | ((with_reducible show wpList _ _ _ (Oper.mk _ (Op.convert 48 9 _) _ _ _ _ :: _) _ _); go_must (first | (refine w_stringW M 0 _ _ _ _ rfl rfl rfl rfl (by first | assumption | exact shaL_len _ | exact macL_len _ _ | exact words_len _ | exact List.length_replicate | (rw [List.length_set]; first | assumption | exact List.length_replicate) | rfl) (by decide) Try.underlying48 Try.underlying5 Try.underlying9 ?_; (try conv => arg 5; dsimp only [Act.put, List.setIfInBounds_toArray, List.set_cons_succ, List.set_cons_zero])) | (refine w_stringW M 1 _ _ _ _ rfl rfl rfl rfl (by first | assumption | exact shaL_len _ | exact macL_len _ _ | exact words_len _ | exact List.length_replicate | (rw [List.length_set]; first | assumption | exact List.length_replicate) | rfl) (by decide) Try.underlying48 Try.underlying5 Try.underlying9 ?_; (try conv => arg 5; dsimp only [Act.put, List.setIfInBounds_toArray, List.set_cons_succ, List.set_cons_zero])) | (refine w_stringW M 2 _ _ _ _ rfl rfl rfl rfl (by first | assumption | exact shaL_len _ | exact macL_len _ _ | exact words_len _ | exact List.length_replicate | (rw [List.length_set]; first | assumption | exact List.length_replicate) | rfl) (by decide) Try.underlying48 Try.underlying5 Try.underlying9 ?_; (try conv => arg 5; dsimp only [Act.put, List.setIfInBounds_toArray, List.set_cons_succ, List.set_cons_zero])) | (refine w_string M 0 _ _ _ _ rfl rfl rfl (by first | rfl | (simp; done) | assumption) rfl Try.underlying48 Try.underlying5 Try.underlying9 ?_; (try conv => arg 5; dsimp only [Act.put, List.setIfInBounds_toArray, List.set_cons_succ, List.set_cons_zero])) | (refine w_string M 1 _ _ _ _ rfl rfl rfl (by first | rfl | (simp; done) | assumption) rfl Try.underlying48 Try.underlying5 Try.underlying9 ?_; (try conv => arg 5; dsimp only [Act.put, List.setIfInBounds_toArray, List.set_cons_succ, List.set_cons_zero])) | (refine w_string M 2 _ _ _ _ rfl rfl rfl (by first | rfl | (simp; done) | assumption) rfl Try.underlying48 Try.underlying5 Try.underlying9 ?_; (try conv => arg 5; dsimp only [Act.put, List.setIfInBounds_toArray, List.set_cons_succ, List.set_cons_zero])))) | ((with_reducible show wpList _ _ _ (Oper.mk _ (Op.load _ _) _ _ _ _ :: _) _ _); go_must (refine w_at _ _ rfl (by first | exact ev_tmp rfl | exact ev_const) ?_; intro hx; first | (refine w_load M 0 _ _ rfl rfl hx rfl (by decide +kernel) rfl ?_; clear hx; (try conv => arg 5; dsimp only [Act.put, List.setIfInBounds_toArray, List.set_cons_succ, List.set_cons_zero])) | (refine w_load M 1 _ _ rfl rfl hx rfl (by decide +kernel) rfl ?_; clear hx; (try conv => arg 5; dsimp only [Act.put, List.setIfInBounds_toArray, List.set_cons_succ, List.set_cons_zero])) | (refine w_load M 2 _ _ rfl rfl hx rfl (by decide +kernel) rfl ?_; clear hx; (try conv => arg 5; dsimp only [Act.put, List.setIfInBounds_toArray, List.set_cons_succ, List.set_cons_zero])) | (refine w_loadB M 0 _ _ rfl rfl hx rfl (by decide +kernel) (by first | assumption | omega | (simp; omega)) ?_; clear hx; (try conv => arg 5; dsimp only [Act.put, List.setIfInBounds_toArray, List.set_cons_succ, List.set_cons_zero])) | (refine w_loadB M 1 _ _ rfl rfl hx rfl (by decide +kernel) (by first | assumption | omega | (simp; omega)) ?_; clear hx; (try conv => arg 5; dsimp only [Act.put, List.setIfInBounds_toArray, List.set_cons_succ, List.set_cons_zero])) | (refine w_loadB M 2 _ _ rfl rfl hx rfl (by decide +kernel) (by first | assumption | omega | (simp; omega)) ?_; clear hx; (try conv => arg 5; dsimp only [Act.put, List.setIfInBounds_toArray, List.set_cons_succ, List.set_cons_zero])) | (refine w_loadH M 0 _ _ rfl rfl hx rfl (by decide +kernel) (by first | assumption | exact shaL_len _ | exact macL_len _ _ | exact words_len _ | exact List.length_replicate | (rw [List.length_set]; first | assumption | exact List.length_replicate) | rfl) (by decide +kernel) ?_; clear hx; (try conv => arg 5; dsimp only [Act.put, List.setIfInBounds_toArray, List.set_cons_succ, List.set_cons_zero])) | (refine w_loadH M 1 _ _ rfl rfl hx rfl (by decide +kernel) (by first | assumption | exact shaL_len _ | exact macL_len _ _ | exact words_len _ | exact List.length_replicate | (rw [List.length_set]; first | assumption | exact List.length_replicate) | rfl) (by decide +kernel) ?_; clear hx; (try conv => arg 5; dsimp only [Act.put, List.setIfInBounds_toArray, List.set_cons_succ, List.set_cons_zero])) | (refine w_loadH M 2 _ _ rfl rfl hx rfl (by decide +kernel) (by first | assumption | exact shaL_len _ | exact macL_len _ _ | exact words_len _ | exact List.length_replicate | (rw [List.length_set]; first | assumption | exact List.length_replicate) | rfl) (by decide +kernel) ?_; clear hx; (try conv => arg 5; dsimp only [Act.put, List.setIfInBounds_toArray, List.set_cons_succ, List.set_cons_zero])) | (refine w_loadR M 0 _ _ rfl rfl hx rfl (by decide +kernel) (by kernel_rfl) ?_; clear hx; (try conv => arg 5; dsimp only [Act.put, List.setIfInBounds_toArray, List.set_cons_succ, List.set_cons_zero])) | (refine w_loadR M 1 _ _ rfl rfl hx rfl (by decide +kernel) (by kernel_rfl) ?_; clear hx; (try conv => arg 5; dsimp only [Act.put, List.setIfInBounds_toArray, List.set_cons_succ, List.set_cons_zero])) | (refine w_loadR M 2 _ _ rfl rfl hx rfl (by decide +kernel) (by kernel_rfl) ?_; clear hx; (try conv => arg 5; dsimp only [Act.put, List.setIfInBounds_toArray, List.set_cons_succ, List.set_cons_zero])))) | ((with_reducible show wpList _ _ _ (Oper.mk _ (Op.store _ _ _) _ _ _ _ :: _) _ _); go_must (refine w_at2 _ _ _ rfl (by first | exact ev_tmp rfl | exact ev_const) (by first | exact ev_tmp rfl | exact ev_const) ?_; intro hx hy; first | (refine w_storeB M 0 _ _ _ rfl rfl hx rfl hy (by decide +kernel) (by first | assumption | omega | (simp; omega)) ?_; clear hx hy M; intro w1 M; (try simp only [List.set_cons_zero] at M); (try conv => arg 5; dsimp only [Act.put, List.setIfInBounds_toArray, List.set_cons_succ, List.set_cons_zero])) | (refine w_storeB M 1 _ _ _ rfl rfl hx rfl hy (by decide +kernel) (by first | assumption | omega | (simp; omega)) ?_; clear hx hy M; intro w1 M; (try simp only [List.set_cons_succ, List.set_cons_zero] at M); (try conv => arg 5; dsimp only [Act.put, List.setIfInBounds_toArray, List.set_cons_succ, List.set_cons_zero])) | (refine w_storeB M 2 _ _ _ rfl rfl hx rfl hy (by decide +kernel) (by first | assumption | omega | (simp; omega)) ?_; clear hx hy M; intro w1 M; (try simp only [List.set_cons_succ, List.set_cons_zero] at M); (try conv => arg 5; dsimp only [Act.put, List.setIfInBounds_toArray, List.set_cons_succ, List.set_cons_zero])) | (refine w_storeH M 0 _ _ _ rfl rfl hx rfl hy (by first | assumption | exact shaL_len _ | exact macL_len _ _ | exact words_len _ | exact List.length_replicate | (rw [List.length_set]; first | assumption | exact List.length_replicate) | rfl) (by decide +kernel) (by first | assumption | exact shaL_len _ | exact macL_len _ _ | exact words_len _ | exact List.length_replicate | (rw [List.length_set]; first | assumption | exact List.length_replicate) | rfl) ?_; clear hx hy M; intro w1 M; (try simp only [List.set_cons_zero] at M); (try conv => arg 5; dsimp only [Act.put, List.setIfInBounds_toArray, List.set_cons_succ, List.set_cons_zero])) | (refine w_storeH M 1 _ _ _ rfl rfl hx rfl hy (by first | assumption | exact shaL_len _ | exact macL_len _ _ | exact words_len _ | exact List.length_replicate | (rw [List.length_set]; first | assumption | exact List.length_replicate) | rfl) (by decide +kernel) (by first | assumption | exact shaL_len _ | exact macL_len _ _ | exact words_len _ | exact List.length_replicate | (rw [List.length_set]; first | assumption | exact List.length_replicate) | rfl) ?_; clear hx hy M; intro w1 M; (try simp only [List.set_cons_succ, List.set_cons_zero] at M); (try conv => arg 5; dsimp only [Act.put, List.setIfInBounds_toArray, List.set_cons_succ, List.set_cons_zero])) | (refine w_storeH M 2 _ _ _ rfl rfl hx rfl hy (by first | assumption | exact shaL_len _ | exact macL_len _ _ | exact words_len _ | exact List.length_replicate | (rw [List.length_set]; first | assumption | exact List.length_replicate) | rfl) (by decide +kernel) (by first | assumption | exact shaL_len _ | exact macL_len _ _ | exact words_len _ | exact List.length_replicate | (rw [List.length_set]; first | assumption | exact List.length_replicate) | rfl) ?_; clear hx hy M; intro w1 M; (try simp only [List.set_cons_succ, List.set_cons_zero] at M); (try conv => arg 5; dsimp only [Act.put, List.setIfInBounds_toArray, List.set_cons_succ, List.set_cons_zero])) | (refine w_store M 0 _ _ _ rfl rfl hx rfl hy rfl rfl (by decide +kernel) (by first | decide | simp | (simp; omega)) ?_; clear hx hy M; intro w1 M; (try simp only [List.set_cons_zero] at M); (try conv => arg 5; dsimp only [Act.put, List.setIfInBounds_toArray, List.set_cons_succ, List.set_cons_zero])) | (refine w_store M 1 _ _ _ rfl rfl hx rfl hy rfl rfl (by decide +kernel) (by first | decide | simp | (simp; omega)) ?_; clear hx hy M; intro w1 M; (try simp only [List.set_cons_succ, List.set_cons_zero] at M); (try conv => arg 5; dsimp only [Act.put, List.setIfInBounds_toArray, List.set_cons_succ, List.set_cons_zero])) | (refine w_store M 2 _ _ _ rfl rfl hx rfl hy rfl rfl (by decide +kernel) (by first | decide | simp | (simp; omega)) ?_; clear hx hy M; intro w1 M; (try simp only [List.set_cons_succ, List.set_cons_zero] at M); (try conv => arg 5; dsimp only [Act.put, List.setIfInBounds_toArray, List.set_cons_succ, List.set_cons_zero])) | (refine w_storeR M 0 _ _ _ rfl rfl hx rfl _ hy rfl (by kernel_rfl) (by simp [Value.oneCell']) (by first | rfl | assumption) ?_; clear hx hy M; intro w1 M; (try simp only [List.set_cons_zero] at M); (try conv => arg 5; dsimp only [Act.put, List.setIfInBounds_toArray, List.set_cons_succ, List.set_cons_zero])) | (refine w_storeR M 1 _ _ _ rfl rfl hx rfl _ hy rfl (by kernel_rfl) (by simp [Value.oneCell']) (by first | rfl | assumption) ?_; clear hx hy M; intro w1 M; (try simp only [List.set_cons_succ, List.set_cons_zero] at M); (try conv => arg 5; dsimp only [Act.put, List.setIfInBounds_toArray, List.set_cons_succ, List.set_cons_zero])) | (refine w_storeR M 2 _ _ _ rfl rfl hx rfl _ hy rfl (by kernel_rfl) (by simp [Value.oneCell']) (by first | rfl | assumption) ?_; clear hx hy M; intro w1 M; (try simp only [List.set_cons_succ, List.set_cons_zero] at M); (try conv => arg 5; dsimp only [Act.put, List.setIfInBounds_toArray, List.set_cons_succ, List.set_cons_zero])))) | ((with_reducible show wpList _ _ _ (Oper.mk _ (Op.box _ _) _ _ _ _ :: _) _ _); (refine w_box M _ _ rfl rfl _ rfl _ rfl ?_; clear M; intro g w1 M; (try conv => arg 5; dsimp only [Act.put, List.setIfInBounds_toArray, List.set_cons_succ, List.set_cons_zero]))))
          go_roundw
          case rel => exact ⟨m, d ++ [(p, v)], x2, q, cap, by go_num, by simp, hf2, by simp; omega, Lib.hid ⟨by rw [HR.out.1, hg.out HE.out]; simp, fun y hy => by
            rcases List.mem_append.1 hy with hy | hy
            · exact HR.out.2 y hy
            · obtain rfl : y = (p, v) := by simpa using hy
              exact ⟨hp, hv⟩⟩, by simpa [prV] using M.tail⟩
          case measure => simp [intOf]
        · have HE := Lib.hid he
          clear he
          have hR : rdPairs ((inStart s).most 48).1 ((inStart s).most 48).2 = (d, x2) := by rw [← E0.out]; simp only; rw [HR.out.1, hb.out HE.out]; simp
          have e : A = ([], x2.err) := by rw [EA.out, readL_fin H1.out hR (by rw [fin_err HE.out]; exact HE.out), fin_err HE.out]
          obtain ⟨fe, efe⟩ : ∃ f, f = x2.err := ⟨_, rfl⟩
          have F := fun w h => Fault_no gi x2 w h HE.out
          rw [← efe] at e F HE
          have HF := HE.out
          have hz : ((fe : Int) == 0) = false := by simp; exact HF
          have hz' : ((fe : Int) != 0) = true := by simp; exact HF
          replace F := Lib.hid F
          subst e
          clear efe hR HF
          go_wp2_with (first | (go_at_call 32; go_must ((first | (with_reducible refine (T1.out _ _ (M.ok 0 _ rfl)).mono ?_) | (with_reducible refine (T2.out _ _ (M.ok 0 _ rfl)).mono ?_)); rintro e w1 ⟨rfl, U⟩; replace M := M.upd 0 rfl U; clear U; simp only [List.set_cons_zero] at M)) | ((with_reducible show wpList _ _ _ (Oper.mk (some 9) (Op.alloc 28) _ _ _ _ :: _) _ _); refine w_alloc M _ rfl rfl (.agg #[.string (mkS []), .string (mkS [])]) (prV ([], [])) (by kernel_rfl) rfl ?_; clear M; intro gp w1 M; (try conv => arg 5; dsimp only [Act.put, List.setIfInBounds_toArray, List.set_cons_succ, List.set_cons_zero])) | (go_at_call 33; go_must (refine (F.out _ (M.ok 1 _ rfl)).mono ?_; rintro e w1 ⟨rfl, hb⟩; replace M := M.call hb; clear hb)) | ((with_reducible show wpList _ _ _ (Oper.mk _ _ _ _ _ (some _) :: _) _ _); refine w_strip rfl (by with_reducible rfl) ?_) | ((with_reducible show wpList _ _ _ (Oper.mk _ (Op.convert 48 9 _) _ _ _ _ :: _) _ _); go_must (first | (refine w_stringW M 0 _ _ _ _ rfl rfl rfl rfl (by first | assumption | exact shaL_len _ | exact macL_len _ _ | exact words_len _ | exact List.length_replicate | (rw [List.length_set]; first | assumption | exact List.length_replicate) | rfl) (by decide) Try.underlying48 Try.underlying5 Try.underlying9 ?_; (try conv => arg 5; dsimp only [Act.put, List.setIfInBounds_toArray, List.set_cons_succ, List.set_cons_zero])) | (refine w_stringW M 1 _ _ _ _ rfl rfl rfl rfl (by first | assumption | exact shaL_len _ | exact macL_len _ _ | exact words_len _ | exact List.length_replicate | (rw [List.length_set]; first | assumption | exact List.length_replicate) | rfl) (by decide) Try.underlying48 Try.underlying5 Try.underlying9 ?_; (try conv => arg 5; dsimp only [Act.put, List.setIfInBounds_toArray, List.set_cons_succ, List.set_cons_zero])) | (refine w_stringW M 2 _ _ _ _ rfl rfl rfl rfl (by first | assumption | exact shaL_len _ | exact macL_len _ _ | exact words_len _ | exact List.length_replicate | (rw [List.length_set]; first | assumption | exact List.length_replicate) | rfl) (by decide) Try.underlying48 Try.underlying5 Try.underlying9 ?_; (try conv => arg 5; dsimp only [Act.put, List.setIfInBounds_toArray, List.set_cons_succ, List.set_cons_zero])) | (refine w_string M 0 _ _ _ _ rfl rfl rfl (by first | rfl | (simp; done) | assumption) rfl Try.underlying48 Try.underlying5 Try.underlying9 ?_; (try conv => arg 5; dsimp only [Act.put, List.setIfInBounds_toArray, List.set_cons_succ, List.set_cons_zero])) | (refine w_string M 1 _ _ _ _ rfl rfl rfl (by first | rfl | (simp; done) | assumption) rfl Try.underlying48 Try.underlying5 Try.underlying9 ?_; (try conv => arg 5; dsimp only [Act.put, List.setIfInBounds_toArray, List.set_cons_succ, List.set_cons_zero])) | (refine w_string M 2 _ _ _ _ rfl rfl rfl (by first | rfl | (simp; done) | assumption) rfl Try.underlying48 Try.underlying5 Try.underlying9 ?_; (try conv => arg 5; dsimp only [Act.put, List.setIfInBounds_toArray, List.set_cons_succ, List.set_cons_zero])))) | ((with_reducible show wpList _ _ _ (Oper.mk _ (Op.load _ _) _ _ _ _ :: _) _ _); go_must (refine w_at _ _ rfl (by first | exact ev_tmp rfl | exact ev_const) ?_; intro hx; first | (refine w_load M 0 _ _ rfl rfl hx rfl (by decide +kernel) rfl ?_; clear hx; (try conv => arg 5; dsimp only [Act.put, List.setIfInBounds_toArray, List.set_cons_succ, List.set_cons_zero])) | (refine w_load M 1 _ _ rfl rfl hx rfl (by decide +kernel) rfl ?_; clear hx; (try conv => arg 5; dsimp only [Act.put, List.setIfInBounds_toArray, List.set_cons_succ, List.set_cons_zero])) | (refine w_load M 2 _ _ rfl rfl hx rfl (by decide +kernel) rfl ?_; clear hx; (try conv => arg 5; dsimp only [Act.put, List.setIfInBounds_toArray, List.set_cons_succ, List.set_cons_zero])) | (refine w_loadB M 0 _ _ rfl rfl hx rfl (by decide +kernel) (by first | assumption | omega | (simp; omega)) ?_; clear hx; (try conv => arg 5; dsimp only [Act.put, List.setIfInBounds_toArray, List.set_cons_succ, List.set_cons_zero])) | (refine w_loadB M 1 _ _ rfl rfl hx rfl (by decide +kernel) (by first | assumption | omega | (simp; omega)) ?_; clear hx; (try conv => arg 5; dsimp only [Act.put, List.setIfInBounds_toArray, List.set_cons_succ, List.set_cons_zero])) | (refine w_loadB M 2 _ _ rfl rfl hx rfl (by decide +kernel) (by first | assumption | omega | (simp; omega)) ?_; clear hx; (try conv => arg 5; dsimp only [Act.put, List.setIfInBounds_toArray, List.set_cons_succ, List.set_cons_zero])) | (refine w_loadH M 0 _ _ rfl rfl hx rfl (by decide +kernel) (by first | assumption | exact shaL_len _ | exact macL_len _ _ | exact words_len _ | exact List.length_replicate | (rw [List.length_set]; first | assumption | exact List.length_replicate) | rfl) (by decide +kernel) ?_; clear hx; (try conv => arg 5; dsimp only [Act.put, List.setIfInBounds_toArray, List.set_cons_succ, List.set_cons_zero])) | (refine w_loadH M 1 _ _ rfl rfl hx rfl (by decide +kernel) (by first | assumption | exact shaL_len _ | exact macL_len _ _ | exact words_len _ | exact List.length_replicate | (rw [List.length_set]; first | assumption | exact List.length_replicate) | rfl) (by decide +kernel) ?_; clear hx; (try conv => arg 5; dsimp only [Act.put, List.setIfInBounds_toArray, List.set_cons_succ, List.set_cons_zero])) | (refine w_loadH M 2 _ _ rfl rfl hx rfl (by decide +kernel) (by first | assumption | exact shaL_len _ | exact macL_len _ _ | exact words_len _ | exact List.length_replicate | (rw [List.length_set]; first | assumption | exact List.length_replicate) | rfl) (by decide +kernel) ?_; clear hx; (try conv => arg 5; dsimp only [Act.put, List.setIfInBounds_toArray, List.set_cons_succ, List.set_cons_zero])) | (refine w_loadR M 0 _ _ rfl rfl hx rfl (by decide +kernel) (by kernel_rfl) ?_; clear hx; (try conv => arg 5; dsimp only [Act.put, List.setIfInBounds_toArray, List.set_cons_succ, List.set_cons_zero])) | (refine w_loadR M 1 _ _ rfl rfl hx rfl (by decide +kernel) (by kernel_rfl) ?_; clear hx; (try conv => arg 5; dsimp only [Act.put, List.setIfInBounds_toArray, List.set_cons_succ, List.set_cons_zero])) | (refine w_loadR M 2 _ _ rfl rfl hx rfl (by decide +kernel) (by kernel_rfl) ?_; clear hx; (try conv => arg 5; dsimp only [Act.put, List.setIfInBounds_toArray, List.set_cons_succ, List.set_cons_zero])))) | ((with_reducible show wpList _ _ _ (Oper.mk _ (Op.store _ _ _) _ _ _ _ :: _) _ _); go_must (refine w_at2 _ _ _ rfl (by first | exact ev_tmp rfl | exact ev_const) (by first | exact ev_tmp rfl | exact ev_const) ?_; intro hx hy; first | (refine w_storeB M 0 _ _ _ rfl rfl hx rfl hy (by decide +kernel) (by first | assumption | omega | (simp; omega)) ?_; clear hx hy M; intro w1 M; (try simp only [List.set_cons_zero] at M); (try conv => arg 5; dsimp only [Act.put, List.setIfInBounds_toArray, List.set_cons_succ, List.set_cons_zero])) | (refine w_storeB M 1 _ _ _ rfl rfl hx rfl hy (by decide +kernel) (by first | assumption | omega | (simp; omega)) ?_; clear hx hy M; intro w1 M; (try simp only [List.set_cons_succ, List.set_cons_zero] at M); (try conv => arg 5; dsimp only [Act.put, List.setIfInBounds_toArray, List.set_cons_succ, List.set_cons_zero])) | (refine w_storeB M 2 _ _ _ rfl rfl hx rfl hy (by decide +kernel) (by first | assumption | omega | (simp; omega)) ?_; clear hx hy M; intro w1 M; (try simp only [List.set_cons_succ, List.set_cons_zero] at M); (try conv => arg 5; dsimp only [Act.put, List.setIfInBounds_toArray, List.set_cons_succ, List.set_cons_zero])) | (refine w_storeH M 0 _ _ _ rfl rfl hx rfl hy (by first | assumption | exact shaL_len _ | exact macL_len _ _ | exact words_len _ | exact List.length_replicate | (rw [List.length_set]; first | assumption | exact List.length_replicate) | rfl) (by decide +kernel) (by first | assumption | exact shaL_len _ | exact macL_len _ _ | exact words_len _ | exact List.length_replicate | (rw [List.length_set]; first | assumption | exact List.length_replicate) | rfl) ?_; clear hx hy M; intro w1 M; (try simp only [List.set_cons_zero] at M); (try conv => arg 5; dsimp only [Act.put, List.setIfInBounds_toArray, List.set_cons_succ, List.set_cons_zero])) | (refine w_storeH M 1 _ _ _ rfl rfl hx rfl hy (by first | assumption | exact shaL_len _ | exact macL_len _ _ | exact words_len _ | exact List.length_replicate | (rw [List.length_set]; first | assumption | exact List.length_replicate) | rfl) (by decide +kernel) (by first | assumption | exact shaL_len _ | exact macL_len _ _ | exact words_len _ | exact List.length_replicate | (rw [List.length_set]; first | assumption | exact List.length_replicate) | rfl) ?_; clear hx hy M; intro w1 M; (try simp only [List.set_cons_succ, List.set_cons_zero] at M); (try conv => arg 5; dsimp only [Act.put, List.setIfInBounds_toArray, List.set_cons_succ, List.set_cons_zero])) | (refine w_storeH M 2 _ _ _ rfl rfl hx rfl hy (by first | assumption | exact shaL_len _ | exact macL_len _ _ | exact words_len _ | exact List.length_replicate | (rw [List.length_set]; first | assumption | exact List.length_replicate) | rfl) (by decide +kernel) (by first | assumption | exact shaL_len _ | exact macL_len _ _ | exact words_len _ | exact List.length_replicate | (rw [List.length_set]; first | assumption | exact List.length_replicate) | rfl) ?_; clear hx hy M; intro w1 M; (try simp only [List.set_cons_succ, List.set_cons_zero] at M); (try conv => arg 5; dsimp only [Act.put, List.setIfInBounds_toArray, List.set_cons_succ, List.set_cons_zero])) | (refine w_store M 0 _ _ _ rfl rfl hx rfl hy rfl rfl (by decide +kernel) (by first | decide | simp | (simp; omega)) ?_; clear hx hy M; intro w1 M; (try simp only [List.set_cons_zero] at M); (try conv => arg 5; dsimp only [Act.put, List.setIfInBounds_toArray, List.set_cons_succ, List.set_cons_zero])) | (refine w_store M 1 _ _ _ rfl rfl hx rfl hy rfl rfl (by decide +kernel) (by first | decide | simp | (simp; omega)) ?_; clear hx hy M; intro w1 M; (try simp only [List.set_cons_succ, List.set_cons_zero] at M); (try conv => arg 5; dsimp only [Act.put, List.setIfInBounds_toArray, List.set_cons_succ, List.set_cons_zero])) | (refine w_store M 2 _ _ _ rfl rfl hx rfl hy rfl rfl (by decide +kernel) (by first | decide | simp | (simp; omega)) ?_; clear hx hy M; intro w1 M; (try simp only [List.set_cons_succ, List.set_cons_zero] at M); (try conv => arg 5; dsimp only [Act.put, List.setIfInBounds_toArray, List.set_cons_succ, List.set_cons_zero])) | (refine w_storeR M 0 _ _ _ rfl rfl hx rfl _ hy rfl (by kernel_rfl) (by simp [Value.oneCell']) (by first | rfl | assumption) ?_; clear hx hy M; intro w1 M; (try simp only [List.set_cons_zero] at M); (try conv => arg 5; dsimp only [Act.put, List.setIfInBounds_toArray, List.set_cons_succ, List.set_cons_zero])) | (refine w_storeR M 1 _ _ _ rfl rfl hx rfl _ hy rfl (by kernel_rfl) (by simp [Value.oneCell']) (by first | rfl | assumption) ?_; clear hx hy M; intro w1 M; (try simp only [List.set_cons_succ, List.set_cons_zero] at M); (try conv => arg 5; dsimp only [Act.put, List.setIfInBounds_toArray, List.set_cons_succ, List.set_cons_zero])) | (refine w_storeR M 2 _ _ _ rfl rfl hx rfl _ hy rfl (by kernel_rfl) (by simp [Value.oneCell']) (by first | rfl | assumption) ?_; clear hx hy M; intro w1 M; (try simp only [List.set_cons_succ, List.set_cons_zero] at M); (try conv => arg 5; dsimp only [Act.put, List.setIfInBounds_toArray, List.set_cons_succ, List.set_cons_zero])))) | ((with_reducible show wpList _ _ _ (Oper.mk _ (Op.box _ _) _ _ _ _ :: _) _ _); (refine w_box M _ _ rfl rfl _ rfl _ rfl ?_; clear M; intro g w1 M; (try conv => arg 5; dsimp only [Act.put, List.setIfInBounds_toArray, List.set_cons_succ, List.set_cons_zero]))))
          go_ret2
          exact Gives.intro (p := none) (cap := 0) (M.nil 2)
  · rw [Bool.not_eq_true] at h1
    have e : A = ([], 1) := EA.out.trans (readL_arg h1)
    subst e
    rw [h1] at B
    replace B := Lib.hid B
    clear h1
    go_enter Try.func17, Try.ntmps17
    go_wp2_with (first | (go_at_call 26; go_must (refine (B.out _).mono ?_; rintro e w1 ⟨rfl, rfl⟩)))
    go_ret2
    exact Gives.intro (p := none) (cap := 0) (M.nil 2)
end Go.Proofs.Ytjmhjkgcdglpaaa

/- The walk of the reference's Read (layer 14). Conditions: lengths. -/
namespace Go
namespace TL
theorem I64_succ (k : Nat) (h : k < 9223372036854775808) : I64 (w64 (k : Int) + 1) = ((k + 1 : Nat) : Int) := by
  have e : w64 (k : Int) + 1 = w64 ((k + 1 : Nat) : Int) := by
    rw [w64_nat, w64_nat]
    apply UInt64.toNat_inj.1
    simp
  rw [e, I64_nat _ (by omega)]
theorem RS.text_len (x : RS) (m : Nat) : (x.text m).2.rest.length ≤ x.rest.length := by
  have := RS.num_len x m
  unfold RS.text
  split
  · split
    · simp; omega
    · simpa using this
  · exact this
/-- The loop of the reference's Read: what was read, and what is left to read. -/
def RdInv (n0 : Nat) (x0 : InS) (k : Nat) (d : List Pr) (y : RS) : Prop :=
  (y.err = 0 → ∃ x : InS, Alike x y ∧ rdPairs n0 x0 = (d ++ (rdPairs (n0 - k) x).1, (rdPairs (n0 - k) x).2)) ∧ (y.err ≠ 0 → (rdPairs n0 x0).2.err = y.err)
theorem RdInv.step {n0 k : Nat} {x0 : InS} {d : List Pr} {y : RS} (h : RdInv n0 x0 k d y) (hy : y.err = 0) (hk : k < n0) : RdInv n0 x0 (k + 1) (d ++ [((y.text 33).1, ((y.text 33).2.text 32).1)]) ((y.text 33).2.text 32).2 := by
  obtain ⟨x, ha, hr⟩ := h.1 hy
  have a1 := ha.text 33
  have a2 := a1.2.text 32
  rw [show n0 - k = (n0 - (k + 1)) + 1 by omega] at hr
  by_cases he : ((x.text 33).2.text 32).2.err = 0
  · rw [rd_good he] at hr
    refine ⟨fun _ => ⟨_, a2.2, ?_⟩, fun hn => absurd (a2.2.1 ▸ he) hn⟩
    rw [hr, a1.1, a2.1]; simp
  · rw [rd_bad he] at hr
    refine ⟨fun hn => absurd (a2.2.1.trans hn) he, fun _ => ?_⟩
    rw [hr]; exact a2.2.1
theorem RdInv.first (s : List UInt8) : RdInv ((inStart s).most 48).1 ((inStart s).most 48).2 0 [] ((RS.mk s 0).num 48).2 := by
  have a : Alike (inStart s) ⟨s, 0⟩ := ⟨rfl, fun _ => rfl⟩
  have b := a.most 48
  refine ⟨fun _ => ⟨_, b.2, by simp⟩, fun hn => ?_⟩
  have hz : ((inStart s).most 48).1 = 0 := by
    have he : ((inStart s).most 48).2.err ≠ 0 := by rw [b.2.1]; exact hn
    unfold InS.most InS.take at he ⊢
    rw [if_pos (show (inStart s).err = 0 from rfl)] at he ⊢
    rcases read_err (inStart s).rest 48 with h | h | h
    · simp [h] at he
    · simp [h]
    · simp [h]
  rw [hz, rd_zero]
  exact b.2.1
end TL
end Go
namespace Go.Proofs.Ytjmhjkgcdglpaaa
open Go.RowKit Go.TL
set_option maxRecDepth 100000 in
set_option maxHeartbeats 8000000 in
theorem rRead_c (i : Int) (s : List UInt8) (w : World) (hs : s.length ≤ 1000000) :
    Calls Try.prog 24 #[.int .i64 i, .string (mkS s)] w (Gives 2 prV (readL i s).1 (fun u => .tuple #[u, .int .i64 (readL i s).2]) w) := by
  have M := (Mem.start [] w).nil 2
  obtain ⟨A, eA⟩ : ∃ A, A = readL i s := ⟨_, rfl⟩
  rw [← eA]
  have EA := Lib.hid eA
  clear eA
  by_cases h1 : inB i = true
  · obtain ⟨hi0, hi1⟩ : 0 ≤ i ∧ i ≤ 15 := by unfold inB at h1; simp at h1; omega
    have H1 := Lib.hid h1
    clear h1
    have FI := RdInv.first s
    have hn0 := RS.num_le ⟨s, 0⟩ 48
    have hl0 := RS.num_len ⟨s, 0⟩ 48
    have N := fun g w h => InNum12_c g ⟨s, 0⟩ w h 48 48 rfl (by simp only; omega)
    have ha : TL.Alike (inStart s) ⟨s, 0⟩ := ⟨rfl, fun _ => rfl⟩
    have hn := (ha.most 48).1
    rw [hn] at FI
    obtain ⟨⟨n0, y0⟩, e0⟩ : ∃ R, R = (RS.mk s 0).num 48 := ⟨_, rfl⟩
    rw [← e0] at FI hn0 hl0 N hn
    simp only at FI hn0 hl0 N hn
    obtain ⟨x0, ex0⟩ : ∃ x, x = ((inStart s).most 48).2 := ⟨_, rfl⟩
    rw [← ex0] at FI
    have RR : ∀ (d : List Pr) (x : InS), rdPairs n0 x0 = (d, x) → rdPairs ((inStart s).most 48).1 ((inStart s).most 48).2 = (d, x) := fun d x h => by rw [hn, ← ex0]; exact h
    replace RR := Lib.hid RR
    replace N := Lib.hid N
    replace FI := Lib.hid FI
    clear e0 ex0 hn ha
    go_enter Try.func24, Try.ntmps24
    go_wp2_with (first | ((with_reducible show wpList _ _ _ (Oper.mk (some 22) (Op.box _ _) _ _ _ _ :: _) _ _); refine w_box M _ _ rfl rfl _ rfl (irV ⟨s, 0⟩) rfl ?_; clear M; intro gi w1 M; (try conv => arg 5; dsimp only [Act.put, List.setIfInBounds_toArray, List.set_cons_succ, List.set_cons_zero])) | (go_at_call 43; go_must (refine (N.out gi _ (M.ok 0 _ rfl)).mono ?_; rintro e w1 ⟨rfl, U⟩; replace M := M.upd 0 rfl U; clear U; simp only [List.set_cons_zero] at M)))
    go_loopw [7, 9] (fun lv kv wr => ∃ (k : Nat) (d : List Pr) (y : RS) (q : Option Addr) (c : Nat), kv = .int .u64 k ∧ lv = .slice q d.length c ∧ k ≤ n0 ∧ d.length ≤ 48 ∧ y.rest.length ≤ s.length ∧ Hid (RdInv n0 x0 k d y ∧ (∀ z ∈ d, z.1.length ≤ 33 ∧ z.2.length ≤ 32) ∧ d.length = k) ∧ Mem [] w wr [.row gi (irV y), .sl 2 (.slice q d.length c) d.length (d.flatMap prV)]) (fun _ kv _ => n0 - (intOf kv).toNat)
    case atStart => exact ⟨0, [], y0, none, 0, rfl, rfl, by omega, by simp, hl0, Lib.hid ⟨FI.out, by simp, rfl⟩, M⟩
    case round =>
      clear M
      obtain ⟨k, d, ⟨r, er⟩, q, c, rfl, rfl, hk, hdk, hr, HI, M⟩ := hrel
      simp only at hr
      have M : Mem [] w wr [.row gi [.string (mkS r), .int .i64 (er : Nat)], .sl 2 (.slice q d.length c) d.length (d.flatMap prV)] := M
      by_cases he : er = 0
      · subst he
        by_cases hlt : k < n0
        · have hI := HI.out.1.step rfl hlt
          have hp : ((RS.mk r 0).text 33).1.length ≤ 33 := by have := InS.text_len ⟨r, 0, 0⟩ 33; rwa [(show TL.Alike ⟨r, 0, 0⟩ ⟨r, 0⟩ from ⟨rfl, fun _ => rfl⟩).text 33 |>.1] at this
          have hl1 := RS.text_len ⟨r, 0⟩ 33
          have T1 := fun g w h => InText12_c g ⟨r, 0⟩ w h 33 33 rfl (by simp only; omega)
          obtain ⟨⟨p, y1⟩, e1⟩ : ∃ R, R = (RS.mk r 0).text 33 := ⟨_, rfl⟩
          rw [← e1] at hI hp hl1 T1
          simp only at hI hp hl1 T1
          have hv : (y1.text 32).1.length ≤ 32 := by
            have a : TL.Alike ⟨y1.rest, 0, y1.err⟩ y1 := ⟨rfl, fun _ => rfl⟩
            have := InS.text_len ⟨y1.rest, 0, y1.err⟩ 32; rwa [(a.text 32).1] at this
          have hl2 := RS.text_len y1 32
          have T2 := fun g w h => InText12_c g y1 w h 32 32 rfl (by omega)
          obtain ⟨⟨v, y2⟩, e2⟩ : ∃ R, R = y1.text 32 := ⟨_, rfl⟩
          rw [← e2] at hI hv hl2 T2
          simp only at hI hv hl2 T2
          replace T1 := Lib.hid T1
          replace T2 := Lib.hid T2
          replace hI := Lib.hid hI
          clear e1 e2
          have hlt' : (k : Int) < (n0 : Int) := by omega
          go_wp2_with (first | (go_at_call 44; go_must ((first | (with_reducible refine (T1.out _ _ (M.ok 0 _ rfl)).mono ?_) | (with_reducible refine (T2.out _ _ (M.ok 0 _ rfl)).mono ?_)); rintro e w1 ⟨rfl, U⟩; replace M := M.upd 0 rfl U; clear U; simp only [List.set_cons_zero] at M)) | ((with_reducible show wpList _ _ _ (Oper.mk _ (Op.buildSlice _ 1 _) _ _ _ _ :: _) _ _); go_must (refine w_buildSlice1 M pairT (by decide) _ rfl rfl (by first | exact ev_tmp rfl | exact ev_const) _ rfl rfl ?_; clear M; intro g w1 M; (try conv => arg 5; dsimp only [Act.put, List.setIfInBounds_toArray, List.set_cons_succ, List.set_cons_zero]))) | ((with_reducible show wpList _ _ _ (Oper.mk _ (Op.call ⟨Callee.builtin Builtin.append, _, _⟩) _ _ _ _ :: _) _ _); go_must (refine w_append_new M 1 pairT _ _ rfl rfl rfl rfl rfl rfl (by first | decide | (intro q hq; simp at hq; subst hq; rfl) | (intro q hq; simp at hq; rcases hq with rfl | rfl; rfl; rfl)) (by decide) (by first | (simp only [maxLen]; omega) | (simp [maxLen]; omega)) (by first | omega | (simp; omega)) ?_; clear M; intro q cap w1 M; (try simp only [List.set_cons_succ, List.set_cons_zero] at M); (try conv => arg 5; dsimp only [Act.put, List.setIfInBounds_toArray, List.set_cons_succ, List.set_cons_zero]))) | ((with_reducible show wpList _ _ _ (Oper.mk _ _ _ _ _ (some _) :: _) _ _); refine w_strip rfl (by with_reducible rfl) ?_) | ((with_reducible show wpList _ _ _ (Oper.mk _ (Op.convert 48 9 _) _ _ _ _ :: _) _ _); go_must (first | (refine w_stringW M 0 _ _ _ _ rfl rfl rfl rfl (by first | assumption | exact shaL_len _ | exact macL_len _ _ | exact words_len _ | exact List.length_replicate | (rw [List.length_set]; first | assumption | exact List.length_replicate) | rfl) (by decide) Try.underlying48 Try.underlying5 Try.underlying9 ?_; (try conv => arg 5; dsimp only [Act.put, List.setIfInBounds_toArray, List.set_cons_succ, List.set_cons_zero])) | (refine w_stringW M 1 _ _ _ _ rfl rfl rfl rfl (by first | assumption | exact shaL_len _ | exact macL_len _ _ | exact words_len _ | exact List.length_replicate | (rw [List.length_set]; first | assumption | exact List.length_replicate) | rfl) (by decide) Try.underlying48 Try.underlying5 Try.underlying9 ?_; (try conv => arg 5; dsimp only [Act.put, List.setIfInBounds_toArray, List.set_cons_succ, List.set_cons_zero])) | (refine w_stringW M 2 _ _ _ _ rfl rfl rfl rfl (by first | assumption | exact shaL_len _ | exact macL_len _ _ | exact words_len _ | exact List.length_replicate | (rw [List.length_set]; first | assumption | exact List.length_replicate) | rfl) (by decide) Try.underlying48 Try.underlying5 Try.underlying9 ?_; (try conv => arg 5; dsimp only [Act.put, List.setIfInBounds_toArray, List.set_cons_succ, List.set_cons_zero])) | (refine w_string M 0 _ _ _ _ rfl rfl rfl (by first | rfl | (simp; done) | assumption) rfl Try.underlying48 Try.underlying5 Try.underlying9 ?_; (try conv => arg 5; dsimp only [Act.put, List.setIfInBounds_toArray, List.set_cons_succ, List.set_cons_zero])) | (refine w_string M 1 _ _ _ _ rfl rfl rfl (by first | rfl | (simp; done) | assumption) rfl Try.underlying48 Try.underlying5 Try.underlying9 ?_; (try conv => arg 5; dsimp only [Act.put, List.setIfInBounds_toArray, List.set_cons_succ, List.set_cons_zero])) | (refine w_string M 2 _ _ _ _ rfl rfl rfl (by first | rfl | (simp; done) | assumption) rfl Try.underlying48 Try.underlying5 Try.underlying9 ?_; (try conv => arg 5; dsimp only [Act.put, List.setIfInBounds_toArray, List.set_cons_succ, List.set_cons_zero])))) | ((with_reducible show wpList _ _ _ (Oper.mk _ (Op.load _ _) _ _ _ _ :: _) _ _); go_must (refine w_at _ _ rfl (by first | exact ev_tmp rfl | exact ev_const) ?_; intro hx; first | (refine w_load M 0 _ _ rfl rfl hx rfl (by decide +kernel) rfl ?_; clear hx; (try conv => arg 5; dsimp only [Act.put, List.setIfInBounds_toArray, List.set_cons_succ, List.set_cons_zero])) | (refine w_load M 1 _ _ rfl rfl hx rfl (by decide +kernel) rfl ?_; clear hx; (try conv => arg 5; dsimp only [Act.put, List.setIfInBounds_toArray, List.set_cons_succ, List.set_cons_zero])) | (refine w_load M 2 _ _ rfl rfl hx rfl (by decide +kernel) rfl ?_; clear hx; (try conv => arg 5; dsimp only [Act.put, List.setIfInBounds_toArray, List.set_cons_succ, List.set_cons_zero])) | (refine w_loadB M 0 _ _ rfl rfl hx rfl (by decide +kernel) (by first | assumption | omega | (simp; omega)) ?_; clear hx; (try conv => arg 5; dsimp only [Act.put, List.setIfInBounds_toArray, List.set_cons_succ, List.set_cons_zero])) | (refine w_loadB M 1 _ _ rfl rfl hx rfl (by decide +kernel) (by first | assumption | omega | (simp; omega)) ?_; clear hx; (try conv => arg 5; dsimp only [Act.put, List.setIfInBounds_toArray, List.set_cons_succ, List.set_cons_zero])) | (refine w_loadB M 2 _ _ rfl rfl hx rfl (by decide +kernel) (by first | assumption | omega | (simp; omega)) ?_; clear hx; (try conv => arg 5; dsimp only [Act.put, List.setIfInBounds_toArray, List.set_cons_succ, List.set_cons_zero])) | (refine w_loadH M 0 _ _ rfl rfl hx rfl (by decide +kernel) (by first | assumption | exact shaL_len _ | exact macL_len _ _ | exact words_len _ | exact List.length_replicate | (rw [List.length_set]; first | assumption | exact List.length_replicate) | rfl) (by decide +kernel) ?_; clear hx; (try conv => arg 5; dsimp only [Act.put, List.setIfInBounds_toArray, List.set_cons_succ, List.set_cons_zero])) | (refine w_loadH M 1 _ _ rfl rfl hx rfl (by decide +kernel) (by first | assumption | exact shaL_len _ | exact macL_len _ _ | exact words_len _ | exact List.length_replicate | (rw [List.length_set]; first | assumption | exact List.length_replicate) | rfl) (by decide +kernel) ?_; clear hx; (try conv => arg 5; dsimp only [Act.put, List.setIfInBounds_toArray, List.set_cons_succ, List.set_cons_zero])) | (refine w_loadH M 2 _ _ rfl rfl hx rfl (by decide +kernel) (by first | assumption | exact shaL_len _ | exact macL_len _ _ | exact words_len _ | exact List.length_replicate | (rw [List.length_set]; first | assumption | exact List.length_replicate) | rfl) (by decide +kernel) ?_; clear hx; (try conv => arg 5; dsimp only [Act.put, List.setIfInBounds_toArray, List.set_cons_succ, List.set_cons_zero])) | (refine w_loadR M 0 _ _ rfl rfl hx rfl (by decide +kernel) (by kernel_rfl) ?_; clear hx; (try conv => arg 5; dsimp only [Act.put, List.setIfInBounds_toArray, List.set_cons_succ, List.set_cons_zero])) | (refine w_loadR M 1 _ _ rfl rfl hx rfl (by decide +kernel) (by kernel_rfl) ?_; clear hx; (try conv => arg 5; dsimp only [Act.put, List.setIfInBounds_toArray, List.set_cons_succ, List.set_cons_zero])) | (refine w_loadR M 2 _ _ rfl rfl hx rfl (by decide +kernel) (by kernel_rfl) ?_; clear hx; (try conv => arg 5; dsimp only [Act.put, List.setIfInBounds_toArray, List.set_cons_succ, List.set_cons_zero])))) | ((with_reducible show wpList _ _ _ (Oper.mk _ (Op.store _ _ _) _ _ _ _ :: _) _ _); go_must (refine w_at2 _ _ _ rfl (by first | exact ev_tmp rfl | exact ev_const) (by first | exact ev_tmp rfl | exact ev_const) ?_; intro hx hy; first | (refine w_storeB M 0 _ _ _ rfl rfl hx rfl hy (by decide +kernel) (by first | assumption | omega | (simp; omega)) ?_; clear hx hy M; intro w1 M; (try simp only [List.set_cons_zero] at M); (try conv => arg 5; dsimp only [Act.put, List.setIfInBounds_toArray, List.set_cons_succ, List.set_cons_zero])) | (refine w_storeB M 1 _ _ _ rfl rfl hx rfl hy (by decide +kernel) (by first | assumption | omega | (simp; omega)) ?_; clear hx hy M; intro w1 M; (try simp only [List.set_cons_succ, List.set_cons_zero] at M); (try conv => arg 5; dsimp only [Act.put, List.setIfInBounds_toArray, List.set_cons_succ, List.set_cons_zero])) | (refine w_storeB M 2 _ _ _ rfl rfl hx rfl hy (by decide +kernel) (by first | assumption | omega | (simp; omega)) ?_; clear hx hy M; intro w1 M; (try simp only [List.set_cons_succ, List.set_cons_zero] at M); (try conv => arg 5; dsimp only [Act.put, List.setIfInBounds_toArray, List.set_cons_succ, List.set_cons_zero])) | (refine w_storeH M 0 _ _ _ rfl rfl hx rfl hy (by first | assumption | exact shaL_len _ | exact macL_len _ _ | exact words_len _ | exact List.length_replicate | (rw [List.length_set]; first | assumption | exact List.length_replicate) | rfl) (by decide +kernel) (by first | assumption | exact shaL_len _ | exact macL_len _ _ | exact words_len _ | exact List.length_replicate | (rw [List.length_set]; first | assumption | exact List.length_replicate) | rfl) ?_; clear hx hy M; intro w1 M; (try simp only [List.set_cons_zero] at M); (try conv => arg 5; dsimp only [Act.put, List.setIfInBounds_toArray, List.set_cons_succ, List.set_cons_zero])) | (refine w_storeH M 1 _ _ _ rfl rfl hx rfl hy (by first | assumption | exact shaL_len _ | exact macL_len _ _ | exact words_len _ | exact List.length_replicate | (rw [List.length_set]; first | assumption | exact List.length_replicate) | rfl) (by decide +kernel) (by first | assumption | exact shaL_len _ | exact macL_len _ _ | exact words_len _ | exact List.length_replicate | (rw [List.length_set]; first | assumption | exact List.length_replicate) | rfl) ?_; clear hx hy M; intro w1 M; (try simp only [List.set_cons_succ, List.set_cons_zero] at M); (try conv => arg 5; dsimp only [Act.put, List.setIfInBounds_toArray, List.set_cons_succ, List.set_cons_zero])) | (refine w_storeH M 2 _ _ _ rfl rfl hx rfl hy (by first | assumption | exact shaL_len _ | exact macL_len _ _ | exact words_len _ | exact List.length_replicate | (rw [List.length_set]; first | assumption | exact List.length_replicate) | rfl) (by decide +kernel) (by first | assumption | exact shaL_len _ | exact macL_len _ _ | exact words_len _ | exact List.length_replicate | (rw [List.length_set]; first | assumption | exact List.length_replicate) | rfl) ?_; clear hx hy M; intro w1 M; (try simp only [List.set_cons_succ, List.set_cons_zero] at M); (try conv => arg 5; dsimp only [Act.put, List.setIfInBounds_toArray, List.set_cons_succ, List.set_cons_zero])) | (refine w_store M 0 _ _ _ rfl rfl hx rfl hy rfl rfl (by decide +kernel) (by first | decide | simp | (simp; omega)) ?_; clear hx hy M; intro w1 M; (try simp only [List.set_cons_zero] at M); (try conv => arg 5; dsimp only [Act.put, List.setIfInBounds_toArray, List.set_cons_succ, List.set_cons_zero])) | (refine w_store M 1 _ _ _ rfl rfl hx rfl hy rfl rfl (by decide +kernel) (by first | decide | simp | (simp; omega)) ?_; clear hx hy M; intro w1 M; (try simp only [List.set_cons_succ, List.set_cons_zero] at M); (try conv => arg 5; dsimp only [Act.put, List.setIfInBounds_toArray, List.set_cons_succ, List.set_cons_zero])) | (refine w_store M 2 _ _ _ rfl rfl hx rfl hy rfl rfl (by decide +kernel) (by first | decide | simp | (simp; omega)) ?_; clear hx hy M; intro w1 M; (try simp only [List.set_cons_succ, List.set_cons_zero] at M); (try conv => arg 5; dsimp only [Act.put, List.setIfInBounds_toArray, List.set_cons_succ, List.set_cons_zero])) | (refine w_storeR M 0 _ _ _ rfl rfl hx rfl _ hy rfl (by kernel_rfl) (by simp [Value.oneCell']) (by first | rfl | assumption) ?_; clear hx hy M; intro w1 M; (try simp only [List.set_cons_zero] at M); (try conv => arg 5; dsimp only [Act.put, List.setIfInBounds_toArray, List.set_cons_succ, List.set_cons_zero])) | (refine w_storeR M 1 _ _ _ rfl rfl hx rfl _ hy rfl (by kernel_rfl) (by simp [Value.oneCell']) (by first | rfl | assumption) ?_; clear hx hy M; intro w1 M; (try simp only [List.set_cons_succ, List.set_cons_zero] at M); (try conv => arg 5; dsimp only [Act.put, List.setIfInBounds_toArray, List.set_cons_succ, List.set_cons_zero])) | (refine w_storeR M 2 _ _ _ rfl rfl hx rfl _ hy rfl (by kernel_rfl) (by simp [Value.oneCell']) (by first | rfl | assumption) ?_; clear hx hy M; intro w1 M; (try simp only [List.set_cons_succ, List.set_cons_zero] at M); (try conv => arg 5; dsimp only [Act.put, List.setIfInBounds_toArray, List.set_cons_succ, List.set_cons_zero])))) | ((with_reducible show wpList _ _ _ (Oper.mk _ (Op.box _ _) _ _ _ _ :: _) _ _); (refine w_box M _ _ rfl rfl _ rfl _ rfl ?_; clear M; intro g w1 M; (try conv => arg 5; dsimp only [Act.put, List.setIfInBounds_toArray, List.set_cons_succ, List.set_cons_zero]))))
          have e9 := I64_succ k (by omega)
          go_roundw
          case rel => exact ⟨k + 1, d ++ [(p, v)], y2, q, cap, by rw [← e9], by simp, by omega, by have := HI.out.2.2; simp; omega, by omega, Lib.hid ⟨hI.out, fun z hz => by
            rcases List.mem_append.1 hz with hz | hz
            · exact HI.out.2.1 z hz
            · obtain rfl : z = (p, v) := by simpa using hz
              exact ⟨hp, hv⟩, by have := HI.out.2.2; simp; omega⟩, by simpa [prV] using M⟩
          case measure =>
            rw [e9]; simp only [intOf]; omega
        · have hlt' : (n0 : Int) ≤ (k : Int) := by omega
          obtain ⟨x, ha, hR⟩ := HI.out.1.1 rfl
          rw [show n0 - k = 0 by omega, rd_zero, List.append_nil] at hR
          have hR := RR.out _ _ hR
          have hx0 : x.err = 0 := ha.1
          have hxr : x.rest = r := ha.2 hx0
          have hm := HI.out.2.1
          have RA := @readL_fin i s d x H1.out hR
          have RB := @readL_form i s d x H1.out hR
          have RC := @readL_ok i s d x H1.out hR
          rw [← EA.out] at RA RB RC
          replace RA := Lib.hid RA
          replace RB := Lib.hid RB
          replace RC := Lib.hid RC
          clear hR hlt
          cases r with
          | cons b t =>
            have hfin : x.fin = 8 := by unfold InS.fin; rw [if_pos hx0, hxr, if_neg (by simp)]
            have e : A = ([], 8) := by rw [RA.out (by rw [hfin]; decide), hfin]
            subst e
            clear RA RB RC hx0 hxr hfin ha hm
            go_wp2_with (first | ((with_reducible show Seg _ _ _ _); go_must (first | refine Seg.intro ⟨fun h => absurd rfl h, ?_⟩ | refine Seg.intro ⟨fun _ => (by repeat' (first | exact ixOk_nil M.kept | refine ixOk_cons rfl (by first | exact M.ok 0 _ rfl | exact M.ok 1 _ rfl | exact M.ok 2 _ rfl | exact M.ok 3 _ rfl | exact M.ok 4 _ rfl) ?_)), ?_⟩ | refine Seg.intro ⟨(by repeat' (first | (with_reducible exact needs_nil) | refine needs_at rfl (by first | (show Shape.ok Shape.nums _ = true; exact nums_bs _) | rfl) ?_)), (by repeat' (first | (with_reducible exact ats_nil) | refine ats_cons (by first | exact ev_tmp rfl | rfl) ?_)), ?_⟩)) | ((with_reducible show OnlyN _ _ _ _ _); refine OnlyN.intro (by kernel_rfl) ?_) | ((with_reducible show wpList _ _ _ (Oper.mk _ _ _ _ _ (some _) :: _) _ _); refine w_strip rfl (by with_reducible rfl) ?_) | ((with_reducible show wpList _ _ _ (Oper.mk _ (Op.convert 48 9 _) _ _ _ _ :: _) _ _); go_must (first | (refine w_stringW M 0 _ _ _ _ rfl rfl rfl rfl (by first | assumption | exact shaL_len _ | exact macL_len _ _ | exact words_len _ | exact List.length_replicate | (rw [List.length_set]; first | assumption | exact List.length_replicate) | rfl) (by decide) Try.underlying48 Try.underlying5 Try.underlying9 ?_; (try conv => arg 5; dsimp only [Act.put, List.setIfInBounds_toArray, List.set_cons_succ, List.set_cons_zero])) | (refine w_stringW M 1 _ _ _ _ rfl rfl rfl rfl (by first | assumption | exact shaL_len _ | exact macL_len _ _ | exact words_len _ | exact List.length_replicate | (rw [List.length_set]; first | assumption | exact List.length_replicate) | rfl) (by decide) Try.underlying48 Try.underlying5 Try.underlying9 ?_; (try conv => arg 5; dsimp only [Act.put, List.setIfInBounds_toArray, List.set_cons_succ, List.set_cons_zero])) | (refine w_stringW M 2 _ _ _ _ rfl rfl rfl rfl (by first | assumption | exact shaL_len _ | exact macL_len _ _ | exact words_len _ | exact List.length_replicate | (rw [List.length_set]; first | assumption | exact List.length_replicate) | rfl) (by decide) Try.underlying48 Try.underlying5 Try.underlying9 ?_; (try conv => arg 5; dsimp only [Act.put, List.setIfInBounds_toArray, List.set_cons_succ, List.set_cons_zero])) | (refine w_string M 0 _ _ _ _ rfl rfl rfl (by first | rfl | (simp; done) | assumption) rfl Try.underlying48 Try.underlying5 Try.underlying9 ?_; (try conv => arg 5; dsimp only [Act.put, List.setIfInBounds_toArray, List.set_cons_succ, List.set_cons_zero])) | (refine w_string M 1 _ _ _ _ rfl rfl rfl (by first | rfl | (simp; done) | assumption) rfl Try.underlying48 Try.underlying5 Try.underlying9 ?_; (try conv => arg 5; dsimp only [Act.put, List.setIfInBounds_toArray, List.set_cons_succ, List.set_cons_zero])) | (refine w_string M 2 _ _ _ _ rfl rfl rfl (by first | rfl | (simp; done) | assumption) rfl Try.underlying48 Try.underlying5 Try.underlying9 ?_; (try conv => arg 5; dsimp only [Act.put, List.setIfInBounds_toArray, List.set_cons_succ, List.set_cons_zero])))) | ((with_reducible show wpList _ _ _ (Oper.mk _ (Op.load _ _) _ _ _ _ :: _) _ _); go_must (refine w_at _ _ rfl (by first | exact ev_tmp rfl | exact ev_const) ?_; intro hx; first | (refine w_load M 0 _ _ rfl rfl hx rfl (by decide +kernel) rfl ?_; clear hx; (try conv => arg 5; dsimp only [Act.put, List.setIfInBounds_toArray, List.set_cons_succ, List.set_cons_zero])) | (refine w_load M 1 _ _ rfl rfl hx rfl (by decide +kernel) rfl ?_; clear hx; (try conv => arg 5; dsimp only [Act.put, List.setIfInBounds_toArray, List.set_cons_succ, List.set_cons_zero])) | (refine w_load M 2 _ _ rfl rfl hx rfl (by decide +kernel) rfl ?_; clear hx; (try conv => arg 5; dsimp only [Act.put, List.setIfInBounds_toArray, List.set_cons_succ, List.set_cons_zero])) | (refine w_loadB M 0 _ _ rfl rfl hx rfl (by decide +kernel) (by first | assumption | omega | (simp; omega)) ?_; clear hx; (try conv => arg 5; dsimp only [Act.put, List.setIfInBounds_toArray, List.set_cons_succ, List.set_cons_zero])) | (refine w_loadB M 1 _ _ rfl rfl hx rfl (by decide +kernel) (by first | assumption | omega | (simp; omega)) ?_; clear hx; (try conv => arg 5; dsimp only [Act.put, List.setIfInBounds_toArray, List.set_cons_succ, List.set_cons_zero])) | (refine w_loadB M 2 _ _ rfl rfl hx rfl (by decide +kernel) (by first | assumption | omega | (simp; omega)) ?_; clear hx; (try conv => arg 5; dsimp only [Act.put, List.setIfInBounds_toArray, List.set_cons_succ, List.set_cons_zero])) | (refine w_loadH M 0 _ _ rfl rfl hx rfl (by decide +kernel) (by first | assumption | exact shaL_len _ | exact macL_len _ _ | exact words_len _ | exact List.length_replicate | (rw [List.length_set]; first | assumption | exact List.length_replicate) | rfl) (by decide +kernel) ?_; clear hx; (try conv => arg 5; dsimp only [Act.put, List.setIfInBounds_toArray, List.set_cons_succ, List.set_cons_zero])) | (refine w_loadH M 1 _ _ rfl rfl hx rfl (by decide +kernel) (by first | assumption | exact shaL_len _ | exact macL_len _ _ | exact words_len _ | exact List.length_replicate | (rw [List.length_set]; first | assumption | exact List.length_replicate) | rfl) (by decide +kernel) ?_; clear hx; (try conv => arg 5; dsimp only [Act.put, List.setIfInBounds_toArray, List.set_cons_succ, List.set_cons_zero])) | (refine w_loadH M 2 _ _ rfl rfl hx rfl (by decide +kernel) (by first | assumption | exact shaL_len _ | exact macL_len _ _ | exact words_len _ | exact List.length_replicate | (rw [List.length_set]; first | assumption | exact List.length_replicate) | rfl) (by decide +kernel) ?_; clear hx; (try conv => arg 5; dsimp only [Act.put, List.setIfInBounds_toArray, List.set_cons_succ, List.set_cons_zero])) | (refine w_loadR M 0 _ _ rfl rfl hx rfl (by decide +kernel) (by kernel_rfl) ?_; clear hx; (try conv => arg 5; dsimp only [Act.put, List.setIfInBounds_toArray, List.set_cons_succ, List.set_cons_zero])) | (refine w_loadR M 1 _ _ rfl rfl hx rfl (by decide +kernel) (by kernel_rfl) ?_; clear hx; (try conv => arg 5; dsimp only [Act.put, List.setIfInBounds_toArray, List.set_cons_succ, List.set_cons_zero])) | (refine w_loadR M 2 _ _ rfl rfl hx rfl (by decide +kernel) (by kernel_rfl) ?_; clear hx; (try conv => arg 5; dsimp only [Act.put, List.setIfInBounds_toArray, List.set_cons_succ, List.set_cons_zero])))) | ((with_reducible show wpList _ _ _ (Oper.mk _ (Op.store _ _ _) _ _ _ _ :: _) _ _); go_must (refine w_at2 _ _ _ rfl (by first | exact ev_tmp rfl | exact ev_const) (by first | exact ev_tmp rfl | exact ev_const) ?_; intro hx hy; first | (refine w_storeB M 0 _ _ _ rfl rfl hx rfl hy (by decide +kernel) (by first | assumption | omega | (simp; omega)) ?_; clear hx hy M; intro w1 M; (try simp only [List.set_cons_zero] at M); (try conv => arg 5; dsimp only [Act.put, List.setIfInBounds_toArray, List.set_cons_succ, List.set_cons_zero])) | (refine w_storeB M 1 _ _ _ rfl rfl hx rfl hy (by decide +kernel) (by first | assumption | omega | (simp; omega)) ?_; clear hx hy M; intro w1 M; (try simp only [List.set_cons_succ, List.set_cons_zero] at M); (try conv => arg 5; dsimp only [Act.put, List.setIfInBounds_toArray, List.set_cons_succ, List.set_cons_zero])) | (refine w_storeB M 2 _ _ _ rfl rfl hx rfl hy (by decide +kernel) (by first | assumption | omega | (simp; omega)) ?_; clear hx hy M; intro w1 M; (try simp only [List.set_cons_succ, List.set_cons_zero] at M); (try conv => arg 5; dsimp only [Act.put, List.setIfInBounds_toArray, List.set_cons_succ, List.set_cons_zero])) | (refine w_storeH M 0 _ _ _ rfl rfl hx rfl hy (by first | assumption | exact shaL_len _ | exact macL_len _ _ | exact words_len _ | exact List.length_replicate | (rw [List.length_set]; first | assumption | exact List.length_replicate) | rfl) (by decide +kernel) (by first | assumption | exact shaL_len _ | exact macL_len _ _ | exact words_len _ | exact List.length_replicate | (rw [List.length_set]; first | assumption | exact List.length_replicate) | rfl) ?_; clear hx hy M; intro w1 M; (try simp only [List.set_cons_zero] at M); (try conv => arg 5; dsimp only [Act.put, List.setIfInBounds_toArray, List.set_cons_succ, List.set_cons_zero])) | (refine w_storeH M 1 _ _ _ rfl rfl hx rfl hy (by first | assumption | exact shaL_len _ | exact macL_len _ _ | exact words_len _ | exact List.length_replicate | (rw [List.length_set]; first | assumption | exact List.length_replicate) | rfl) (by decide +kernel) (by first | assumption | exact shaL_len _ | exact macL_len _ _ | exact words_len _ | exact List.length_replicate | (rw [List.length_set]; first | assumption | exact List.length_replicate) | rfl) ?_; clear hx hy M; intro w1 M; (try simp only [List.set_cons_succ, List.set_cons_zero] at M); (try conv => arg 5; dsimp only [Act.put, List.setIfInBounds_toArray, List.set_cons_succ, List.set_cons_zero])) | (refine w_storeH M 2 _ _ _ rfl rfl hx rfl hy (by first | assumption | exact shaL_len _ | exact macL_len _ _ | exact words_len _ | exact List.length_replicate | (rw [List.length_set]; first | assumption | exact List.length_replicate) | rfl) (by decide +kernel) (by first | assumption | exact shaL_len _ | exact macL_len _ _ | exact words_len _ | exact List.length_replicate | (rw [List.length_set]; first | assumption | exact List.length_replicate) | rfl) ?_; clear hx hy M; intro w1 M; (try simp only [List.set_cons_succ, List.set_cons_zero] at M); (try conv => arg 5; dsimp only [Act.put, List.setIfInBounds_toArray, List.set_cons_succ, List.set_cons_zero])) | (refine w_store M 0 _ _ _ rfl rfl hx rfl hy rfl rfl (by decide +kernel) (by first | decide | simp | (simp; omega)) ?_; clear hx hy M; intro w1 M; (try simp only [List.set_cons_zero] at M); (try conv => arg 5; dsimp only [Act.put, List.setIfInBounds_toArray, List.set_cons_succ, List.set_cons_zero])) | (refine w_store M 1 _ _ _ rfl rfl hx rfl hy rfl rfl (by decide +kernel) (by first | decide | simp | (simp; omega)) ?_; clear hx hy M; intro w1 M; (try simp only [List.set_cons_succ, List.set_cons_zero] at M); (try conv => arg 5; dsimp only [Act.put, List.setIfInBounds_toArray, List.set_cons_succ, List.set_cons_zero])) | (refine w_store M 2 _ _ _ rfl rfl hx rfl hy rfl rfl (by decide +kernel) (by first | decide | simp | (simp; omega)) ?_; clear hx hy M; intro w1 M; (try simp only [List.set_cons_succ, List.set_cons_zero] at M); (try conv => arg 5; dsimp only [Act.put, List.setIfInBounds_toArray, List.set_cons_succ, List.set_cons_zero])) | (refine w_storeR M 0 _ _ _ rfl rfl hx rfl _ hy rfl (by kernel_rfl) (by simp [Value.oneCell']) (by first | rfl | assumption) ?_; clear hx hy M; intro w1 M; (try simp only [List.set_cons_zero] at M); (try conv => arg 5; dsimp only [Act.put, List.setIfInBounds_toArray, List.set_cons_succ, List.set_cons_zero])) | (refine w_storeR M 1 _ _ _ rfl rfl hx rfl _ hy rfl (by kernel_rfl) (by simp [Value.oneCell']) (by first | rfl | assumption) ?_; clear hx hy M; intro w1 M; (try simp only [List.set_cons_succ, List.set_cons_zero] at M); (try conv => arg 5; dsimp only [Act.put, List.setIfInBounds_toArray, List.set_cons_succ, List.set_cons_zero])) | (refine w_storeR M 2 _ _ _ rfl rfl hx rfl _ hy rfl (by kernel_rfl) (by simp [Value.oneCell']) (by first | rfl | assumption) ?_; clear hx hy M; intro w1 M; (try simp only [List.set_cons_succ, List.set_cons_zero] at M); (try conv => arg 5; dsimp only [Act.put, List.setIfInBounds_toArray, List.set_cons_succ, List.set_cons_zero])))) | ((with_reducible show wpList _ _ _ (Oper.mk _ (Op.box _ _) _ _ _ _ :: _) _ _); (refine w_box M _ _ rfl rfl _ rfl _ rfl ?_; clear M; intro g w1 M; (try conv => arg 5; dsimp only [Act.put, List.setIfInBounds_toArray, List.set_cons_succ, List.set_cons_zero]))) | ((with_reducible show Code.wp _ (Code.region 15 _ _) _ _ _); go_must (refine region_det [(0, false), (1, false), (2, false), (4, false), (3, false), (5, false)] [(67, .ptr)] (by kernel_rfl) (by kernel_rfl) rfl (by kernel_rfl) ?_; replace M := M.drew; simp only [reord, opAt, List.map_cons, List.map_nil, List.getElem?_toArray, List.getElem?_cons_zero, List.getElem?_cons_succ, Option.getD_some])))
            go_ret2
            exact Gives.intro (p := none) (cap := 0) (M.nil 2)
          | nil =>
            have hfin : x.fin = 0 := by unfold InS.fin; rw [if_pos hx0, hxr, if_pos (by simp)]
            have P := fun w S => rPage_c i d (.slice q d.length c) w S (by omega) (fun y hy => by have := hm y hy; omega)
            obtain ⟨⟨ps, pe⟩, ep⟩ : ∃ R, R = pageL i d := ⟨_, rfl⟩
            have RB := RB.out hfin
            have RC := RC.out hfin
            rw [← ep] at P RB RC
            replace RB := Lib.hid RB
            replace RC := Lib.hid RC
            replace P := Lib.hid P
            clear ep hx0 hxr hfin ha hm
            by_cases hpe : pe = 0
            · subst hpe
              have e := RC.out rfl
              subst e
              clear RA RB RC
              go_wp2_with (first | (go_at_call 23; go_must (refine (P.out _ (SeesL.own M 1 rfl rfl prV_len)).mono ?_; rintro e w1 ⟨rfl, hb⟩; replace M := M.call hb; clear hb)) | ((with_reducible show wpList _ _ _ (Oper.mk _ _ _ _ _ (some _) :: _) _ _); refine w_strip rfl (by with_reducible rfl) ?_) | ((with_reducible show wpList _ _ _ (Oper.mk _ (Op.convert 48 9 _) _ _ _ _ :: _) _ _); go_must (first | (refine w_stringW M 0 _ _ _ _ rfl rfl rfl rfl (by first | assumption | exact shaL_len _ | exact macL_len _ _ | exact words_len _ | exact List.length_replicate | (rw [List.length_set]; first | assumption | exact List.length_replicate) | rfl) (by decide) Try.underlying48 Try.underlying5 Try.underlying9 ?_; (try conv => arg 5; dsimp only [Act.put, List.setIfInBounds_toArray, List.set_cons_succ, List.set_cons_zero])) | (refine w_stringW M 1 _ _ _ _ rfl rfl rfl rfl (by first | assumption | exact shaL_len _ | exact macL_len _ _ | exact words_len _ | exact List.length_replicate | (rw [List.length_set]; first | assumption | exact List.length_replicate) | rfl) (by decide) Try.underlying48 Try.underlying5 Try.underlying9 ?_; (try conv => arg 5; dsimp only [Act.put, List.setIfInBounds_toArray, List.set_cons_succ, List.set_cons_zero])) | (refine w_stringW M 2 _ _ _ _ rfl rfl rfl rfl (by first | assumption | exact shaL_len _ | exact macL_len _ _ | exact words_len _ | exact List.length_replicate | (rw [List.length_set]; first | assumption | exact List.length_replicate) | rfl) (by decide) Try.underlying48 Try.underlying5 Try.underlying9 ?_; (try conv => arg 5; dsimp only [Act.put, List.setIfInBounds_toArray, List.set_cons_succ, List.set_cons_zero])) | (refine w_string M 0 _ _ _ _ rfl rfl rfl (by first | rfl | (simp; done) | assumption) rfl Try.underlying48 Try.underlying5 Try.underlying9 ?_; (try conv => arg 5; dsimp only [Act.put, List.setIfInBounds_toArray, List.set_cons_succ, List.set_cons_zero])) | (refine w_string M 1 _ _ _ _ rfl rfl rfl (by first | rfl | (simp; done) | assumption) rfl Try.underlying48 Try.underlying5 Try.underlying9 ?_; (try conv => arg 5; dsimp only [Act.put, List.setIfInBounds_toArray, List.set_cons_succ, List.set_cons_zero])) | (refine w_string M 2 _ _ _ _ rfl rfl rfl (by first | rfl | (simp; done) | assumption) rfl Try.underlying48 Try.underlying5 Try.underlying9 ?_; (try conv => arg 5; dsimp only [Act.put, List.setIfInBounds_toArray, List.set_cons_succ, List.set_cons_zero])))) | ((with_reducible show wpList _ _ _ (Oper.mk _ (Op.load _ _) _ _ _ _ :: _) _ _); go_must (refine w_at _ _ rfl (by first | exact ev_tmp rfl | exact ev_const) ?_; intro hx; first | (refine w_load M 0 _ _ rfl rfl hx rfl (by decide +kernel) rfl ?_; clear hx; (try conv => arg 5; dsimp only [Act.put, List.setIfInBounds_toArray, List.set_cons_succ, List.set_cons_zero])) | (refine w_load M 1 _ _ rfl rfl hx rfl (by decide +kernel) rfl ?_; clear hx; (try conv => arg 5; dsimp only [Act.put, List.setIfInBounds_toArray, List.set_cons_succ, List.set_cons_zero])) | (refine w_load M 2 _ _ rfl rfl hx rfl (by decide +kernel) rfl ?_; clear hx; (try conv => arg 5; dsimp only [Act.put, List.setIfInBounds_toArray, List.set_cons_succ, List.set_cons_zero])) | (refine w_loadB M 0 _ _ rfl rfl hx rfl (by decide +kernel) (by first | assumption | omega | (simp; omega)) ?_; clear hx; (try conv => arg 5; dsimp only [Act.put, List.setIfInBounds_toArray, List.set_cons_succ, List.set_cons_zero])) | (refine w_loadB M 1 _ _ rfl rfl hx rfl (by decide +kernel) (by first | assumption | omega | (simp; omega)) ?_; clear hx; (try conv => arg 5; dsimp only [Act.put, List.setIfInBounds_toArray, List.set_cons_succ, List.set_cons_zero])) | (refine w_loadB M 2 _ _ rfl rfl hx rfl (by decide +kernel) (by first | assumption | omega | (simp; omega)) ?_; clear hx; (try conv => arg 5; dsimp only [Act.put, List.setIfInBounds_toArray, List.set_cons_succ, List.set_cons_zero])) | (refine w_loadH M 0 _ _ rfl rfl hx rfl (by decide +kernel) (by first | assumption | exact shaL_len _ | exact macL_len _ _ | exact words_len _ | exact List.length_replicate | (rw [List.length_set]; first | assumption | exact List.length_replicate) | rfl) (by decide +kernel) ?_; clear hx; (try conv => arg 5; dsimp only [Act.put, List.setIfInBounds_toArray, List.set_cons_succ, List.set_cons_zero])) | (refine w_loadH M 1 _ _ rfl rfl hx rfl (by decide +kernel) (by first | assumption | exact shaL_len _ | exact macL_len _ _ | exact words_len _ | exact List.length_replicate | (rw [List.length_set]; first | assumption | exact List.length_replicate) | rfl) (by decide +kernel) ?_; clear hx; (try conv => arg 5; dsimp only [Act.put, List.setIfInBounds_toArray, List.set_cons_succ, List.set_cons_zero])) | (refine w_loadH M 2 _ _ rfl rfl hx rfl (by decide +kernel) (by first | assumption | exact shaL_len _ | exact macL_len _ _ | exact words_len _ | exact List.length_replicate | (rw [List.length_set]; first | assumption | exact List.length_replicate) | rfl) (by decide +kernel) ?_; clear hx; (try conv => arg 5; dsimp only [Act.put, List.setIfInBounds_toArray, List.set_cons_succ, List.set_cons_zero])) | (refine w_loadR M 0 _ _ rfl rfl hx rfl (by decide +kernel) (by kernel_rfl) ?_; clear hx; (try conv => arg 5; dsimp only [Act.put, List.setIfInBounds_toArray, List.set_cons_succ, List.set_cons_zero])) | (refine w_loadR M 1 _ _ rfl rfl hx rfl (by decide +kernel) (by kernel_rfl) ?_; clear hx; (try conv => arg 5; dsimp only [Act.put, List.setIfInBounds_toArray, List.set_cons_succ, List.set_cons_zero])) | (refine w_loadR M 2 _ _ rfl rfl hx rfl (by decide +kernel) (by kernel_rfl) ?_; clear hx; (try conv => arg 5; dsimp only [Act.put, List.setIfInBounds_toArray, List.set_cons_succ, List.set_cons_zero])))) | ((with_reducible show wpList _ _ _ (Oper.mk _ (Op.store _ _ _) _ _ _ _ :: _) _ _); go_must (refine w_at2 _ _ _ rfl (by first | exact ev_tmp rfl | exact ev_const) (by first | exact ev_tmp rfl | exact ev_const) ?_; intro hx hy; first | (refine w_storeB M 0 _ _ _ rfl rfl hx rfl hy (by decide +kernel) (by first | assumption | omega | (simp; omega)) ?_; clear hx hy M; intro w1 M; (try simp only [List.set_cons_zero] at M); (try conv => arg 5; dsimp only [Act.put, List.setIfInBounds_toArray, List.set_cons_succ, List.set_cons_zero])) | (refine w_storeB M 1 _ _ _ rfl rfl hx rfl hy (by decide +kernel) (by first | assumption | omega | (simp; omega)) ?_; clear hx hy M; intro w1 M; (try simp only [List.set_cons_succ, List.set_cons_zero] at M); (try conv => arg 5; dsimp only [Act.put, List.setIfInBounds_toArray, List.set_cons_succ, List.set_cons_zero])) | (refine w_storeB M 2 _ _ _ rfl rfl hx rfl hy (by decide +kernel) (by first | assumption | omega | (simp; omega)) ?_; clear hx hy M; intro w1 M; (try simp only [List.set_cons_succ, List.set_cons_zero] at M); (try conv => arg 5; dsimp only [Act.put, List.setIfInBounds_toArray, List.set_cons_succ, List.set_cons_zero])) | (refine w_storeH M 0 _ _ _ rfl rfl hx rfl hy (by first | assumption | exact shaL_len _ | exact macL_len _ _ | exact words_len _ | exact List.length_replicate | (rw [List.length_set]; first | assumption | exact List.length_replicate) | rfl) (by decide +kernel) (by first | assumption | exact shaL_len _ | exact macL_len _ _ | exact words_len _ | exact List.length_replicate | (rw [List.length_set]; first | assumption | exact List.length_replicate) | rfl) ?_; clear hx hy M; intro w1 M; (try simp only [List.set_cons_zero] at M); (try conv => arg 5; dsimp only [Act.put, List.setIfInBounds_toArray, List.set_cons_succ, List.set_cons_zero])) | (refine w_storeH M 1 _ _ _ rfl rfl hx rfl hy (by first | assumption | exact shaL_len _ | exact macL_len _ _ | exact words_len _ | exact List.length_replicate | (rw [List.length_set]; first | assumption | exact List.length_replicate) | rfl) (by decide +kernel) (by first | assumption | exact shaL_len _ | exact macL_len _ _ | exact words_len _ | exact List.length_replicate | (rw [List.length_set]; first | assumption | exact List.length_replicate) | rfl) ?_; clear hx hy M; intro w1 M; (try simp only [List.set_cons_succ, List.set_cons_zero] at M); (try conv => arg 5; dsimp only [Act.put, List.setIfInBounds_toArray, List.set_cons_succ, List.set_cons_zero])) | (refine w_storeH M 2 _ _ _ rfl rfl hx rfl hy (by first | assumption | exact shaL_len _ | exact macL_len _ _ | exact words_len _ | exact List.length_replicate | (rw [List.length_set]; first | assumption | exact List.length_replicate) | rfl) (by decide +kernel) (by first | assumption | exact shaL_len _ | exact macL_len _ _ | exact words_len _ | exact List.length_replicate | (rw [List.length_set]; first | assumption | exact List.length_replicate) | rfl) ?_; clear hx hy M; intro w1 M; (try simp only [List.set_cons_succ, List.set_cons_zero] at M); (try conv => arg 5; dsimp only [Act.put, List.setIfInBounds_toArray, List.set_cons_succ, List.set_cons_zero])) | (refine w_store M 0 _ _ _ rfl rfl hx rfl hy rfl rfl (by decide +kernel) (by first | decide | simp | (simp; omega)) ?_; clear hx hy M; intro w1 M; (try simp only [List.set_cons_zero] at M); (try conv => arg 5; dsimp only [Act.put, List.setIfInBounds_toArray, List.set_cons_succ, List.set_cons_zero])) | (refine w_store M 1 _ _ _ rfl rfl hx rfl hy rfl rfl (by decide +kernel) (by first | decide | simp | (simp; omega)) ?_; clear hx hy M; intro w1 M; (try simp only [List.set_cons_succ, List.set_cons_zero] at M); (try conv => arg 5; dsimp only [Act.put, List.setIfInBounds_toArray, List.set_cons_succ, List.set_cons_zero])) | (refine w_store M 2 _ _ _ rfl rfl hx rfl hy rfl rfl (by decide +kernel) (by first | decide | simp | (simp; omega)) ?_; clear hx hy M; intro w1 M; (try simp only [List.set_cons_succ, List.set_cons_zero] at M); (try conv => arg 5; dsimp only [Act.put, List.setIfInBounds_toArray, List.set_cons_succ, List.set_cons_zero])) | (refine w_storeR M 0 _ _ _ rfl rfl hx rfl _ hy rfl (by kernel_rfl) (by simp [Value.oneCell']) (by first | rfl | assumption) ?_; clear hx hy M; intro w1 M; (try simp only [List.set_cons_zero] at M); (try conv => arg 5; dsimp only [Act.put, List.setIfInBounds_toArray, List.set_cons_succ, List.set_cons_zero])) | (refine w_storeR M 1 _ _ _ rfl rfl hx rfl _ hy rfl (by kernel_rfl) (by simp [Value.oneCell']) (by first | rfl | assumption) ?_; clear hx hy M; intro w1 M; (try simp only [List.set_cons_succ, List.set_cons_zero] at M); (try conv => arg 5; dsimp only [Act.put, List.setIfInBounds_toArray, List.set_cons_succ, List.set_cons_zero])) | (refine w_storeR M 2 _ _ _ rfl rfl hx rfl _ hy rfl (by kernel_rfl) (by simp [Value.oneCell']) (by first | rfl | assumption) ?_; clear hx hy M; intro w1 M; (try simp only [List.set_cons_succ, List.set_cons_zero] at M); (try conv => arg 5; dsimp only [Act.put, List.setIfInBounds_toArray, List.set_cons_succ, List.set_cons_zero])))) | ((with_reducible show wpList _ _ _ (Oper.mk _ (Op.box _ _) _ _ _ _ :: _) _ _); (refine w_box M _ _ rfl rfl _ rfl _ rfl ?_; clear M; intro g w1 M; (try conv => arg 5; dsimp only [Act.put, List.setIfInBounds_toArray, List.set_cons_succ, List.set_cons_zero]))))
              go_ret2
              exact Gives.intro M.tail
            · have e := RB.out hpe
              subst e
              clear RA RB RC
              have hz : ((pe : Int) == 0) = false := by simp; exact hpe
              have hz' : ((pe : Int) != 0) = true := by simp; exact hpe
              go_wp2_with (first | (go_at_call 23; go_must (refine (P.out _ (SeesL.own M 1 rfl rfl prV_len)).mono ?_; rintro e w1 ⟨rfl, hb⟩; replace M := M.call hb; clear hb)) | ((with_reducible show wpList _ _ _ (Oper.mk _ _ _ _ _ (some _) :: _) _ _); refine w_strip rfl (by with_reducible rfl) ?_) | ((with_reducible show wpList _ _ _ (Oper.mk _ (Op.convert 48 9 _) _ _ _ _ :: _) _ _); go_must (first | (refine w_stringW M 0 _ _ _ _ rfl rfl rfl rfl (by first | assumption | exact shaL_len _ | exact macL_len _ _ | exact words_len _ | exact List.length_replicate | (rw [List.length_set]; first | assumption | exact List.length_replicate) | rfl) (by decide) Try.underlying48 Try.underlying5 Try.underlying9 ?_; (try conv => arg 5; dsimp only [Act.put, List.setIfInBounds_toArray, List.set_cons_succ, List.set_cons_zero])) | (refine w_stringW M 1 _ _ _ _ rfl rfl rfl rfl (by first | assumption | exact shaL_len _ | exact macL_len _ _ | exact words_len _ | exact List.length_replicate | (rw [List.length_set]; first | assumption | exact List.length_replicate) | rfl) (by decide) Try.underlying48 Try.underlying5 Try.underlying9 ?_; (try conv => arg 5; dsimp only [Act.put, List.setIfInBounds_toArray, List.set_cons_succ, List.set_cons_zero])) | (refine w_stringW M 2 _ _ _ _ rfl rfl rfl rfl (by first | assumption | exact shaL_len _ | exact macL_len _ _ | exact words_len _ | exact List.length_replicate | (rw [List.length_set]; first | assumption | exact List.length_replicate) | rfl) (by decide) Try.underlying48 Try.underlying5 Try.underlying9 ?_; (try conv => arg 5; dsimp only [Act.put, List.setIfInBounds_toArray, List.set_cons_succ, List.set_cons_zero])) | (refine w_string M 0 _ _ _ _ rfl rfl rfl (by first | rfl | (simp; done) | assumption) rfl Try.underlying48 Try.underlying5 Try.underlying9 ?_; (try conv => arg 5; dsimp only [Act.put, List.setIfInBounds_toArray, List.set_cons_succ, List.set_cons_zero])) | (refine w_string M 1 _ _ _ _ rfl rfl rfl (by first | rfl | (simp; done) | assumption) rfl Try.underlying48 Try.underlying5 Try.underlying9 ?_; (try conv => arg 5; dsimp only [Act.put, List.setIfInBounds_toArray, List.set_cons_succ, List.set_cons_zero])) | (refine w_string M 2 _ _ _ _ rfl rfl rfl (by first | rfl | (simp; done) | assumption) rfl Try.underlying48 Try.underlying5 Try.underlying9 ?_; (try conv => arg 5; dsimp only [Act.put, List.setIfInBounds_toArray, List.set_cons_succ, List.set_cons_zero])))) | ((with_reducible show wpList _ _ _ (Oper.mk _ (Op.load _ _) _ _ _ _ :: _) _ _); go_must (refine w_at _ _ rfl (by first | exact ev_tmp rfl | exact ev_const) ?_; intro hx; first | (refine w_load M 0 _ _ rfl rfl hx rfl (by decide +kernel) rfl ?_; clear hx; (try conv => arg 5; dsimp only [Act.put, List.setIfInBounds_toArray, List.set_cons_succ, List.set_cons_zero])) | (refine w_load M 1 _ _ rfl rfl hx rfl (by decide +kernel) rfl ?_; clear hx; (try conv => arg 5; dsimp only [Act.put, List.setIfInBounds_toArray, List.set_cons_succ, List.set_cons_zero])) | (refine w_load M 2 _ _ rfl rfl hx rfl (by decide +kernel) rfl ?_; clear hx; (try conv => arg 5; dsimp only [Act.put, List.setIfInBounds_toArray, List.set_cons_succ, List.set_cons_zero])) | (refine w_loadB M 0 _ _ rfl rfl hx rfl (by decide +kernel) (by first | assumption | omega | (simp; omega)) ?_; clear hx; (try conv => arg 5; dsimp only [Act.put, List.setIfInBounds_toArray, List.set_cons_succ, List.set_cons_zero])) | (refine w_loadB M 1 _ _ rfl rfl hx rfl (by decide +kernel) (by first | assumption | omega | (simp; omega)) ?_; clear hx; (try conv => arg 5; dsimp only [Act.put, List.setIfInBounds_toArray, List.set_cons_succ, List.set_cons_zero])) | (refine w_loadB M 2 _ _ rfl rfl hx rfl (by decide +kernel) (by first | assumption | omega | (simp; omega)) ?_; clear hx; (try conv => arg 5; dsimp only [Act.put, List.setIfInBounds_toArray, List.set_cons_succ, List.set_cons_zero])) | (refine w_loadH M 0 _ _ rfl rfl hx rfl (by decide +kernel) (by first | assumption | exact shaL_len _ | exact macL_len _ _ | exact words_len _ | exact List.length_replicate | (rw [List.length_set]; first | assumption | exact List.length_replicate) | rfl) (by decide +kernel) ?_; clear hx; (try conv => arg 5; dsimp only [Act.put, List.setIfInBounds_toArray, List.set_cons_succ, List.set_cons_zero])) | (refine w_loadH M 1 _ _ rfl rfl hx rfl (by decide +kernel) (by first | assumption | exact shaL_len _ | exact macL_len _ _ | exact words_len _ | exact List.length_replicate | (rw [List.length_set]; first | assumption | exact List.length_replicate) | rfl) (by decide +kernel) ?_; clear hx; (try conv => arg 5; dsimp only [Act.put, List.setIfInBounds_toArray, List.set_cons_succ, List.set_cons_zero])) | (refine w_loadH M 2 _ _ rfl rfl hx rfl (by decide +kernel) (by first | assumption | exact shaL_len _ | exact macL_len _ _ | exact words_len _ | exact List.length_replicate | (rw [List.length_set]; first | assumption | exact List.length_replicate) | rfl) (by decide +kernel) ?_; clear hx; (try conv => arg 5; dsimp only [Act.put, List.setIfInBounds_toArray, List.set_cons_succ, List.set_cons_zero])) | (refine w_loadR M 0 _ _ rfl rfl hx rfl (by decide +kernel) (by kernel_rfl) ?_; clear hx; (try conv => arg 5; dsimp only [Act.put, List.setIfInBounds_toArray, List.set_cons_succ, List.set_cons_zero])) | (refine w_loadR M 1 _ _ rfl rfl hx rfl (by decide +kernel) (by kernel_rfl) ?_; clear hx; (try conv => arg 5; dsimp only [Act.put, List.setIfInBounds_toArray, List.set_cons_succ, List.set_cons_zero])) | (refine w_loadR M 2 _ _ rfl rfl hx rfl (by decide +kernel) (by kernel_rfl) ?_; clear hx; (try conv => arg 5; dsimp only [Act.put, List.setIfInBounds_toArray, List.set_cons_succ, List.set_cons_zero])))) | ((with_reducible show wpList _ _ _ (Oper.mk _ (Op.store _ _ _) _ _ _ _ :: _) _ _); go_must (refine w_at2 _ _ _ rfl (by first | exact ev_tmp rfl | exact ev_const) (by first | exact ev_tmp rfl | exact ev_const) ?_; intro hx hy; first | (refine w_storeB M 0 _ _ _ rfl rfl hx rfl hy (by decide +kernel) (by first | assumption | omega | (simp; omega)) ?_; clear hx hy M; intro w1 M; (try simp only [List.set_cons_zero] at M); (try conv => arg 5; dsimp only [Act.put, List.setIfInBounds_toArray, List.set_cons_succ, List.set_cons_zero])) | (refine w_storeB M 1 _ _ _ rfl rfl hx rfl hy (by decide +kernel) (by first | assumption | omega | (simp; omega)) ?_; clear hx hy M; intro w1 M; (try simp only [List.set_cons_succ, List.set_cons_zero] at M); (try conv => arg 5; dsimp only [Act.put, List.setIfInBounds_toArray, List.set_cons_succ, List.set_cons_zero])) | (refine w_storeB M 2 _ _ _ rfl rfl hx rfl hy (by decide +kernel) (by first | assumption | omega | (simp; omega)) ?_; clear hx hy M; intro w1 M; (try simp only [List.set_cons_succ, List.set_cons_zero] at M); (try conv => arg 5; dsimp only [Act.put, List.setIfInBounds_toArray, List.set_cons_succ, List.set_cons_zero])) | (refine w_storeH M 0 _ _ _ rfl rfl hx rfl hy (by first | assumption | exact shaL_len _ | exact macL_len _ _ | exact words_len _ | exact List.length_replicate | (rw [List.length_set]; first | assumption | exact List.length_replicate) | rfl) (by decide +kernel) (by first | assumption | exact shaL_len _ | exact macL_len _ _ | exact words_len _ | exact List.length_replicate | (rw [List.length_set]; first | assumption | exact List.length_replicate) | rfl) ?_; clear hx hy M; intro w1 M; (try simp only [List.set_cons_zero] at M); (try conv => arg 5; dsimp only [Act.put, List.setIfInBounds_toArray, List.set_cons_succ, List.set_cons_zero])) | (refine w_storeH M 1 _ _ _ rfl rfl hx rfl hy (by first | assumption | exact shaL_len _ | exact macL_len _ _ | exact words_len _ | exact List.length_replicate | (rw [List.length_set]; first | assumption | exact List.length_replicate) | rfl) (by decide +kernel) (by first | assumption | exact shaL_len _ | exact macL_len _ _ | exact words_len _ | exact List.length_replicate | (rw [List.length_set]; first | assumption | exact List.length_replicate) | rfl) ?_; clear hx hy M; intro w1 M; (try simp only [List.set_cons_succ, List.set_cons_zero] at M); (try conv => arg 5; dsimp only [Act.put, List.setIfInBounds_toArray, List.set_cons_succ, List.set_cons_zero])) | (refine w_storeH M 2 _ _ _ rfl rfl hx rfl hy (by first | assumption | exact shaL_len _ | exact macL_len _ _ | exact words_len _ | exact List.length_replicate | (rw [List.length_set]; first | assumption | exact List.length_replicate) | rfl) (by decide +kernel) (by first | assumption | exact shaL_len _ | exact macL_len _ _ | exact words_len _ | exact List.length_replicate | (rw [List.length_set]; first | assumption | exact List.length_replicate) | rfl) ?_; clear hx hy M; intro w1 M; (try simp only [List.set_cons_succ, List.set_cons_zero] at M); (try conv => arg 5; dsimp only [Act.put, List.setIfInBounds_toArray, List.set_cons_succ, List.set_cons_zero])) | (refine w_store M 0 _ _ _ rfl rfl hx rfl hy rfl rfl (by decide +kernel) (by first | decide | simp | (simp; omega)) ?_; clear hx hy M; intro w1 M; (try simp only [List.set_cons_zero] at M); (try conv => arg 5; dsimp only [Act.put, List.setIfInBounds_toArray, List.set_cons_succ, List.set_cons_zero])) | (refine w_store M 1 _ _ _ rfl rfl hx rfl hy rfl rfl (by decide +kernel) (by first | decide | simp | (simp; omega)) ?_; clear hx hy M; intro w1 M; (try simp only [List.set_cons_succ, List.set_cons_zero] at M); (try conv => arg 5; dsimp only [Act.put, List.setIfInBounds_toArray, List.set_cons_succ, List.set_cons_zero])) | (refine w_store M 2 _ _ _ rfl rfl hx rfl hy rfl rfl (by decide +kernel) (by first | decide | simp | (simp; omega)) ?_; clear hx hy M; intro w1 M; (try simp only [List.set_cons_succ, List.set_cons_zero] at M); (try conv => arg 5; dsimp only [Act.put, List.setIfInBounds_toArray, List.set_cons_succ, List.set_cons_zero])) | (refine w_storeR M 0 _ _ _ rfl rfl hx rfl _ hy rfl (by kernel_rfl) (by simp [Value.oneCell']) (by first | rfl | assumption) ?_; clear hx hy M; intro w1 M; (try simp only [List.set_cons_zero] at M); (try conv => arg 5; dsimp only [Act.put, List.setIfInBounds_toArray, List.set_cons_succ, List.set_cons_zero])) | (refine w_storeR M 1 _ _ _ rfl rfl hx rfl _ hy rfl (by kernel_rfl) (by simp [Value.oneCell']) (by first | rfl | assumption) ?_; clear hx hy M; intro w1 M; (try simp only [List.set_cons_succ, List.set_cons_zero] at M); (try conv => arg 5; dsimp only [Act.put, List.setIfInBounds_toArray, List.set_cons_succ, List.set_cons_zero])) | (refine w_storeR M 2 _ _ _ rfl rfl hx rfl _ hy rfl (by kernel_rfl) (by simp [Value.oneCell']) (by first | rfl | assumption) ?_; clear hx hy M; intro w1 M; (try simp only [List.set_cons_succ, List.set_cons_zero] at M); (try conv => arg 5; dsimp only [Act.put, List.setIfInBounds_toArray, List.set_cons_succ, List.set_cons_zero])))) | ((with_reducible show wpList _ _ _ (Oper.mk _ (Op.box _ _) _ _ _ _ :: _) _ _); (refine w_box M _ _ rfl rfl _ rfl _ rfl ?_; clear M; intro g w1 M; (try conv => arg 5; dsimp only [Act.put, List.setIfInBounds_toArray, List.set_cons_succ, List.set_cons_zero]))))
              go_ret2
              exact Gives.intro (p := none) (cap := 0) (M.nil 2)
      · have hz : ((er : Int) == 0) = false := by simp; exact he
        have hz' : ((er : Int) != 0) = true := by simp; exact he
        have hE := HI.out.1.2 he
        simp only at hE
        have hR := RR.out _ _ (rfl : rdPairs n0 x0 = ((rdPairs n0 x0).1, (rdPairs n0 x0).2))
        have hfin : (rdPairs n0 x0).2.fin = er := by rw [fin_err (by rw [hE]; exact he), hE]
        have e : A = ([], er) := by rw [EA.out, readL_fin H1.out hR (by rw [hfin]; exact he), hfin]
        subst e
        clear hE hR hfin he
        by_cases hlt : (k : Int) < (n0 : Int)
        all_goals
          go_wp2_with (first | ((with_reducible show Seg _ _ _ _); go_must (first | refine Seg.intro ⟨fun h => absurd rfl h, ?_⟩ | refine Seg.intro ⟨fun _ => (by repeat' (first | exact ixOk_nil M.kept | refine ixOk_cons rfl (by first | exact M.ok 0 _ rfl | exact M.ok 1 _ rfl | exact M.ok 2 _ rfl | exact M.ok 3 _ rfl | exact M.ok 4 _ rfl) ?_)), ?_⟩ | refine Seg.intro ⟨(by repeat' (first | (with_reducible exact needs_nil) | refine needs_at rfl (by first | (show Shape.ok Shape.nums _ = true; exact nums_bs _) | rfl) ?_)), (by repeat' (first | (with_reducible exact ats_nil) | refine ats_cons (by first | exact ev_tmp rfl | rfl) ?_)), ?_⟩)) | ((with_reducible show OnlyN _ _ _ _ _); refine OnlyN.intro (by kernel_rfl) ?_) | ((with_reducible show wpList _ _ _ (Oper.mk _ _ _ _ _ (some _) :: _) _ _); refine w_strip rfl (by with_reducible rfl) ?_) | ((with_reducible show wpList _ _ _ (Oper.mk _ (Op.convert 48 9 _) _ _ _ _ :: _) _ _); go_must (first | (refine w_stringW M 0 _ _ _ _ rfl rfl rfl rfl (by first | assumption | exact shaL_len _ | exact macL_len _ _ | exact words_len _ | exact List.length_replicate | (rw [List.length_set]; first | assumption | exact List.length_replicate) | rfl) (by decide) Try.underlying48 Try.underlying5 Try.underlying9 ?_; (try conv => arg 5; dsimp only [Act.put, List.setIfInBounds_toArray, List.set_cons_succ, List.set_cons_zero])) | (refine w_stringW M 1 _ _ _ _ rfl rfl rfl rfl (by first | assumption | exact shaL_len _ | exact macL_len _ _ | exact words_len _ | exact List.length_replicate | (rw [List.length_set]; first | assumption | exact List.length_replicate) | rfl) (by decide) Try.underlying48 Try.underlying5 Try.underlying9 ?_; (try conv => arg 5; dsimp only [Act.put, List.setIfInBounds_toArray, List.set_cons_succ, List.set_cons_zero])) | (refine w_stringW M 2 _ _ _ _ rfl rfl rfl rfl (by first | assumption | exact shaL_len _ | exact macL_len _ _ | exact words_len _ | exact List.length_replicate | (rw [List.length_set]; first | assumption | exact List.length_replicate) | rfl) (by decide) Try.underlying48 Try.underlying5 Try.underlying9 ?_; (try conv => arg 5; dsimp only [Act.put, List.setIfInBounds_toArray, List.set_cons_succ, List.set_cons_zero])) | (refine w_string M 0 _ _ _ _ rfl rfl rfl (by first | rfl | (simp; done) | assumption) rfl Try.underlying48 Try.underlying5 Try.underlying9 ?_; (try conv => arg 5; dsimp only [Act.put, List.setIfInBounds_toArray, List.set_cons_succ, List.set_cons_zero])) | (refine w_string M 1 _ _ _ _ rfl rfl rfl (by first | rfl | (simp; done) | assumption) rfl Try.underlying48 Try.underlying5 Try.underlying9 ?_; (try conv => arg 5; dsimp only [Act.put, List.setIfInBounds_toArray, List.set_cons_succ, List.set_cons_zero])) | (refine w_string M 2 _ _ _ _ rfl rfl rfl (by first | rfl | (simp; done) | assumption) rfl Try.underlying48 Try.underlying5 Try.underlying9 ?_; (try conv => arg 5; dsimp only [Act.put, List.setIfInBounds_toArray, List.set_cons_succ, List.set_cons_zero])))) | ((with_reducible show wpList _ _ _ (Oper.mk _ (Op.load _ _) _ _ _ _ :: _) _ _); go_must (refine w_at _ _ rfl (by first | exact ev_tmp rfl | exact ev_const) ?_; intro hx; first | (refine w_load M 0 _ _ rfl rfl hx rfl (by decide +kernel) rfl ?_; clear hx; (try conv => arg 5; dsimp only [Act.put, List.setIfInBounds_toArray, List.set_cons_succ, List.set_cons_zero])) | (refine w_load M 1 _ _ rfl rfl hx rfl (by decide +kernel) rfl ?_; clear hx; (try conv => arg 5; dsimp only [Act.put, List.setIfInBounds_toArray, List.set_cons_succ, List.set_cons_zero])) | (refine w_load M 2 _ _ rfl rfl hx rfl (by decide +kernel) rfl ?_; clear hx; (try conv => arg 5; dsimp only [Act.put, List.setIfInBounds_toArray, List.set_cons_succ, List.set_cons_zero])) | (refine w_loadB M 0 _ _ rfl rfl hx rfl (by decide +kernel) (by first | assumption | omega | (simp; omega)) ?_; clear hx; (try conv => arg 5; dsimp only [Act.put, List.setIfInBounds_toArray, List.set_cons_succ, List.set_cons_zero])) | (refine w_loadB M 1 _ _ rfl rfl hx rfl (by decide +kernel) (by first | assumption | omega | (simp; omega)) ?_; clear hx; (try conv => arg 5; dsimp only [Act.put, List.setIfInBounds_toArray, List.set_cons_succ, List.set_cons_zero])) | (refine w_loadB M 2 _ _ rfl rfl hx rfl (by decide +kernel) (by first | assumption | omega | (simp; omega)) ?_; clear hx; (try conv => arg 5; dsimp only [Act.put, List.setIfInBounds_toArray, List.set_cons_succ, List.set_cons_zero])) | (refine w_loadH M 0 _ _ rfl rfl hx rfl (by decide +kernel) (by first | assumption | exact shaL_len _ | exact macL_len _ _ | exact words_len _ | exact List.length_replicate | (rw [List.length_set]; first | assumption | exact List.length_replicate) | rfl) (by decide +kernel) ?_; clear hx; (try conv => arg 5; dsimp only [Act.put, List.setIfInBounds_toArray, List.set_cons_succ, List.set_cons_zero])) | (refine w_loadH M 1 _ _ rfl rfl hx rfl (by decide +kernel) (by first | assumption | exact shaL_len _ | exact macL_len _ _ | exact words_len _ | exact List.length_replicate | (rw [List.length_set]; first | assumption | exact List.length_replicate) | rfl) (by decide +kernel) ?_; clear hx; (try conv => arg 5; dsimp only [Act.put, List.setIfInBounds_toArray, List.set_cons_succ, List.set_cons_zero])) | (refine w_loadH M 2 _ _ rfl rfl hx rfl (by decide +kernel) (by first | assumption | exact shaL_len _ | exact macL_len _ _ | exact words_len _ | exact List.length_replicate | (rw [List.length_set]; first | assumption | exact List.length_replicate) | rfl) (by decide +kernel) ?_; clear hx; (try conv => arg 5; dsimp only [Act.put, List.setIfInBounds_toArray, List.set_cons_succ, List.set_cons_zero])) | (refine w_loadR M 0 _ _ rfl rfl hx rfl (by decide +kernel) (by kernel_rfl) ?_; clear hx; (try conv => arg 5; dsimp only [Act.put, List.setIfInBounds_toArray, List.set_cons_succ, List.set_cons_zero])) | (refine w_loadR M 1 _ _ rfl rfl hx rfl (by decide +kernel) (by kernel_rfl) ?_; clear hx; (try conv => arg 5; dsimp only [Act.put, List.setIfInBounds_toArray, List.set_cons_succ, List.set_cons_zero])) | (refine w_loadR M 2 _ _ rfl rfl hx rfl (by decide +kernel) (by kernel_rfl) ?_; clear hx; (try conv => arg 5; dsimp only [Act.put, List.setIfInBounds_toArray, List.set_cons_succ, List.set_cons_zero])))) | ((with_reducible show wpList _ _ _ (Oper.mk _ (Op.store _ _ _) _ _ _ _ :: _) _ _); go_must (refine w_at2 _ _ _ rfl (by first | exact ev_tmp rfl | exact ev_const) (by first | exact ev_tmp rfl | exact ev_const) ?_; intro hx hy; first | (refine w_storeB M 0 _ _ _ rfl rfl hx rfl hy (by decide +kernel) (by first | assumption | omega | (simp; omega)) ?_; clear hx hy M; intro w1 M; (try simp only [List.set_cons_zero] at M); (try conv => arg 5; dsimp only [Act.put, List.setIfInBounds_toArray, List.set_cons_succ, List.set_cons_zero])) | (refine w_storeB M 1 _ _ _ rfl rfl hx rfl hy (by decide +kernel) (by first | assumption | omega | (simp; omega)) ?_; clear hx hy M; intro w1 M; (try simp only [List.set_cons_succ, List.set_cons_zero] at M); (try conv => arg 5; dsimp only [Act.put, List.setIfInBounds_toArray, List.set_cons_succ, List.set_cons_zero])) | (refine w_storeB M 2 _ _ _ rfl rfl hx rfl hy (by decide +kernel) (by first | assumption | omega | (simp; omega)) ?_; clear hx hy M; intro w1 M; (try simp only [List.set_cons_succ, List.set_cons_zero] at M); (try conv => arg 5; dsimp only [Act.put, List.setIfInBounds_toArray, List.set_cons_succ, List.set_cons_zero])) | (refine w_storeH M 0 _ _ _ rfl rfl hx rfl hy (by first | assumption | exact shaL_len _ | exact macL_len _ _ | exact words_len _ | exact List.length_replicate | (rw [List.length_set]; first | assumption | exact List.length_replicate) | rfl) (by decide +kernel) (by first | assumption | exact shaL_len _ | exact macL_len _ _ | exact words_len _ | exact List.length_replicate | (rw [List.length_set]; first | assumption | exact List.length_replicate) | rfl) ?_; clear hx hy M; intro w1 M; (try simp only [List.set_cons_zero] at M); (try conv => arg 5; dsimp only [Act.put, List.setIfInBounds_toArray, List.set_cons_succ, List.set_cons_zero])) | (refine w_storeH M 1 _ _ _ rfl rfl hx rfl hy (by first | assumption | exact shaL_len _ | exact macL_len _ _ | exact words_len _ | exact List.length_replicate | (rw [List.length_set]; first | assumption | exact List.length_replicate) | rfl) (by decide +kernel) (by first | assumption | exact shaL_len _ | exact macL_len _ _ | exact words_len _ | exact List.length_replicate | (rw [List.length_set]; first | assumption | exact List.length_replicate) | rfl) ?_; clear hx hy M; intro w1 M; (try simp only [List.set_cons_succ, List.set_cons_zero] at M); (try conv => arg 5; dsimp only [Act.put, List.setIfInBounds_toArray, List.set_cons_succ, List.set_cons_zero])) | (refine w_storeH M 2 _ _ _ rfl rfl hx rfl hy (by first | assumption | exact shaL_len _ | exact macL_len _ _ | exact words_len _ | exact List.length_replicate | (rw [List.length_set]; first | assumption | exact List.length_replicate) | rfl) (by decide +kernel) (by first | assumption | exact shaL_len _ | exact macL_len _ _ | exact words_len _ | exact List.length_replicate | (rw [List.length_set]; first | assumption | exact List.length_replicate) | rfl) ?_; clear hx hy M; intro w1 M; (try simp only [List.set_cons_succ, List.set_cons_zero] at M); (try conv => arg 5; dsimp only [Act.put, List.setIfInBounds_toArray, List.set_cons_succ, List.set_cons_zero])) | (refine w_store M 0 _ _ _ rfl rfl hx rfl hy rfl rfl (by decide +kernel) (by first | decide | simp | (simp; omega)) ?_; clear hx hy M; intro w1 M; (try simp only [List.set_cons_zero] at M); (try conv => arg 5; dsimp only [Act.put, List.setIfInBounds_toArray, List.set_cons_succ, List.set_cons_zero])) | (refine w_store M 1 _ _ _ rfl rfl hx rfl hy rfl rfl (by decide +kernel) (by first | decide | simp | (simp; omega)) ?_; clear hx hy M; intro w1 M; (try simp only [List.set_cons_succ, List.set_cons_zero] at M); (try conv => arg 5; dsimp only [Act.put, List.setIfInBounds_toArray, List.set_cons_succ, List.set_cons_zero])) | (refine w_store M 2 _ _ _ rfl rfl hx rfl hy rfl rfl (by decide +kernel) (by first | decide | simp | (simp; omega)) ?_; clear hx hy M; intro w1 M; (try simp only [List.set_cons_succ, List.set_cons_zero] at M); (try conv => arg 5; dsimp only [Act.put, List.setIfInBounds_toArray, List.set_cons_succ, List.set_cons_zero])) | (refine w_storeR M 0 _ _ _ rfl rfl hx rfl _ hy rfl (by kernel_rfl) (by simp [Value.oneCell']) (by first | rfl | assumption) ?_; clear hx hy M; intro w1 M; (try simp only [List.set_cons_zero] at M); (try conv => arg 5; dsimp only [Act.put, List.setIfInBounds_toArray, List.set_cons_succ, List.set_cons_zero])) | (refine w_storeR M 1 _ _ _ rfl rfl hx rfl _ hy rfl (by kernel_rfl) (by simp [Value.oneCell']) (by first | rfl | assumption) ?_; clear hx hy M; intro w1 M; (try simp only [List.set_cons_succ, List.set_cons_zero] at M); (try conv => arg 5; dsimp only [Act.put, List.setIfInBounds_toArray, List.set_cons_succ, List.set_cons_zero])) | (refine w_storeR M 2 _ _ _ rfl rfl hx rfl _ hy rfl (by kernel_rfl) (by simp [Value.oneCell']) (by first | rfl | assumption) ?_; clear hx hy M; intro w1 M; (try simp only [List.set_cons_succ, List.set_cons_zero] at M); (try conv => arg 5; dsimp only [Act.put, List.setIfInBounds_toArray, List.set_cons_succ, List.set_cons_zero])))) | ((with_reducible show wpList _ _ _ (Oper.mk _ (Op.box _ _) _ _ _ _ :: _) _ _); (refine w_box M _ _ rfl rfl _ rfl _ rfl ?_; clear M; intro g w1 M; (try conv => arg 5; dsimp only [Act.put, List.setIfInBounds_toArray, List.set_cons_succ, List.set_cons_zero]))) | ((with_reducible show Code.wp _ (Code.region 15 _ _) _ _ _); go_must (refine region_det [(0, false), (1, false), (2, false), (4, false), (3, false), (5, false)] [(67, .ptr)] (by kernel_rfl) (by kernel_rfl) rfl (by kernel_rfl) ?_; replace M := M.drew; simp only [reord, opAt, List.map_cons, List.map_nil, List.getElem?_toArray, List.getElem?_cons_zero, List.getElem?_cons_succ, Option.getD_some])))
          go_ret2
          exact Gives.intro (p := none) (cap := 0) (M.nil 2)
  · have e : A = ([], 1) := EA.out.trans (readL_arg (by simpa using h1))
    subst e
    by_cases h0 : i < 0
    · go_enter Try.func24, Try.ntmps24
      go_wp2_with fail
      go_ret2
      exact Gives.intro (p := none) (cap := 0) (M.nil 2)
    · have h15 : 15 < i := by
        unfold inB at h1; simp at h1; omega
      replace h0 : 0 ≤ i := by omega
      clear h1
      go_enter Try.func24, Try.ntmps24
      go_wp2_with fail
      go_ret2
      exact Gives.intro (p := none) (cap := 0) (M.nil 2)
end Go.Proofs.Ytjmhjkgcdglpaaa

/- Plain laws of layer 14 (bucket): a page's bytes, read, are the pairs; cut they end too early; what is read has just its bytes; parts of pairs. No program in this text. No conditions but those each lemma names. -/
namespace Go
namespace TL
/-! ### Numbers and texts, read back and cut -/
theorem most_num {m n k : Nat} {r : List UInt8} (h : n ≤ m) (h64 : n < 18446744073709551616) : InS.most ⟨numL n ++ r, k, 0⟩ m = (n, ⟨r, k + (numL n).length, 0⟩) := by
  unfold InS.most InS.take
  simp only [if_true]
  rw [read_num n m r h64, if_neg (by omega)]
  simp
theorem text_text {m k : Nat} {t r : List UInt8} (h : t.length ≤ m) (h64 : t.length < 18446744073709551616) : InS.text ⟨textL t ++ r, k, 0⟩ m = (t, ⟨r, k + (textL t).length, 0⟩) := by
  unfold InS.text InS.take textL
  have e := read_num t.length m (t ++ r) h64
  rw [if_neg (by omega)] at e
  simp only [if_true, List.append_assoc]
  rw [e]
  simp only [if_true]
  rw [if_pos (by simp)]
  simp [List.drop_append]
theorem most_cut {m n k j : Nat} {r : List UInt8} (h : n ≤ m) (h64 : n < 18446744073709551616) :
    InS.most ⟨(numL n ++ r).take j, k, 0⟩ m = if j < (numL n).length then (0, ⟨(numL n).take j, k, 7⟩) else (n, ⟨r.take (j - (numL n).length), k + (numL n).length, 0⟩) := by
  rw [List.take_append]
  by_cases hj : j < (numL n).length
  · rw [if_pos hj, show j - (numL n).length = 0 by omega, List.take_zero, List.append_nil]
    unfold InS.most InS.take
    simp only [if_true]
    rw [read_short n m j h64 hj]; simp
  · rw [if_neg hj, List.take_of_length_le (by omega : (numL n).length ≤ j)]
    exact most_num h h64
theorem text_cut {m k j : Nat} {t r : List UInt8} (h : t.length ≤ m) (h64 : t.length < 18446744073709551616) :
    if j < (textL t).length then (InS.text ⟨(textL t ++ r).take j, k, 0⟩ m).2.err = 7 else InS.text ⟨(textL t ++ r).take j, k, 0⟩ m = (t, ⟨r.take (j - (textL t).length), k + (textL t).length, 0⟩) := by
  by_cases hj : j < (textL t).length
  · rw [if_pos hj]
    rw [List.take_append, show j - (textL t).length = 0 by omega, List.take_zero, List.append_nil]
    unfold textL at hj ⊢
    rw [List.take_append]
    unfold InS.text InS.take
    simp only [if_true]
    by_cases h2 : j < (numL t.length).length
    · rw [show j - (numL t.length).length = 0 by omega, List.take_zero, List.append_nil, read_short t.length m j h64 h2]
      simp
    · have e := read_num t.length m (t.take (j - (numL t.length).length)) h64
      rw [if_neg (by omega)] at e
      rw [List.take_of_length_le (by omega : (numL t.length).length ≤ j), e]
      simp only [if_true]
      rw [List.length_append] at hj
      rw [if_neg (by rw [List.length_append, List.length_take]; omega)]
      rfl
  · rw [if_neg hj, List.take_append, List.take_of_length_le (by omega : (textL t).length ≤ j)]
    exact text_text h h64
theorem most_ok {x : InS} {m n : Nat} {y : InS} (h : x.most m = (n, y)) (hx : x.err = 0) (hy : y.err = 0) : x.rest = numL n ++ y.rest ∧ n ≤ m := by
  unfold InS.most InS.take at h
  rw [if_pos hx] at h
  obtain ⟨⟨a, b, c⟩, e⟩ : ∃ R, R = readN x.rest m := ⟨_, rfl⟩
  rw [← e] at h
  simp only [Prod.mk.injEq] at h
  obtain ⟨rfl, rfl⟩ := h
  by_cases hc : c = 0
  · subst hc
    obtain ⟨h1, h2, h3, _⟩ := read_ok e.symm
    simp only [if_true]
    exact ⟨h1, h3⟩
  · rw [if_neg hc] at hy; exact absurd hy hc
theorem text_ok {x : InS} {m : Nat} {t : List UInt8} {y : InS} (h : x.text m = (t, y)) (hx : x.err = 0) (hy : y.err = 0) : x.rest = textL t ++ y.rest ∧ t.length ≤ m := by
  have hlen := InS.text_len x m
  rw [h] at hlen
  refine ⟨?_, hlen⟩
  unfold InS.text InS.take at h
  rw [if_pos hx] at h
  obtain ⟨⟨a, b, c⟩, e⟩ : ∃ R, R = readN x.rest m := ⟨_, rfl⟩
  rw [← e] at h
  by_cases hc : c = 0
  · subst hc
    obtain ⟨h1, h2, h3, _⟩ := read_ok e.symm
    simp only [if_true] at h
    split at h
    · rename_i hl
      simp only [Prod.mk.injEq] at h
      obtain ⟨rfl, rfl⟩ := h
      have e2 : ((x.rest.drop b).take a).length = a := by simp; omega
      unfold textL
      rw [e2, List.append_assoc]
      simp only
      rw [← List.drop_drop, List.take_append_drop]
      exact h1
    · simp only [Prod.mk.injEq] at h
      obtain ⟨_, rfl⟩ := h
      simp at hy
  · simp only [if_neg hc, Prod.mk.injEq] at h
    obtain ⟨_, rfl⟩ := h
    exact absurd hy hc
theorem most_err0 {x : InS} {m : Nat} (h : (x.most m).2.err = 0) : x.err = 0 := by
  by_cases hx : x.err = 0
  · exact hx
  · rw [InS.most_err hx] at h; exact h
theorem text_err0 {x : InS} {m : Nat} (h : (x.text m).2.err = 0) : x.err = 0 := by
  by_cases hx : x.err = 0
  · exact hx
  · rw [InS.text_err hx] at h; exact h
/-! ### Pairs -/
def fitP (x : Pr) : Prop := x.1.length ≤ 33 ∧ x.2.length ≤ 32
theorem rd_pairs : ∀ (l : List Pr) (r : List UInt8) (k : Nat), (∀ x ∈ l, fitP x) → ∃ k', rdPairs l.length ⟨l.flatMap pairB ++ r, k, 0⟩ = (l, ⟨r, k', 0⟩)
  | [], r, k, _ => ⟨k, by simp [rdPairs]⟩
  | (p, v) :: l, r, k, h => by
    obtain ⟨h1, h2⟩ := h (p, v) List.mem_cons_self
    simp only at h1 h2
    obtain ⟨k', ih⟩ := rd_pairs l r (k + (textL p).length + (textL v).length) fun y hy => h y (List.mem_cons_of_mem _ hy)
    refine ⟨k', ?_⟩
    rw [List.length_cons, List.flatMap_cons, pairB, List.append_assoc, List.append_assoc, rdPairs]
    rw [text_text h1 (by omega)]
    simp only
    rw [text_text h2 (by omega)]
    simp only [if_true]
    rw [ih]
theorem rd_cut : ∀ (l : List Pr) (j k : Nat), (∀ x ∈ l, fitP x) → j < (l.flatMap pairB).length → (rdPairs l.length ⟨(l.flatMap pairB).take j, k, 0⟩).2.err = 7
  | [], j, k, _, hj => by simp at hj
  | (p, v) :: l, j, k, h, hj => by
    obtain ⟨h1, h2⟩ := h (p, v) List.mem_cons_self
    simp only at h1 h2
    rw [List.length_cons, List.flatMap_cons, pairB, List.append_assoc, rdPairs]
    rw [List.flatMap_cons, pairB, List.append_assoc] at hj
    have c1 := text_cut (m := 33) (k := k) (j := j) (t := p) (r := textL v ++ l.flatMap pairB) h1 (by omega)
    simp only at c1 ⊢
    by_cases hj1 : j < (textL p).length
    · rw [if_pos hj1] at c1
      have e := InS.text_err (x := (InS.text ⟨(textL p ++ (textL v ++ l.flatMap pairB)).take j, k, 0⟩ 33).2) (by rw [c1]; decide) 32
      rw [e, if_neg (by rw [c1]; decide)]
      exact c1
    · rw [if_neg hj1] at c1
      rw [c1]
      simp only
      have c2 := text_cut (m := 32) (k := k + (textL p).length) (j := j - (textL p).length) (t := v) (r := l.flatMap pairB) h2 (by omega)
      by_cases hj2 : j - (textL p).length < (textL v).length
      · rw [if_pos hj2] at c2
        rw [if_neg (by rw [c2]; decide)]
        exact c2
      · rw [if_neg hj2] at c2
        rw [c2]
        simp only [if_true]
        simp only [List.length_append] at hj
        exact rd_cut l _ _ (fun y hy => h y (List.mem_cons_of_mem _ hy)) (by omega)
theorem rd_only : ∀ (n : Nat) (x : InS) (l : List Pr) (y : InS), rdPairs n x = (l, y) → x.err = 0 → y.err = 0 → x.rest = l.flatMap pairB ++ y.rest ∧ l.length = n ∧ ∀ z ∈ l, fitP z
  | 0, x, l, y, h, _, _ => by
    simp only [rdPairs, Prod.mk.injEq] at h
    obtain ⟨rfl, rfl⟩ := h
    simp
  | n + 1, x, l, y, h, hx, hy => by
    unfold rdPairs at h
    split at h
    · rename_i h0
      simp only [Prod.mk.injEq] at h
      obtain ⟨rfl, rfl⟩ := h
      have h1 := text_err0 h0
      have t1 : x.rest = textL (x.text 33).1 ++ (x.text 33).2.rest ∧ (x.text 33).1.length ≤ 33 := text_ok (Prod.ext rfl rfl) hx h1
      have t2 : (x.text 33).2.rest = textL ((x.text 33).2.text 32).1 ++ ((x.text 33).2.text 32).2.rest ∧ ((x.text 33).2.text 32).1.length ≤ 32 := text_ok (Prod.ext rfl rfl) h1 h0
      obtain ⟨r1, r2, r3⟩ := rd_only n ((x.text 33).2.text 32).2 (rdPairs n ((x.text 33).2.text 32).2).1 (rdPairs n ((x.text 33).2.text 32).2).2 (Prod.ext rfl rfl) h0 hy
      refine ⟨?_, by simp [r2], ?_⟩
      · rw [t1.1, t2.1, r1]
        simp [pairB]
      · intro z hz
        rcases List.mem_cons.1 hz with rfl | hz
        · exact ⟨t1.2, t2.2⟩
        · exact r3 z hz
    · rename_i h0
      simp only [Prod.mk.injEq] at h
      obtain ⟨_, rfl⟩ := h
      exact absurd hy h0
/-! ### Pages -/
theorem fit_of_may {l : List Pr} (h : mayL l = true) : ∀ x ∈ l, fitP x := by
  intro x hx
  obtain ⟨k, hk, rfl⟩ := List.mem_iff_getElem.1 hx
  have := may_at h hk
  unfold mayAt at this
  rw [Bool.and_eq_true] at this
  have h1 := this.1
  rw [List.getD_eq_getElem?_getD, List.getElem?_eq_getElem hk] at h1
  simp only [Option.getD_some, okP, Bool.and_eq_true, decide_eq_true_eq] at h1
  obtain ⟨h1, h2⟩ := h1
  obtain ⟨⟨m, k', ok⟩, e⟩ : ∃ c, c = cutL (l[k]).1 := ⟨_, rfl⟩
  rw [← e] at h1
  simp only at h1; subst h1
  obtain ⟨hp, _, _, hm, hk', _⟩ := cut_ok e.symm
  refine ⟨?_, h2⟩
  rw [hp]; simp; omega
theorem pageB_pos (l : List Pr) : 0 < (pageB l).length := by unfold pageB; have := numL_pos l.length; simp; omega
theorem most_page {l : List Pr} {r : List UInt8} (hl : l.length ≤ 48) : (inStart (pageB l ++ r)).most 48 = (l.length, ⟨l.flatMap pairB ++ r, 0 + (numL l.length).length, 0⟩) := by
  unfold inStart pageB
  rw [List.append_assoc]
  exact most_num hl (by omega)
theorem page_of {i : Int} {l : List Pr} (h : (pageL i l).2 = 0) : pageL i l = (pageB l, 0) ∧ inB i = true ∧ mayL l = true ∧ (partL l i).length = l.length ∧ l.length ≤ 48 := by
  unfold pageL at h ⊢
  split at h
  · rename_i h1
    split at h
    · rename_i h2; exact ⟨by rw [if_pos h1, if_pos h2], h1.1, h1.2.1, h1.2.2, h2⟩
    · simp at h
  · simp at h
/-- A page's bytes, read, are the pairs; nothing may be behind them. -/
theorem read_page {i : Int} {l : List Pr} (h : (pageL i l).2 = 0) (r : List UInt8) : readL i (pageB l ++ r) = if r = [] then (l, 0) else ([], 8) := by
  obtain ⟨hp, hi, hm, _, hl⟩ := page_of h
  obtain ⟨k', e⟩ := rd_pairs l r (0 + (numL l.length).length) (fit_of_may hm)
  unfold readL
  rw [if_pos hi, most_page hl]
  simp only
  rw [e]
  unfold InS.fin
  simp only [if_true]
  by_cases hr : r = []
  · subst hr; simp [h]
  · have : r.length ≠ 0 := by simpa using hr
    rw [if_neg this, if_neg (by decide), if_neg hr]
/-- A page's proper beginning ends too early. -/
theorem read_cut {i : Int} {l : List Pr} (h : (pageL i l).2 = 0) {j : Nat} (hj : j < (pageB l).length) : readL i ((pageB l).take j) = ([], 7) := by
  obtain ⟨hp, hi, hm, _, hl⟩ := page_of h
  have key : (rdPairs ((inStart ((pageB l).take j)).most 48).1 ((inStart ((pageB l).take j)).most 48).2).2.err = 7 := by
    unfold inStart pageB at *
    rw [most_cut hl (by omega)]
    split
    · rfl
    · simp only
      exact rd_cut l _ _ (fit_of_may hm) (by rw [List.length_append] at hj; omega)
  unfold readL
  rw [if_pos hi]
  have hf : (rdPairs ((inStart ((pageB l).take j)).most 48).1 ((inStart ((pageB l).take j)).most 48).2).2.fin = 7 := by
    unfold InS.fin; rw [if_neg (by rw [key]; decide), key]
  rw [hf, if_neg (by decide)]
/-- What is read has just its bytes. -/
theorem read_only {i : Int} {s : List UInt8} {l : List Pr} (h : readL i s = (l, 0)) : s = pageB l ∧ (pageL i l).2 = 0 := by
  unfold readL at h
  split at h
  · split at h
    · rename_i hfin
      split at h
      · rename_i hpg
        simp only [Prod.mk.injEq, and_true] at h
        subst h
        refine ⟨?_, hpg⟩
        obtain ⟨⟨n, x0⟩, e0⟩ : ∃ R, R = (inStart s).most 48 := ⟨_, rfl⟩
        rw [← e0] at hfin hpg ⊢
        simp only at hfin hpg ⊢
        obtain ⟨⟨l, x⟩, e⟩ : ∃ R, R = rdPairs n x0 := ⟨_, rfl⟩
        rw [← e] at hfin hpg ⊢
        simp only at hfin hpg ⊢
        have hx : x.err = 0 := by
          unfold InS.fin at hfin; split at hfin
          · assumption
          · assumption
        have hxr : x.rest = [] := by
          unfold InS.fin at hfin; rw [if_pos hx] at hfin; split at hfin
          · rename_i hz; simpa using hz
          · cases hfin
        have hx0 : x0.err = 0 := by
          by_cases h0 : x0.err = 0
          · exact h0
          · exfalso
            cases n with
            | zero => rw [rdPairs] at e; cases e; exact h0 hx
            | succ n =>
              unfold rdPairs at e
              have t1 := InS.text_err h0 33
              have t2 : ((x0.text 33).2.text 32) = ([], x0) := by rw [t1]; exact InS.text_err h0 32
              rw [t2, if_neg h0] at e; cases e; exact h0 hx
        have m := most_ok e0.symm rfl hx0
        obtain ⟨r1, r2, _⟩ := rd_only n x0 l x e.symm hx0 hx
        rw [hxr, List.append_nil] at r1
        have : s = numL n ++ x0.rest := m.1
        rw [this, r1, ← r2]; rfl
      · simp at h
    · rename_i hfin
      simp only [Prod.mk.injEq] at h
      exact absurd h.2 hfin
  · simp at h
theorem readL_err {i : Int} {s : List UInt8} (h : (readL i s).2 ≠ 0) : (readL i s).1 = [] := by
  unfold readL at h ⊢
  split
  · split
    · split
      · rename_i h1 h2 h3; rw [if_pos h1, if_pos h2, if_pos h3] at h; exact absurd rfl h
      · rfl
    · rfl
  · rfl
/-! ### Parts -/
theorem less_trans : ∀ x y z : List UInt8, Op.bytesLess x y = true → Op.bytesLess y z = true → Op.bytesLess x z = true
  | _, [], _, h, _ => by simp [Op.bytesLess] at h
  | _, _ :: _, [], _, h => by simp [Op.bytesLess] at h
  | [], _ :: _, _ :: _, _, _ => rfl
  | a :: x, b :: y, c :: z, h1, h2 => by
    simp only [Op.bytesLess, Bool.or_eq_true, Bool.and_eq_true, decide_eq_true_eq, beq_iff_eq] at h1 h2 ⊢
    rcases h1 with h1 | ⟨rfl, h1⟩
    · rcases h2 with h2 | ⟨rfl, h2⟩
      · left; exact UInt8.lt_trans h1 h2
      · left; exact h1
    · rcases h2 with h2 | ⟨rfl, h2⟩
      · left; exact h2
      · right; exact ⟨rfl, less_trans x y z h1 h2⟩
theorem may_iff (l : List Pr) : mayL l = true ↔ (∀ x ∈ l, okP x = true) ∧ l.Pairwise fun x y => Op.bytesLess x.1 y.1 = true := by
  have at_ : ∀ k (hk : k < l.length), l.getD k ([], []) = l[k] := fun k hk => by rw [List.getD_eq_getElem?_getD, List.getElem?_eq_getElem hk]; rfl
  constructor
  · intro h
    refine ⟨fun x hx => ?_, ?_⟩
    · obtain ⟨k, hk, rfl⟩ := List.mem_iff_getElem.1 hx
      have := may_at h hk
      unfold mayAt at this
      rw [at_ k hk, Bool.and_eq_true] at this
      exact this.1
    · rw [List.pairwise_iff_getElem]
      intro i j hi hj hij
      induction j with
      | zero => omega
      | succ j ih =>
        have := may_at h hj
        unfold mayAt at this
        rw [Bool.and_eq_true] at this
        have h2 : Op.bytesLess (l[j]'(by omega)).1 (l[j + 1]).1 = true := by
          have h3 := this.2
          rw [Nat.add_sub_cancel, at_ j (by omega), at_ (j + 1) hj] at h3
          simpa using h3
        rcases Nat.lt_or_ge i j with hlt | hge
        · exact less_trans _ _ _ (ih (by omega) hlt) h2
        · obtain rfl : i = j := by omega
          exact h2
  · rintro ⟨h1, h2⟩
    refine may_good fun k hk => ?_
    unfold mayAt
    rw [Bool.and_eq_true, at_ k hk]
    refine ⟨h1 _ (List.getElem_mem _), ?_⟩
    cases k with
    | zero => rfl
    | succ k =>
      rw [List.pairwise_iff_getElem] at h2
      rw [Nat.add_sub_cancel, at_ k (by omega)]
      simpa using h2 k (k + 1) (by omega) hk (by omega)
theorem may_part {l : List Pr} (h : mayL l = true) (i : Int) : mayL (partL l i) = true := by
  rw [may_iff] at h ⊢
  exact ⟨fun x hx => h.1 x (List.mem_filter.1 hx).1, h.2.sublist List.filter_sublist⟩
theorem part_part (l : List Pr) (i : Int) : partL (partL l i) i = partL l i := by unfold partL; rw [List.filter_filter]; simp
theorem page_part {l : List Pr} {i : Int} (h : mayL l = true) (hi : inB i = true) (hl : l.length ≤ 48) : (pageL i (partL l i)).2 = 0 := by
  unfold pageL
  have := List.length_filter_le (fun x : Pr => (ofL x.1 : Int) == i) l
  rw [if_pos ⟨hi, may_part h i, by rw [part_part]⟩, if_pos (by unfold partL; omega)]
end TL
end Go

/- The walk of layer 14's waking. No conditions. -/
namespace Go
namespace TL
open Go.RowKit
theorem SeesL.row {α : Type} {w w0 : World} {F : List Nat} {L : List Chunk} {size : Nat} {f : α → List Value} {l : List α} (M : Mem F w0 w L) (i : Nat) {g n : Nat} (hi : L[i]? = some (.row g (l.flatMap f))) (hn : n = l.length) (hf : ∀ x, (f x).length = size) (hm : n ≤ 1000000) : SeesL w size f (.slice (some ⟨g, 0, none⟩) n n) l := by
  subst hn
  have hok := M.ok i _ hi
  exact ⟨⟨flat_len hf l, .inr ⟨g, 0, l.length, rfl, hok.1, Nat.le_refl _, by simp only [maxLen]; omega, hok.2.1⟩⟩, hf⟩
def appA : List UInt8 := [97, 112, 112, 47, 97]
def wakeB : List UInt8 := [1, 5, 97, 112, 112, 47, 97, 1, 49]
attribute [go_sem] appA wakeB
theorem wake_may : mayL [(appA, [49])] = true := by decide +kernel
theorem wake_page : pageL (ofL appA : Nat) [(appA, [49])] = (wakeB, 0) := by
  unfold pageL
  have h1 : inB ((ofL appA : Nat) : Int) = true := by have := ofL_lt appA; unfold inB; simp; omega
  have h2 : partL [(appA, [49])] ((ofL appA : Nat) : Int) = [(appA, [49])] := by unfold partL; simp
  rw [if_pos ⟨h1, wake_may, by rw [h2]⟩, if_pos (by simp)]
  unfold pageB pairB textL appA wakeB
  simp [numL_small]
theorem wake_read : readL (ofL appA : Nat) wakeB = ([(appA, [49])], 0) := by
  have h := wake_page
  have h2 := read_page (i := (ofL appA : Nat)) (l := [(appA, [49])]) (by rw [h]) []
  rw [if_pos rfl, List.append_nil] at h2
  have h3 : pageB [(appA, [49])] = wakeB := by
    have := (page_of (i := (ofL appA : Nat)) (l := [(appA, [49])]) (by rw [h])).1
    rw [h] at this; exact (Prod.mk.inj this).1.symm
  rw [h3] at h2; exact h2
def WakeR (w : World) (e : Ending) (w' : World) : Prop := ∃ p c, e = .returned (.tuple #[.slice p 1 c, .int .i64 0]) ∧ Mem [] w w' [.sl 2 (.slice p 1 c) 1 [.string (mkS appA), .string (mkS [49])]]
end TL
end Go
namespace Go.Proofs.Ytjmhjkgcdglpaaa
open Go.RowKit Go.TL
set_option maxRecDepth 100000 in
set_option maxHeartbeats 4000000 in
theorem wakes14_c (w : World) : Calls Try.prog 12 #[] w fun e w' => e = .returned (.bool true) ∧ Below w.heap.size w w' := by
  have M := Mem.start [] w
  have O := fun w => bOf_c appA w (by decide)
  have P := fun v w S => Page_c (ofL appA : Nat) [(appA, [49])] v w S (by decide) (by intro x hx; obtain rfl : x = (appA, [49]) := by simpa using hx
                                                                                      decide)
  have R := fun w => Read_c (ofL appA : Nat) wakeB w (by decide)
  rw [wake_page] at P
  have R : ∀ w, Calls Try.prog 17 #[.int .i64 (ofL appA : Nat), .string (mkS wakeB)] w (WakeR w) := fun w => (R w).mono fun e w' h => by
    rw [wake_read] at h
    obtain ⟨p, c, h1, h2⟩ := h
    exact ⟨p, c, h1, h2⟩
  obtain ⟨n, en⟩ : ∃ n : Nat, n = ofL appA := ⟨_, rfl⟩
  rw [← en] at O P R
  simp only at P
  replace O := Lib.hid O
  replace P := Lib.hid P
  replace R := Lib.hid R
  clear en
  go_enter Try.func12, Try.ntmps12
  go_wp2_with (first | (go_at_call 14; go_must (refine (O.out _).mono ?_; rintro e w1 ⟨rfl, hb⟩; replace M := M.call hb; clear hb)) | ((with_reducible show wpList _ _ _ (Oper.mk _ (Op.buildSlice _ 1 _) _ _ _ _ :: _) _ _); go_must (refine w_buildSlice1 M pairT (by decide) _ rfl rfl (by first | exact ev_tmp rfl | exact ev_const) _ rfl rfl ?_; clear M; intro g w1 M; (try conv => arg 5; dsimp only [Act.put, List.setIfInBounds_toArray, List.set_cons_succ, List.set_cons_zero]))) | (go_at_call 16; go_must (refine (P.out _ _ (SeesL.row M 0 rfl rfl prV_len (by decide))).mono ?_; rintro e w1 ⟨rfl, hb⟩; replace M := M.call hb; clear hb)) | (go_at_call 17; go_must (refine (R.out _).mono ?_; rintro e w1 ⟨p1, c1, rfl, MP⟩; replace M := M.join MP; clear MP; simp only [List.cons_append, List.nil_append] at M; obtain ⟨g1, o1, rfl⟩ := M.slAddr 0 rfl (by decide))) | ((with_reducible show wpList _ _ _ (Oper.mk _ (Op.load _ _) _ _ _ none :: _) _ _); refine w_at _ _ rfl (by first | exact ev_tmp rfl | exact ev_const) ?_; intro hx; refine w_loadS M 0 _ _ rfl rfl hx rfl (by decide +kernel) 1 rfl rfl ?_; clear hx; (try conv => arg 5; dsimp only [Act.put, List.setIfInBounds_toArray, List.set_cons_succ, List.set_cons_zero])) | ((with_reducible show wpList _ _ _ (Oper.mk _ _ _ _ _ (some _) :: _) _ _); refine w_strip rfl (by with_reducible rfl) ?_) | ((with_reducible show wpList _ _ _ (Oper.mk _ (Op.convert 48 9 _) _ _ _ _ :: _) _ _); go_must (first | (refine w_stringW M 0 _ _ _ _ rfl rfl rfl rfl (by first | assumption | exact shaL_len _ | exact macL_len _ _ | exact words_len _ | exact List.length_replicate | (rw [List.length_set]; first | assumption | exact List.length_replicate) | rfl) (by decide) Try.underlying48 Try.underlying5 Try.underlying9 ?_; (try conv => arg 5; dsimp only [Act.put, List.setIfInBounds_toArray, List.set_cons_succ, List.set_cons_zero])) | (refine w_string M 0 _ _ _ _ rfl rfl rfl (by first | rfl | (simp; done) | assumption) rfl Try.underlying48 Try.underlying5 Try.underlying9 ?_; (try conv => arg 5; dsimp only [Act.put, List.setIfInBounds_toArray, List.set_cons_succ, List.set_cons_zero])))) | ((with_reducible show wpList _ _ _ (Oper.mk _ (Op.load _ _) _ _ _ _ :: _) _ _); go_must (refine w_at _ _ rfl (by first | exact ev_tmp rfl | exact ev_const) ?_; intro hx; first | (refine w_load M 0 _ _ rfl rfl hx rfl (by decide +kernel) rfl ?_; clear hx; (try conv => arg 5; dsimp only [Act.put, List.setIfInBounds_toArray, List.set_cons_succ, List.set_cons_zero])) | (refine w_loadB M 0 _ _ rfl rfl hx rfl (by decide +kernel) (by first | assumption | omega | (simp; omega)) ?_; clear hx; (try conv => arg 5; dsimp only [Act.put, List.setIfInBounds_toArray, List.set_cons_succ, List.set_cons_zero])) | (refine w_loadH M 0 _ _ rfl rfl hx rfl (by decide +kernel) (by first | assumption | exact shaL_len _ | exact macL_len _ _ | exact words_len _ | exact List.length_replicate | (rw [List.length_set]; first | assumption | exact List.length_replicate) | rfl) (by decide +kernel) ?_; clear hx; (try conv => arg 5; dsimp only [Act.put, List.setIfInBounds_toArray, List.set_cons_succ, List.set_cons_zero])) | (refine w_loadR M 0 _ _ rfl rfl hx rfl (by decide +kernel) (by kernel_rfl) ?_; clear hx; (try conv => arg 5; dsimp only [Act.put, List.setIfInBounds_toArray, List.set_cons_succ, List.set_cons_zero])))) | ((with_reducible show wpList _ _ _ (Oper.mk _ (Op.store _ _ _) _ _ _ _ :: _) _ _); go_must (refine w_at2 _ _ _ rfl (by first | exact ev_tmp rfl | exact ev_const) (by first | exact ev_tmp rfl | exact ev_const) ?_; intro hx hy; first | (refine w_storeB M 0 _ _ _ rfl rfl hx rfl hy (by decide +kernel) (by first | assumption | omega | (simp; omega)) ?_; clear hx hy M; intro w1 M; (try simp only [List.set_cons_zero] at M); (try conv => arg 5; dsimp only [Act.put, List.setIfInBounds_toArray, List.set_cons_succ, List.set_cons_zero])) | (refine w_storeH M 0 _ _ _ rfl rfl hx rfl hy (by first | assumption | exact shaL_len _ | exact macL_len _ _ | exact words_len _ | exact List.length_replicate | (rw [List.length_set]; first | assumption | exact List.length_replicate) | rfl) (by decide +kernel) (by first | assumption | exact shaL_len _ | exact macL_len _ _ | exact words_len _ | exact List.length_replicate | (rw [List.length_set]; first | assumption | exact List.length_replicate) | rfl) ?_; clear hx hy M; intro w1 M; (try simp only [List.set_cons_zero] at M); (try conv => arg 5; dsimp only [Act.put, List.setIfInBounds_toArray, List.set_cons_succ, List.set_cons_zero])) | (refine w_store M 0 _ _ _ rfl rfl hx rfl hy rfl rfl (by decide +kernel) (by first | decide | simp | (simp; omega)) ?_; clear hx hy M; intro w1 M; (try simp only [List.set_cons_zero] at M); (try conv => arg 5; dsimp only [Act.put, List.setIfInBounds_toArray, List.set_cons_succ, List.set_cons_zero])) | (refine w_storeR M 0 _ _ _ rfl rfl hx rfl _ hy rfl (by kernel_rfl) (by simp [Value.oneCell']) (by first | rfl | assumption) ?_; clear hx hy M; intro w1 M; (try simp only [List.set_cons_zero] at M); (try conv => arg 5; dsimp only [Act.put, List.setIfInBounds_toArray, List.set_cons_succ, List.set_cons_zero])))) | ((with_reducible show wpList _ _ _ (Oper.mk _ (Op.box _ _) _ _ _ _ :: _) _ _); (refine w_box M _ _ rfl rfl _ rfl _ rfl ?_; clear M; intro g w1 M; (try conv => arg 5; dsimp only [Act.put, List.setIfInBounds_toArray, List.set_cons_succ, List.set_cons_zero]))))
  go_ret
  exact ⟨rfl, M.below⟩
end Go.Proofs.Ytjmhjkgcdglpaaa

/- What the statements' frames lean on: an array of bytes that came in; a byte that came in. No conditions but those each lemma names. -/
namespace Go
namespace TL
open Go.RowKit
theorem wf_u8 {a : Int} (h : (Lit.int .u8 a).wf = true) : ∃ x : UInt8, a = I8 x := by
  have hb : IntKind.u8.min ≤ a ∧ a ≤ IntKind.u8.max := by simpa [Lit.wf] using h
  have h0 : IntKind.u8.min = 0 := by decide
  have h1 : IntKind.u8.max = 255 := by decide
  rw [h0, h1] at hb
  refine ⟨UInt8.ofNat a.toNat, ?_⟩
  rw [I8_eq, UInt8.toNat_ofNat']
  omega
theorem eq_of_cells {n : Nat} (cs : List Value) (h : ∀ i, i < n → ∃ x : UInt8, (cs.drop i).take 1 = [vb x]) (hl : cs.length = n) : ∃ l : List UInt8, l.length = n ∧ cs = l.map vb := by
  induction n generalizing cs with
  | zero => exact ⟨[], rfl, by simpa using hl⟩
  | succ n ih =>
    cases cs with
    | nil => simp at hl
    | cons c cs =>
      obtain ⟨x, hx⟩ := h 0 (by omega)
      simp only [List.drop_zero, List.take_succ_cons, List.take_zero, List.cons.injEq, and_true] at hx
      obtain ⟨l, h1, h2⟩ := ih cs (fun i hi => by simpa using h (i + 1) (by omega)) (by simpa using hl)
      exact ⟨x :: l, by simp [h1], by rw [hx, h2]; rfl⟩
theorem open_arr {P : Program} {w : World} {H : Type} {enc : TypeId × Value → H} {base : Nat} {spare : Bool} {held : _} {r : Reach} {b0 : Nat} {t e : TypeId} {n : Nat} {v : Value} {d : DataW H} {p : List MemPlace} (hu : P.underlying t = some (.array n e)) (he : P.underlying e = some (.int .u8)) (hc : P.cellsOf e = 1) (hct : P.cellsOf t = n)
    (hv : Value.okWide P w r b0 t v) (h : DataW.Trod enc P w base held spare t v d p) : ∃ l : List UInt8, l.length = n ∧ v = .agg (l.map vb).toArray := by
  simp only [Value.okWide, hu] at hv
  obtain ⟨cs, rfl, hsz, _⟩ := hv
  obtain ⟨fuel, hf⟩ := h
  obtain ⟨xs, m, _, _, _, hxl, hi⟩ := DataW.trod_array hu hf
  obtain ⟨l, h1, h2⟩ := eq_of_cells (n := n) cs.toList (fun i hin => by
    have h3 := hi i hin
    rw [hc, Nat.mul_one, List.getElem?_eq_getElem (by omega)] at h3
    obtain ⟨k, h4, _, h5⟩ := DataW.trod_int he h3
    obtain ⟨x, rfl⟩ := wf_u8 h5
    exact ⟨x, h4⟩) (by rw [Array.length_toList, hsz, hct])
  exact ⟨l, h1, by rw [← h2]⟩
end TL
end Go
