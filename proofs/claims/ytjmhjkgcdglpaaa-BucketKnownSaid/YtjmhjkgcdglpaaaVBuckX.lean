/- The walks of layer 14's laws BucketHash, BucketParts and BucketReads. No conditions but the bounds of lengths that every machine has. -/
import Derived.Test.YtjmhjkgcdglpaaaZg
namespace Go
namespace TL
theorem hash4 (b : UInt8) : w8 (((b.toNat / 16 : Nat)) : Int) <<< 4 = b &&& 240 := by
  have h : ∀ n : Fin 256, UInt8.ofNat (n.1 / 16) <<< 4 = UInt8.ofNat n.1 &&& 240 := by decide +kernel
  have e := h ⟨b.toNat, b.toNat_lt⟩
  simp only at e
  rw [w8_nat, e]; simp
end TL
end Go
namespace Go.Proofs.Ytjmhjkgcdglpaaa
open Go.RowKit Go.TL
set_option maxRecDepth 100000 in
set_option maxHeartbeats 4000000 in
theorem BucketHash_any (p : List UInt8) (w : World) :
    Calls Try.prog 5 #[.string (mkS p)] w fun e w' => e = .returned (.bool true) ∧ Below w.heap.size w w' := by
  have M := Mem.start [] w
  by_cases hp : p.length ≤ 1000
  · have hl := shaL_len p
    have O := fun w => bOf_c p w (by omega)
    have S := fun w => shaSum_c p w (by omega)
    unfold ofL at O
    obtain ⟨h, eh⟩ : ∃ h, h = shaL p := ⟨_, rfl⟩
    rw [← eh] at O S hl
    have h0 : 0 < h.length := by omega
    have e0 : h.getD 0 0 = h[0] := by rw [List.getD_eq_getElem?_getD, List.getElem?_eq_getElem h0]; rfl
    rw [e0] at O
    have E := hash4 h[0]
    have hn := (h[0]).toNat_lt
    obtain ⟨n, en⟩ : ∃ n : Nat, n = h[0].toNat / 16 := ⟨_, rfl⟩
    rw [← en] at O E
    have hn16 : (n : Int) < 16 := by omega
    have E : (I8 (w8 (n : Int) <<< 4) == I8 (h[0] &&& 240)) = true := by rw [E]; simp
    replace O := Lib.hid O
    replace S := Lib.hid S
    clear eh e0 en hn
    go_enter Try.func5, Try.ntmps5
    go_wp2_with (first | (go_at_call 14; go_must (refine (O.out _).mono ?_; rintro e w1 ⟨rfl, hb⟩; replace M := M.call hb; clear hb)) | (go_at_call 19; go_must (refine (S.out _).mono ?_; rintro e w1 ⟨rfl, hb⟩; replace M := M.call hb; clear hb)) | ((with_reducible show wpList _ _ _ (Oper.mk (some 3) (Op.alloc 37) _ _ _ _ :: _) _ _); refine w_alloc M _ rfl rfl (.agg (Array.replicate 32 (.int .u8 0))) (bs (List.replicate 32 (0 : UInt8))) (by kernel_rfl) rfl ?_; clear M; intro gh w1 M; (try conv => arg 5; dsimp only [Act.put, List.setIfInBounds_toArray, List.set_cons_succ, List.set_cons_zero])) | (go_at_call 12; go_must (refine (wakes14_c _).mono ?_; rintro e w1 ⟨rfl, hb⟩; replace M := M.call hb; clear hb)) | ((with_reducible show wpList _ _ _ (Oper.mk _ _ _ _ _ (some _) :: _) _ _); refine w_strip rfl (by with_reducible rfl) ?_) | ((with_reducible show wpList _ _ _ (Oper.mk _ (Op.convert 48 9 _) _ _ _ _ :: _) _ _); go_must (first | (refine w_stringW M 0 _ _ _ _ rfl rfl rfl rfl (by first | assumption | exact shaL_len _ | exact macL_len _ _ | exact words_len _ | exact List.length_replicate | (rw [List.length_set]; first | assumption | exact List.length_replicate) | rfl) (by decide) Try.underlying48 Try.underlying5 Try.underlying9 ?_; (try conv => arg 5; dsimp only [Act.put, List.setIfInBounds_toArray, List.set_cons_succ, List.set_cons_zero])) | (refine w_string M 0 _ _ _ _ rfl rfl rfl (by first | rfl | (simp; done) | assumption) rfl Try.underlying48 Try.underlying5 Try.underlying9 ?_; (try conv => arg 5; dsimp only [Act.put, List.setIfInBounds_toArray, List.set_cons_succ, List.set_cons_zero])))) | ((with_reducible show wpList _ _ _ (Oper.mk _ (Op.load _ _) _ _ _ _ :: _) _ _); go_must (refine w_at _ _ rfl (by first | exact ev_tmp rfl | exact ev_const) ?_; intro hx; first | (refine w_load M 0 _ _ rfl rfl hx rfl (by decide +kernel) rfl ?_; clear hx; (try conv => arg 5; dsimp only [Act.put, List.setIfInBounds_toArray, List.set_cons_succ, List.set_cons_zero])) | (refine w_loadB M 0 _ _ rfl rfl hx rfl (by decide +kernel) (by first | assumption | omega | (simp; omega)) ?_; clear hx; (try conv => arg 5; dsimp only [Act.put, List.setIfInBounds_toArray, List.set_cons_succ, List.set_cons_zero])) | (refine w_loadH M 0 _ _ rfl rfl hx rfl (by decide +kernel) (by first | assumption | exact shaL_len _ | exact macL_len _ _ | exact words_len _ | exact List.length_replicate | (rw [List.length_set]; first | assumption | exact List.length_replicate) | rfl) (by decide +kernel) ?_; clear hx; (try conv => arg 5; dsimp only [Act.put, List.setIfInBounds_toArray, List.set_cons_succ, List.set_cons_zero])) | (refine w_loadR M 0 _ _ rfl rfl hx rfl (by decide +kernel) (by kernel_rfl) ?_; clear hx; (try conv => arg 5; dsimp only [Act.put, List.setIfInBounds_toArray, List.set_cons_succ, List.set_cons_zero])))) | ((with_reducible show wpList _ _ _ (Oper.mk _ (Op.store _ _ _) _ _ _ _ :: _) _ _); go_must (refine w_at2 _ _ _ rfl (by first | exact ev_tmp rfl | exact ev_const) (by first | exact ev_tmp rfl | exact ev_const) ?_; intro hx hy; first | (refine w_storeB M 0 _ _ _ rfl rfl hx rfl hy (by decide +kernel) (by first | assumption | omega | (simp; omega)) ?_; clear hx hy M; intro w1 M; (try simp only [List.set_cons_zero] at M); (try conv => arg 5; dsimp only [Act.put, List.setIfInBounds_toArray, List.set_cons_succ, List.set_cons_zero])) | (refine w_storeH M 0 _ _ _ rfl rfl hx rfl hy (by first | assumption | exact shaL_len _ | exact macL_len _ _ | exact words_len _ | exact List.length_replicate | (rw [List.length_set]; first | assumption | exact List.length_replicate) | rfl) (by decide +kernel) (by first | assumption | exact shaL_len _ | exact macL_len _ _ | exact words_len _ | exact List.length_replicate | (rw [List.length_set]; first | assumption | exact List.length_replicate) | rfl) ?_; clear hx hy M; intro w1 M; (try simp only [List.set_cons_zero] at M); (try conv => arg 5; dsimp only [Act.put, List.setIfInBounds_toArray, List.set_cons_succ, List.set_cons_zero])) | (refine w_store M 0 _ _ _ rfl rfl hx rfl hy rfl rfl (by decide +kernel) (by first | decide | simp | (simp; omega)) ?_; clear hx hy M; intro w1 M; (try simp only [List.set_cons_zero] at M); (try conv => arg 5; dsimp only [Act.put, List.setIfInBounds_toArray, List.set_cons_succ, List.set_cons_zero])) | (refine w_storeR M 0 _ _ _ rfl rfl hx rfl _ hy rfl (by kernel_rfl) (by simp [Value.oneCell']) (by first | rfl | assumption) ?_; clear hx hy M; intro w1 M; (try simp only [List.set_cons_zero] at M); (try conv => arg 5; dsimp only [Act.put, List.setIfInBounds_toArray, List.set_cons_succ, List.set_cons_zero])))) | ((with_reducible show wpList _ _ _ (Oper.mk _ (Op.box _ _) _ _ _ _ :: _) _ _); (refine w_box M _ _ rfl rfl _ rfl _ rfl ?_; clear M; intro g w1 M; (try conv => arg 5; dsimp only [Act.put, List.setIfInBounds_toArray, List.set_cons_succ, List.set_cons_zero]))))
    go_ret
    exact ⟨rfl, M.below⟩
  · have hp' : (1000 : Int) < (p.length : Int) := by omega
    go_enter Try.func5, Try.ntmps5
    go_wp2_with (first | (go_at_call 12; go_must (refine (wakes14_c _).mono ?_; rintro e w1 ⟨rfl, hb⟩; replace M := M.call hb; clear hb)))
    go_ret
    exact ⟨rfl, M.below⟩
set_option maxRecDepth 100000 in
set_option maxHeartbeats 4000000 in
theorem BucketParts_any (l : List Pr) (p : List UInt8) (i : Int) (v : Value) (w : World) (S : SeesL w 2 prV v l) (hm : ∀ x ∈ l, x.1.length ≤ maxLen ∧ x.2.length ≤ maxLen) :
    Calls Try.prog 8 #[v, .string (mkS p), .int .i64 i] w fun e w' => e = .returned (.bool true) ∧ Below w.heap.size w w' := by
  have M := Mem.start [] w
  have G := GreatPairs_c l v w S hm
  by_cases hg : greatP l = true
  · rw [hg] at G
    replace G := Lib.hid G
    clear hm
    go_enter Try.func8, Try.ntmps8
    go_wp2_with (first | (go_at_call 11; go_must (refine (G.out).mono ?_; rintro e w1 ⟨rfl, rfl⟩)) | (go_at_call 12; go_must (refine (wakes14_c _).mono ?_; rintro e w1 ⟨rfl, hb⟩; replace M := M.call hb; clear hb)))
    go_ret
    exact ⟨rfl, M.below⟩
  · rw [Bool.not_eq_true] at hg
    rw [hg] at G
    obtain ⟨hl, hs⟩ := greatP_small hg
    replace G := Lib.hid G
    clear hm hg
    by_cases hp : p.length ≤ 1000
    · have O := fun w => bOf_c p w (by omega)
      have O' := fun w => rOf_c p w (by omega)
      have Y := fun w S => May_c l v w S (by omega) (fun x hx => by have := hs x hx; omega)
      have Y' := fun w S => rMay_c l v w S (by omega) (fun x hx => by have := hs x hx; omega)
      have P := fun w S => Part_c l i v w S (by omega) (fun x hx => by have := hs x hx; omega)
      have P' := fun w S => rPart_c l i v w S (by omega) (fun x hx => by have := hs x hx; omega)
      have hpl := part_len l i
      obtain ⟨d, ed⟩ : ∃ d, d = partL l i := ⟨_, rfl⟩
      obtain ⟨n, en⟩ : ∃ n : Nat, n = ofL p := ⟨_, rfl⟩
      obtain ⟨b, eb⟩ : ∃ b, b = mayL l := ⟨_, rfl⟩
      rw [← ed] at P P' hpl
      rw [← en] at O O'
      rw [← eb] at Y Y'
      replace O := Lib.hid O
      replace O' := Lib.hid O'
      replace Y := Lib.hid Y
      replace Y' := Lib.hid Y'
      replace P := Lib.hid P
      replace P' := Lib.hid P'
      clear ed en eb hs
      obtain ⟨q, cap, rfl, hc⟩ := S.form
      have hp' : (p.length : Int) ≤ 1000 := by omega
      go_enter Try.func8, Try.ntmps8
      go_wp2_with (first | (go_at_call 11; go_must (refine (G.out).mono ?_; rintro e w1 ⟨rfl, rfl⟩)) | (go_at_call 14; go_must (refine (O.out _).mono ?_; rintro e w1 ⟨rfl, hb⟩; replace M := M.call hb; clear hb)) | (go_at_call 20; go_must (refine (O'.out _).mono ?_; rintro e w1 ⟨rfl, hb⟩; replace M := M.call hb; clear hb)) | (go_at_call 15; go_must (refine (Y.out _ (S.now M)).mono ?_; rintro e w1 ⟨rfl, hb⟩; replace M := M.call hb; clear hb)) | (go_at_call 21; go_must (refine (Y'.out _ (S.now M)).mono ?_; rintro e w1 ⟨rfl, hb⟩; replace M := M.call hb; clear hb)) | (go_at_call 13; go_must (refine (P.out _ (S.now M)).mono ?_; rintro e w1 ⟨p1, c1, rfl, MP⟩; replace M := M.join MP; clear MP; simp only [List.cons_append, List.nil_append] at M)) | (go_at_call 22; go_must (refine (P'.out _ (S.now M)).mono ?_; rintro e w1 ⟨p2, c2, rfl, MP⟩; replace M := M.join MP; clear MP; simp only [List.cons_append, List.nil_append] at M)) | (go_at_call 18; go_must (refine (Same13_c d d _ _ _ (SeesL.own M 1 rfl rfl prV_len) (SeesL.own M 0 rfl rfl prV_len) (by omega) (by omega)).mono ?_; rintro e w1 ⟨rfl, hb⟩; replace M := M.call hb; clear hb)) | (go_at_call 12; go_must (refine (wakes14_c _).mono ?_; rintro e w1 ⟨rfl, hb⟩; replace M := M.call hb; clear hb)) | ((with_reducible show wpList _ _ _ (Oper.mk _ _ _ _ _ (some _) :: _) _ _); refine w_strip rfl (by with_reducible rfl) ?_) | ((with_reducible show wpList _ _ _ (Oper.mk _ (Op.convert 48 9 _) _ _ _ _ :: _) _ _); go_must (first | (refine w_stringW M 0 _ _ _ _ rfl rfl rfl rfl (by first | assumption | exact shaL_len _ | exact macL_len _ _ | exact words_len _ | exact List.length_replicate | (rw [List.length_set]; first | assumption | exact List.length_replicate) | rfl) (by decide) Try.underlying48 Try.underlying5 Try.underlying9 ?_; (try conv => arg 5; dsimp only [Act.put, List.setIfInBounds_toArray, List.set_cons_succ, List.set_cons_zero])) | (refine w_string M 0 _ _ _ _ rfl rfl rfl (by first | rfl | (simp; done) | assumption) rfl Try.underlying48 Try.underlying5 Try.underlying9 ?_; (try conv => arg 5; dsimp only [Act.put, List.setIfInBounds_toArray, List.set_cons_succ, List.set_cons_zero])))) | ((with_reducible show wpList _ _ _ (Oper.mk _ (Op.load _ _) _ _ _ _ :: _) _ _); go_must (refine w_at _ _ rfl (by first | exact ev_tmp rfl | exact ev_const) ?_; intro hx; first | (refine w_load M 0 _ _ rfl rfl hx rfl (by decide +kernel) rfl ?_; clear hx; (try conv => arg 5; dsimp only [Act.put, List.setIfInBounds_toArray, List.set_cons_succ, List.set_cons_zero])) | (refine w_loadB M 0 _ _ rfl rfl hx rfl (by decide +kernel) (by first | assumption | omega | (simp; omega)) ?_; clear hx; (try conv => arg 5; dsimp only [Act.put, List.setIfInBounds_toArray, List.set_cons_succ, List.set_cons_zero])) | (refine w_loadH M 0 _ _ rfl rfl hx rfl (by decide +kernel) (by first | assumption | exact shaL_len _ | exact macL_len _ _ | exact words_len _ | exact List.length_replicate | (rw [List.length_set]; first | assumption | exact List.length_replicate) | rfl) (by decide +kernel) ?_; clear hx; (try conv => arg 5; dsimp only [Act.put, List.setIfInBounds_toArray, List.set_cons_succ, List.set_cons_zero])) | (refine w_loadR M 0 _ _ rfl rfl hx rfl (by decide +kernel) (by kernel_rfl) ?_; clear hx; (try conv => arg 5; dsimp only [Act.put, List.setIfInBounds_toArray, List.set_cons_succ, List.set_cons_zero])))) | ((with_reducible show wpList _ _ _ (Oper.mk _ (Op.store _ _ _) _ _ _ _ :: _) _ _); go_must (refine w_at2 _ _ _ rfl (by first | exact ev_tmp rfl | exact ev_const) (by first | exact ev_tmp rfl | exact ev_const) ?_; intro hx hy; first | (refine w_storeB M 0 _ _ _ rfl rfl hx rfl hy (by decide +kernel) (by first | assumption | omega | (simp; omega)) ?_; clear hx hy M; intro w1 M; (try simp only [List.set_cons_zero] at M); (try conv => arg 5; dsimp only [Act.put, List.setIfInBounds_toArray, List.set_cons_succ, List.set_cons_zero])) | (refine w_storeH M 0 _ _ _ rfl rfl hx rfl hy (by first | assumption | exact shaL_len _ | exact macL_len _ _ | exact words_len _ | exact List.length_replicate | (rw [List.length_set]; first | assumption | exact List.length_replicate) | rfl) (by decide +kernel) (by first | assumption | exact shaL_len _ | exact macL_len _ _ | exact words_len _ | exact List.length_replicate | (rw [List.length_set]; first | assumption | exact List.length_replicate) | rfl) ?_; clear hx hy M; intro w1 M; (try simp only [List.set_cons_zero] at M); (try conv => arg 5; dsimp only [Act.put, List.setIfInBounds_toArray, List.set_cons_succ, List.set_cons_zero])) | (refine w_store M 0 _ _ _ rfl rfl hx rfl hy rfl rfl (by decide +kernel) (by first | decide | simp | (simp; omega)) ?_; clear hx hy M; intro w1 M; (try simp only [List.set_cons_zero] at M); (try conv => arg 5; dsimp only [Act.put, List.setIfInBounds_toArray, List.set_cons_succ, List.set_cons_zero])) | (refine w_storeR M 0 _ _ _ rfl rfl hx rfl _ hy rfl (by kernel_rfl) (by simp [Value.oneCell']) (by first | rfl | assumption) ?_; clear hx hy M; intro w1 M; (try simp only [List.set_cons_zero] at M); (try conv => arg 5; dsimp only [Act.put, List.setIfInBounds_toArray, List.set_cons_succ, List.set_cons_zero])))) | ((with_reducible show wpList _ _ _ (Oper.mk _ (Op.box _ _) _ _ _ _ :: _) _ _); (refine w_box M _ _ rfl rfl _ rfl _ rfl ?_; clear M; intro g w1 M; (try conv => arg 5; dsimp only [Act.put, List.setIfInBounds_toArray, List.set_cons_succ, List.set_cons_zero]))))
      go_ret
      exact ⟨rfl, M.below⟩
    · have hp' : (1000 : Int) < (p.length : Int) := by omega
      go_enter Try.func8, Try.ntmps8
      go_wp2_with (first | (go_at_call 11; go_must (refine (G.out).mono ?_; rintro e w1 ⟨rfl, rfl⟩)) | (go_at_call 12; go_must (refine (wakes14_c _).mono ?_; rintro e w1 ⟨rfl, hb⟩; replace M := M.call hb; clear hb)))
      go_ret
      exact ⟨rfl, M.below⟩
end Go.Proofs.Ytjmhjkgcdglpaaa
