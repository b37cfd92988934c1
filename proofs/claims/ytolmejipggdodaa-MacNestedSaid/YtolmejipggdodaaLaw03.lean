/- The walks of layer 3's awake and of MacEqual: it returns true. No conditions but 32 bytes. -/
import Derived.Test.YtolmejipggdodaaShaC
namespace Go
namespace TL
open Go.RowKit
theorem jefe_known : hexB (macL [74, 101, 102, 101] [119, 104, 97, 116, 32, 100, 111, 32, 121, 97, 32, 119, 97, 110, 116, 32, 102, 111, 114, 32, 110, 111, 116, 104, 105, 110, 103, 63]) = [53, 98, 100, 99, 99, 49, 52, 54, 98, 102, 54, 48, 55, 53, 52, 101, 54, 97, 48, 52, 50, 52, 50, 54, 48, 56, 57, 53, 55, 53, 99, 55, 53, 97, 48, 48, 51, 102, 48, 56, 57, 100, 50, 55, 51, 57, 56, 51, 57, 100, 101, 99, 53, 56, 98, 57, 54, 52, 101, 99, 51, 56, 52, 51] := by decide +kernel
theorem tmod32 (x : UInt8) : (I8 x).tmod 32 = ((x.toNat % 32 : Nat) : Int) := by rw [I8_eq]; rfl
theorem xor_self_iff (x y : UInt8) : x ^^^ y = x ↔ y = 0 := by
  constructor
  · intro h
    have : x ^^^ (x ^^^ y) = x ^^^ x := by rw [h]
    simpa [← UInt8.xor_assoc] using this
  · rintro rfl; simp
theorem set_eq_iff (a : List UInt8) (m : Nat) (hm : m < a.length) (y : UInt8) : a = a.set m (a[m] ^^^ y) ↔ y = 0 := by
  constructor
  · intro h
    have e : a[m]? = (a.set m (a[m] ^^^ y))[m]? := by rw [← h]
    rw [List.getElem?_set_self hm, List.getElem?_eq_getElem hm] at e
    injection e with e
    exact (xor_self_iff _ _).1 e.symm
  · rintro rfl; simp
theorem I8_zero (y : UInt8) : (I8 y == 0) = (y == 0) := by
  rw [Bool.eq_iff_iff, beq_iff_eq, beq_iff_eq, I8_eq]
  constructor
  · intro h; exact UInt8.toNat_inj.1 (by simpa using h)
  · rintro rfl; rfl
end TL
end Go
namespace Go.Proofs.Ytolmejipggdodaa
open Go.RowKit Go.TL
set_option maxHeartbeats 1000000 in
theorem awake03_any (w : World) : Calls Try.prog 18 #[] w fun e w' => e = .returned (.bool true) ∧ Below w.heap.size w w' := by
  have H := Lib.hid jefe_known
  have M := Mem.start [] w
  go_enter Try.func18, Try.ntmps18
  go_wp2_with (first | (go_at_call 19; go_must (refine (Tag_c _ _ _ (by decide) (by decide)).mono ?_; rintro e w1 ⟨rfl, hb⟩; replace M := M.call hb; clear hb)) | (go_at_call 14; go_must (refine (Digits_c (macL _ _) (macL_length _ _) _).mono ?_; rintro e w2 ⟨rfl, hb⟩; replace M := M.call hb; clear hb; rw [H.out])))
  go_ret
  exact ⟨rfl, M.below⟩
set_option maxHeartbeats 1000000 in
theorem MacEqual_any (a : List UInt8) (at_ by_ : UInt8) (ha : a.length = 32) (w : World) :
    Calls Try.prog 6 #[.agg (bs a).toArray, .int .u8 (I8 at_), .int .u8 (I8 by_)] w fun e w' => e = .returned (.bool true) ∧ Below w.heap.size w w' := by
  obtain ⟨m, em⟩ : ∃ m, m = at_.toNat % 32 := ⟨_, rfl⟩
  have hm : m < 32 := by omega
  have hml : m < a.length := by omega
  have e1 : (I8 at_).tmod 32 = (m : Int) := by rw [tmod32, em]
  clear em
  have q3 : (a == a) = true := by simp
  have q1 : (a == a.set m (a[m] ^^^ by_)) = (I8 by_ == 0) := by
    rw [I8_zero, Bool.eq_iff_iff, beq_iff_eq, beq_iff_eq]; exact set_eq_iff a m hml by_
  have q2 : (a.set m (a[m] ^^^ by_) == a) = (I8 by_ == 0) := by rw [← q1]; exact Bool.beq_comm
  have Q1 := Lib.hid q1; clear q1
  have Q2 := Lib.hid q2; clear q2
  have hb : (a.set m (a[m] ^^^ by_)).length = 32 := by simpa using ha
  have HB := Lib.hid hb; clear hb
  have M := Mem.start [] w
  go_enter Try.func6, Try.ntmps6
  go_wp2_with (first | ((with_reducible show Seg _ _ _ _); first | refine Seg.intro ⟨(by repeat' (first | exact ixOk_nil | refine ixOk_cons rfl (by first | exact M.ok 0 _ rfl | exact M.ok 1 _ rfl | exact M.ok 2 _ rfl | exact M.ok 3 _ rfl) ?_)), ?_⟩ | refine Seg.intro ⟨(by repeat' (first | exact needs_nil | refine needs_cons (by first | rfl | exact nums_bs _) ?_)), (by repeat' (first | exact ats_nil | refine ats_cons rfl ?_)), ?_⟩) | ((with_reducible show OnlyN _ _ _ _ _); refine OnlyN.intro (by kernel_rfl) ?_) | ((with_reducible show wpList _ _ _ (Oper.mk _ _ _ _ _ (some _) :: _) _ _); first | refine w_strip rfl (by with_reducible rfl) ?_ | ((fail_if_success (refine w_lit false rfl (by with_reducible rfl) ?_)); refine w_case rfl ?_ ?_ <;> (intro hgd; rw [hgd]))) | ((with_reducible show wpList _ _ _ (Oper.mk _ (Op.convert 31 9 _) _ _ _ _ :: _) _ _); go_must (first | (refine w_stringW M 0 _ _ _ _ rfl rfl rfl rfl (by first | assumption | exact shaL_len _ | exact macL_len _ _ | exact List.length_replicate | (rw [List.length_set]; first | assumption | exact List.length_replicate) | rfl) (by decide) Try.underlying31 Try.underlying5 Try.underlying9 ?_; (try conv => arg 5; dsimp only [Act.put, List.setIfInBounds_toArray, List.set_cons_succ, List.set_cons_zero])) | (refine w_stringW M 1 _ _ _ _ rfl rfl rfl rfl (by first | assumption | exact shaL_len _ | exact macL_len _ _ | exact List.length_replicate | (rw [List.length_set]; first | assumption | exact List.length_replicate) | rfl) (by decide) Try.underlying31 Try.underlying5 Try.underlying9 ?_; (try conv => arg 5; dsimp only [Act.put, List.setIfInBounds_toArray, List.set_cons_succ, List.set_cons_zero])) | (refine w_string M 0 _ _ _ _ rfl rfl rfl (by first | rfl | (simp; done) | assumption) rfl Try.underlying31 Try.underlying5 Try.underlying9 ?_; (try conv => arg 5; dsimp only [Act.put, List.setIfInBounds_toArray, List.set_cons_succ, List.set_cons_zero])) | (refine w_string M 1 _ _ _ _ rfl rfl rfl (by first | rfl | (simp; done) | assumption) rfl Try.underlying31 Try.underlying5 Try.underlying9 ?_; (try conv => arg 5; dsimp only [Act.put, List.setIfInBounds_toArray, List.set_cons_succ, List.set_cons_zero])))) | ((with_reducible show wpList _ _ _ (Oper.mk _ (Op.load _ _) _ _ _ _ :: _) _ _); go_must (first | (refine w_load M 0 _ _ rfl rfl rfl rfl (by decide +kernel) rfl ?_; (try conv => arg 5; dsimp only [Act.put, List.setIfInBounds_toArray, List.set_cons_succ, List.set_cons_zero])) | (refine w_load M 1 _ _ rfl rfl rfl rfl (by decide +kernel) rfl ?_; (try conv => arg 5; dsimp only [Act.put, List.setIfInBounds_toArray, List.set_cons_succ, List.set_cons_zero])) | (refine w_loadB M 0 _ _ rfl rfl rfl rfl (by decide +kernel) (by first | assumption | omega | (simp; omega)) ?_; (try conv => arg 5; dsimp only [Act.put, List.setIfInBounds_toArray, List.set_cons_succ, List.set_cons_zero])) | (refine w_loadB M 1 _ _ rfl rfl rfl rfl (by decide +kernel) (by first | assumption | omega | (simp; omega)) ?_; (try conv => arg 5; dsimp only [Act.put, List.setIfInBounds_toArray, List.set_cons_succ, List.set_cons_zero])) | (refine w_loadH M 0 _ _ rfl rfl rfl rfl (by decide +kernel) (by first | assumption | exact shaL_len _ | exact macL_len _ _ | exact List.length_replicate | (rw [List.length_set]; first | assumption | exact List.length_replicate) | rfl) (by decide +kernel) ?_; (try conv => arg 5; dsimp only [Act.put, List.setIfInBounds_toArray, List.set_cons_succ, List.set_cons_zero])) | (refine w_loadH M 1 _ _ rfl rfl rfl rfl (by decide +kernel) (by first | assumption | exact shaL_len _ | exact macL_len _ _ | exact List.length_replicate | (rw [List.length_set]; first | assumption | exact List.length_replicate) | rfl) (by decide +kernel) ?_; (try conv => arg 5; dsimp only [Act.put, List.setIfInBounds_toArray, List.set_cons_succ, List.set_cons_zero])) | (refine w_loadR M 0 _ _ rfl rfl rfl rfl (by decide +kernel) (by decide +kernel) ?_; (try conv => arg 5; dsimp only [Act.put, List.setIfInBounds_toArray, List.set_cons_succ, List.set_cons_zero])) | (refine w_loadR M 1 _ _ rfl rfl rfl rfl (by decide +kernel) (by decide +kernel) ?_; (try conv => arg 5; dsimp only [Act.put, List.setIfInBounds_toArray, List.set_cons_succ, List.set_cons_zero])))) | ((with_reducible show wpList _ _ _ (Oper.mk _ (Op.store _ _ _) _ _ _ _ :: _) _ _); go_must (first | (refine w_storeB M 0 _ _ _ rfl rfl rfl rfl rfl (by decide +kernel) (by first | assumption | omega | (simp; omega)) ?_; clear M; intro w1 M; (try simp only [List.set_cons_succ] at M); (try simp only [List.set_cons_zero] at M); (try conv => arg 5; dsimp only [Act.put, List.setIfInBounds_toArray, List.set_cons_succ, List.set_cons_zero])) | (refine w_storeB M 1 _ _ _ rfl rfl rfl rfl rfl (by decide +kernel) (by first | assumption | omega | (simp; omega)) ?_; clear M; intro w1 M; (try simp only [List.set_cons_succ] at M); (try simp only [List.set_cons_zero] at M); (try conv => arg 5; dsimp only [Act.put, List.setIfInBounds_toArray, List.set_cons_succ, List.set_cons_zero])) | (refine w_storeH M 0 _ _ _ rfl rfl rfl rfl rfl (by first | assumption | exact shaL_len _ | exact macL_len _ _ | exact List.length_replicate | (rw [List.length_set]; first | assumption | exact List.length_replicate) | rfl) (by decide +kernel) (by first | assumption | exact shaL_len _ | exact macL_len _ _ | exact List.length_replicate | (rw [List.length_set]; first | assumption | exact List.length_replicate) | rfl) ?_; clear M; intro w1 M; (try simp only [List.set_cons_succ] at M); (try simp only [List.set_cons_zero] at M); (try conv => arg 5; dsimp only [Act.put, List.setIfInBounds_toArray, List.set_cons_succ, List.set_cons_zero])) | (refine w_storeH M 1 _ _ _ rfl rfl rfl rfl rfl (by first | assumption | exact shaL_len _ | exact macL_len _ _ | exact List.length_replicate | (rw [List.length_set]; first | assumption | exact List.length_replicate) | rfl) (by decide +kernel) (by first | assumption | exact shaL_len _ | exact macL_len _ _ | exact List.length_replicate | (rw [List.length_set]; first | assumption | exact List.length_replicate) | rfl) ?_; clear M; intro w1 M; (try simp only [List.set_cons_succ] at M); (try simp only [List.set_cons_zero] at M); (try conv => arg 5; dsimp only [Act.put, List.setIfInBounds_toArray, List.set_cons_succ, List.set_cons_zero])) | (refine w_store M 0 _ _ _ rfl rfl rfl rfl (by simp only [Act.eval, Array.getD_eq_getD_getElem?, List.getElem?_toArray, List.getElem?_cons_succ, List.getElem?_cons_zero, Option.getD_some]; rfl) rfl rfl (by decide +kernel) (by first | decide | simp | (simp; omega)) ?_; clear M; intro w1 M; (try simp only [List.set_cons_succ] at M); (try simp only [List.set_cons_zero] at M); (try conv => arg 5; dsimp only [Act.put, List.setIfInBounds_toArray, List.set_cons_succ, List.set_cons_zero])) | (refine w_store M 1 _ _ _ rfl rfl rfl rfl (by simp only [Act.eval, Array.getD_eq_getD_getElem?, List.getElem?_toArray, List.getElem?_cons_succ, List.getElem?_cons_zero, Option.getD_some]; rfl) rfl rfl (by decide +kernel) (by first | decide | simp | (simp; omega)) ?_; clear M; intro w1 M; (try simp only [List.set_cons_succ] at M); (try simp only [List.set_cons_zero] at M); (try conv => arg 5; dsimp only [Act.put, List.setIfInBounds_toArray, List.set_cons_succ, List.set_cons_zero])))) | ((with_reducible show wpList _ _ _ (Oper.mk _ (Op.box _ _) _ _ _ _ :: _) _ _); (refine w_box M _ _ rfl rfl _ rfl _ rfl ?_; clear M; intro g w1 M; (try conv => arg 5; dsimp only [Act.put, List.setIfInBounds_toArray, List.set_cons_succ, List.set_cons_zero]))) | ((with_reducible show wpList _ _ _ (Oper.mk _ (Op.alloc 23) _ _ _ _ :: _) _ _); refine w_alloc M _ rfl rfl (.agg (Array.replicate 32 (.int .u8 0))) (bs (List.replicate 32 (0 : UInt8))) (by kernel_rfl) rfl ?_; clear M; intro g w1 M; (try conv => arg 5; dsimp only [Act.put, List.setIfInBounds_toArray, List.set_cons_succ, List.set_cons_zero])) | (go_at_call 18; go_must (refine (awake03_any _).mono ?_; rintro e w1 ⟨rfl, hb⟩; replace M := M.call hb; clear hb)) | (go_at_call 20; go_must (refine (Equal_c _ _ (by first | exact ha | exact HB.out) (by first | exact ha | exact HB.out) _).mono ?_; rintro e w1 ⟨rfl, hb⟩; replace M := M.call hb; clear hb; (try rw [Q1.out]); (try rw [Q2.out]); (try rw [q3]))))
  go_ret
  exact ⟨rfl, M.below⟩
end Go.Proofs.Ytolmejipggdodaa
