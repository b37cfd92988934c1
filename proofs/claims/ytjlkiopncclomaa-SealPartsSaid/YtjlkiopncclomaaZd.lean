/- Texts of this seat, put together: AesC, Gives, AesS, ShaP, Turn, New, Write, Sum, Hash, Pad. Each begins with a remark that says what is proved in it, and under which conditions. -/
import Derived.Deep.QuietTactic
import Derived.BigQuiet
import Derived.Deep.DeepMust
import Derived.Test.YtjlkiopncclomaaZa
import Derived.Test.YtjlkiopncclomaaZb
import Derived.Test.YtjlkiopncclomaaZc
/- The walk of what enciphers one block. Conditions: lengths. -/
namespace Go.Proofs.Ytjlkiopncclomaa
open Go.RowKit Go.TL
set_option maxRecDepth 100000 in
set_option maxHeartbeats 4000000 in
theorem block_c (gc : Nat) (s W b : List UInt8) (w : World) (R : (Chunk.row gc (bs (W ++ s))).ok w) (hW : W.length = 240) (hs : s.length = 256) (hb : b.length = 16) :
    Calls Try.prog 42 #[.pointer (some ⟨gc, 0, none⟩), .agg (bs b).toArray] w fun e w' => e = .returned (.agg (bs (blockL s W b)).toArray) ∧ Below w.heap.size w w' := by
  have M := Mem.start [] w
  have hWs : (W ++ s).length = 496 := by rw [List.length_append, hW, hs]
  have hz : (List.replicate 16 (0 : UInt8)).length = 16 := List.length_replicate
  have ha0 : (addL W b 0).length = 16 := by rw [addL_len]; exact hb
  have A0 := fun (w : World) (RR : (Chunk.row gc (bs (W ++ s))).ok w) => add_c gc s W b 0 0 rfl w RR hW hs hb (by omega)
  have BL : blockL s W b = iterN (roundL s W) 14 (addL W b 0) := rfl
  have IV : ∀ n, (iterN (roundL s W) n (addL W b 0)).length = 16 := fun n => iterN_inv _ (fun l => l.length = 16) (fun n x _ => roundL_len s W n x) n _ ha0
  obtain ⟨a0, e0⟩ : ∃ a, a = addL W b 0 := ⟨_, rfl⟩
  rw [← e0] at ha0 A0 BL IV
  obtain ⟨bl, ebl⟩ : ∃ x, x = blockL s W b := ⟨_, rfl⟩
  rw [← ebl] at BL
  rw [← ebl]
  replace A0 := Lib.hid A0
  replace BL := Lib.hid BL
  replace IV := Lib.hid IV
  clear e0 ebl
  go_enter Try.func42, Try.ntmps42
  go_wp2_with (first | ((with_reducible show wpList _ _ _ (Oper.mk (some 3) (Op.box _ _) _ _ _ _ :: _) _ _); refine w_box M _ _ rfl rfl _ rfl (bs b) rfl ?_; clear M; intro gb w1 M; (try conv => arg 5; simp only [Act.put, List.setIfInBounds_toArray, List.set_cons_succ, List.set_cons_zero])) | ((with_reducible show wpList _ _ _ (Oper.mk (some 4) (Op.alloc 74) _ _ _ _ :: _) _ _); refine w_alloc M _ rfl rfl (.agg (Array.replicate 16 (.int .u8 0))) (bs (List.replicate 16 (0 : UInt8))) (by kernel_rfl) rfl ?_; clear M; intro go w1 M; (try conv => arg 5; simp only [Act.put, List.setIfInBounds_toArray, List.set_cons_succ, List.set_cons_zero])) | (go_at_call 79; go_must (refine (A0.out _ (M.stays R)).mono ?_; rintro e w1 ⟨rfl, hb⟩; replace M := M.call hb; clear hb)) | ((with_reducible show wpList _ _ _ (Oper.mk _ _ _ _ _ (some _) :: _) _ _); first | refine w_strip rfl (by with_reducible rfl) ?_ | ((fail_if_success (refine w_lit false rfl (by with_reducible rfl) ?_)); (fail_if_success (refine w_lit true rfl (by with_reducible rfl) ?_)); refine w_case rfl ?_ ?_ <;> (intro hgd; rw [hgd]; try (exfalso; simp at hgd; omega)))) | ((with_reducible show wpList _ _ _ (Oper.mk _ (Op.convert 45 9 _) _ _ _ _ :: _) _ _); go_must (first | (refine w_stringW M 0 _ _ _ _ rfl rfl rfl rfl (by first | assumption | exact shaL_len _ | exact macL_len _ _ | exact words_len _ | exact List.length_replicate | (rw [List.length_set]; first | assumption | exact List.length_replicate) | rfl) (by decide) Try.underlying45 Try.underlying5 Try.underlying9 ?_; (try conv => arg 5; simp only [Act.put, List.setIfInBounds_toArray, List.set_cons_succ, List.set_cons_zero])) | (refine w_stringW M 1 _ _ _ _ rfl rfl rfl rfl (by first | assumption | exact shaL_len _ | exact macL_len _ _ | exact words_len _ | exact List.length_replicate | (rw [List.length_set]; first | assumption | exact List.length_replicate) | rfl) (by decide) Try.underlying45 Try.underlying5 Try.underlying9 ?_; (try conv => arg 5; simp only [Act.put, List.setIfInBounds_toArray, List.set_cons_succ, List.set_cons_zero])) | (refine w_string M 0 _ _ _ _ rfl rfl rfl (by first | rfl | (simp; done) | assumption) rfl Try.underlying45 Try.underlying5 Try.underlying9 ?_; (try conv => arg 5; simp only [Act.put, List.setIfInBounds_toArray, List.set_cons_succ, List.set_cons_zero])) | (refine w_string M 1 _ _ _ _ rfl rfl rfl (by first | rfl | (simp; done) | assumption) rfl Try.underlying45 Try.underlying5 Try.underlying9 ?_; (try conv => arg 5; simp only [Act.put, List.setIfInBounds_toArray, List.set_cons_succ, List.set_cons_zero])))) | ((with_reducible show wpList _ _ _ (Oper.mk _ (Op.load _ _) _ _ _ _ :: _) _ _); go_must (refine w_at _ _ rfl (by first | exact ev_tmp rfl | exact ev_const) ?_; intro hx; first | (refine w_load M 0 _ _ rfl rfl hx rfl (by decide +kernel) rfl ?_; clear hx; (try conv => arg 5; simp only [Act.put, List.setIfInBounds_toArray, List.set_cons_succ, List.set_cons_zero])) | (refine w_load M 1 _ _ rfl rfl hx rfl (by decide +kernel) rfl ?_; clear hx; (try conv => arg 5; simp only [Act.put, List.setIfInBounds_toArray, List.set_cons_succ, List.set_cons_zero])) | (refine w_loadB M 0 _ _ rfl rfl hx rfl (by decide +kernel) (by first | assumption | omega | (simp; omega)) ?_; clear hx; (try conv => arg 5; simp only [Act.put, List.setIfInBounds_toArray, List.set_cons_succ, List.set_cons_zero])) | (refine w_loadB M 1 _ _ rfl rfl hx rfl (by decide +kernel) (by first | assumption | omega | (simp; omega)) ?_; clear hx; (try conv => arg 5; simp only [Act.put, List.setIfInBounds_toArray, List.set_cons_succ, List.set_cons_zero])) | (refine w_loadH M 0 _ _ rfl rfl hx rfl (by decide +kernel) (by first | assumption | exact shaL_len _ | exact macL_len _ _ | exact words_len _ | exact List.length_replicate | (rw [List.length_set]; first | assumption | exact List.length_replicate) | rfl) (by decide +kernel) ?_; clear hx; (try conv => arg 5; simp only [Act.put, List.setIfInBounds_toArray, List.set_cons_succ, List.set_cons_zero])) | (refine w_loadH M 1 _ _ rfl rfl hx rfl (by decide +kernel) (by first | assumption | exact shaL_len _ | exact macL_len _ _ | exact words_len _ | exact List.length_replicate | (rw [List.length_set]; first | assumption | exact List.length_replicate) | rfl) (by decide +kernel) ?_; clear hx; (try conv => arg 5; simp only [Act.put, List.setIfInBounds_toArray, List.set_cons_succ, List.set_cons_zero])) | (refine w_loadR M 0 _ _ rfl rfl hx rfl (by decide +kernel) (by kernel_rfl) ?_; clear hx; (try conv => arg 5; simp only [Act.put, List.setIfInBounds_toArray, List.set_cons_succ, List.set_cons_zero])) | (refine w_loadR M 1 _ _ rfl rfl hx rfl (by decide +kernel) (by kernel_rfl) ?_; clear hx; (try conv => arg 5; simp only [Act.put, List.setIfInBounds_toArray, List.set_cons_succ, List.set_cons_zero])))) | ((with_reducible show wpList _ _ _ (Oper.mk _ (Op.store _ _ _) _ _ _ _ :: _) _ _); go_must (refine w_at2 _ _ _ rfl (by first | exact ev_tmp rfl | exact ev_const) (by first | exact ev_tmp rfl | exact ev_const) ?_; intro hx hy; first | (refine w_storeB M 0 _ _ _ rfl rfl hx rfl hy (by decide +kernel) (by first | assumption | omega | (simp; omega)) ?_; clear hx hy M; intro w1 M; (try simp only [List.set_cons_zero] at M); (try conv => arg 5; simp only [Act.put, List.setIfInBounds_toArray, List.set_cons_succ, List.set_cons_zero])) | (refine w_storeB M 1 _ _ _ rfl rfl hx rfl hy (by decide +kernel) (by first | assumption | omega | (simp; omega)) ?_; clear hx hy M; intro w1 M; (try simp only [List.set_cons_succ, List.set_cons_zero] at M); (try conv => arg 5; simp only [Act.put, List.setIfInBounds_toArray, List.set_cons_succ, List.set_cons_zero])) | (refine w_storeH M 0 _ _ _ rfl rfl hx rfl hy (by first | assumption | exact shaL_len _ | exact macL_len _ _ | exact words_len _ | exact List.length_replicate | (rw [List.length_set]; first | assumption | exact List.length_replicate) | rfl) (by decide +kernel) (by first | assumption | exact shaL_len _ | exact macL_len _ _ | exact words_len _ | exact List.length_replicate | (rw [List.length_set]; first | assumption | exact List.length_replicate) | rfl) ?_; clear hx hy M; intro w1 M; (try simp only [List.set_cons_zero] at M); (try conv => arg 5; simp only [Act.put, List.setIfInBounds_toArray, List.set_cons_succ, List.set_cons_zero])) | (refine w_storeH M 1 _ _ _ rfl rfl hx rfl hy (by first | assumption | exact shaL_len _ | exact macL_len _ _ | exact words_len _ | exact List.length_replicate | (rw [List.length_set]; first | assumption | exact List.length_replicate) | rfl) (by decide +kernel) (by first | assumption | exact shaL_len _ | exact macL_len _ _ | exact words_len _ | exact List.length_replicate | (rw [List.length_set]; first | assumption | exact List.length_replicate) | rfl) ?_; clear hx hy M; intro w1 M; (try simp only [List.set_cons_succ, List.set_cons_zero] at M); (try conv => arg 5; simp only [Act.put, List.setIfInBounds_toArray, List.set_cons_succ, List.set_cons_zero])) | (refine w_store M 0 _ _ _ rfl rfl hx rfl hy rfl rfl (by decide +kernel) (by first | decide | simp | (simp; omega)) ?_; clear hx hy M; intro w1 M; (try simp only [List.set_cons_zero] at M); (try conv => arg 5; simp only [Act.put, List.setIfInBounds_toArray, List.set_cons_succ, List.set_cons_zero])) | (refine w_store M 1 _ _ _ rfl rfl hx rfl hy rfl rfl (by decide +kernel) (by first | decide | simp | (simp; omega)) ?_; clear hx hy M; intro w1 M; (try simp only [List.set_cons_succ, List.set_cons_zero] at M); (try conv => arg 5; simp only [Act.put, List.setIfInBounds_toArray, List.set_cons_succ, List.set_cons_zero])) | (refine w_storeR M 0 _ _ _ rfl rfl hx rfl _ hy rfl (by kernel_rfl) (by simp [Value.oneCell']) (by first | rfl | assumption) ?_; clear hx hy M; intro w1 M; (try simp only [List.set_cons_zero] at M); (try conv => arg 5; simp only [Act.put, List.setIfInBounds_toArray, List.set_cons_succ, List.set_cons_zero])) | (refine w_storeR M 1 _ _ _ rfl rfl hx rfl _ hy rfl (by kernel_rfl) (by simp [Value.oneCell']) (by first | rfl | assumption) ?_; clear hx hy M; intro w1 M; (try simp only [List.set_cons_succ, List.set_cons_zero] at M); (try conv => arg 5; simp only [Act.put, List.setIfInBounds_toArray, List.set_cons_succ, List.set_cons_zero])))) | ((with_reducible show wpList _ _ _ (Oper.mk _ (Op.box _ _) _ _ _ _ :: _) _ _); (refine w_box M _ _ rfl rfl _ rfl _ rfl ?_; clear M; intro g w1 M; (try conv => arg 5; simp only [Act.put, List.setIfInBounds_toArray, List.set_cons_succ, List.set_cons_zero]))))
  go_loopw [5] (fun kv wr => ∃ n : Nat, n ≤ 14 ∧ kv = .int .i64 ((n : Int) + 1) ∧ Mem [] w wr [.row go (bs (List.replicate 16 0)), .row gb (bs (iterN (roundL s W) n a0))]) (fun kv _ => 15 - (intOf kv).toNat)
  case atStart => exact ⟨0, by omega, rfl, M⟩
  case round =>
    clear M
    obtain ⟨n, hn, rfl, M⟩ := hrel
    have hd := IV.out n
    obtain ⟨d, ed⟩ : ∃ d, d = iterN (roundL s W) n a0 := ⟨_, rfl⟩
    rw [← ed] at M hd
    have ED := Lib.hid ed
    clear ed
    by_cases hlt : n < 14
    · go_wp2_with (first | ((with_reducible show wpList _ _ _ (Oper.mk (some 6) (Op.alloc 74) _ _ _ _ :: _) _ _); refine w_alloc M _ rfl rfl (.agg (Array.replicate 16 (.int .u8 0))) (bs (List.replicate 16 (0 : UInt8))) (by kernel_rfl) rfl ?_; clear M; intro gt w1 M; (try conv => arg 5; simp only [Act.put, List.setIfInBounds_toArray, List.set_cons_succ, List.set_cons_zero])) | ((with_reducible show wpList _ _ _ (Oper.mk _ _ _ _ _ (some _) :: _) _ _); first | refine w_strip rfl (by with_reducible rfl) ?_ | ((fail_if_success (refine w_lit false rfl (by with_reducible rfl) ?_)); (fail_if_success (refine w_lit true rfl (by with_reducible rfl) ?_)); refine w_case rfl ?_ ?_ <;> (intro hgd; rw [hgd]; try (exfalso; simp at hgd; omega)))) | ((with_reducible show wpList _ _ _ (Oper.mk _ (Op.convert 45 9 _) _ _ _ _ :: _) _ _); go_must (first | (refine w_stringW M 0 _ _ _ _ rfl rfl rfl rfl (by first | assumption | exact shaL_len _ | exact macL_len _ _ | exact words_len _ | exact List.length_replicate | (rw [List.length_set]; first | assumption | exact List.length_replicate) | rfl) (by decide) Try.underlying45 Try.underlying5 Try.underlying9 ?_; (try conv => arg 5; simp only [Act.put, List.setIfInBounds_toArray, List.set_cons_succ, List.set_cons_zero])) | (refine w_stringW M 1 _ _ _ _ rfl rfl rfl rfl (by first | assumption | exact shaL_len _ | exact macL_len _ _ | exact words_len _ | exact List.length_replicate | (rw [List.length_set]; first | assumption | exact List.length_replicate) | rfl) (by decide) Try.underlying45 Try.underlying5 Try.underlying9 ?_; (try conv => arg 5; simp only [Act.put, List.setIfInBounds_toArray, List.set_cons_succ, List.set_cons_zero])) | (refine w_stringW M 2 _ _ _ _ rfl rfl rfl rfl (by first | assumption | exact shaL_len _ | exact macL_len _ _ | exact words_len _ | exact List.length_replicate | (rw [List.length_set]; first | assumption | exact List.length_replicate) | rfl) (by decide) Try.underlying45 Try.underlying5 Try.underlying9 ?_; (try conv => arg 5; simp only [Act.put, List.setIfInBounds_toArray, List.set_cons_succ, List.set_cons_zero])) | (refine w_string M 0 _ _ _ _ rfl rfl rfl (by first | rfl | (simp; done) | assumption) rfl Try.underlying45 Try.underlying5 Try.underlying9 ?_; (try conv => arg 5; simp only [Act.put, List.setIfInBounds_toArray, List.set_cons_succ, List.set_cons_zero])) | (refine w_string M 1 _ _ _ _ rfl rfl rfl (by first | rfl | (simp; done) | assumption) rfl Try.underlying45 Try.underlying5 Try.underlying9 ?_; (try conv => arg 5; simp only [Act.put, List.setIfInBounds_toArray, List.set_cons_succ, List.set_cons_zero])) | (refine w_string M 2 _ _ _ _ rfl rfl rfl (by first | rfl | (simp; done) | assumption) rfl Try.underlying45 Try.underlying5 Try.underlying9 ?_; (try conv => arg 5; simp only [Act.put, List.setIfInBounds_toArray, List.set_cons_succ, List.set_cons_zero])))) | ((with_reducible show wpList _ _ _ (Oper.mk _ (Op.load _ _) _ _ _ _ :: _) _ _); go_must (refine w_at _ _ rfl (by first | exact ev_tmp rfl | exact ev_const) ?_; intro hx; first | (refine w_load M 0 _ _ rfl rfl hx rfl (by decide +kernel) rfl ?_; clear hx; (try conv => arg 5; simp only [Act.put, List.setIfInBounds_toArray, List.set_cons_succ, List.set_cons_zero])) | (refine w_load M 1 _ _ rfl rfl hx rfl (by decide +kernel) rfl ?_; clear hx; (try conv => arg 5; simp only [Act.put, List.setIfInBounds_toArray, List.set_cons_succ, List.set_cons_zero])) | (refine w_load M 2 _ _ rfl rfl hx rfl (by decide +kernel) rfl ?_; clear hx; (try conv => arg 5; simp only [Act.put, List.setIfInBounds_toArray, List.set_cons_succ, List.set_cons_zero])) | (refine w_loadB M 0 _ _ rfl rfl hx rfl (by decide +kernel) (by first | assumption | omega | (simp; omega)) ?_; clear hx; (try conv => arg 5; simp only [Act.put, List.setIfInBounds_toArray, List.set_cons_succ, List.set_cons_zero])) | (refine w_loadB M 1 _ _ rfl rfl hx rfl (by decide +kernel) (by first | assumption | omega | (simp; omega)) ?_; clear hx; (try conv => arg 5; simp only [Act.put, List.setIfInBounds_toArray, List.set_cons_succ, List.set_cons_zero])) | (refine w_loadB M 2 _ _ rfl rfl hx rfl (by decide +kernel) (by first | assumption | omega | (simp; omega)) ?_; clear hx; (try conv => arg 5; simp only [Act.put, List.setIfInBounds_toArray, List.set_cons_succ, List.set_cons_zero])) | (refine w_loadH M 0 _ _ rfl rfl hx rfl (by decide +kernel) (by first | assumption | exact shaL_len _ | exact macL_len _ _ | exact words_len _ | exact List.length_replicate | (rw [List.length_set]; first | assumption | exact List.length_replicate) | rfl) (by decide +kernel) ?_; clear hx; (try conv => arg 5; simp only [Act.put, List.setIfInBounds_toArray, List.set_cons_succ, List.set_cons_zero])) | (refine w_loadH M 1 _ _ rfl rfl hx rfl (by decide +kernel) (by first | assumption | exact shaL_len _ | exact macL_len _ _ | exact words_len _ | exact List.length_replicate | (rw [List.length_set]; first | assumption | exact List.length_replicate) | rfl) (by decide +kernel) ?_; clear hx; (try conv => arg 5; simp only [Act.put, List.setIfInBounds_toArray, List.set_cons_succ, List.set_cons_zero])) | (refine w_loadH M 2 _ _ rfl rfl hx rfl (by decide +kernel) (by first | assumption | exact shaL_len _ | exact macL_len _ _ | exact words_len _ | exact List.length_replicate | (rw [List.length_set]; first | assumption | exact List.length_replicate) | rfl) (by decide +kernel) ?_; clear hx; (try conv => arg 5; simp only [Act.put, List.setIfInBounds_toArray, List.set_cons_succ, List.set_cons_zero])) | (refine w_loadR M 0 _ _ rfl rfl hx rfl (by decide +kernel) (by kernel_rfl) ?_; clear hx; (try conv => arg 5; simp only [Act.put, List.setIfInBounds_toArray, List.set_cons_succ, List.set_cons_zero])) | (refine w_loadR M 1 _ _ rfl rfl hx rfl (by decide +kernel) (by kernel_rfl) ?_; clear hx; (try conv => arg 5; simp only [Act.put, List.setIfInBounds_toArray, List.set_cons_succ, List.set_cons_zero])) | (refine w_loadR M 2 _ _ rfl rfl hx rfl (by decide +kernel) (by kernel_rfl) ?_; clear hx; (try conv => arg 5; simp only [Act.put, List.setIfInBounds_toArray, List.set_cons_succ, List.set_cons_zero])))) | ((with_reducible show wpList _ _ _ (Oper.mk _ (Op.store _ _ _) _ _ _ _ :: _) _ _); go_must (refine w_at2 _ _ _ rfl (by first | exact ev_tmp rfl | exact ev_const) (by first | exact ev_tmp rfl | exact ev_const) ?_; intro hx hy; first | (refine w_storeB M 0 _ _ _ rfl rfl hx rfl hy (by decide +kernel) (by first | assumption | omega | (simp; omega)) ?_; clear hx hy M; intro w1 M; (try simp only [List.set_cons_zero] at M); (try conv => arg 5; simp only [Act.put, List.setIfInBounds_toArray, List.set_cons_succ, List.set_cons_zero])) | (refine w_storeB M 1 _ _ _ rfl rfl hx rfl hy (by decide +kernel) (by first | assumption | omega | (simp; omega)) ?_; clear hx hy M; intro w1 M; (try simp only [List.set_cons_succ, List.set_cons_zero] at M); (try conv => arg 5; simp only [Act.put, List.setIfInBounds_toArray, List.set_cons_succ, List.set_cons_zero])) | (refine w_storeB M 2 _ _ _ rfl rfl hx rfl hy (by decide +kernel) (by first | assumption | omega | (simp; omega)) ?_; clear hx hy M; intro w1 M; (try simp only [List.set_cons_succ, List.set_cons_zero] at M); (try conv => arg 5; simp only [Act.put, List.setIfInBounds_toArray, List.set_cons_succ, List.set_cons_zero])) | (refine w_storeH M 0 _ _ _ rfl rfl hx rfl hy (by first | assumption | exact shaL_len _ | exact macL_len _ _ | exact words_len _ | exact List.length_replicate | (rw [List.length_set]; first | assumption | exact List.length_replicate) | rfl) (by decide +kernel) (by first | assumption | exact shaL_len _ | exact macL_len _ _ | exact words_len _ | exact List.length_replicate | (rw [List.length_set]; first | assumption | exact List.length_replicate) | rfl) ?_; clear hx hy M; intro w1 M; (try simp only [List.set_cons_zero] at M); (try conv => arg 5; simp only [Act.put, List.setIfInBounds_toArray, List.set_cons_succ, List.set_cons_zero])) | (refine w_storeH M 1 _ _ _ rfl rfl hx rfl hy (by first | assumption | exact shaL_len _ | exact macL_len _ _ | exact words_len _ | exact List.length_replicate | (rw [List.length_set]; first | assumption | exact List.length_replicate) | rfl) (by decide +kernel) (by first | assumption | exact shaL_len _ | exact macL_len _ _ | exact words_len _ | exact List.length_replicate | (rw [List.length_set]; first | assumption | exact List.length_replicate) | rfl) ?_; clear hx hy M; intro w1 M; (try simp only [List.set_cons_succ, List.set_cons_zero] at M); (try conv => arg 5; simp only [Act.put, List.setIfInBounds_toArray, List.set_cons_succ, List.set_cons_zero])) | (refine w_storeH M 2 _ _ _ rfl rfl hx rfl hy (by first | assumption | exact shaL_len _ | exact macL_len _ _ | exact words_len _ | exact List.length_replicate | (rw [List.length_set]; first | assumption | exact List.length_replicate) | rfl) (by decide +kernel) (by first | assumption | exact shaL_len _ | exact macL_len _ _ | exact words_len _ | exact List.length_replicate | (rw [List.length_set]; first | assumption | exact List.length_replicate) | rfl) ?_; clear hx hy M; intro w1 M; (try simp only [List.set_cons_succ, List.set_cons_zero] at M); (try conv => arg 5; simp only [Act.put, List.setIfInBounds_toArray, List.set_cons_succ, List.set_cons_zero])) | (refine w_store M 0 _ _ _ rfl rfl hx rfl hy rfl rfl (by decide +kernel) (by first | decide | simp | (simp; omega)) ?_; clear hx hy M; intro w1 M; (try simp only [List.set_cons_zero] at M); (try conv => arg 5; simp only [Act.put, List.setIfInBounds_toArray, List.set_cons_succ, List.set_cons_zero])) | (refine w_store M 1 _ _ _ rfl rfl hx rfl hy rfl rfl (by decide +kernel) (by first | decide | simp | (simp; omega)) ?_; clear hx hy M; intro w1 M; (try simp only [List.set_cons_succ, List.set_cons_zero] at M); (try conv => arg 5; simp only [Act.put, List.setIfInBounds_toArray, List.set_cons_succ, List.set_cons_zero])) | (refine w_store M 2 _ _ _ rfl rfl hx rfl hy rfl rfl (by decide +kernel) (by first | decide | simp | (simp; omega)) ?_; clear hx hy M; intro w1 M; (try simp only [List.set_cons_succ, List.set_cons_zero] at M); (try conv => arg 5; simp only [Act.put, List.setIfInBounds_toArray, List.set_cons_succ, List.set_cons_zero])) | (refine w_storeR M 0 _ _ _ rfl rfl hx rfl _ hy rfl (by kernel_rfl) (by simp [Value.oneCell']) (by first | rfl | assumption) ?_; clear hx hy M; intro w1 M; (try simp only [List.set_cons_zero] at M); (try conv => arg 5; simp only [Act.put, List.setIfInBounds_toArray, List.set_cons_succ, List.set_cons_zero])) | (refine w_storeR M 1 _ _ _ rfl rfl hx rfl _ hy rfl (by kernel_rfl) (by simp [Value.oneCell']) (by first | rfl | assumption) ?_; clear hx hy M; intro w1 M; (try simp only [List.set_cons_succ, List.set_cons_zero] at M); (try conv => arg 5; simp only [Act.put, List.setIfInBounds_toArray, List.set_cons_succ, List.set_cons_zero])) | (refine w_storeR M 2 _ _ _ rfl rfl hx rfl _ hy rfl (by kernel_rfl) (by simp [Value.oneCell']) (by first | rfl | assumption) ?_; clear hx hy M; intro w1 M; (try simp only [List.set_cons_succ, List.set_cons_zero] at M); (try conv => arg 5; simp only [Act.put, List.setIfInBounds_toArray, List.set_cons_succ, List.set_cons_zero])))) | ((with_reducible show wpList _ _ _ (Oper.mk _ (Op.box _ _) _ _ _ _ :: _) _ _); (refine w_box M _ _ rfl rfl _ rfl _ rfl ?_; clear M; intro g w1 M; (try conv => arg 5; simp only [Act.put, List.setIfInBounds_toArray, List.set_cons_succ, List.set_cons_zero]))))
      go_loopw [15] (fun kv wr => ∃ k : Nat, k ≤ 16 ∧ kv = .int .i64 k ∧ Mem [] w wr [.row gt (bs (iterN (subB s d) k (List.replicate 16 0))), .row go (bs (List.replicate 16 0)), .row gb (bs d)]) (fun kv _ => 16 - (intOf kv).toNat)
      case atStart => exact ⟨0, by omega, rfl, M⟩
      case round =>
        clear M
        obtain ⟨k, hk16, rfl, M⟩ := hrel
        have ht : (iterN (subB s d) k (List.replicate 16 0)).length = 16 := by rw [iterN_len _ (fun n s => by unfold subB; rw [List.length_set])]; exact List.length_replicate
        obtain ⟨t, et⟩ : ∃ t, t = iterN (subB s d) k (List.replicate 16 0) := ⟨_, rfl⟩
        rw [← et] at M ht
        have ET := Lib.hid et
        clear et
        by_cases hlt16 : k < 16
        · have hj : (k + 4 * (k % 4)) % 16 < d.length := by omega
          obtain ⟨q, eq⟩ : ∃ q, q = nth d ((k + 4 * (k % 4)) % 16) := ⟨_, rfl⟩
          have hq0 := (I8_bd q).1
          have hq1 := (I8_bd q).2
          have hq2 := I8_toNat q
          have hq3 := q.toNat_lt
          have hq4 : q.toNat < 256 := hq3
          have hd1 : d.getD ((k + 4 * (k % 4)) % 16) 0 = q := eq.symm
          have hd2 : d[(k + 4 * (k % 4)) % 16]?.getD 0 = q := by rw [nth_at', eq]
          have hd3 : d[(k + 4 * (k % 4)) % 16] = q := by rw [nth_at, eq]
          have EQ := Lib.hid eq
          clear eq hq3
          go_wp2_with (first | ((with_reducible show Code.wp _ (Code.region 9 _ _) _ _ _); go_must (refine region_det [(0, false), (1, false), (2, false), (3, false), (4, false), (5, false), (6, false), (7, false), (8, false), (10, false), (11, false), (9, false), (12, false), (13, false), (14, false), (15, true)] [(21, .int), (22, .int), (20, .int), (23, .int), (24, .int), (19, .ptr)] (by kernel_rfl) (by kernel_rfl) rfl (by kernel_rfl) ?_; replace M := M.drew; simp only [reord, opAt, List.map_cons, List.map_nil, List.getElem?_toArray, List.getElem?_cons_zero, List.getElem?_cons_succ, Option.getD_some])) | ((with_reducible show wpList _ _ _ (Oper.mk _ (Op.load _ _) _ _ _ _ :: _) _ _); refine w_at _ _ rfl (by first | exact ev_tmp rfl | exact ev_const) ?_; intro hx; first | (refine w_rowB M R _ _ rfl hx rfl (by decide +kernel) (by first | assumption | omega | (simp; omega)) ?_; clear hx; (try conv => arg 5; simp only [Act.put, List.setIfInBounds_toArray, List.set_cons_succ, List.set_cons_zero]))) | ((with_reducible show Seg _ _ _ _); go_must (first | refine Seg.intro ⟨fun h => absurd rfl h, ?_⟩ | refine Seg.intro ⟨fun _ => (by repeat' (first | exact ixOk_nil M.kept | refine ixOk_cons rfl (by first | exact M.ok 0 _ rfl | exact M.ok 1 _ rfl | exact M.ok 2 _ rfl | exact M.ok 3 _ rfl | exact M.ok 4 _ rfl) ?_)), ?_⟩ | refine Seg.intro ⟨(by repeat' (first | (with_reducible exact needs_nil) | refine needs_at rfl (by first | (show Shape.ok Shape.nums _ = true; exact nums_bs _) | rfl) ?_)), (by repeat' (first | (with_reducible exact ats_nil) | refine ats_cons (by first | exact ev_tmp rfl | rfl) ?_)), ?_⟩)) | ((with_reducible show OnlyN _ _ _ _ _); refine OnlyN.intro (by kernel_rfl) ?_) | ((with_reducible show wpList _ _ _ (Oper.mk _ _ _ _ _ (some _) :: _) _ _); first | refine w_strip rfl (by with_reducible rfl) ?_ | ((fail_if_success (refine w_lit false rfl (by with_reducible rfl) ?_)); (fail_if_success (refine w_lit true rfl (by with_reducible rfl) ?_)); refine w_case rfl ?_ ?_ <;> (intro hgd; rw [hgd]; try (exfalso; simp at hgd; omega)))) | ((with_reducible show wpList _ _ _ (Oper.mk _ (Op.convert 45 9 _) _ _ _ _ :: _) _ _); go_must (first | (refine w_stringW M 0 _ _ _ _ rfl rfl rfl rfl (by first | assumption | exact shaL_len _ | exact macL_len _ _ | exact words_len _ | exact List.length_replicate | (rw [List.length_set]; first | assumption | exact List.length_replicate) | rfl) (by decide) Try.underlying45 Try.underlying5 Try.underlying9 ?_; (try conv => arg 5; simp only [Act.put, List.setIfInBounds_toArray, List.set_cons_succ, List.set_cons_zero])) | (refine w_stringW M 1 _ _ _ _ rfl rfl rfl rfl (by first | assumption | exact shaL_len _ | exact macL_len _ _ | exact words_len _ | exact List.length_replicate | (rw [List.length_set]; first | assumption | exact List.length_replicate) | rfl) (by decide) Try.underlying45 Try.underlying5 Try.underlying9 ?_; (try conv => arg 5; simp only [Act.put, List.setIfInBounds_toArray, List.set_cons_succ, List.set_cons_zero])) | (refine w_stringW M 2 _ _ _ _ rfl rfl rfl rfl (by first | assumption | exact shaL_len _ | exact macL_len _ _ | exact words_len _ | exact List.length_replicate | (rw [List.length_set]; first | assumption | exact List.length_replicate) | rfl) (by decide) Try.underlying45 Try.underlying5 Try.underlying9 ?_; (try conv => arg 5; simp only [Act.put, List.setIfInBounds_toArray, List.set_cons_succ, List.set_cons_zero])) | (refine w_string M 0 _ _ _ _ rfl rfl rfl (by first | rfl | (simp; done) | assumption) rfl Try.underlying45 Try.underlying5 Try.underlying9 ?_; (try conv => arg 5; simp only [Act.put, List.setIfInBounds_toArray, List.set_cons_succ, List.set_cons_zero])) | (refine w_string M 1 _ _ _ _ rfl rfl rfl (by first | rfl | (simp; done) | assumption) rfl Try.underlying45 Try.underlying5 Try.underlying9 ?_; (try conv => arg 5; simp only [Act.put, List.setIfInBounds_toArray, List.set_cons_succ, List.set_cons_zero])) | (refine w_string M 2 _ _ _ _ rfl rfl rfl (by first | rfl | (simp; done) | assumption) rfl Try.underlying45 Try.underlying5 Try.underlying9 ?_; (try conv => arg 5; simp only [Act.put, List.setIfInBounds_toArray, List.set_cons_succ, List.set_cons_zero])))) | ((with_reducible show wpList _ _ _ (Oper.mk _ (Op.load _ _) _ _ _ _ :: _) _ _); go_must (refine w_at _ _ rfl (by first | exact ev_tmp rfl | exact ev_const) ?_; intro hx; first | (refine w_load M 0 _ _ rfl rfl hx rfl (by decide +kernel) rfl ?_; clear hx; (try conv => arg 5; simp only [Act.put, List.setIfInBounds_toArray, List.set_cons_succ, List.set_cons_zero])) | (refine w_load M 1 _ _ rfl rfl hx rfl (by decide +kernel) rfl ?_; clear hx; (try conv => arg 5; simp only [Act.put, List.setIfInBounds_toArray, List.set_cons_succ, List.set_cons_zero])) | (refine w_load M 2 _ _ rfl rfl hx rfl (by decide +kernel) rfl ?_; clear hx; (try conv => arg 5; simp only [Act.put, List.setIfInBounds_toArray, List.set_cons_succ, List.set_cons_zero])) | (refine w_loadB M 0 _ _ rfl rfl hx rfl (by decide +kernel) (by first | assumption | omega | (simp; omega)) ?_; clear hx; (try conv => arg 5; simp only [Act.put, List.setIfInBounds_toArray, List.set_cons_succ, List.set_cons_zero])) | (refine w_loadB M 1 _ _ rfl rfl hx rfl (by decide +kernel) (by first | assumption | omega | (simp; omega)) ?_; clear hx; (try conv => arg 5; simp only [Act.put, List.setIfInBounds_toArray, List.set_cons_succ, List.set_cons_zero])) | (refine w_loadB M 2 _ _ rfl rfl hx rfl (by decide +kernel) (by first | assumption | omega | (simp; omega)) ?_; clear hx; (try conv => arg 5; simp only [Act.put, List.setIfInBounds_toArray, List.set_cons_succ, List.set_cons_zero])) | (refine w_loadH M 0 _ _ rfl rfl hx rfl (by decide +kernel) (by first | assumption | exact shaL_len _ | exact macL_len _ _ | exact words_len _ | exact List.length_replicate | (rw [List.length_set]; first | assumption | exact List.length_replicate) | rfl) (by decide +kernel) ?_; clear hx; (try conv => arg 5; simp only [Act.put, List.setIfInBounds_toArray, List.set_cons_succ, List.set_cons_zero])) | (refine w_loadH M 1 _ _ rfl rfl hx rfl (by decide +kernel) (by first | assumption | exact shaL_len _ | exact macL_len _ _ | exact words_len _ | exact List.length_replicate | (rw [List.length_set]; first | assumption | exact List.length_replicate) | rfl) (by decide +kernel) ?_; clear hx; (try conv => arg 5; simp only [Act.put, List.setIfInBounds_toArray, List.set_cons_succ, List.set_cons_zero])) | (refine w_loadH M 2 _ _ rfl rfl hx rfl (by decide +kernel) (by first | assumption | exact shaL_len _ | exact macL_len _ _ | exact words_len _ | exact List.length_replicate | (rw [List.length_set]; first | assumption | exact List.length_replicate) | rfl) (by decide +kernel) ?_; clear hx; (try conv => arg 5; simp only [Act.put, List.setIfInBounds_toArray, List.set_cons_succ, List.set_cons_zero])) | (refine w_loadR M 0 _ _ rfl rfl hx rfl (by decide +kernel) (by kernel_rfl) ?_; clear hx; (try conv => arg 5; simp only [Act.put, List.setIfInBounds_toArray, List.set_cons_succ, List.set_cons_zero])) | (refine w_loadR M 1 _ _ rfl rfl hx rfl (by decide +kernel) (by kernel_rfl) ?_; clear hx; (try conv => arg 5; simp only [Act.put, List.setIfInBounds_toArray, List.set_cons_succ, List.set_cons_zero])) | (refine w_loadR M 2 _ _ rfl rfl hx rfl (by decide +kernel) (by kernel_rfl) ?_; clear hx; (try conv => arg 5; simp only [Act.put, List.setIfInBounds_toArray, List.set_cons_succ, List.set_cons_zero])))) | ((with_reducible show wpList _ _ _ (Oper.mk _ (Op.store _ _ _) _ _ _ _ :: _) _ _); go_must (refine w_at2 _ _ _ rfl (by first | exact ev_tmp rfl | exact ev_const) (by first | exact ev_tmp rfl | exact ev_const) ?_; intro hx hy; first | (refine w_storeB M 0 _ _ _ rfl rfl hx rfl hy (by decide +kernel) (by first | assumption | omega | (simp; omega)) ?_; clear hx hy M; intro w1 M; (try simp only [List.set_cons_zero] at M); (try conv => arg 5; simp only [Act.put, List.setIfInBounds_toArray, List.set_cons_succ, List.set_cons_zero])) | (refine w_storeB M 1 _ _ _ rfl rfl hx rfl hy (by decide +kernel) (by first | assumption | omega | (simp; omega)) ?_; clear hx hy M; intro w1 M; (try simp only [List.set_cons_succ, List.set_cons_zero] at M); (try conv => arg 5; simp only [Act.put, List.setIfInBounds_toArray, List.set_cons_succ, List.set_cons_zero])) | (refine w_storeB M 2 _ _ _ rfl rfl hx rfl hy (by decide +kernel) (by first | assumption | omega | (simp; omega)) ?_; clear hx hy M; intro w1 M; (try simp only [List.set_cons_succ, List.set_cons_zero] at M); (try conv => arg 5; simp only [Act.put, List.setIfInBounds_toArray, List.set_cons_succ, List.set_cons_zero])) | (refine w_storeH M 0 _ _ _ rfl rfl hx rfl hy (by first | assumption | exact shaL_len _ | exact macL_len _ _ | exact words_len _ | exact List.length_replicate | (rw [List.length_set]; first | assumption | exact List.length_replicate) | rfl) (by decide +kernel) (by first | assumption | exact shaL_len _ | exact macL_len _ _ | exact words_len _ | exact List.length_replicate | (rw [List.length_set]; first | assumption | exact List.length_replicate) | rfl) ?_; clear hx hy M; intro w1 M; (try simp only [List.set_cons_zero] at M); (try conv => arg 5; simp only [Act.put, List.setIfInBounds_toArray, List.set_cons_succ, List.set_cons_zero])) | (refine w_storeH M 1 _ _ _ rfl rfl hx rfl hy (by first | assumption | exact shaL_len _ | exact macL_len _ _ | exact words_len _ | exact List.length_replicate | (rw [List.length_set]; first | assumption | exact List.length_replicate) | rfl) (by decide +kernel) (by first | assumption | exact shaL_len _ | exact macL_len _ _ | exact words_len _ | exact List.length_replicate | (rw [List.length_set]; first | assumption | exact List.length_replicate) | rfl) ?_; clear hx hy M; intro w1 M; (try simp only [List.set_cons_succ, List.set_cons_zero] at M); (try conv => arg 5; simp only [Act.put, List.setIfInBounds_toArray, List.set_cons_succ, List.set_cons_zero])) | (refine w_storeH M 2 _ _ _ rfl rfl hx rfl hy (by first | assumption | exact shaL_len _ | exact macL_len _ _ | exact words_len _ | exact List.length_replicate | (rw [List.length_set]; first | assumption | exact List.length_replicate) | rfl) (by decide +kernel) (by first | assumption | exact shaL_len _ | exact macL_len _ _ | exact words_len _ | exact List.length_replicate | (rw [List.length_set]; first | assumption | exact List.length_replicate) | rfl) ?_; clear hx hy M; intro w1 M; (try simp only [List.set_cons_succ, List.set_cons_zero] at M); (try conv => arg 5; simp only [Act.put, List.setIfInBounds_toArray, List.set_cons_succ, List.set_cons_zero])) | (refine w_store M 0 _ _ _ rfl rfl hx rfl hy rfl rfl (by decide +kernel) (by first | decide | simp | (simp; omega)) ?_; clear hx hy M; intro w1 M; (try simp only [List.set_cons_zero] at M); (try conv => arg 5; simp only [Act.put, List.setIfInBounds_toArray, List.set_cons_succ, List.set_cons_zero])) | (refine w_store M 1 _ _ _ rfl rfl hx rfl hy rfl rfl (by decide +kernel) (by first | decide | simp | (simp; omega)) ?_; clear hx hy M; intro w1 M; (try simp only [List.set_cons_succ, List.set_cons_zero] at M); (try conv => arg 5; simp only [Act.put, List.setIfInBounds_toArray, List.set_cons_succ, List.set_cons_zero])) | (refine w_store M 2 _ _ _ rfl rfl hx rfl hy rfl rfl (by decide +kernel) (by first | decide | simp | (simp; omega)) ?_; clear hx hy M; intro w1 M; (try simp only [List.set_cons_succ, List.set_cons_zero] at M); (try conv => arg 5; simp only [Act.put, List.setIfInBounds_toArray, List.set_cons_succ, List.set_cons_zero])) | (refine w_storeR M 0 _ _ _ rfl rfl hx rfl _ hy rfl (by kernel_rfl) (by simp [Value.oneCell']) (by first | rfl | assumption) ?_; clear hx hy M; intro w1 M; (try simp only [List.set_cons_zero] at M); (try conv => arg 5; simp only [Act.put, List.setIfInBounds_toArray, List.set_cons_succ, List.set_cons_zero])) | (refine w_storeR M 1 _ _ _ rfl rfl hx rfl _ hy rfl (by kernel_rfl) (by simp [Value.oneCell']) (by first | rfl | assumption) ?_; clear hx hy M; intro w1 M; (try simp only [List.set_cons_succ, List.set_cons_zero] at M); (try conv => arg 5; simp only [Act.put, List.setIfInBounds_toArray, List.set_cons_succ, List.set_cons_zero])) | (refine w_storeR M 2 _ _ _ rfl rfl hx rfl _ hy rfl (by kernel_rfl) (by simp [Value.oneCell']) (by first | rfl | assumption) ?_; clear hx hy M; intro w1 M; (try simp only [List.set_cons_succ, List.set_cons_zero] at M); (try conv => arg 5; simp only [Act.put, List.setIfInBounds_toArray, List.set_cons_succ, List.set_cons_zero])))) | ((with_reducible show wpList _ _ _ (Oper.mk _ (Op.box _ _) _ _ _ _ :: _) _ _); (refine w_box M _ _ rfl rfl _ rfl _ rfl ?_; clear M; intro g w1 M; (try conv => arg 5; simp only [Act.put, List.setIfInBounds_toArray, List.set_cons_succ, List.set_cons_zero]))))
          rw [show (W ++ s).getD (240 + q.toNat) 0 = nth s q.toNat from nth_out W s 240 _ hW] at M
          go_roundw
          case rel => exact ⟨k + 1, by omega, by go_num, by rw [iterN_succ, ← ET.out]; unfold subB; rw [← EQ.out]; exact M⟩
          case measure => simp [intOf]; omega
        · obtain rfl : k = 16 := by omega
          have e : t = subL s d := ET.out
          have hsl := subL_len s d
          rw [e] at M
          obtain ⟨t', e'⟩ : ∃ t, t = subL s d := ⟨_, rfl⟩
          rw [← e'] at M hsl
          have ER : roundL s W n d = addL W (if n + 1 < 14 then mixL t' else t') (n + 1) := by rw [e']; rfl
          clear e e' ht ET
          have MX := fun w => mix_c t' w hsl
          have AD := fun (m : List UInt8) (hm : m.length = 16) (w : World) (RR : (Chunk.row gc (bs (W ++ s))).ok w) => add_c gc s W m (n + 1) ((n : Int) + 1) (by omega) w RR hW hs hm (by omega)
          by_cases h14 : n + 1 < 14
          · rw [if_pos h14] at ER
            have hml := mixL_len t'
            obtain ⟨m, em⟩ : ∃ m, m = mixL t' := ⟨_, rfl⟩
            rw [← em] at ER MX hml
            replace AD := AD m hml
            have hal : (addL W m (n + 1)).length = 16 := by rw [addL_len]; exact hml
            obtain ⟨a, ea⟩ : ∃ a, a = addL W m (n + 1) := ⟨_, rfl⟩
            rw [← ea] at ER AD hal
            replace ER := Lib.hid fun _ : Unit => ER
            replace MX := Lib.hid MX
            replace AD := Lib.hid AD
            clear ea em
            go_wp2_with (first | (go_at_call 79; go_must (refine (AD.out _ (M.stays R)).mono ?_; rintro e w1 ⟨rfl, hb⟩; replace M := M.call hb; clear hb)) | (go_at_call 80; go_must (refine (MX.out _).mono ?_; rintro e w1 ⟨rfl, hb⟩; replace M := M.call hb; clear hb)) | ((with_reducible show wpList _ _ _ (Oper.mk _ _ _ _ _ (some _) :: _) _ _); first | refine w_strip rfl (by with_reducible rfl) ?_ | ((fail_if_success (refine w_lit false rfl (by with_reducible rfl) ?_)); (fail_if_success (refine w_lit true rfl (by with_reducible rfl) ?_)); refine w_case rfl ?_ ?_ <;> (intro hgd; rw [hgd]; try (exfalso; simp at hgd; omega)))) | ((with_reducible show wpList _ _ _ (Oper.mk _ (Op.convert 45 9 _) _ _ _ _ :: _) _ _); go_must (first | (refine w_stringW M 0 _ _ _ _ rfl rfl rfl rfl (by first | assumption | exact shaL_len _ | exact macL_len _ _ | exact words_len _ | exact List.length_replicate | (rw [List.length_set]; first | assumption | exact List.length_replicate) | rfl) (by decide) Try.underlying45 Try.underlying5 Try.underlying9 ?_; (try conv => arg 5; simp only [Act.put, List.setIfInBounds_toArray, List.set_cons_succ, List.set_cons_zero])) | (refine w_stringW M 1 _ _ _ _ rfl rfl rfl rfl (by first | assumption | exact shaL_len _ | exact macL_len _ _ | exact words_len _ | exact List.length_replicate | (rw [List.length_set]; first | assumption | exact List.length_replicate) | rfl) (by decide) Try.underlying45 Try.underlying5 Try.underlying9 ?_; (try conv => arg 5; simp only [Act.put, List.setIfInBounds_toArray, List.set_cons_succ, List.set_cons_zero])) | (refine w_stringW M 2 _ _ _ _ rfl rfl rfl rfl (by first | assumption | exact shaL_len _ | exact macL_len _ _ | exact words_len _ | exact List.length_replicate | (rw [List.length_set]; first | assumption | exact List.length_replicate) | rfl) (by decide) Try.underlying45 Try.underlying5 Try.underlying9 ?_; (try conv => arg 5; simp only [Act.put, List.setIfInBounds_toArray, List.set_cons_succ, List.set_cons_zero])) | (refine w_string M 0 _ _ _ _ rfl rfl rfl (by first | rfl | (simp; done) | assumption) rfl Try.underlying45 Try.underlying5 Try.underlying9 ?_; (try conv => arg 5; simp only [Act.put, List.setIfInBounds_toArray, List.set_cons_succ, List.set_cons_zero])) | (refine w_string M 1 _ _ _ _ rfl rfl rfl (by first | rfl | (simp; done) | assumption) rfl Try.underlying45 Try.underlying5 Try.underlying9 ?_; (try conv => arg 5; simp only [Act.put, List.setIfInBounds_toArray, List.set_cons_succ, List.set_cons_zero])) | (refine w_string M 2 _ _ _ _ rfl rfl rfl (by first | rfl | (simp; done) | assumption) rfl Try.underlying45 Try.underlying5 Try.underlying9 ?_; (try conv => arg 5; simp only [Act.put, List.setIfInBounds_toArray, List.set_cons_succ, List.set_cons_zero])))) | ((with_reducible show wpList _ _ _ (Oper.mk _ (Op.load _ _) _ _ _ _ :: _) _ _); go_must (refine w_at _ _ rfl (by first | exact ev_tmp rfl | exact ev_const) ?_; intro hx; first | (refine w_load M 0 _ _ rfl rfl hx rfl (by decide +kernel) rfl ?_; clear hx; (try conv => arg 5; simp only [Act.put, List.setIfInBounds_toArray, List.set_cons_succ, List.set_cons_zero])) | (refine w_load M 1 _ _ rfl rfl hx rfl (by decide +kernel) rfl ?_; clear hx; (try conv => arg 5; simp only [Act.put, List.setIfInBounds_toArray, List.set_cons_succ, List.set_cons_zero])) | (refine w_load M 2 _ _ rfl rfl hx rfl (by decide +kernel) rfl ?_; clear hx; (try conv => arg 5; simp only [Act.put, List.setIfInBounds_toArray, List.set_cons_succ, List.set_cons_zero])) | (refine w_loadB M 0 _ _ rfl rfl hx rfl (by decide +kernel) (by first | assumption | omega | (simp; omega)) ?_; clear hx; (try conv => arg 5; simp only [Act.put, List.setIfInBounds_toArray, List.set_cons_succ, List.set_cons_zero])) | (refine w_loadB M 1 _ _ rfl rfl hx rfl (by decide +kernel) (by first | assumption | omega | (simp; omega)) ?_; clear hx; (try conv => arg 5; simp only [Act.put, List.setIfInBounds_toArray, List.set_cons_succ, List.set_cons_zero])) | (refine w_loadB M 2 _ _ rfl rfl hx rfl (by decide +kernel) (by first | assumption | omega | (simp; omega)) ?_; clear hx; (try conv => arg 5; simp only [Act.put, List.setIfInBounds_toArray, List.set_cons_succ, List.set_cons_zero])) | (refine w_loadH M 0 _ _ rfl rfl hx rfl (by decide +kernel) (by first | assumption | exact shaL_len _ | exact macL_len _ _ | exact words_len _ | exact List.length_replicate | (rw [List.length_set]; first | assumption | exact List.length_replicate) | rfl) (by decide +kernel) ?_; clear hx; (try conv => arg 5; simp only [Act.put, List.setIfInBounds_toArray, List.set_cons_succ, List.set_cons_zero])) | (refine w_loadH M 1 _ _ rfl rfl hx rfl (by decide +kernel) (by first | assumption | exact shaL_len _ | exact macL_len _ _ | exact words_len _ | exact List.length_replicate | (rw [List.length_set]; first | assumption | exact List.length_replicate) | rfl) (by decide +kernel) ?_; clear hx; (try conv => arg 5; simp only [Act.put, List.setIfInBounds_toArray, List.set_cons_succ, List.set_cons_zero])) | (refine w_loadH M 2 _ _ rfl rfl hx rfl (by decide +kernel) (by first | assumption | exact shaL_len _ | exact macL_len _ _ | exact words_len _ | exact List.length_replicate | (rw [List.length_set]; first | assumption | exact List.length_replicate) | rfl) (by decide +kernel) ?_; clear hx; (try conv => arg 5; simp only [Act.put, List.setIfInBounds_toArray, List.set_cons_succ, List.set_cons_zero])) | (refine w_loadR M 0 _ _ rfl rfl hx rfl (by decide +kernel) (by kernel_rfl) ?_; clear hx; (try conv => arg 5; simp only [Act.put, List.setIfInBounds_toArray, List.set_cons_succ, List.set_cons_zero])) | (refine w_loadR M 1 _ _ rfl rfl hx rfl (by decide +kernel) (by kernel_rfl) ?_; clear hx; (try conv => arg 5; simp only [Act.put, List.setIfInBounds_toArray, List.set_cons_succ, List.set_cons_zero])) | (refine w_loadR M 2 _ _ rfl rfl hx rfl (by decide +kernel) (by kernel_rfl) ?_; clear hx; (try conv => arg 5; simp only [Act.put, List.setIfInBounds_toArray, List.set_cons_succ, List.set_cons_zero])))) | ((with_reducible show wpList _ _ _ (Oper.mk _ (Op.store _ _ _) _ _ _ _ :: _) _ _); go_must (refine w_at2 _ _ _ rfl (by first | exact ev_tmp rfl | exact ev_const) (by first | exact ev_tmp rfl | exact ev_const) ?_; intro hx hy; first | (refine w_storeB M 0 _ _ _ rfl rfl hx rfl hy (by decide +kernel) (by first | assumption | omega | (simp; omega)) ?_; clear hx hy M; intro w1 M; (try simp only [List.set_cons_zero] at M); (try conv => arg 5; simp only [Act.put, List.setIfInBounds_toArray, List.set_cons_succ, List.set_cons_zero])) | (refine w_storeB M 1 _ _ _ rfl rfl hx rfl hy (by decide +kernel) (by first | assumption | omega | (simp; omega)) ?_; clear hx hy M; intro w1 M; (try simp only [List.set_cons_succ, List.set_cons_zero] at M); (try conv => arg 5; simp only [Act.put, List.setIfInBounds_toArray, List.set_cons_succ, List.set_cons_zero])) | (refine w_storeB M 2 _ _ _ rfl rfl hx rfl hy (by decide +kernel) (by first | assumption | omega | (simp; omega)) ?_; clear hx hy M; intro w1 M; (try simp only [List.set_cons_succ, List.set_cons_zero] at M); (try conv => arg 5; simp only [Act.put, List.setIfInBounds_toArray, List.set_cons_succ, List.set_cons_zero])) | (refine w_storeH M 0 _ _ _ rfl rfl hx rfl hy (by first | assumption | exact shaL_len _ | exact macL_len _ _ | exact words_len _ | exact List.length_replicate | (rw [List.length_set]; first | assumption | exact List.length_replicate) | rfl) (by decide +kernel) (by first | assumption | exact shaL_len _ | exact macL_len _ _ | exact words_len _ | exact List.length_replicate | (rw [List.length_set]; first | assumption | exact List.length_replicate) | rfl) ?_; clear hx hy M; intro w1 M; (try simp only [List.set_cons_zero] at M); (try conv => arg 5; simp only [Act.put, List.setIfInBounds_toArray, List.set_cons_succ, List.set_cons_zero])) | (refine w_storeH M 1 _ _ _ rfl rfl hx rfl hy (by first | assumption | exact shaL_len _ | exact macL_len _ _ | exact words_len _ | exact List.length_replicate | (rw [List.length_set]; first | assumption | exact List.length_replicate) | rfl) (by decide +kernel) (by first | assumption | exact shaL_len _ | exact macL_len _ _ | exact words_len _ | exact List.length_replicate | (rw [List.length_set]; first | assumption | exact List.length_replicate) | rfl) ?_; clear hx hy M; intro w1 M; (try simp only [List.set_cons_succ, List.set_cons_zero] at M); (try conv => arg 5; simp only [Act.put, List.setIfInBounds_toArray, List.set_cons_succ, List.set_cons_zero])) | (refine w_storeH M 2 _ _ _ rfl rfl hx rfl hy (by first | assumption | exact shaL_len _ | exact macL_len _ _ | exact words_len _ | exact List.length_replicate | (rw [List.length_set]; first | assumption | exact List.length_replicate) | rfl) (by decide +kernel) (by first | assumption | exact shaL_len _ | exact macL_len _ _ | exact words_len _ | exact List.length_replicate | (rw [List.length_set]; first | assumption | exact List.length_replicate) | rfl) ?_; clear hx hy M; intro w1 M; (try simp only [List.set_cons_succ, List.set_cons_zero] at M); (try conv => arg 5; simp only [Act.put, List.setIfInBounds_toArray, List.set_cons_succ, List.set_cons_zero])) | (refine w_store M 0 _ _ _ rfl rfl hx rfl hy rfl rfl (by decide +kernel) (by first | decide | simp | (simp; omega)) ?_; clear hx hy M; intro w1 M; (try simp only [List.set_cons_zero] at M); (try conv => arg 5; simp only [Act.put, List.setIfInBounds_toArray, List.set_cons_succ, List.set_cons_zero])) | (refine w_store M 1 _ _ _ rfl rfl hx rfl hy rfl rfl (by decide +kernel) (by first | decide | simp | (simp; omega)) ?_; clear hx hy M; intro w1 M; (try simp only [List.set_cons_succ, List.set_cons_zero] at M); (try conv => arg 5; simp only [Act.put, List.setIfInBounds_toArray, List.set_cons_succ, List.set_cons_zero])) | (refine w_store M 2 _ _ _ rfl rfl hx rfl hy rfl rfl (by decide +kernel) (by first | decide | simp | (simp; omega)) ?_; clear hx hy M; intro w1 M; (try simp only [List.set_cons_succ, List.set_cons_zero] at M); (try conv => arg 5; simp only [Act.put, List.setIfInBounds_toArray, List.set_cons_succ, List.set_cons_zero])) | (refine w_storeR M 0 _ _ _ rfl rfl hx rfl _ hy rfl (by kernel_rfl) (by simp [Value.oneCell']) (by first | rfl | assumption) ?_; clear hx hy M; intro w1 M; (try simp only [List.set_cons_zero] at M); (try conv => arg 5; simp only [Act.put, List.setIfInBounds_toArray, List.set_cons_succ, List.set_cons_zero])) | (refine w_storeR M 1 _ _ _ rfl rfl hx rfl _ hy rfl (by kernel_rfl) (by simp [Value.oneCell']) (by first | rfl | assumption) ?_; clear hx hy M; intro w1 M; (try simp only [List.set_cons_succ, List.set_cons_zero] at M); (try conv => arg 5; simp only [Act.put, List.setIfInBounds_toArray, List.set_cons_succ, List.set_cons_zero])) | (refine w_storeR M 2 _ _ _ rfl rfl hx rfl _ hy rfl (by kernel_rfl) (by simp [Value.oneCell']) (by first | rfl | assumption) ?_; clear hx hy M; intro w1 M; (try simp only [List.set_cons_succ, List.set_cons_zero] at M); (try conv => arg 5; simp only [Act.put, List.setIfInBounds_toArray, List.set_cons_succ, List.set_cons_zero])))) | ((with_reducible show wpList _ _ _ (Oper.mk _ (Op.box _ _) _ _ _ _ :: _) _ _); (refine w_box M _ _ rfl rfl _ rfl _ rfl ?_; clear M; intro g w1 M; (try conv => arg 5; simp only [Act.put, List.setIfInBounds_toArray, List.set_cons_succ, List.set_cons_zero]))))
            go_roundw
            case rel => exact ⟨n + 1, by omega, by go_num, by rw [iterN_succ, ← ED.out, ER.out ()]; exact M.tail⟩
            case measure => simp [intOf]; omega
          · rw [if_neg h14] at ER
            replace AD := AD t' hsl
            have hal : (addL W t' (n + 1)).length = 16 := by rw [addL_len]; exact hsl
            obtain ⟨a, ea⟩ : ∃ a, a = addL W t' (n + 1) := ⟨_, rfl⟩
            rw [← ea] at ER AD hal
            replace ER := Lib.hid fun _ : Unit => ER
            replace AD := Lib.hid AD
            clear ea MX
            go_wp2_with (first | (go_at_call 79; go_must (refine (AD.out _ (M.stays R)).mono ?_; rintro e w1 ⟨rfl, hb⟩; replace M := M.call hb; clear hb)) | ((with_reducible show wpList _ _ _ (Oper.mk _ _ _ _ _ (some _) :: _) _ _); first | refine w_strip rfl (by with_reducible rfl) ?_ | ((fail_if_success (refine w_lit false rfl (by with_reducible rfl) ?_)); (fail_if_success (refine w_lit true rfl (by with_reducible rfl) ?_)); refine w_case rfl ?_ ?_ <;> (intro hgd; rw [hgd]; try (exfalso; simp at hgd; omega)))) | ((with_reducible show wpList _ _ _ (Oper.mk _ (Op.convert 45 9 _) _ _ _ _ :: _) _ _); go_must (first | (refine w_stringW M 0 _ _ _ _ rfl rfl rfl rfl (by first | assumption | exact shaL_len _ | exact macL_len _ _ | exact words_len _ | exact List.length_replicate | (rw [List.length_set]; first | assumption | exact List.length_replicate) | rfl) (by decide) Try.underlying45 Try.underlying5 Try.underlying9 ?_; (try conv => arg 5; simp only [Act.put, List.setIfInBounds_toArray, List.set_cons_succ, List.set_cons_zero])) | (refine w_stringW M 1 _ _ _ _ rfl rfl rfl rfl (by first | assumption | exact shaL_len _ | exact macL_len _ _ | exact words_len _ | exact List.length_replicate | (rw [List.length_set]; first | assumption | exact List.length_replicate) | rfl) (by decide) Try.underlying45 Try.underlying5 Try.underlying9 ?_; (try conv => arg 5; simp only [Act.put, List.setIfInBounds_toArray, List.set_cons_succ, List.set_cons_zero])) | (refine w_stringW M 2 _ _ _ _ rfl rfl rfl rfl (by first | assumption | exact shaL_len _ | exact macL_len _ _ | exact words_len _ | exact List.length_replicate | (rw [List.length_set]; first | assumption | exact List.length_replicate) | rfl) (by decide) Try.underlying45 Try.underlying5 Try.underlying9 ?_; (try conv => arg 5; simp only [Act.put, List.setIfInBounds_toArray, List.set_cons_succ, List.set_cons_zero])) | (refine w_string M 0 _ _ _ _ rfl rfl rfl (by first | rfl | (simp; done) | assumption) rfl Try.underlying45 Try.underlying5 Try.underlying9 ?_; (try conv => arg 5; simp only [Act.put, List.setIfInBounds_toArray, List.set_cons_succ, List.set_cons_zero])) | (refine w_string M 1 _ _ _ _ rfl rfl rfl (by first | rfl | (simp; done) | assumption) rfl Try.underlying45 Try.underlying5 Try.underlying9 ?_; (try conv => arg 5; simp only [Act.put, List.setIfInBounds_toArray, List.set_cons_succ, List.set_cons_zero])) | (refine w_string M 2 _ _ _ _ rfl rfl rfl (by first | rfl | (simp; done) | assumption) rfl Try.underlying45 Try.underlying5 Try.underlying9 ?_; (try conv => arg 5; simp only [Act.put, List.setIfInBounds_toArray, List.set_cons_succ, List.set_cons_zero])))) | ((with_reducible show wpList _ _ _ (Oper.mk _ (Op.load _ _) _ _ _ _ :: _) _ _); go_must (refine w_at _ _ rfl (by first | exact ev_tmp rfl | exact ev_const) ?_; intro hx; first | (refine w_load M 0 _ _ rfl rfl hx rfl (by decide +kernel) rfl ?_; clear hx; (try conv => arg 5; simp only [Act.put, List.setIfInBounds_toArray, List.set_cons_succ, List.set_cons_zero])) | (refine w_load M 1 _ _ rfl rfl hx rfl (by decide +kernel) rfl ?_; clear hx; (try conv => arg 5; simp only [Act.put, List.setIfInBounds_toArray, List.set_cons_succ, List.set_cons_zero])) | (refine w_load M 2 _ _ rfl rfl hx rfl (by decide +kernel) rfl ?_; clear hx; (try conv => arg 5; simp only [Act.put, List.setIfInBounds_toArray, List.set_cons_succ, List.set_cons_zero])) | (refine w_loadB M 0 _ _ rfl rfl hx rfl (by decide +kernel) (by first | assumption | omega | (simp; omega)) ?_; clear hx; (try conv => arg 5; simp only [Act.put, List.setIfInBounds_toArray, List.set_cons_succ, List.set_cons_zero])) | (refine w_loadB M 1 _ _ rfl rfl hx rfl (by decide +kernel) (by first | assumption | omega | (simp; omega)) ?_; clear hx; (try conv => arg 5; simp only [Act.put, List.setIfInBounds_toArray, List.set_cons_succ, List.set_cons_zero])) | (refine w_loadB M 2 _ _ rfl rfl hx rfl (by decide +kernel) (by first | assumption | omega | (simp; omega)) ?_; clear hx; (try conv => arg 5; simp only [Act.put, List.setIfInBounds_toArray, List.set_cons_succ, List.set_cons_zero])) | (refine w_loadH M 0 _ _ rfl rfl hx rfl (by decide +kernel) (by first | assumption | exact shaL_len _ | exact macL_len _ _ | exact words_len _ | exact List.length_replicate | (rw [List.length_set]; first | assumption | exact List.length_replicate) | rfl) (by decide +kernel) ?_; clear hx; (try conv => arg 5; simp only [Act.put, List.setIfInBounds_toArray, List.set_cons_succ, List.set_cons_zero])) | (refine w_loadH M 1 _ _ rfl rfl hx rfl (by decide +kernel) (by first | assumption | exact shaL_len _ | exact macL_len _ _ | exact words_len _ | exact List.length_replicate | (rw [List.length_set]; first | assumption | exact List.length_replicate) | rfl) (by decide +kernel) ?_; clear hx; (try conv => arg 5; simp only [Act.put, List.setIfInBounds_toArray, List.set_cons_succ, List.set_cons_zero])) | (refine w_loadH M 2 _ _ rfl rfl hx rfl (by decide +kernel) (by first | assumption | exact shaL_len _ | exact macL_len _ _ | exact words_len _ | exact List.length_replicate | (rw [List.length_set]; first | assumption | exact List.length_replicate) | rfl) (by decide +kernel) ?_; clear hx; (try conv => arg 5; simp only [Act.put, List.setIfInBounds_toArray, List.set_cons_succ, List.set_cons_zero])) | (refine w_loadR M 0 _ _ rfl rfl hx rfl (by decide +kernel) (by kernel_rfl) ?_; clear hx; (try conv => arg 5; simp only [Act.put, List.setIfInBounds_toArray, List.set_cons_succ, List.set_cons_zero])) | (refine w_loadR M 1 _ _ rfl rfl hx rfl (by decide +kernel) (by kernel_rfl) ?_; clear hx; (try conv => arg 5; simp only [Act.put, List.setIfInBounds_toArray, List.set_cons_succ, List.set_cons_zero])) | (refine w_loadR M 2 _ _ rfl rfl hx rfl (by decide +kernel) (by kernel_rfl) ?_; clear hx; (try conv => arg 5; simp only [Act.put, List.setIfInBounds_toArray, List.set_cons_succ, List.set_cons_zero])))) | ((with_reducible show wpList _ _ _ (Oper.mk _ (Op.store _ _ _) _ _ _ _ :: _) _ _); go_must (refine w_at2 _ _ _ rfl (by first | exact ev_tmp rfl | exact ev_const) (by first | exact ev_tmp rfl | exact ev_const) ?_; intro hx hy; first | (refine w_storeB M 0 _ _ _ rfl rfl hx rfl hy (by decide +kernel) (by first | assumption | omega | (simp; omega)) ?_; clear hx hy M; intro w1 M; (try simp only [List.set_cons_zero] at M); (try conv => arg 5; simp only [Act.put, List.setIfInBounds_toArray, List.set_cons_succ, List.set_cons_zero])) | (refine w_storeB M 1 _ _ _ rfl rfl hx rfl hy (by decide +kernel) (by first | assumption | omega | (simp; omega)) ?_; clear hx hy M; intro w1 M; (try simp only [List.set_cons_succ, List.set_cons_zero] at M); (try conv => arg 5; simp only [Act.put, List.setIfInBounds_toArray, List.set_cons_succ, List.set_cons_zero])) | (refine w_storeB M 2 _ _ _ rfl rfl hx rfl hy (by decide +kernel) (by first | assumption | omega | (simp; omega)) ?_; clear hx hy M; intro w1 M; (try simp only [List.set_cons_succ, List.set_cons_zero] at M); (try conv => arg 5; simp only [Act.put, List.setIfInBounds_toArray, List.set_cons_succ, List.set_cons_zero])) | (refine w_storeH M 0 _ _ _ rfl rfl hx rfl hy (by first | assumption | exact shaL_len _ | exact macL_len _ _ | exact words_len _ | exact List.length_replicate | (rw [List.length_set]; first | assumption | exact List.length_replicate) | rfl) (by decide +kernel) (by first | assumption | exact shaL_len _ | exact macL_len _ _ | exact words_len _ | exact List.length_replicate | (rw [List.length_set]; first | assumption | exact List.length_replicate) | rfl) ?_; clear hx hy M; intro w1 M; (try simp only [List.set_cons_zero] at M); (try conv => arg 5; simp only [Act.put, List.setIfInBounds_toArray, List.set_cons_succ, List.set_cons_zero])) | (refine w_storeH M 1 _ _ _ rfl rfl hx rfl hy (by first | assumption | exact shaL_len _ | exact macL_len _ _ | exact words_len _ | exact List.length_replicate | (rw [List.length_set]; first | assumption | exact List.length_replicate) | rfl) (by decide +kernel) (by first | assumption | exact shaL_len _ | exact macL_len _ _ | exact words_len _ | exact List.length_replicate | (rw [List.length_set]; first | assumption | exact List.length_replicate) | rfl) ?_; clear hx hy M; intro w1 M; (try simp only [List.set_cons_succ, List.set_cons_zero] at M); (try conv => arg 5; simp only [Act.put, List.setIfInBounds_toArray, List.set_cons_succ, List.set_cons_zero])) | (refine w_storeH M 2 _ _ _ rfl rfl hx rfl hy (by first | assumption | exact shaL_len _ | exact macL_len _ _ | exact words_len _ | exact List.length_replicate | (rw [List.length_set]; first | assumption | exact List.length_replicate) | rfl) (by decide +kernel) (by first | assumption | exact shaL_len _ | exact macL_len _ _ | exact words_len _ | exact List.length_replicate | (rw [List.length_set]; first | assumption | exact List.length_replicate) | rfl) ?_; clear hx hy M; intro w1 M; (try simp only [List.set_cons_succ, List.set_cons_zero] at M); (try conv => arg 5; simp only [Act.put, List.setIfInBounds_toArray, List.set_cons_succ, List.set_cons_zero])) | (refine w_store M 0 _ _ _ rfl rfl hx rfl hy rfl rfl (by decide +kernel) (by first | decide | simp | (simp; omega)) ?_; clear hx hy M; intro w1 M; (try simp only [List.set_cons_zero] at M); (try conv => arg 5; simp only [Act.put, List.setIfInBounds_toArray, List.set_cons_succ, List.set_cons_zero])) | (refine w_store M 1 _ _ _ rfl rfl hx rfl hy rfl rfl (by decide +kernel) (by first | decide | simp | (simp; omega)) ?_; clear hx hy M; intro w1 M; (try simp only [List.set_cons_succ, List.set_cons_zero] at M); (try conv => arg 5; simp only [Act.put, List.setIfInBounds_toArray, List.set_cons_succ, List.set_cons_zero])) | (refine w_store M 2 _ _ _ rfl rfl hx rfl hy rfl rfl (by decide +kernel) (by first | decide | simp | (simp; omega)) ?_; clear hx hy M; intro w1 M; (try simp only [List.set_cons_succ, List.set_cons_zero] at M); (try conv => arg 5; simp only [Act.put, List.setIfInBounds_toArray, List.set_cons_succ, List.set_cons_zero])) | (refine w_storeR M 0 _ _ _ rfl rfl hx rfl _ hy rfl (by kernel_rfl) (by simp [Value.oneCell']) (by first | rfl | assumption) ?_; clear hx hy M; intro w1 M; (try simp only [List.set_cons_zero] at M); (try conv => arg 5; simp only [Act.put, List.setIfInBounds_toArray, List.set_cons_succ, List.set_cons_zero])) | (refine w_storeR M 1 _ _ _ rfl rfl hx rfl _ hy rfl (by kernel_rfl) (by simp [Value.oneCell']) (by first | rfl | assumption) ?_; clear hx hy M; intro w1 M; (try simp only [List.set_cons_succ, List.set_cons_zero] at M); (try conv => arg 5; simp only [Act.put, List.setIfInBounds_toArray, List.set_cons_succ, List.set_cons_zero])) | (refine w_storeR M 2 _ _ _ rfl rfl hx rfl _ hy rfl (by kernel_rfl) (by simp [Value.oneCell']) (by first | rfl | assumption) ?_; clear hx hy M; intro w1 M; (try simp only [List.set_cons_succ, List.set_cons_zero] at M); (try conv => arg 5; simp only [Act.put, List.setIfInBounds_toArray, List.set_cons_succ, List.set_cons_zero])))) | ((with_reducible show wpList _ _ _ (Oper.mk _ (Op.box _ _) _ _ _ _ :: _) _ _); (refine w_box M _ _ rfl rfl _ rfl _ rfl ?_; clear M; intro g w1 M; (try conv => arg 5; simp only [Act.put, List.setIfInBounds_toArray, List.set_cons_succ, List.set_cons_zero]))))
            go_roundw
            case rel => exact ⟨n + 1, by omega, by go_num, by rw [iterN_succ, ← ED.out, ER.out ()]; exact M.tail⟩
            case measure => simp [intOf]; omega
    · obtain rfl : n = 14 := by omega
      have e : bl = d := BL.out.trans ED.out.symm
      go_wp2_with (first | ((with_reducible show wpList _ _ _ (Oper.mk _ _ _ _ _ (some _) :: _) _ _); first | refine w_strip rfl (by with_reducible rfl) ?_ | ((fail_if_success (refine w_lit false rfl (by with_reducible rfl) ?_)); (fail_if_success (refine w_lit true rfl (by with_reducible rfl) ?_)); refine w_case rfl ?_ ?_ <;> (intro hgd; rw [hgd]; try (exfalso; simp at hgd; omega)))) | ((with_reducible show wpList _ _ _ (Oper.mk _ (Op.convert 45 9 _) _ _ _ _ :: _) _ _); go_must (first | (refine w_stringW M 0 _ _ _ _ rfl rfl rfl rfl (by first | assumption | exact shaL_len _ | exact macL_len _ _ | exact words_len _ | exact List.length_replicate | (rw [List.length_set]; first | assumption | exact List.length_replicate) | rfl) (by decide) Try.underlying45 Try.underlying5 Try.underlying9 ?_; (try conv => arg 5; simp only [Act.put, List.setIfInBounds_toArray, List.set_cons_succ, List.set_cons_zero])) | (refine w_stringW M 1 _ _ _ _ rfl rfl rfl rfl (by first | assumption | exact shaL_len _ | exact macL_len _ _ | exact words_len _ | exact List.length_replicate | (rw [List.length_set]; first | assumption | exact List.length_replicate) | rfl) (by decide) Try.underlying45 Try.underlying5 Try.underlying9 ?_; (try conv => arg 5; simp only [Act.put, List.setIfInBounds_toArray, List.set_cons_succ, List.set_cons_zero])) | (refine w_string M 0 _ _ _ _ rfl rfl rfl (by first | rfl | (simp; done) | assumption) rfl Try.underlying45 Try.underlying5 Try.underlying9 ?_; (try conv => arg 5; simp only [Act.put, List.setIfInBounds_toArray, List.set_cons_succ, List.set_cons_zero])) | (refine w_string M 1 _ _ _ _ rfl rfl rfl (by first | rfl | (simp; done) | assumption) rfl Try.underlying45 Try.underlying5 Try.underlying9 ?_; (try conv => arg 5; simp only [Act.put, List.setIfInBounds_toArray, List.set_cons_succ, List.set_cons_zero])))) | ((with_reducible show wpList _ _ _ (Oper.mk _ (Op.load _ _) _ _ _ _ :: _) _ _); go_must (refine w_at _ _ rfl (by first | exact ev_tmp rfl | exact ev_const) ?_; intro hx; first | (refine w_load M 0 _ _ rfl rfl hx rfl (by decide +kernel) rfl ?_; clear hx; (try conv => arg 5; simp only [Act.put, List.setIfInBounds_toArray, List.set_cons_succ, List.set_cons_zero])) | (refine w_load M 1 _ _ rfl rfl hx rfl (by decide +kernel) rfl ?_; clear hx; (try conv => arg 5; simp only [Act.put, List.setIfInBounds_toArray, List.set_cons_succ, List.set_cons_zero])) | (refine w_loadB M 0 _ _ rfl rfl hx rfl (by decide +kernel) (by first | assumption | omega | (simp; omega)) ?_; clear hx; (try conv => arg 5; simp only [Act.put, List.setIfInBounds_toArray, List.set_cons_succ, List.set_cons_zero])) | (refine w_loadB M 1 _ _ rfl rfl hx rfl (by decide +kernel) (by first | assumption | omega | (simp; omega)) ?_; clear hx; (try conv => arg 5; simp only [Act.put, List.setIfInBounds_toArray, List.set_cons_succ, List.set_cons_zero])) | (refine w_loadH M 0 _ _ rfl rfl hx rfl (by decide +kernel) (by first | assumption | exact shaL_len _ | exact macL_len _ _ | exact words_len _ | exact List.length_replicate | (rw [List.length_set]; first | assumption | exact List.length_replicate) | rfl) (by decide +kernel) ?_; clear hx; (try conv => arg 5; simp only [Act.put, List.setIfInBounds_toArray, List.set_cons_succ, List.set_cons_zero])) | (refine w_loadH M 1 _ _ rfl rfl hx rfl (by decide +kernel) (by first | assumption | exact shaL_len _ | exact macL_len _ _ | exact words_len _ | exact List.length_replicate | (rw [List.length_set]; first | assumption | exact List.length_replicate) | rfl) (by decide +kernel) ?_; clear hx; (try conv => arg 5; simp only [Act.put, List.setIfInBounds_toArray, List.set_cons_succ, List.set_cons_zero])) | (refine w_loadR M 0 _ _ rfl rfl hx rfl (by decide +kernel) (by kernel_rfl) ?_; clear hx; (try conv => arg 5; simp only [Act.put, List.setIfInBounds_toArray, List.set_cons_succ, List.set_cons_zero])) | (refine w_loadR M 1 _ _ rfl rfl hx rfl (by decide +kernel) (by kernel_rfl) ?_; clear hx; (try conv => arg 5; simp only [Act.put, List.setIfInBounds_toArray, List.set_cons_succ, List.set_cons_zero])))) | ((with_reducible show wpList _ _ _ (Oper.mk _ (Op.store _ _ _) _ _ _ _ :: _) _ _); go_must (refine w_at2 _ _ _ rfl (by first | exact ev_tmp rfl | exact ev_const) (by first | exact ev_tmp rfl | exact ev_const) ?_; intro hx hy; first | (refine w_storeB M 0 _ _ _ rfl rfl hx rfl hy (by decide +kernel) (by first | assumption | omega | (simp; omega)) ?_; clear hx hy M; intro w1 M; (try simp only [List.set_cons_zero] at M); (try conv => arg 5; simp only [Act.put, List.setIfInBounds_toArray, List.set_cons_succ, List.set_cons_zero])) | (refine w_storeB M 1 _ _ _ rfl rfl hx rfl hy (by decide +kernel) (by first | assumption | omega | (simp; omega)) ?_; clear hx hy M; intro w1 M; (try simp only [List.set_cons_succ, List.set_cons_zero] at M); (try conv => arg 5; simp only [Act.put, List.setIfInBounds_toArray, List.set_cons_succ, List.set_cons_zero])) | (refine w_storeH M 0 _ _ _ rfl rfl hx rfl hy (by first | assumption | exact shaL_len _ | exact macL_len _ _ | exact words_len _ | exact List.length_replicate | (rw [List.length_set]; first | assumption | exact List.length_replicate) | rfl) (by decide +kernel) (by first | assumption | exact shaL_len _ | exact macL_len _ _ | exact words_len _ | exact List.length_replicate | (rw [List.length_set]; first | assumption | exact List.length_replicate) | rfl) ?_; clear hx hy M; intro w1 M; (try simp only [List.set_cons_zero] at M); (try conv => arg 5; simp only [Act.put, List.setIfInBounds_toArray, List.set_cons_succ, List.set_cons_zero])) | (refine w_storeH M 1 _ _ _ rfl rfl hx rfl hy (by first | assumption | exact shaL_len _ | exact macL_len _ _ | exact words_len _ | exact List.length_replicate | (rw [List.length_set]; first | assumption | exact List.length_replicate) | rfl) (by decide +kernel) (by first | assumption | exact shaL_len _ | exact macL_len _ _ | exact words_len _ | exact List.length_replicate | (rw [List.length_set]; first | assumption | exact List.length_replicate) | rfl) ?_; clear hx hy M; intro w1 M; (try simp only [List.set_cons_succ, List.set_cons_zero] at M); (try conv => arg 5; simp only [Act.put, List.setIfInBounds_toArray, List.set_cons_succ, List.set_cons_zero])) | (refine w_store M 0 _ _ _ rfl rfl hx rfl hy rfl rfl (by decide +kernel) (by first | decide | simp | (simp; omega)) ?_; clear hx hy M; intro w1 M; (try simp only [List.set_cons_zero] at M); (try conv => arg 5; simp only [Act.put, List.setIfInBounds_toArray, List.set_cons_succ, List.set_cons_zero])) | (refine w_store M 1 _ _ _ rfl rfl hx rfl hy rfl rfl (by decide +kernel) (by first | decide | simp | (simp; omega)) ?_; clear hx hy M; intro w1 M; (try simp only [List.set_cons_succ, List.set_cons_zero] at M); (try conv => arg 5; simp only [Act.put, List.setIfInBounds_toArray, List.set_cons_succ, List.set_cons_zero])) | (refine w_storeR M 0 _ _ _ rfl rfl hx rfl _ hy rfl (by kernel_rfl) (by simp [Value.oneCell']) (by first | rfl | assumption) ?_; clear hx hy M; intro w1 M; (try simp only [List.set_cons_zero] at M); (try conv => arg 5; simp only [Act.put, List.setIfInBounds_toArray, List.set_cons_succ, List.set_cons_zero])) | (refine w_storeR M 1 _ _ _ rfl rfl hx rfl _ hy rfl (by kernel_rfl) (by simp [Value.oneCell']) (by first | rfl | assumption) ?_; clear hx hy M; intro w1 M; (try simp only [List.set_cons_succ, List.set_cons_zero] at M); (try conv => arg 5; simp only [Act.put, List.setIfInBounds_toArray, List.set_cons_succ, List.set_cons_zero])))) | ((with_reducible show wpList _ _ _ (Oper.mk _ (Op.box _ _) _ _ _ _ :: _) _ _); (refine w_box M _ _ rfl rfl _ rfl _ rfl ?_; clear M; intro g w1 M; (try conv => arg 5; simp only [Act.put, List.setIfInBounds_toArray, List.set_cons_succ, List.set_cons_zero]))))
      exact bodyPost_ret (results_row rfl _ _ go 0 (bs d) _ rfl (M.ok 0 _ rfl).2.1 Try.underlying74 rfl (by rw [bs_length, hd]; kernel_rfl)) rfl ⟨by rw [e], M.below⟩
end Go.Proofs.Ytjlkiopncclomaa

/- A call that hands a new slice on. No conditions. -/
namespace Go
namespace TL
open Go.RowKit
/-- An operation whose guard is decided. -/
theorem w_stripE {P : Program} {ops : Array Oper} {rest : List Oper} {a : Act} {w : World} {Q : Exit → Act → World → Prop} {dst : Option Tmp} {op : Op} {ty : TypeId} {pos : String} {after : Array Edge} {j : Nat} {want : Bool} (hb : ∃ b, yielded ops a.tmps j = some b ∧ b = want)
    (h : wpList P ops Q (Oper.mk dst op ty pos after none :: rest) a w) : wpList P ops Q (Oper.mk dst op ty pos after (some (j, want)) :: rest) a w :=
  let ⟨_, h1, h2⟩ := hb
  w_strip h1 h2 h
/-- An operation that is not wanted. -/
theorem w_skip1 {P : Program} {ops : Array Oper} {rest : List Oper} {a : Act} {w : World} {Q : Exit → Act → World → Prop} {dst : Option Tmp} {op : Op} {ty : TypeId} {pos : String} {after : Array Edge} {j : Nat} (hb : ∃ b, yielded ops a.tmps j = some b ∧ b = false)
    (h : wpList P ops Q rest (a.put dst undef) w) : wpList P ops Q (Oper.mk dst op ty pos after (some (j, true)) :: rest) a w :=
  let ⟨_, h1, h2⟩ := hb
  w_guard h1 (fun e => by subst h2; cases e) (fun _ => h)
theorem w_skip0 {P : Program} {ops : Array Oper} {rest : List Oper} {a : Act} {w : World} {Q : Exit → Act → World → Prop} {dst : Option Tmp} {op : Op} {ty : TypeId} {pos : String} {after : Array Edge} {j : Nat} (hb : ∃ b, yielded ops a.tmps j = some b ∧ b = true)
    (h : wpList P ops Q rest (a.put dst undef) w) : wpList P ops Q (Oper.mk dst op ty pos after (some (j, false)) :: rest) a w :=
  let ⟨_, h1, h2⟩ := hb
  w_guard h1 (fun e => by subst h2; cases e) (fun _ => h)
/-- What a callee made is handed on. -/
theorem Mem.join {F : List Nat} {w0 w w' : World} {L K : List Chunk} (M : Mem F w0 w L) (N : Mem [] w w' K) : Mem F w0 w' (K ++ L) := by
  have M' := M.call N.below
  have key : ∀ (i : Nat) (c : Chunk), K[i]? = some c → ∀ k ∈ c.fp, w.heap.size ≤ k := fun i c hc k hk => (N.own i c hc k hk).resolve_left (by simp)
  refine ⟨M'.kept, fun i c hc => ?_, fun i c hc k hk => ?_, fun i j c d hij hi hj k hk hk2 => ?_⟩
  · rw [List.getElem?_append] at hc; split at hc
    · exact N.ok i c hc
    · exact M'.ok _ c hc
  · rw [List.getElem?_append] at hc; split at hc
    · exact .inr (Nat.le_trans M.kept.size (key i c hc k hk))
    · exact M'.own _ c hc k hk
  · rw [List.getElem?_append] at hi hj; split at hi <;> split at hj
    · exact N.nd i j c d hij hi hj k hk hk2
    · have := key i c hi k hk; have := (M.ok _ d hj).lt k hk2; omega
    · have := key j d hj k hk2; have := (M.ok _ c hi).lt k hk; omega
    · exact M.nd _ _ c d (by omega) hi hj k hk hk2
/-- A call that hands a new slice on. -/
def Gives {α : Type} (size : Nat) (f : α → List Value) (l : List α) (r : Value → Value) (w : World) (e : Ending) (w' : World) : Prop := ∃ p cap, e = .returned (r (.slice p l.length cap)) ∧ Mem [] w w' [.sl size (.slice p l.length cap) l.length (l.flatMap f)]
theorem Gives.intro {α : Type} {size : Nat} {f : α → List Value} {l : List α} {r : Value → Value} {w w' : World} {p : Option Addr} {cap : Nat} {L : List Chunk} (M : Mem [] w w' (.sl size (.slice p l.length cap) l.length (l.flatMap f) :: L)) : Gives size f l r w (.returned (r (.slice p l.length cap))) w' :=
  ⟨p, cap, rfl, M.pick _ id (fun _ _ _ _ h => h) (fun i c h => by cases i with | zero => exact h | succ i => simp at h)⟩
theorem Gives.below {α : Type} {size : Nat} {f : α → List Value} {l : List α} {r : Value → Value} {w w' : World} {e : Ending} (h : Gives size f l r w e w') : Below w.heap.size w w' := by
  obtain ⟨p, cap, _, M⟩ := h; exact M.below
theorem Gives.at {α : Type} {size : Nat} {f : α → List Value} {l : List α} {r : Value → Value} {w w' : World} {p : Option Addr} {cap : Nat} {L : List Chunk} (M : Mem [] w w' L) (i : Nat) (hi : L[i]? = some (.sl size (.slice p l.length cap) l.length (l.flatMap f))) : Gives size f l r w (.returned (r (.slice p l.length cap))) w' :=
  ⟨p, cap, rfl, M.pick _ (fun j => i + j) (fun _ _ _ _ h => by omega) (fun j c h => by cases j with | zero => simp at h; subst h; exact hi | succ j => simp at h)⟩
end TL
end Go

/- The walk of aes.Stream. Conditions: lengths. -/
namespace Go
namespace TL
theorem sees_of {w : World} {v : Value} {n : Nat} {l : List UInt8} (h : (Chunk.sl 1 v n (bs l)).ok w) (e : n = l.length) : SeesB w v l := by subst e; exact Own.sees h
theorem nonce_in (nonce : List UInt8) (h : nonce.length = 12) : (List.replicate 16 (0 : UInt8)).take 0 ++ ((((nonce.drop 0).take 12)).take 12 ++ (List.replicate 16 0).drop (0 + 12)) = nonce ++ List.replicate 4 0 := by
  have e : (nonce.take 12).take 12 = nonce := by rw [List.take_take, Nat.min_self, List.take_of_length_le (by omega)]
  rw [List.take_zero, List.nil_append, List.drop_zero, e]; rfl
theorem count_in (nonce big : List UInt8) (h : nonce.length = 12) (hb : big.length = 4) : (nonce ++ List.replicate 4 (0 : UInt8)).take 12 ++ (big.take 4 ++ (nonce ++ List.replicate 4 0).drop (12 + 4)) = nonce ++ big := by
  rw [List.take_left' h, List.take_of_length_le (by omega), List.drop_eq_nil_of_le (by simp; omega), List.append_nil]
end TL
end Go
namespace Go.Proofs.Ytjlkiopncclomaa
open Go.RowKit Go.TL
set_option maxRecDepth 100000 in
set_option maxHeartbeats 4000000 in
theorem Stream_c (key nonce text : List UInt8) (w : World) (hk : key.length = 32) (hn : nonce.length = 12) (ht : text.length ≤ 1000000) :
    Calls Try.prog 17 #[.agg (bs key).toArray, .agg (bs nonce).toArray, .string (mkS text)] w fun e w' => e = .returned (.string (mkS (streamL key nonce text))) ∧ Below w.heap.size w w' := by
  have M := Mem.start [] w
  have SC := fun w => schedule_c key w hk
  have hs := boxL_len
  have hW := schL_len boxL key hk
  have SL : streamL key nonce text = strN boxL (schL boxL key) nonce ((text.length + 15) / 16) text := rfl
  obtain ⟨W, eW⟩ : ∃ W, W = schL boxL key := ⟨_, rfl⟩
  rw [← eW] at SC hW SL
  obtain ⟨s, es⟩ : ∃ s, s = boxL := ⟨_, rfl⟩
  rw [← es] at SC hs SL
  obtain ⟨r, er⟩ : ∃ r, r = streamL key nonce text := ⟨_, rfl⟩
  rw [← er] at SL
  rw [← er]
  replace SL := Lib.hid fun _ : Unit => SL
  replace SC := Lib.hid SC
  clear eW es er
  obtain ⟨N, eN⟩ : ∃ N, N = text.length := ⟨_, rfl⟩
  have hWs : (W ++ s).length = 496 := by rw [List.length_append, hW, hs]
  have SN : ∀ n, (strN s W nonce n text).length = N := fun n => by rw [strN_len]; exact eN.symm
  replace SN := Lib.hid SN
  go_enter Try.func17, Try.ntmps17
  go_wp2_with (first | ((with_reducible show wpList _ _ _ (Oper.mk (some 3) (Op.box _ _) _ _ _ _ :: _) _ _); refine w_box M _ _ rfl rfl _ rfl (bs key) rfl ?_; clear M; intro gk w1 M; (try conv => arg 5; simp only [Act.put, List.setIfInBounds_toArray, List.set_cons_succ, List.set_cons_zero])) | ((with_reducible show wpList _ _ _ (Oper.mk (some 4) (Op.box _ _) _ _ _ _ :: _) _ _); refine w_box M _ _ rfl rfl _ rfl (bs nonce) rfl ?_; clear M; intro gn w1 M; (try conv => arg 5; simp only [Act.put, List.setIfInBounds_toArray, List.set_cons_succ, List.set_cons_zero])) | (go_at_call 40; go_must (refine (SC.out _).mono ?_; rintro e w1 ⟨gc, rfl, MP⟩; replace M := M.join MP; clear MP; simp only [List.cons_append, List.nil_append] at M)) | ((with_reducible show wpList _ _ _ (Oper.mk (some 16) (Op.convert 9 45 _) _ _ _ _ :: _) _ _); go_must (refine w_bytes M _ _ _ _ rfl rfl rfl Try.underlying9 Try.underlying45 Try.underlying5 (by first | omega | (simp; omega)) ?_; clear M; intro gb capgb w1 hcapgb M; (try conv => arg 5; simp only [Act.put, List.setIfInBounds_toArray, List.set_cons_succ, List.set_cons_zero]))) | ((with_reducible show wpList _ _ _ (Oper.mk _ _ _ _ _ (some _) :: _) _ _); first | refine w_strip rfl (by with_reducible rfl) ?_ | ((fail_if_success (refine w_lit false rfl (by with_reducible rfl) ?_)); (fail_if_success (refine w_lit true rfl (by with_reducible rfl) ?_)); refine w_case rfl ?_ ?_ <;> (intro hgd; rw [hgd]; try (exfalso; simp at hgd; omega)))) | ((with_reducible show wpList _ _ _ (Oper.mk _ (Op.convert 45 9 _) _ _ _ _ :: _) _ _); go_must (first | (refine w_stringW M 0 _ _ _ _ rfl rfl rfl rfl (by first | assumption | exact shaL_len _ | exact macL_len _ _ | exact words_len _ | exact List.length_replicate | (rw [List.length_set]; first | assumption | exact List.length_replicate) | rfl) (by decide) Try.underlying45 Try.underlying5 Try.underlying9 ?_; (try conv => arg 5; simp only [Act.put, List.setIfInBounds_toArray, List.set_cons_succ, List.set_cons_zero])) | (refine w_stringW M 1 _ _ _ _ rfl rfl rfl rfl (by first | assumption | exact shaL_len _ | exact macL_len _ _ | exact words_len _ | exact List.length_replicate | (rw [List.length_set]; first | assumption | exact List.length_replicate) | rfl) (by decide) Try.underlying45 Try.underlying5 Try.underlying9 ?_; (try conv => arg 5; simp only [Act.put, List.setIfInBounds_toArray, List.set_cons_succ, List.set_cons_zero])) | (refine w_stringW M 2 _ _ _ _ rfl rfl rfl rfl (by first | assumption | exact shaL_len _ | exact macL_len _ _ | exact words_len _ | exact List.length_replicate | (rw [List.length_set]; first | assumption | exact List.length_replicate) | rfl) (by decide) Try.underlying45 Try.underlying5 Try.underlying9 ?_; (try conv => arg 5; simp only [Act.put, List.setIfInBounds_toArray, List.set_cons_succ, List.set_cons_zero])) | (refine w_string M 0 _ _ _ _ rfl rfl rfl (by first | rfl | (simp; done) | assumption) rfl Try.underlying45 Try.underlying5 Try.underlying9 ?_; (try conv => arg 5; simp only [Act.put, List.setIfInBounds_toArray, List.set_cons_succ, List.set_cons_zero])) | (refine w_string M 1 _ _ _ _ rfl rfl rfl (by first | rfl | (simp; done) | assumption) rfl Try.underlying45 Try.underlying5 Try.underlying9 ?_; (try conv => arg 5; simp only [Act.put, List.setIfInBounds_toArray, List.set_cons_succ, List.set_cons_zero])) | (refine w_string M 2 _ _ _ _ rfl rfl rfl (by first | rfl | (simp; done) | assumption) rfl Try.underlying45 Try.underlying5 Try.underlying9 ?_; (try conv => arg 5; simp only [Act.put, List.setIfInBounds_toArray, List.set_cons_succ, List.set_cons_zero])))) | ((with_reducible show wpList _ _ _ (Oper.mk _ (Op.load _ _) _ _ _ _ :: _) _ _); go_must (refine w_at _ _ rfl (by first | exact ev_tmp rfl | exact ev_const) ?_; intro hx; first | (refine w_load M 0 _ _ rfl rfl hx rfl (by decide +kernel) rfl ?_; clear hx; (try conv => arg 5; simp only [Act.put, List.setIfInBounds_toArray, List.set_cons_succ, List.set_cons_zero])) | (refine w_load M 1 _ _ rfl rfl hx rfl (by decide +kernel) rfl ?_; clear hx; (try conv => arg 5; simp only [Act.put, List.setIfInBounds_toArray, List.set_cons_succ, List.set_cons_zero])) | (refine w_load M 2 _ _ rfl rfl hx rfl (by decide +kernel) rfl ?_; clear hx; (try conv => arg 5; simp only [Act.put, List.setIfInBounds_toArray, List.set_cons_succ, List.set_cons_zero])) | (refine w_loadB M 0 _ _ rfl rfl hx rfl (by decide +kernel) (by first | assumption | omega | (simp; omega)) ?_; clear hx; (try conv => arg 5; simp only [Act.put, List.setIfInBounds_toArray, List.set_cons_succ, List.set_cons_zero])) | (refine w_loadB M 1 _ _ rfl rfl hx rfl (by decide +kernel) (by first | assumption | omega | (simp; omega)) ?_; clear hx; (try conv => arg 5; simp only [Act.put, List.setIfInBounds_toArray, List.set_cons_succ, List.set_cons_zero])) | (refine w_loadB M 2 _ _ rfl rfl hx rfl (by decide +kernel) (by first | assumption | omega | (simp; omega)) ?_; clear hx; (try conv => arg 5; simp only [Act.put, List.setIfInBounds_toArray, List.set_cons_succ, List.set_cons_zero])) | (refine w_loadH M 0 _ _ rfl rfl hx rfl (by decide +kernel) (by first | assumption | exact shaL_len _ | exact macL_len _ _ | exact words_len _ | exact List.length_replicate | (rw [List.length_set]; first | assumption | exact List.length_replicate) | rfl) (by decide +kernel) ?_; clear hx; (try conv => arg 5; simp only [Act.put, List.setIfInBounds_toArray, List.set_cons_succ, List.set_cons_zero])) | (refine w_loadH M 1 _ _ rfl rfl hx rfl (by decide +kernel) (by first | assumption | exact shaL_len _ | exact macL_len _ _ | exact words_len _ | exact List.length_replicate | (rw [List.length_set]; first | assumption | exact List.length_replicate) | rfl) (by decide +kernel) ?_; clear hx; (try conv => arg 5; simp only [Act.put, List.setIfInBounds_toArray, List.set_cons_succ, List.set_cons_zero])) | (refine w_loadH M 2 _ _ rfl rfl hx rfl (by decide +kernel) (by first | assumption | exact shaL_len _ | exact macL_len _ _ | exact words_len _ | exact List.length_replicate | (rw [List.length_set]; first | assumption | exact List.length_replicate) | rfl) (by decide +kernel) ?_; clear hx; (try conv => arg 5; simp only [Act.put, List.setIfInBounds_toArray, List.set_cons_succ, List.set_cons_zero])) | (refine w_loadR M 0 _ _ rfl rfl hx rfl (by decide +kernel) (by kernel_rfl) ?_; clear hx; (try conv => arg 5; simp only [Act.put, List.setIfInBounds_toArray, List.set_cons_succ, List.set_cons_zero])) | (refine w_loadR M 1 _ _ rfl rfl hx rfl (by decide +kernel) (by kernel_rfl) ?_; clear hx; (try conv => arg 5; simp only [Act.put, List.setIfInBounds_toArray, List.set_cons_succ, List.set_cons_zero])) | (refine w_loadR M 2 _ _ rfl rfl hx rfl (by decide +kernel) (by kernel_rfl) ?_; clear hx; (try conv => arg 5; simp only [Act.put, List.setIfInBounds_toArray, List.set_cons_succ, List.set_cons_zero])))) | ((with_reducible show wpList _ _ _ (Oper.mk _ (Op.store _ _ _) _ _ _ _ :: _) _ _); go_must (refine w_at2 _ _ _ rfl (by first | exact ev_tmp rfl | exact ev_const) (by first | exact ev_tmp rfl | exact ev_const) ?_; intro hx hy; first | (refine w_storeB M 0 _ _ _ rfl rfl hx rfl hy (by decide +kernel) (by first | assumption | omega | (simp; omega)) ?_; clear hx hy M; intro w1 M; (try simp only [List.set_cons_zero] at M); (try conv => arg 5; simp only [Act.put, List.setIfInBounds_toArray, List.set_cons_succ, List.set_cons_zero])) | (refine w_storeB M 1 _ _ _ rfl rfl hx rfl hy (by decide +kernel) (by first | assumption | omega | (simp; omega)) ?_; clear hx hy M; intro w1 M; (try simp only [List.set_cons_succ, List.set_cons_zero] at M); (try conv => arg 5; simp only [Act.put, List.setIfInBounds_toArray, List.set_cons_succ, List.set_cons_zero])) | (refine w_storeB M 2 _ _ _ rfl rfl hx rfl hy (by decide +kernel) (by first | assumption | omega | (simp; omega)) ?_; clear hx hy M; intro w1 M; (try simp only [List.set_cons_succ, List.set_cons_zero] at M); (try conv => arg 5; simp only [Act.put, List.setIfInBounds_toArray, List.set_cons_succ, List.set_cons_zero])) | (refine w_storeH M 0 _ _ _ rfl rfl hx rfl hy (by first | assumption | exact shaL_len _ | exact macL_len _ _ | exact words_len _ | exact List.length_replicate | (rw [List.length_set]; first | assumption | exact List.length_replicate) | rfl) (by decide +kernel) (by first | assumption | exact shaL_len _ | exact macL_len _ _ | exact words_len _ | exact List.length_replicate | (rw [List.length_set]; first | assumption | exact List.length_replicate) | rfl) ?_; clear hx hy M; intro w1 M; (try simp only [List.set_cons_zero] at M); (try conv => arg 5; simp only [Act.put, List.setIfInBounds_toArray, List.set_cons_succ, List.set_cons_zero])) | (refine w_storeH M 1 _ _ _ rfl rfl hx rfl hy (by first | assumption | exact shaL_len _ | exact macL_len _ _ | exact words_len _ | exact List.length_replicate | (rw [List.length_set]; first | assumption | exact List.length_replicate) | rfl) (by decide +kernel) (by first | assumption | exact shaL_len _ | exact macL_len _ _ | exact words_len _ | exact List.length_replicate | (rw [List.length_set]; first | assumption | exact List.length_replicate) | rfl) ?_; clear hx hy M; intro w1 M; (try simp only [List.set_cons_succ, List.set_cons_zero] at M); (try conv => arg 5; simp only [Act.put, List.setIfInBounds_toArray, List.set_cons_succ, List.set_cons_zero])) | (refine w_storeH M 2 _ _ _ rfl rfl hx rfl hy (by first | assumption | exact shaL_len _ | exact macL_len _ _ | exact words_len _ | exact List.length_replicate | (rw [List.length_set]; first | assumption | exact List.length_replicate) | rfl) (by decide +kernel) (by first | assumption | exact shaL_len _ | exact macL_len _ _ | exact words_len _ | exact List.length_replicate | (rw [List.length_set]; first | assumption | exact List.length_replicate) | rfl) ?_; clear hx hy M; intro w1 M; (try simp only [List.set_cons_succ, List.set_cons_zero] at M); (try conv => arg 5; simp only [Act.put, List.setIfInBounds_toArray, List.set_cons_succ, List.set_cons_zero])) | (refine w_store M 0 _ _ _ rfl rfl hx rfl hy rfl rfl (by decide +kernel) (by first | decide | simp | (simp; omega)) ?_; clear hx hy M; intro w1 M; (try simp only [List.set_cons_zero] at M); (try conv => arg 5; simp only [Act.put, List.setIfInBounds_toArray, List.set_cons_succ, List.set_cons_zero])) | (refine w_store M 1 _ _ _ rfl rfl hx rfl hy rfl rfl (by decide +kernel) (by first | decide | simp | (simp; omega)) ?_; clear hx hy M; intro w1 M; (try simp only [List.set_cons_succ, List.set_cons_zero] at M); (try conv => arg 5; simp only [Act.put, List.setIfInBounds_toArray, List.set_cons_succ, List.set_cons_zero])) | (refine w_store M 2 _ _ _ rfl rfl hx rfl hy rfl rfl (by decide +kernel) (by first | decide | simp | (simp; omega)) ?_; clear hx hy M; intro w1 M; (try simp only [List.set_cons_succ, List.set_cons_zero] at M); (try conv => arg 5; simp only [Act.put, List.setIfInBounds_toArray, List.set_cons_succ, List.set_cons_zero])) | (refine w_storeR M 0 _ _ _ rfl rfl hx rfl _ hy rfl (by kernel_rfl) (by simp [Value.oneCell']) (by first | rfl | assumption) ?_; clear hx hy M; intro w1 M; (try simp only [List.set_cons_zero] at M); (try conv => arg 5; simp only [Act.put, List.setIfInBounds_toArray, List.set_cons_succ, List.set_cons_zero])) | (refine w_storeR M 1 _ _ _ rfl rfl hx rfl _ hy rfl (by kernel_rfl) (by simp [Value.oneCell']) (by first | rfl | assumption) ?_; clear hx hy M; intro w1 M; (try simp only [List.set_cons_succ, List.set_cons_zero] at M); (try conv => arg 5; simp only [Act.put, List.setIfInBounds_toArray, List.set_cons_succ, List.set_cons_zero])) | (refine w_storeR M 2 _ _ _ rfl rfl hx rfl _ hy rfl (by kernel_rfl) (by simp [Value.oneCell']) (by first | rfl | assumption) ?_; clear hx hy M; intro w1 M; (try simp only [List.set_cons_succ, List.set_cons_zero] at M); (try conv => arg 5; simp only [Act.put, List.setIfInBounds_toArray, List.set_cons_succ, List.set_cons_zero])))) | ((with_reducible show wpList _ _ _ (Oper.mk _ (Op.box _ _) _ _ _ _ :: _) _ _); (refine w_box M _ _ rfl rfl _ rfl _ rfl ?_; clear M; intro g w1 M; (try conv => arg 5; simp only [Act.put, List.setIfInBounds_toArray, List.set_cons_succ, List.set_cons_zero]))))
  rw [← eN] at M
  rw [← eN]
  have hc2 : N ≤ capgb := by omega
  have hN : N ≤ 1000000 := by omega
  replace eN := Lib.hid fun _ : Unit => eN
  clear ht
  clear hcapgb
  go_loopw [9] (fun kv wr => ∃ n : Nat, 16 * n < N + 16 ∧ kv = .int .i64 (16 * (n : Int)) ∧ Mem [] w wr [.sl 1 (.slice (some ⟨gb, 0, none⟩) N capgb) N (bs (strN s W nonce n text)), .row gc (bs (W ++ s)), .row gn (bs nonce), .row gk (bs key)]) (fun kv _ => N + 16 - (intOf kv).toNat)
  case atStart => exact ⟨0, by omega, rfl, M⟩
  case round =>
    clear M
    obtain ⟨n, hn16, rfl, M⟩ := hrel
    have hd := SN.out n
    obtain ⟨d, ed⟩ : ∃ d, d = strN s W nonce n text := ⟨_, rfl⟩
    rw [← ed] at M hd
    have ED := Lib.hid fun _ : Unit => ed
    clear ed
    by_cases hlt : 16 * n < N
    · have hI : (16 * (n : Int)) < (N : Int) := by omega
      have SE : strB s W nonce n d = iterN (xorB (blockL s W (nonce ++ bigB (UInt64.ofNat n) 4)) (16 * n)) (min 16 (d.length - 16 * n)) d := rfl
      have hbig := bigB_length (UInt64.ofNat n) 4
      have CI := count_in nonce (bigB (UInt64.ofNat n) 4) hn hbig
      have AP := fun (w : World) hok => aesPutc (.slice none 0 0) [] (UInt64.ofNat n) 4 w hok (by omega) (by simp)
      rw [List.nil_append] at AP
      obtain ⟨big, ebig⟩ : ∃ b, b = bigB (UInt64.ofNat n) 4 := ⟨_, rfl⟩
      rw [← ebig] at SE hbig CI AP
      rw [hbig] at AP
      clear ebig
      have BC := fun (w : World) RR => block_c gc s W (nonce ++ big) w RR hW hs (by rw [List.length_append, hn, hbig])
      have hol := blockL_len s W (nonce ++ big) (by rw [List.length_append, hn, hbig])
      obtain ⟨o, eo⟩ : ∃ o, o = blockL s W (nonce ++ big) := ⟨_, rfl⟩
      rw [← eo] at SE BC hol
      clear eo
      have NI := nonce_in nonce hn
      have hin1 : (nonce ++ List.replicate 4 (0 : UInt8)).length = 16 := by simp [hn]
      have hin2 : (nonce ++ big).length = 16 := by rw [List.length_append, hn, hbig]
      replace SE := Lib.hid fun _ : Unit => SE
      replace CI := Lib.hid fun _ : Unit => CI
      replace NI := Lib.hid fun _ : Unit => NI
      replace AP := Lib.hid AP
      replace BC := Lib.hid BC
      have hz : (List.replicate 16 (0 : UInt8)).length = 16 := List.length_replicate
      have hq : (16 * (n : Int)) / 16 = n := by omega
      go_wp2_with (first | ((with_reducible show wpList _ _ _ (Oper.mk (some 10) (Op.alloc 74) _ _ _ _ :: _) _ _); refine w_alloc M _ rfl rfl (.agg (Array.replicate 16 (.int .u8 0))) (bs (List.replicate 16 (0 : UInt8))) (by kernel_rfl) rfl ?_; clear M; intro gi w1 M; (try conv => arg 5; simp only [Act.put, List.setIfInBounds_toArray, List.set_cons_succ, List.set_cons_zero])) | ((with_reducible show Code.wp _ (Code.region 7 _ _) _ _ _); go_must (refine region_det [(0, false), (1, false), (2, true)] [] (by kernel_rfl) (by kernel_rfl) rfl (by kernel_rfl) ?_; replace M := M.drew; simp only [reord, opAt, List.map_cons, List.map_nil, List.getElem?_toArray, List.getElem?_cons_zero, List.getElem?_cons_succ, Option.getD_some])) | ((with_reducible show Code.wp _ (Code.region 8 _ _) _ _ _); go_must (refine region_det [(0, false), (1, false), (2, false), (3, false), (4, true), (5, true)] [(27, .int), (28, .int)] (by kernel_rfl) (by kernel_rfl) rfl (by kernel_rfl) ?_; replace M := M.drew; simp only [reord, opAt, List.map_cons, List.map_nil, List.getElem?_toArray, List.getElem?_cons_zero, List.getElem?_cons_succ, Option.getD_some])) | ((with_reducible show wpList _ _ _ (Oper.mk _ (Op.call ⟨Callee.builtin Builtin.copy, _, _⟩) _ _ _ _ :: _) _ _); go_must (first | (refine w_copyB M 0 bytesT _ _ _ rfl rfl rfl rfl rfl (row_sees (M.ok 3 _ rfl) (by omega) (Nat.le_refl _) (by simp only [maxLen]; omega)) 12 (by simp; omega) (by omega) ?_; clear M; intro w1 M; simp only [List.set_cons_zero] at M; rw [NI.out ()] at M) | (refine w_copyB M 1 bytesT _ _ _ rfl rfl rfl rfl rfl (sees_of (M.ok 0 _ rfl) hbig.symm) 4 (by omega) (by omega) ?_; clear M; intro w1 M; simp only [List.set_cons_succ, List.set_cons_zero] at M; rw [CI.out ()] at M; replace M := M.tail))) | (go_at_call 41; go_must (replace M := M.nil 1; refine (AP.out _ (M.ok 0 _ rfl)).mono ?_; rintro e w1 ⟨p, c, rfl, U⟩; replace M := M.upd 0 rfl U; clear U; simp only [List.set_cons_zero] at M)) | (go_at_call 42; go_must (refine (BC.out _ (M.ok 2 _ rfl)).mono ?_; rintro e w1 ⟨rfl, hb⟩; replace M := M.call hb; clear hb)) | ((with_reducible show wpList _ _ _ (Oper.mk (some 11) (Op.alloc 74) _ _ _ _ :: _) _ _); refine w_alloc M _ rfl rfl (.agg (Array.replicate 16 (.int .u8 0))) (bs (List.replicate 16 (0 : UInt8))) (by kernel_rfl) rfl ?_; clear M; intro go w1 M; (try conv => arg 5; simp only [Act.put, List.setIfInBounds_toArray, List.set_cons_succ, List.set_cons_zero])) | ((with_reducible show Seg _ _ _ _); go_must (first | refine Seg.intro ⟨fun h => absurd rfl h, ?_⟩ | refine Seg.intro ⟨fun _ => (by repeat' (first | exact ixOk_nil M.kept | refine ixOk_cons rfl (by first | exact M.ok 0 _ rfl | exact M.ok 1 _ rfl | exact M.ok 2 _ rfl | exact M.ok 3 _ rfl) ?_)), ?_⟩ | refine Seg.intro ⟨(by repeat' (first | (with_reducible exact needs_nil) | refine needs_at rfl (by first | (show Shape.ok Shape.nums _ = true; exact nums_bs _) | rfl) ?_)), (by repeat' (first | (with_reducible exact ats_nil) | refine ats_cons (by first | exact ev_tmp rfl | rfl) ?_)), ?_⟩)) | ((with_reducible show OnlyN _ _ _ _ _); refine OnlyN.intro (by kernel_rfl) ?_) | ((with_reducible show wpList _ _ _ (Oper.mk _ _ _ _ _ (some _) :: _) _ _); first | refine w_strip rfl (by with_reducible rfl) ?_ | ((fail_if_success (refine w_lit false rfl (by with_reducible rfl) ?_)); (fail_if_success (refine w_lit true rfl (by with_reducible rfl) ?_)); refine w_case rfl ?_ ?_ <;> (intro hgd; rw [hgd]; try (exfalso; simp at hgd; omega)))) | ((with_reducible show wpList _ _ _ (Oper.mk _ (Op.convert 45 9 _) _ _ _ _ :: _) _ _); go_must (first | (refine w_stringW M 0 _ _ _ _ rfl rfl rfl rfl (by first | assumption | exact shaL_len _ | exact macL_len _ _ | exact words_len _ | exact List.length_replicate | (rw [List.length_set]; first | assumption | exact List.length_replicate) | rfl) (by decide) Try.underlying45 Try.underlying5 Try.underlying9 ?_; (try conv => arg 5; simp only [Act.put, List.setIfInBounds_toArray, List.set_cons_succ, List.set_cons_zero])) | (refine w_stringW M 1 _ _ _ _ rfl rfl rfl rfl (by first | assumption | exact shaL_len _ | exact macL_len _ _ | exact words_len _ | exact List.length_replicate | (rw [List.length_set]; first | assumption | exact List.length_replicate) | rfl) (by decide) Try.underlying45 Try.underlying5 Try.underlying9 ?_; (try conv => arg 5; simp only [Act.put, List.setIfInBounds_toArray, List.set_cons_succ, List.set_cons_zero])) | (refine w_string M 0 _ _ _ _ rfl rfl rfl (by first | rfl | (simp; done) | assumption) rfl Try.underlying45 Try.underlying5 Try.underlying9 ?_; (try conv => arg 5; simp only [Act.put, List.setIfInBounds_toArray, List.set_cons_succ, List.set_cons_zero])) | (refine w_string M 1 _ _ _ _ rfl rfl rfl (by first | rfl | (simp; done) | assumption) rfl Try.underlying45 Try.underlying5 Try.underlying9 ?_; (try conv => arg 5; simp only [Act.put, List.setIfInBounds_toArray, List.set_cons_succ, List.set_cons_zero])))) | ((with_reducible show wpList _ _ _ (Oper.mk _ (Op.load _ _) _ _ _ _ :: _) _ _); go_must (refine w_at _ _ rfl (by first | exact ev_tmp rfl | exact ev_const) ?_; intro hx; first | (refine w_load M 0 _ _ rfl rfl hx rfl (by decide +kernel) rfl ?_; clear hx; (try conv => arg 5; simp only [Act.put, List.setIfInBounds_toArray, List.set_cons_succ, List.set_cons_zero])) | (refine w_load M 1 _ _ rfl rfl hx rfl (by decide +kernel) rfl ?_; clear hx; (try conv => arg 5; simp only [Act.put, List.setIfInBounds_toArray, List.set_cons_succ, List.set_cons_zero])) | (refine w_loadB M 0 _ _ rfl rfl hx rfl (by decide +kernel) (by first | assumption | omega | (simp; omega)) ?_; clear hx; (try conv => arg 5; simp only [Act.put, List.setIfInBounds_toArray, List.set_cons_succ, List.set_cons_zero])) | (refine w_loadB M 1 _ _ rfl rfl hx rfl (by decide +kernel) (by first | assumption | omega | (simp; omega)) ?_; clear hx; (try conv => arg 5; simp only [Act.put, List.setIfInBounds_toArray, List.set_cons_succ, List.set_cons_zero])) | (refine w_loadH M 0 _ _ rfl rfl hx rfl (by decide +kernel) (by first | assumption | exact shaL_len _ | exact macL_len _ _ | exact words_len _ | exact List.length_replicate | (rw [List.length_set]; first | assumption | exact List.length_replicate) | rfl) (by decide +kernel) ?_; clear hx; (try conv => arg 5; simp only [Act.put, List.setIfInBounds_toArray, List.set_cons_succ, List.set_cons_zero])) | (refine w_loadH M 1 _ _ rfl rfl hx rfl (by decide +kernel) (by first | assumption | exact shaL_len _ | exact macL_len _ _ | exact words_len _ | exact List.length_replicate | (rw [List.length_set]; first | assumption | exact List.length_replicate) | rfl) (by decide +kernel) ?_; clear hx; (try conv => arg 5; simp only [Act.put, List.setIfInBounds_toArray, List.set_cons_succ, List.set_cons_zero])) | (refine w_loadR M 0 _ _ rfl rfl hx rfl (by decide +kernel) (by kernel_rfl) ?_; clear hx; (try conv => arg 5; simp only [Act.put, List.setIfInBounds_toArray, List.set_cons_succ, List.set_cons_zero])) | (refine w_loadR M 1 _ _ rfl rfl hx rfl (by decide +kernel) (by kernel_rfl) ?_; clear hx; (try conv => arg 5; simp only [Act.put, List.setIfInBounds_toArray, List.set_cons_succ, List.set_cons_zero])))) | ((with_reducible show wpList _ _ _ (Oper.mk _ (Op.store _ _ _) _ _ _ _ :: _) _ _); go_must (refine w_at2 _ _ _ rfl (by first | exact ev_tmp rfl | exact ev_const) (by first | exact ev_tmp rfl | exact ev_const) ?_; intro hx hy; first | (refine w_storeB M 0 _ _ _ rfl rfl hx rfl hy (by decide +kernel) (by first | assumption | omega | (simp; omega)) ?_; clear hx hy M; intro w1 M; (try simp only [List.set_cons_zero] at M); (try conv => arg 5; simp only [Act.put, List.setIfInBounds_toArray, List.set_cons_succ, List.set_cons_zero])) | (refine w_storeB M 1 _ _ _ rfl rfl hx rfl hy (by decide +kernel) (by first | assumption | omega | (simp; omega)) ?_; clear hx hy M; intro w1 M; (try simp only [List.set_cons_succ, List.set_cons_zero] at M); (try conv => arg 5; simp only [Act.put, List.setIfInBounds_toArray, List.set_cons_succ, List.set_cons_zero])) | (refine w_storeH M 0 _ _ _ rfl rfl hx rfl hy (by first | assumption | exact shaL_len _ | exact macL_len _ _ | exact words_len _ | exact List.length_replicate | (rw [List.length_set]; first | assumption | exact List.length_replicate) | rfl) (by decide +kernel) (by first | assumption | exact shaL_len _ | exact macL_len _ _ | exact words_len _ | exact List.length_replicate | (rw [List.length_set]; first | assumption | exact List.length_replicate) | rfl) ?_; clear hx hy M; intro w1 M; (try simp only [List.set_cons_zero] at M); (try conv => arg 5; simp only [Act.put, List.setIfInBounds_toArray, List.set_cons_succ, List.set_cons_zero])) | (refine w_storeH M 1 _ _ _ rfl rfl hx rfl hy (by first | assumption | exact shaL_len _ | exact macL_len _ _ | exact words_len _ | exact List.length_replicate | (rw [List.length_set]; first | assumption | exact List.length_replicate) | rfl) (by decide +kernel) (by first | assumption | exact shaL_len _ | exact macL_len _ _ | exact words_len _ | exact List.length_replicate | (rw [List.length_set]; first | assumption | exact List.length_replicate) | rfl) ?_; clear hx hy M; intro w1 M; (try simp only [List.set_cons_succ, List.set_cons_zero] at M); (try conv => arg 5; simp only [Act.put, List.setIfInBounds_toArray, List.set_cons_succ, List.set_cons_zero])) | (refine w_store M 0 _ _ _ rfl rfl hx rfl hy rfl rfl (by decide +kernel) (by first | decide | simp | (simp; omega)) ?_; clear hx hy M; intro w1 M; (try simp only [List.set_cons_zero] at M); (try conv => arg 5; simp only [Act.put, List.setIfInBounds_toArray, List.set_cons_succ, List.set_cons_zero])) | (refine w_store M 1 _ _ _ rfl rfl hx rfl hy rfl rfl (by decide +kernel) (by first | decide | simp | (simp; omega)) ?_; clear hx hy M; intro w1 M; (try simp only [List.set_cons_succ, List.set_cons_zero] at M); (try conv => arg 5; simp only [Act.put, List.setIfInBounds_toArray, List.set_cons_succ, List.set_cons_zero])) | (refine w_storeR M 0 _ _ _ rfl rfl hx rfl _ hy rfl (by kernel_rfl) (by simp [Value.oneCell']) (by first | rfl | assumption) ?_; clear hx hy M; intro w1 M; (try simp only [List.set_cons_zero] at M); (try conv => arg 5; simp only [Act.put, List.setIfInBounds_toArray, List.set_cons_succ, List.set_cons_zero])) | (refine w_storeR M 1 _ _ _ rfl rfl hx rfl _ hy rfl (by kernel_rfl) (by simp [Value.oneCell']) (by first | rfl | assumption) ?_; clear hx hy M; intro w1 M; (try simp only [List.set_cons_succ, List.set_cons_zero] at M); (try conv => arg 5; simp only [Act.put, List.setIfInBounds_toArray, List.set_cons_succ, List.set_cons_zero])))) | ((with_reducible show wpList _ _ _ (Oper.mk _ (Op.box _ _) _ _ _ _ :: _) _ _); (refine w_box M _ _ rfl rfl _ rfl _ rfl ?_; clear M; intro g w1 M; (try conv => arg 5; simp only [Act.put, List.setIfInBounds_toArray, List.set_cons_succ, List.set_cons_zero]))))
      all_goals
        obtain ⟨c', hc1, hc3, hc4, hc5, hc7⟩ : ∃ c' : Nat, c' = min 16 (N - 16 * n) ∧ 16 * n + c' ≤ N ∧ c' ≤ 16 ∧ (16 * (n : Int) + 16 ≤ N → c' = 16) ∧ (N ≤ 16 * n + c' ∨ c' = 16) := ⟨_, rfl, by omega, by omega, by omega, by omega⟩
        replace SE := SE.out ()
        rw [hd, ← hc1] at SE
        replace SE := Lib.hid fun _ : Unit => SE
        clear hc1
        go_loopw [40] (fun kv wr => ∃ k : Nat, k ≤ c' ∧ kv = .int .i64 k ∧ Mem [] w wr [.row go (bs o), .row gi (bs (nonce ++ big)), .sl 1 (.slice (some ⟨gb, 0, none⟩) N capgb) N (bs (iterN (xorB o (16 * n)) k d)), .row gc (bs (W ++ s)), .row gn (bs nonce), .row gk (bs key)]) (fun kv _ => c' - (intOf kv).toNat)
        case atStart => exact ⟨0, by omega, rfl, M⟩
        case round =>
          clear M
          obtain ⟨k, hkc, rfl, M⟩ := hrel
          have hx := iterN_len _ (xorB_len o (16 * n)) k d
          obtain ⟨x, ex⟩ : ∃ x, x = iterN (xorB o (16 * n)) k d := ⟨_, rfl⟩
          rw [← ex] at M hx
          rw [hd] at hx
          have EX := Lib.hid fun _ : Unit => ex
          clear ex
          by_cases hltk : k < c'
          · have hb1 : (k : Int) < 16 := by omega
            have hb2 : (k : Int) < N - 16 * n := by omega
            go_wp2_with (first | ((with_reducible show Code.wp _ (Code.region 13 _ _) _ _ _); go_must (refine region_det [(0, false), (1, false), (2, false), (3, false), (4, false), (6, false), (7, false), (5, false), (8, false), (9, false), (10, false), (11, true)] [(44, .int), (45, .int), (48, .int), (51, .int)] (by kernel_rfl) (by kernel_rfl) rfl (by kernel_rfl) ?_; replace M := M.drew; simp only [reord, opAt, List.map_cons, List.map_nil, List.getElem?_toArray, List.getElem?_cons_zero, List.getElem?_cons_succ, Option.getD_some])) | ((with_reducible show wpList _ _ _ (Oper.mk _ (Op.load _ _) _ _ _ _ :: _) _ _); refine w_at _ _ rfl (by first | exact ev_tmp rfl | exact ev_const) ?_; intro hx; refine w_slB M 2 _ _ rfl rfl hx rfl (by decide +kernel) (16 * n + k) (by first | rfl | omega) (by omega) ?_; clear hx) | ((with_reducible show wpList _ _ _ (Oper.mk _ (Op.store _ _ _) _ _ _ _ :: _) _ _); refine w_at2 _ _ _ rfl (by first | exact ev_tmp rfl | exact ev_const) (by first | exact ev_tmp rfl | exact ev_const) ?_; intro hx hy; refine w_slSetB M 2 _ _ _ rfl rfl hx rfl hy (by decide +kernel) (16 * n + k) (by first | rfl | omega) (by omega) ?_; clear hx hy M; intro w1 M; simp only [List.set_cons_succ, List.set_cons_zero] at M) | ((with_reducible show Seg _ _ _ _); go_must (first | refine Seg.intro ⟨fun h => absurd rfl h, ?_⟩ | refine Seg.intro ⟨fun _ => (by repeat' (first | exact ixOk_nil M.kept | refine ixOk_cons rfl (by first | exact M.ok 0 _ rfl | exact M.ok 1 _ rfl | exact M.ok 2 _ rfl) ?_)), ?_⟩ | refine Seg.intro ⟨(by repeat' (first | (with_reducible exact needs_nil) | refine needs_at rfl (by first | (show Shape.ok Shape.nums _ = true; exact nums_bs _) | rfl) ?_)), (by repeat' (first | (with_reducible exact ats_nil) | refine ats_cons (by first | exact ev_tmp rfl | rfl) ?_)), ?_⟩)) | ((with_reducible show OnlyN _ _ _ _ _); refine OnlyN.intro (by kernel_rfl) ?_) | ((with_reducible show wpList _ _ _ (Oper.mk _ _ _ _ _ (some _) :: _) _ _); first | refine w_strip rfl (by with_reducible rfl) ?_ | ((fail_if_success (refine w_lit false rfl (by with_reducible rfl) ?_)); (fail_if_success (refine w_lit true rfl (by with_reducible rfl) ?_)); refine w_case rfl ?_ ?_ <;> (intro hgd; rw [hgd]; try (exfalso; simp at hgd; omega)))) | ((with_reducible show wpList _ _ _ (Oper.mk _ (Op.convert 45 9 _) _ _ _ _ :: _) _ _); go_must (first | (refine w_stringW M 0 _ _ _ _ rfl rfl rfl rfl (by first | assumption | exact shaL_len _ | exact macL_len _ _ | exact words_len _ | exact List.length_replicate | (rw [List.length_set]; first | assumption | exact List.length_replicate) | rfl) (by decide) Try.underlying45 Try.underlying5 Try.underlying9 ?_; (try conv => arg 5; simp only [Act.put, List.setIfInBounds_toArray, List.set_cons_succ, List.set_cons_zero])) | (refine w_string M 0 _ _ _ _ rfl rfl rfl (by first | rfl | (simp; done) | assumption) rfl Try.underlying45 Try.underlying5 Try.underlying9 ?_; (try conv => arg 5; simp only [Act.put, List.setIfInBounds_toArray, List.set_cons_succ, List.set_cons_zero])))) | ((with_reducible show wpList _ _ _ (Oper.mk _ (Op.load _ _) _ _ _ _ :: _) _ _); go_must (refine w_at _ _ rfl (by first | exact ev_tmp rfl | exact ev_const) ?_; intro hx; first | (refine w_load M 0 _ _ rfl rfl hx rfl (by decide +kernel) rfl ?_; clear hx; (try conv => arg 5; simp only [Act.put, List.setIfInBounds_toArray, List.set_cons_succ, List.set_cons_zero])) | (refine w_loadB M 0 _ _ rfl rfl hx rfl (by decide +kernel) (by first | assumption | omega | (simp; omega)) ?_; clear hx; (try conv => arg 5; simp only [Act.put, List.setIfInBounds_toArray, List.set_cons_succ, List.set_cons_zero])) | (refine w_loadH M 0 _ _ rfl rfl hx rfl (by decide +kernel) (by first | assumption | exact shaL_len _ | exact macL_len _ _ | exact words_len _ | exact List.length_replicate | (rw [List.length_set]; first | assumption | exact List.length_replicate) | rfl) (by decide +kernel) ?_; clear hx; (try conv => arg 5; simp only [Act.put, List.setIfInBounds_toArray, List.set_cons_succ, List.set_cons_zero])) | (refine w_loadR M 0 _ _ rfl rfl hx rfl (by decide +kernel) (by kernel_rfl) ?_; clear hx; (try conv => arg 5; simp only [Act.put, List.setIfInBounds_toArray, List.set_cons_succ, List.set_cons_zero])))) | ((with_reducible show wpList _ _ _ (Oper.mk _ (Op.store _ _ _) _ _ _ _ :: _) _ _); go_must (refine w_at2 _ _ _ rfl (by first | exact ev_tmp rfl | exact ev_const) (by first | exact ev_tmp rfl | exact ev_const) ?_; intro hx hy; first | (refine w_storeB M 0 _ _ _ rfl rfl hx rfl hy (by decide +kernel) (by first | assumption | omega | (simp; omega)) ?_; clear hx hy M; intro w1 M; (try simp only [List.set_cons_zero] at M); (try conv => arg 5; simp only [Act.put, List.setIfInBounds_toArray, List.set_cons_succ, List.set_cons_zero])) | (refine w_storeH M 0 _ _ _ rfl rfl hx rfl hy (by first | assumption | exact shaL_len _ | exact macL_len _ _ | exact words_len _ | exact List.length_replicate | (rw [List.length_set]; first | assumption | exact List.length_replicate) | rfl) (by decide +kernel) (by first | assumption | exact shaL_len _ | exact macL_len _ _ | exact words_len _ | exact List.length_replicate | (rw [List.length_set]; first | assumption | exact List.length_replicate) | rfl) ?_; clear hx hy M; intro w1 M; (try simp only [List.set_cons_zero] at M); (try conv => arg 5; simp only [Act.put, List.setIfInBounds_toArray, List.set_cons_succ, List.set_cons_zero])) | (refine w_store M 0 _ _ _ rfl rfl hx rfl hy rfl rfl (by decide +kernel) (by first | decide | simp | (simp; omega)) ?_; clear hx hy M; intro w1 M; (try simp only [List.set_cons_zero] at M); (try conv => arg 5; simp only [Act.put, List.setIfInBounds_toArray, List.set_cons_succ, List.set_cons_zero])) | (refine w_storeR M 0 _ _ _ rfl rfl hx rfl _ hy rfl (by kernel_rfl) (by simp [Value.oneCell']) (by first | rfl | assumption) ?_; clear hx hy M; intro w1 M; (try simp only [List.set_cons_zero] at M); (try conv => arg 5; simp only [Act.put, List.setIfInBounds_toArray, List.set_cons_succ, List.set_cons_zero])))) | ((with_reducible show wpList _ _ _ (Oper.mk _ (Op.box _ _) _ _ _ _ :: _) _ _); (refine w_box M _ _ rfl rfl _ rfl _ rfl ?_; clear M; intro g w1 M; (try conv => arg 5; simp only [Act.put, List.setIfInBounds_toArray, List.set_cons_succ, List.set_cons_zero]))))
            rw [nth_at' x, nth_at' o] at M
            go_roundw
            case rel => exact ⟨k + 1, by omega, by go_num, by rw [iterN_succ, ← EX.out ()]; exact M⟩
            case measure => simp [intOf]; omega
          · obtain rfl : k = c' := by omega
            have eB : x = strB s W nonce n d := (EX.out ()).trans (SE.out ()).symm
            have eN1 : strN s W nonce (n + 1) text = x := by rw [eB, ED.out ()]; rfl
            replace eN1 := Lib.hid fun _ : Unit => eN1
            clear eB EX SE
            go_wp2_with (first | ((with_reducible show wpList _ _ _ (Oper.mk _ _ _ _ _ (some _) :: _) _ _); first | refine w_strip rfl (by with_reducible rfl) ?_ | ((fail_if_success (refine w_lit false rfl (by with_reducible rfl) ?_)); (fail_if_success (refine w_lit true rfl (by with_reducible rfl) ?_)); refine w_case rfl ?_ ?_ <;> (intro hgd; rw [hgd]; try (exfalso; simp at hgd; omega)))) | ((with_reducible show wpList _ _ _ (Oper.mk _ (Op.convert 45 9 _) _ _ _ _ :: _) _ _); go_must (first | (refine w_stringW M 0 _ _ _ _ rfl rfl rfl rfl (by first | assumption | exact shaL_len _ | exact macL_len _ _ | exact words_len _ | exact List.length_replicate | (rw [List.length_set]; first | assumption | exact List.length_replicate) | rfl) (by decide) Try.underlying45 Try.underlying5 Try.underlying9 ?_; (try conv => arg 5; simp only [Act.put, List.setIfInBounds_toArray, List.set_cons_succ, List.set_cons_zero])) | (refine w_string M 0 _ _ _ _ rfl rfl rfl (by first | rfl | (simp; done) | assumption) rfl Try.underlying45 Try.underlying5 Try.underlying9 ?_; (try conv => arg 5; simp only [Act.put, List.setIfInBounds_toArray, List.set_cons_succ, List.set_cons_zero])))) | ((with_reducible show wpList _ _ _ (Oper.mk _ (Op.load _ _) _ _ _ _ :: _) _ _); go_must (refine w_at _ _ rfl (by first | exact ev_tmp rfl | exact ev_const) ?_; intro hx; first | (refine w_load M 0 _ _ rfl rfl hx rfl (by decide +kernel) rfl ?_; clear hx; (try conv => arg 5; simp only [Act.put, List.setIfInBounds_toArray, List.set_cons_succ, List.set_cons_zero])) | (refine w_loadB M 0 _ _ rfl rfl hx rfl (by decide +kernel) (by first | assumption | omega | (simp; omega)) ?_; clear hx; (try conv => arg 5; simp only [Act.put, List.setIfInBounds_toArray, List.set_cons_succ, List.set_cons_zero])) | (refine w_loadH M 0 _ _ rfl rfl hx rfl (by decide +kernel) (by first | assumption | exact shaL_len _ | exact macL_len _ _ | exact words_len _ | exact List.length_replicate | (rw [List.length_set]; first | assumption | exact List.length_replicate) | rfl) (by decide +kernel) ?_; clear hx; (try conv => arg 5; simp only [Act.put, List.setIfInBounds_toArray, List.set_cons_succ, List.set_cons_zero])) | (refine w_loadR M 0 _ _ rfl rfl hx rfl (by decide +kernel) (by kernel_rfl) ?_; clear hx; (try conv => arg 5; simp only [Act.put, List.setIfInBounds_toArray, List.set_cons_succ, List.set_cons_zero])))) | ((with_reducible show wpList _ _ _ (Oper.mk _ (Op.store _ _ _) _ _ _ _ :: _) _ _); go_must (refine w_at2 _ _ _ rfl (by first | exact ev_tmp rfl | exact ev_const) (by first | exact ev_tmp rfl | exact ev_const) ?_; intro hx hy; first | (refine w_storeB M 0 _ _ _ rfl rfl hx rfl hy (by decide +kernel) (by first | assumption | omega | (simp; omega)) ?_; clear hx hy M; intro w1 M; (try simp only [List.set_cons_zero] at M); (try conv => arg 5; simp only [Act.put, List.setIfInBounds_toArray, List.set_cons_succ, List.set_cons_zero])) | (refine w_storeH M 0 _ _ _ rfl rfl hx rfl hy (by first | assumption | exact shaL_len _ | exact macL_len _ _ | exact words_len _ | exact List.length_replicate | (rw [List.length_set]; first | assumption | exact List.length_replicate) | rfl) (by decide +kernel) (by first | assumption | exact shaL_len _ | exact macL_len _ _ | exact words_len _ | exact List.length_replicate | (rw [List.length_set]; first | assumption | exact List.length_replicate) | rfl) ?_; clear hx hy M; intro w1 M; (try simp only [List.set_cons_zero] at M); (try conv => arg 5; simp only [Act.put, List.setIfInBounds_toArray, List.set_cons_succ, List.set_cons_zero])) | (refine w_store M 0 _ _ _ rfl rfl hx rfl hy rfl rfl (by decide +kernel) (by first | decide | simp | (simp; omega)) ?_; clear hx hy M; intro w1 M; (try simp only [List.set_cons_zero] at M); (try conv => arg 5; simp only [Act.put, List.setIfInBounds_toArray, List.set_cons_succ, List.set_cons_zero])) | (refine w_storeR M 0 _ _ _ rfl rfl hx rfl _ hy rfl (by kernel_rfl) (by simp [Value.oneCell']) (by first | rfl | assumption) ?_; clear hx hy M; intro w1 M; (try simp only [List.set_cons_zero] at M); (try conv => arg 5; simp only [Act.put, List.setIfInBounds_toArray, List.set_cons_succ, List.set_cons_zero])))) | ((with_reducible show wpList _ _ _ (Oper.mk _ (Op.box _ _) _ _ _ _ :: _) _ _); (refine w_box M _ _ rfl rfl _ rfl _ rfl ?_; clear M; intro g w1 M; (try conv => arg 5; simp only [Act.put, List.setIfInBounds_toArray, List.set_cons_succ, List.set_cons_zero]))))
            go_roundw
            case rel => exact ⟨n + 1, by omega, by go_num, by rw [eN1.out ()]; exact M.tail.tail⟩
            case measure => simp [intOf]; omega
    · have eR : r = d := by
        rw [SL.out (), ED.out (), ← eN.out (), show (N + 15) / 16 = n by omega]
      replace eR := Lib.hid fun _ : Unit => eR
      go_wp2_with (first | ((with_reducible show wpList _ _ _ (Oper.mk _ (Op.convert _ _ _) _ _ _ _ :: _) _ _); go_must (refine w_string M 0 _ _ _ _ rfl rfl rfl hd.symm rfl Try.underlying45 Try.underlying5 Try.underlying9 ?_)) | ((with_reducible show wpList _ _ _ (Oper.mk _ _ _ _ _ (some _) :: _) _ _); first | refine w_strip rfl (by with_reducible rfl) ?_ | ((fail_if_success (refine w_lit false rfl (by with_reducible rfl) ?_)); (fail_if_success (refine w_lit true rfl (by with_reducible rfl) ?_)); refine w_case rfl ?_ ?_ <;> (intro hgd; rw [hgd]; try (exfalso; simp at hgd; omega)))) | ((with_reducible show wpList _ _ _ (Oper.mk _ (Op.convert 45 9 _) _ _ _ _ :: _) _ _); go_must (first | (refine w_stringW M 0 _ _ _ _ rfl rfl rfl rfl (by first | assumption | exact shaL_len _ | exact macL_len _ _ | exact words_len _ | exact List.length_replicate | (rw [List.length_set]; first | assumption | exact List.length_replicate) | rfl) (by decide) Try.underlying45 Try.underlying5 Try.underlying9 ?_; (try conv => arg 5; simp only [Act.put, List.setIfInBounds_toArray, List.set_cons_succ, List.set_cons_zero])) | (refine w_string M 0 _ _ _ _ rfl rfl rfl (by first | rfl | (simp; done) | assumption) rfl Try.underlying45 Try.underlying5 Try.underlying9 ?_; (try conv => arg 5; simp only [Act.put, List.setIfInBounds_toArray, List.set_cons_succ, List.set_cons_zero])))) | ((with_reducible show wpList _ _ _ (Oper.mk _ (Op.load _ _) _ _ _ _ :: _) _ _); go_must (refine w_at _ _ rfl (by first | exact ev_tmp rfl | exact ev_const) ?_; intro hx; first | (refine w_load M 0 _ _ rfl rfl hx rfl (by decide +kernel) rfl ?_; clear hx; (try conv => arg 5; simp only [Act.put, List.setIfInBounds_toArray, List.set_cons_succ, List.set_cons_zero])) | (refine w_loadB M 0 _ _ rfl rfl hx rfl (by decide +kernel) (by first | assumption | omega | (simp; omega)) ?_; clear hx; (try conv => arg 5; simp only [Act.put, List.setIfInBounds_toArray, List.set_cons_succ, List.set_cons_zero])) | (refine w_loadH M 0 _ _ rfl rfl hx rfl (by decide +kernel) (by first | assumption | exact shaL_len _ | exact macL_len _ _ | exact words_len _ | exact List.length_replicate | (rw [List.length_set]; first | assumption | exact List.length_replicate) | rfl) (by decide +kernel) ?_; clear hx; (try conv => arg 5; simp only [Act.put, List.setIfInBounds_toArray, List.set_cons_succ, List.set_cons_zero])) | (refine w_loadR M 0 _ _ rfl rfl hx rfl (by decide +kernel) (by kernel_rfl) ?_; clear hx; (try conv => arg 5; simp only [Act.put, List.setIfInBounds_toArray, List.set_cons_succ, List.set_cons_zero])))) | ((with_reducible show wpList _ _ _ (Oper.mk _ (Op.store _ _ _) _ _ _ _ :: _) _ _); go_must (refine w_at2 _ _ _ rfl (by first | exact ev_tmp rfl | exact ev_const) (by first | exact ev_tmp rfl | exact ev_const) ?_; intro hx hy; first | (refine w_storeB M 0 _ _ _ rfl rfl hx rfl hy (by decide +kernel) (by first | assumption | omega | (simp; omega)) ?_; clear hx hy M; intro w1 M; (try simp only [List.set_cons_zero] at M); (try conv => arg 5; simp only [Act.put, List.setIfInBounds_toArray, List.set_cons_succ, List.set_cons_zero])) | (refine w_storeH M 0 _ _ _ rfl rfl hx rfl hy (by first | assumption | exact shaL_len _ | exact macL_len _ _ | exact words_len _ | exact List.length_replicate | (rw [List.length_set]; first | assumption | exact List.length_replicate) | rfl) (by decide +kernel) (by first | assumption | exact shaL_len _ | exact macL_len _ _ | exact words_len _ | exact List.length_replicate | (rw [List.length_set]; first | assumption | exact List.length_replicate) | rfl) ?_; clear hx hy M; intro w1 M; (try simp only [List.set_cons_zero] at M); (try conv => arg 5; simp only [Act.put, List.setIfInBounds_toArray, List.set_cons_succ, List.set_cons_zero])) | (refine w_store M 0 _ _ _ rfl rfl hx rfl hy rfl rfl (by decide +kernel) (by first | decide | simp | (simp; omega)) ?_; clear hx hy M; intro w1 M; (try simp only [List.set_cons_zero] at M); (try conv => arg 5; simp only [Act.put, List.setIfInBounds_toArray, List.set_cons_succ, List.set_cons_zero])) | (refine w_storeR M 0 _ _ _ rfl rfl hx rfl _ hy rfl (by kernel_rfl) (by simp [Value.oneCell']) (by first | rfl | assumption) ?_; clear hx hy M; intro w1 M; (try simp only [List.set_cons_zero] at M); (try conv => arg 5; simp only [Act.put, List.setIfInBounds_toArray, List.set_cons_succ, List.set_cons_zero])))) | ((with_reducible show wpList _ _ _ (Oper.mk _ (Op.box _ _) _ _ _ _ :: _) _ _); (refine w_box M _ _ rfl rfl _ rfl _ rfl ?_; clear M; intro g w1 M; (try conv => arg 5; simp only [Act.put, List.setIfInBounds_toArray, List.set_cons_succ, List.set_cons_zero]))))
      go_ret
      exact ⟨congrArg (fun x => Ending.returned (.string (mkS x))) (eR.out ()).symm, M.below⟩
end Go.Proofs.Ytjlkiopncclomaa

/- The hash in plain words: what package sha computes, block by block. No program is in sight. No conditions. -/
namespace Go
namespace TL
def vw (x : UInt32) : Value := .int .u32 (I32 x)
structure St where
  a : UInt32
  b : UInt32
  c : UInt32
  d : UInt32
  e : UInt32
  f : UInt32
  g : UInt32
  h : UInt32
deriving DecidableEq
def St.words (s : St) : List UInt32 := [s.a, s.b, s.c, s.d, s.e, s.f, s.g, s.h]
def St.cells (s : St) : List Value := [vw s.a, vw s.b, vw s.c, vw s.d, vw s.e, vw s.f, vw s.g, vw s.h]
def sig0 (x : UInt32) : UInt32 := ror x 7 ^^^ ror x 18 ^^^ (x >>> 3)
def sig1 (x : UInt32) : UInt32 := ror x 17 ^^^ ror x 19 ^^^ (x >>> 10)
def wordAt (s : List UInt8) (i : Nat) : UInt32 := (be64 ((s.drop (4 * i)).take 4)).toUInt32
def nextW (s : List UInt8) (l : List UInt32) : UInt32 :=
  if l.length < 16 then wordAt s l.length
  else l.getD (l.length - 16) 0 + sig0 (l.getD (l.length - 15) 0) + l.getD (l.length - 7) 0 + sig1 (l.getD (l.length - 2) 0)
def wl (s : List UInt8) : Nat → List UInt32
  | 0 => []
  | n + 1 => wl s n ++ [nextW s (wl s n)]
theorem wl_length (s : List UInt8) (n : Nat) : (wl s n).length = n := by
  induction n with
  | zero => rfl
  | succ n ih => simp [wl, ih]
def rndT (s : St) (k w : UInt32) : UInt32 :=
  s.h + (ror s.e 6 ^^^ ror s.e 11 ^^^ ror s.e 25) + ((s.e &&& s.f) ^^^ (~~~ s.e &&& s.g)) + k + w
def rndU (s : St) : UInt32 :=
  (ror s.a 2 ^^^ ror s.a 13 ^^^ ror s.a 22) + ((s.a &&& s.b) ^^^ (s.a &&& s.c) ^^^ (s.b &&& s.c))
def rnd (s : St) (k w : UInt32) : St := ⟨rndT s k w + rndU s, s.a, s.b, s.c, s.d + rndT s k w, s.e, s.f, s.g⟩
def rndN (s : St) (K W : List UInt32) : Nat → St
  | 0 => s
  | n + 1 => rnd (rndN s K W n) (K.getD n 0) (W.getD n 0)
def St.add (s t : St) : St := ⟨s.a + t.a, s.b + t.b, s.c + t.c, s.d + t.d, s.e + t.e, s.f + t.f, s.g + t.g, s.h + t.h⟩
/-- The words behind a block. -/
def turnS (h b : St) (K : List UInt32) (s : List UInt8) : St := h.add (rndN b K (wl s 64) 64)
theorem wl_step (s : List UInt8) (n : Nat) : wl s (n + 1) = wl s n ++ [nextW s (wl s n)] := rfl
theorem nextW_low (s : List UInt8) (n : Nat) (h : n < 16) : nextW s (wl s n) = wordAt s n := by
  unfold nextW; rw [wl_length, if_pos h]
theorem nextW_high (s : List UInt8) (n : Nat) (h : 16 ≤ n) : nextW s (wl s n) = (wl s n).getD (n - 16) 0 + sig0 ((wl s n).getD (n - 15) 0) + (wl s n).getD (n - 7) 0 + sig1 ((wl s n).getD (n - 2) 0) := by
  unfold nextW; rw [wl_length, if_neg (by omega)]
end TL
end Go

/- The walk of sha's turn: it turns the words by a block, and touches nothing that was there. Conditions: the block has 64 bytes, the numbers are 64. -/
namespace Go
namespace TL
open Go.RowKit
theorem drewN_heap (w : World) (n : Nat) : (w.drewN n).heap = w.heap := rfl
theorem rangeAt_of_heap {w w' : World} (h : w'.heap = w.heap) {g o : Nat} {xs : List Value} (hr : w.rangeAt g o xs) : w'.rangeAt g o xs := rangeAt_of_block hr (by rw [h])
theorem there_of_heap {w w' : World} (h : w'.heap = w.heap) {g o n : Nat} (hr : w.there g o n) : w'.there g o n := there_of_block hr (by rw [h])
/-- A callee that leaves the world alone, met in a drawn region behind another one. -/
theorem quiet_at {P : Program} {f : FuncId} {args : Array Value} {w : World} {n a : Nat} {v : Value}
    (h : Calls P f args (w.drewN (n + a)) fun e w' => e = .returned v ∧ w' = w.drewN (n + a)) : Calls P f args (w.drewN (n + a)) fun e w'' => e = .returned v ∧ ∃ m, w'' = w.drewN (n + m) :=
  h.mono fun _ _ ⟨he, hm⟩ => ⟨he, a, hm⟩
theorem vw_cell {w : World} {g o : Nat} {l : List UInt32} (h : w.rangeAt g o (l.map vw)) (i : Nat) (hi : i < l.length) : w.cell? ⟨g, o + i, none⟩ = some (.int .u32 (I32 (l.getD i 0))) := by
  refine h i _ ?_
  simp [vw, hi]
theorem free_of_there {w : World} {g o n : Nat} (h : w.there g o n) (i : Nat) (hi : i < n) : w.frozen? ⟨g, o + i, none⟩ = false := (h i hi).2
/-- What holds of turn's own blocks: the words h, the words b, the result's place, the list w. -/
structure TI (w wr : World) (h b : St) (W : List UInt32) : Prop where
  bel : Below w.heap.size w wr
  sz : wr.heap.size = w.heap.size + 4
  hh : wr.rangeAt w.heap.size 0 h.cells
  ht : wr.there w.heap.size 0 8
  bb : wr.rangeAt (w.heap.size + 1) 0 b.cells
  bt : wr.there (w.heap.size + 1) 0 8
  rt : wr.there (w.heap.size + 1 + 1) 0 8
  ww : wr.rangeAt (w.heap.size + 1 + 1 + 1) 0 (W.map vw)
  wt : wr.there (w.heap.size + 1 + 1 + 1) 0 64
theorem TI.drewN {w wr : World} {h b : St} {W : List UInt32} (T : TI w wr h b W) (n : Nat) : TI w (wr.drewN n) h b W :=
  ⟨⟨T.bel.os, T.bel.tape, T.bel.output, T.bel.size, T.bel.block⟩, T.sz, rangeAt_of_heap (drewN_heap _ _) T.hh, there_of_heap (drewN_heap _ _) T.ht, rangeAt_of_heap (drewN_heap _ _) T.bb, there_of_heap (drewN_heap _ _) T.bt, there_of_heap (drewN_heap _ _) T.rt, rangeAt_of_heap (drewN_heap _ _) T.ww, there_of_heap (drewN_heap _ _) T.wt⟩
theorem TI.pushW {w wr : World} {h b : St} {W : List UInt32} (T : TI w wr h b W) (x : UInt32) (hl : W.length < 64) : TI w (wr.setCell ⟨w.heap.size + 1 + 1 + 1, W.length, none⟩ (.int .u32 (I32 x))) h b (W ++ [x]) := by
  refine ⟨T.bel.setCell (by show w.heap.size ≤ w.heap.size + 1 + 1 + 1; omega) _, by simpa using T.sz, rangeAt_setCell_apart T.hh _ (.inl (by show _ + 1 + 1 + 1 ≠ _; omega)) _, there_setCell T.ht _ _, rangeAt_setCell_apart T.bb _ (.inl (by show _ + 1 + 1 + 1 ≠ _; omega)) _, there_setCell T.bt _ _, there_setCell T.rt _ _, ?_, there_setCell T.wt _ _⟩
  rw [List.map_append]
  refine rangeAt_append (rangeAt_setCell_apart T.ww _ (by simp) _) ?_
  intro j v hv
  cases j with
  | zero =>
    simp at hv; subst hv
    obtain ⟨u, hu⟩ := Option.isSome_iff_exists.1 (T.wt W.length hl).1
    simp only [List.length_map, Nat.zero_add, Nat.add_zero] at hu ⊢
    exact World.cell?_setCell_same _ _ _ hu
  | succ j => simp at hv
theorem TI.storeB {w wr : World} {h b : St} {W : List UInt32} (T : TI w wr h b W) (b' : St) : TI w (wr.setCells (w.heap.size + 1) 0 b'.cells) h b' W := by
  refine ⟨below_setCells (by omega) _ _ _ T.bel, by rw [size_setCells]; exact T.sz, World.rangeAt_setCells_apart T.hh _ _ _ (.inl (by omega)), World.there_setCells T.ht _ _ _, World.rangeAt_setCells_same _ _ _ _ T.bt, World.there_setCells T.bt _ _ _, World.there_setCells T.rt _ _ _, World.rangeAt_setCells_apart T.ww _ _ _ (.inl (by omega)), World.there_setCells T.wt _ _ _⟩
/-- The words h, of which the first i have had b's added. -/
def St.mix (h b : St) (i : Nat) : St :=
  ⟨if 0 < i then h.a + b.a else h.a, if 1 < i then h.b + b.b else h.b, if 2 < i then h.c + b.c else h.c, if 3 < i then h.d + b.d else h.d,
   if 4 < i then h.e + b.e else h.e, if 5 < i then h.f + b.f else h.f, if 6 < i then h.g + b.g else h.g, if 7 < i then h.h + b.h else h.h⟩
theorem St.mix_zero (h b : St) : h.mix b 0 = h := rfl
theorem St.mix_all (h b : St) : h.mix b 8 = h.add b := rfl
theorem St.mix_step (h b : St) (k : Nat) (hk : k < 8) : (h.mix b k).cells.set k (.int .u32 (I32 ((h.mix b k).words.getD k 0 + b.words.getD k 0))) = (h.mix b (k + 1)).cells := by
  have : k = 0 ∨ k = 1 ∨ k = 2 ∨ k = 3 ∨ k = 4 ∨ k = 5 ∨ k = 6 ∨ k = 7 := by omega
  rcases this with e | e | e | e | e | e | e | e <;> subst e <;> rfl
theorem TI.storeH {w wr : World} {h b : St} {W : List UInt32} (T : TI w wr h b W) (k : Nat) (hk : k < 8) (h' : St) (u : Value) (e : h.cells.set k u = h'.cells) : TI w (wr.setCell ⟨w.heap.size, k, none⟩ u) h' b W := by
  have h1 := rangeAt_setCell_same T.hh k (by simpa [St.cells] using hk) u
  rw [Nat.zero_add, e] at h1
  exact ⟨T.bel.setCell (Nat.le_refl _) _, by simpa using T.sz, h1, there_setCell T.ht _ _, rangeAt_setCell_apart T.bb _ (.inl (by show w.heap.size ≠ w.heap.size + 1; omega)) _, there_setCell T.bt _ _, there_setCell T.rt _ _, rangeAt_setCell_apart T.ww _ (.inl (by show w.heap.size ≠ w.heap.size + 1 + 1 + 1; omega)) _, there_setCell T.wt _ _⟩
theorem St.cells_eq (s : St) : s.cells = s.words.map vw := rfl
/-- turn's blocks, just laid. -/
theorem TI.start (w : World) (h b : St) (C D : Array Value) (hC : C.size = 8) (hD : D.size = 64) (t1 t2 t3 t4 : TypeId) :
    TI w ((((w.alloc (.cells h.cells.toArray t1)).alloc (.cells b.cells.toArray t2)).alloc (.cells C t3)).alloc (.cells D t4)) h b [] := by
  have n1 : (w.alloc (.cells h.cells.toArray t1)).heap.size = w.heap.size + 1 := by simp
  have n2 : ((w.alloc (.cells h.cells.toArray t1)).alloc (.cells b.cells.toArray t2)).heap.size = w.heap.size + 1 + 1 := by simp
  have n3 : (((w.alloc (.cells h.cells.toArray t1)).alloc (.cells b.cells.toArray t2)).alloc (.cells C t3)).heap.size = w.heap.size + 1 + 1 + 1 := by simp
  refine ⟨((((Below.refl _ _).alloc (Nat.le_refl _) _).alloc (by simp) _).alloc (by simp; omega) _).alloc (by simp; omega) _, by simp, ?_, ?_, ?_, ?_, ?_, by simp [World.rangeAt], ?_⟩
  · exact World.rangeAt_alloc (World.rangeAt_alloc (World.rangeAt_alloc (rangeAt_new w _ _ _) _) _) _
  · exact World.there_alloc (World.there_alloc (World.there_alloc (there_new w _ _ 8 (by simp [St.cells])) _) _) _
  · rw [← n1]; exact World.rangeAt_alloc (World.rangeAt_alloc (rangeAt_new _ _ _ _) _) _
  · rw [← n1]; exact World.there_alloc (World.there_alloc (there_new _ _ _ 8 (by simp [St.cells])) _) _
  · rw [← n2]; exact World.there_alloc (there_new _ _ _ 8 (by omega)) _
  · rw [← n3]; exact there_new _ _ _ 64 (by omega)
end TL
end Go
namespace Go.Proofs.Ytjlkiopncclomaa
open Go.RowKit Go.TL
theorem rot_k (x : UInt32) (k : Int) (w : World) (h1 : -31 ≤ k) (h2 : k ≤ -1) :
    Calls Try.prog 133 #[.int .u32 (I32 x), .int .i64 k] w fun e w' => e = .returned (.int .u32 (I32 (ror x (-k).toNat))) ∧ w' = w :=
  (rot_any x (-k).toNat k w (by omega) (by omega) (by omega)).mono fun _ _ ⟨a, b⟩ => ⟨a, b.symm⟩
set_option maxRecDepth 100000 in
set_option maxHeartbeats 1000000 in
theorem turn_any (h b : St) (K : List UInt32) (hK : K.length = 64) (kb ko : Nat) (sv : Value) (s : List UInt8) (hs : s.length = 64) (w : World)
    (hk : w.rangeAt kb ko (K.map vw)) (hsee : SeesB w sv s) :
    Calls Try.prog 124 #[.agg h.cells.toArray, .agg b.cells.toArray, .pointer (some ⟨kb, ko, none⟩), sv] w fun e w' => e = .returned (.agg (turnS h b K s).cells.toArray) ∧ Below w.heap.size w w' := by
  have hkb : kb < w.heap.size := rangeAt.lt hk (by intro e; have := congrArg List.length e; simp [hK] at this)
  have H0 := Lib.hid hk; clear hk
  have H1 := Lib.hid hsee; clear hsee
  have H2 := Lib.hid hs; clear hs
  have H3 := Lib.hid hK; clear hK
  go_enter Try.func124, Try.ntmps124
  go_wp2
  go_loopw [22] (fun i wr => ∃ k : Nat, k ≤ 16 ∧ i = .int .i64 k ∧ TI w wr h b (wl s k)) (fun i _ => 16 - (intOf i).toNat)
  case atStart => exact ⟨0, by omega, rfl, TI.start w h b _ _ rfl rfl _ _ _ _⟩
  case round =>
    obtain ⟨k, hk, rfl, T⟩ := hrel
    have T' := Lib.hid T
    by_cases hlt : k < 16
    · have hsee := H1.out.below T.bel
      have hcut := hsee.run_cut bytesT (4 * (k : Int)) (4 * (k : Int) + 4) (by omega) (by omega) (by have := H2.out; omega)
      have hcs := SeesB.cut hsee (4 * k) (4 * k + 4) (by omega) (by have := H2.out; omega)
      have hstr := SeesB.run_string hcs 45 9 5 Try.underlying45 Try.underlying5 Try.underlying9 wr (grownBy_refl _ _)
      have hcut' : ∀ w'' : World, (Instr.sliceAt 45 sv (some (.int .i64 (4 * (k : Int)))) (some (.int .i64 (4 * (k : Int) + 4))) none).run Try.prog w'' = .ok (cutV 1 sv (4 * k) (4 * k + 4)) w'' := by
        intro w''; have := hcut w''; rwa [show (4 * (k : Int)).toNat = 4 * k by omega, show (4 * (k : Int) + 4).toNat = 4 * k + 4 by omega] at this
      clear hcut T hsee hcs
      obtain ⟨cv, hcv⟩ : ∃ cv, cv = cutV 1 sv (4 * k) (4 * k + 4) := ⟨_, rfl⟩
      rw [← hcv] at hstr hcut'
      clear hcv
      have hfr := free_of_there T'.out.wt k (by omega)
      obtain ⟨u0, hu0⟩ := Option.isSome_iff_exists.1 (T'.out.wt k (by omega)).1
      rw [Nat.zero_add] at hfr hu0
      have hsz : 4 ≤ (⟨(List.drop (4 * k) (List.take (4 * k + 4) s)).toArray⟩ : ByteArray).size := by
        have := H2.out; show 4 ≤ (List.drop (4 * k) (List.take (4 * k + 4) s)).toArray.size; simp; omega
      have hsz' := Lib.hid hsz; clear hsz
      go_wp2_with (go_at_call 132; refine (getBig_any _ 4 _ hsz'.out (by omega)).mono ?_; rintro e w1 ⟨rfl, rfl⟩)
      go_roundw
      case rel =>
        refine ⟨k + 1, by omega, by go_num, ?_⟩
        rw [wl_step, nextW_low _ _ hlt]
        have := T'.out.pushW (wordAt s k) (by rw [wl_length]; omega)
        rw [wl_length] at this
        rw [wordAt] at this ⊢
        rw [show (List.drop (4 * k) (List.take (4 * k + 4) s)) = (s.drop (4 * k)).take 4 from by rw [List.drop_take, show 4 * k + 4 - 4 * k = 4 by omega], List.take_take, Nat.min_self]
        exact this
      case measure => simp [intOf]; omega
    · obtain rfl : k = 16 := by omega
      rw [show ((16 : Nat) : Int) = 16 from rfl]
      go_wp2_with fail
      go_loopw [11] (fun i wr => ∃ k : Nat, 16 ≤ k ∧ k ≤ 64 ∧ i = .int .i64 k ∧ TI w wr h b (wl s k)) (fun i _ => 64 - (intOf i).toNat)
      case atStart => exact ⟨16, by omega, by omega, rfl, T'.out⟩
      case round =>
        obtain ⟨k, hk16, hk, rfl, T⟩ := hrel
        have T2 := Lib.hid T; clear T
        by_cases hlt : k < 64
        · have g15 := vw_cell T2.out.ww (k - 15) (by rw [wl_length]; omega)
          have g2 := vw_cell T2.out.ww (k - 2) (by rw [wl_length]; omega)
          have g16 := vw_cell T2.out.ww (k - 16) (by rw [wl_length]; omega)
          have g7 := vw_cell T2.out.ww (k - 7) (by rw [wl_length]; omega)
          have hfr := free_of_there T2.out.wt k (by omega)
          obtain ⟨u0, hu0⟩ := Option.isSome_iff_exists.1 (T2.out.wt k (by omega)).1
          rw [Nat.zero_add] at g15 g2 g16 g7 hfr hu0
          obtain ⟨x15, e15⟩ : ∃ x, x = (wl s k).getD (k - 15) 0 := ⟨_, rfl⟩
          obtain ⟨x2, e2⟩ : ∃ x, x = (wl s k).getD (k - 2) 0 := ⟨_, rfl⟩
          obtain ⟨x16, e16⟩ : ∃ x, x = (wl s k).getD (k - 16) 0 := ⟨_, rfl⟩
          obtain ⟨x7, e7⟩ : ∃ x, x = (wl s k).getD (k - 7) 0 := ⟨_, rfl⟩
          rw [← e15] at g15; rw [← e2] at g2; rw [← e16] at g16; rw [← e7] at g7
          have hx : nextW s (wl s k) = x16 + sig0 x15 + x7 + sig1 x2 := by rw [nextW_high _ _ hk16, e15, e2, e16, e7]
          have Hx := Lib.hid hx; clear hx e15 e2 e16 e7
          go_wp2_with fail
          go_quiet (fail)
          go_wp2_with (go_at_call 133; refine (rot_k _ _ _ (by omega) (by omega)).mono ?_; rintro e w1 ⟨rfl, rfl⟩)
          go_region
          go_wp2
          go_roundw
          case rel =>
            refine ⟨k + 1, by omega, by omega, by go_num, ?_⟩
            rw [wl_step, Hx.out]
            have := (T2.out.drewN nq).pushW (x16 + sig0 x15 + x7 + sig1 x2) (by rw [wl_length]; omega)
            rw [wl_length] at this
            exact this.drewN 1
          case measure => simp [intOf]; omega
        · obtain rfl : k = 64 := by omega
          rw [show ((64 : Nat) : Int) = 64 from rfl]
          go_wp2_with fail
          go_loopw [81] (fun i wr => ∃ k : Nat, k ≤ 64 ∧ i = .int .i64 k ∧ TI w wr h (rndN b K (wl s 64) k) (wl s 64)) (fun i _ => 64 - (intOf i).toNat)
          case atStart => exact ⟨0, by omega, rfl, T2.out⟩
          case round =>
            obtain ⟨k, hk, rfl, T⟩ := hrel
            obtain ⟨st, est⟩ : ∃ st, st = rndN b K (wl s 64) k := ⟨_, rfl⟩
            rw [← est] at T
            have Hst := Lib.hid est; clear est
            have T3 := Lib.hid T; clear T
            by_cases hlt : k < 64
            · have hkk := rangeAt_of_block H0.out (T3.out.bel.block kb hkb)
              have gk := vw_cell hkk k (by rw [H3.out]; exact hlt)
              have gw := vw_cell T3.out.ww k (by rw [wl_length]; exact hlt)
              obtain ⟨xk, ek⟩ : ∃ x, x = K.getD k 0 := ⟨_, rfl⟩
              obtain ⟨xw, ew⟩ : ∃ x, x = (wl s 64).getD k 0 := ⟨_, rfl⟩
              rw [← ek] at gk; rw [← ew] at gw
              have Ek := Lib.hid ek; have Ew := Lib.hid ew; clear ek ew hkk
              have c0 := T3.out.bb 0 _ rfl
              have c1 := T3.out.bb 1 _ rfl
              have c2 := T3.out.bb 2 _ rfl
              have c3 := T3.out.bb 3 _ rfl
              have c4 := T3.out.bb 4 _ rfl
              have c5 := T3.out.bb 5 _ rfl
              have c6 := T3.out.bb 6 _ rfl
              have c7 := T3.out.bb 7 _ rfl
              simp only [Nat.zero_add, vw] at c0 c1 c2 c3 c4 c5 c6 c7 gw
              go_wp2_with fail
              go_quiet (fail)
              go_wp2_with fail
              go_quiet ((go_at_call 133; exact quiet_at (rot_k _ _ _ (by omega) (by omega))))
              go_wp2_with fail
              go_quiet ((go_at_call 133; exact quiet_at (rot_k _ _ _ (by omega) (by omega))))
              go_wp2_with ((with_reducible show wpList _ _ _ (Oper.mk none (Op.store 174 (.tmp 5) (.tmp 163)) _ _ _ _ :: _) _ _); go_must (refine wpList_putRow rfl 174 (.tmp 5) (.tmp 163) rfl (w.heap.size + 1) 0 _ rfl rfl (by exact there_of_heap (drewN_heap _ _) T3.out.bt) (by kernel_rfl) (by simp [Value.oneCell']) ?_))
              go_roundw
              case rel =>
                refine ⟨k + 1, by omega, by go_num, ?_⟩
                have e : rndN b K (wl s 64) (k + 1) = rnd st xk xw := by rw [Hst.out, Ek.out, Ew.out]; rfl
                rw [e]
                exact ((T3.out.drewN _).storeB (rnd st xk xw))
              case measure => simp [intOf]; omega
            · obtain rfl : k = 64 := by omega
              rw [show ((64 : Nat) : Int) = 64 from rfl]
              go_wp2_with fail
              go_loopw [165] (fun i wr => ∃ k : Nat, k ≤ 8 ∧ i = .int .i64 k ∧ TI w wr (h.mix st k) st (wl s 64)) (fun i _ => 8 - (intOf i).toNat)
              case atStart => exact ⟨0, by omega, rfl, T3.out⟩
              case round =>
                obtain ⟨k, hk, rfl, T⟩ := hrel
                have T4 := Lib.hid T; clear T
                by_cases hlt : k < 8
                · have gh := T4.out.hh
                  have gb := T4.out.bb
                  rw [St.cells_eq] at gh gb
                  have gh' := vw_cell gh k (by exact hlt)
                  have gb' := vw_cell gb k (by exact hlt)
                  obtain ⟨xh, eh⟩ : ∃ x, x = (h.mix st k).words.getD k 0 := ⟨_, rfl⟩
                  obtain ⟨xb, eb⟩ : ∃ x, x = st.words.getD k 0 := ⟨_, rfl⟩
                  rw [Nat.zero_add] at gh' gb'
                  rw [← eh] at gh'; rw [← eb] at gb'
                  have hst := St.mix_step h st k hlt
                  rw [← eh, ← eb] at hst
                  have Hmix := Lib.hid hst
                  have hfr := free_of_there T4.out.ht k (by omega)
                  rw [Nat.zero_add] at hfr
                  clear eh eb hst gh gb
                  go_wp2_with fail
                  go_region
                  go_wp2
                  go_roundw
                  case rel => exact ⟨k + 1, by omega, by go_num, (T4.out.drewN 1).storeH k hlt _ _ Hmix.out⟩
                  case measure => simp [intOf]; omega
                · obtain rfl : k = 8 := by omega
                  rw [show ((8 : Nat) : Int) = 8 from rfl]
                  go_wp2_with (first | ((with_reducible show wpList _ _ _ (Oper.mk _ (Op.load 174 (.tmp 4)) _ _ _ _ :: _) _ _); go_must (refine wpList_load_mid rfl 174 _ rfl w.heap.size 0 rfl _ _ T4.out.hh Try.underlying174 rfl (by kernel_rfl) ?_)) | ((with_reducible show wpList _ _ _ (Oper.mk none (Op.store 174 (.tmp 8) (.tmp 177)) _ _ _ _ :: _) _ _); go_must (refine wpList_putRow rfl 174 (.tmp 8) (.tmp 177) rfl (w.heap.size + 1 + 1) 0 (h.mix st 8).cells rfl rfl (by exact T4.out.rt) (by kernel_rfl) (by simp [Value.oneCell', St.cells, vw]) ?_)))
                  refine bodyPost_ret (results_row rfl _ _ (w.heap.size + 1 + 1) 0 (h.mix st 8).cells _ rfl (World.rangeAt_setCells_same _ _ _ _ (by exact T4.out.rt)) Try.underlying174 rfl (by kernel_rfl)) rfl ?_
                  rw [St.mix_all, Hst.out]
                  exact ⟨rfl, below_setCells (by omega) _ _ _ T4.out.bel⟩
end Go.Proofs.Ytjlkiopncclomaa

/- The walks of begin, numbers, New and none of package sha: the object as it is first. No conditions. -/
namespace Go
namespace TL
open Go.RowKit
def H0 : St := ⟨0x6a09e667, 0xbb67ae85, 0x3c6ef372, 0xa54ff53a, 0x510e527f, 0x9b05688c, 0x1f83d9ab, 0x5be0cd19⟩
def K64 : List UInt32 := [
  0x428a2f98, 0x71374491, 0xb5c0fbcf, 0xe9b5dba5, 0x3956c25b, 0x59f111f1, 0x923f82a4, 0xab1c5ed5,
  0xd807aa98, 0x12835b01, 0x243185be, 0x550c7dc3, 0x72be5d74, 0x80deb1fe, 0x9bdc06a7, 0xc19bf174,
  0xe49b69c1, 0xefbe4786, 0x0fc19dc6, 0x240ca1cc, 0x2de92c6f, 0x4a7484aa, 0x5cb0a9dc, 0x76f988da,
  0x983e5152, 0xa831c66d, 0xb00327c8, 0xbf597fc7, 0xc6e00bf3, 0xd5a79147, 0x06ca6351, 0x14292967,
  0x27b70a85, 0x2e1b2138, 0x4d2c6dfc, 0x53380d13, 0x650a7354, 0x766a0abb, 0x81c2c92e, 0x92722c85,
  0xa2bfe8a1, 0xa81a664b, 0xc24b8b70, 0xc76c51a3, 0xd192e819, 0xd6990624, 0xf40e3585, 0x106aa070,
  0x19a4c116, 0x1e376c08, 0x2748774c, 0x34b0bcb5, 0x391c0cb3, 0x4ed8aa4a, 0x5b9cca4f, 0x682e6ff3,
  0x748f82ee, 0x78a5636f, 0x84c87814, 0x8cc70208, 0x90befffa, 0xa4506ceb, 0xbef9a3f7, 0xc67178f2]
theorem K64_length : K64.length = 64 := rfl
/-- The object's cells at first. -/
def shaCells : List Value := H0.cells ++ K64.map vw ++ [.slice none 0 0, .int .i64 0, .bool true]
/-- A hash's object: the words, the numbers, what is left, how many bytes. -/
structure ShaAt (w : World) (base b : Nat) (h : St) (rv : Value) (rest : List UInt8) (n : Nat) : Prop where
  lo : base ≤ b
  lt : b < w.heap.size
  hh : w.rangeAt b 0 h.cells
  ht : w.there b 0 8
  kk : w.rangeAt b 8 (K64.map vw)
  rc : w.cell? ⟨b, 72, none⟩ = some rv
  rf : w.frozen? ⟨b, 72, none⟩ = false
  ro : OwnB w base rv rest
  rne : rv.ownBlock ≠ some b
  nc : w.cell? ⟨b, 73, none⟩ = some (.int .i64 n)
  nf : w.frozen? ⟨b, 73, none⟩ = false
  mc : w.cell? ⟨b, 74, none⟩ = some (.bool true)
end TL
end Go
namespace Go.Proofs.Ytjlkiopncclomaa
open Go.RowKit Go.TL
set_option maxRecDepth 100000 in
set_option maxHeartbeats 1000000 in
theorem begin_any (w : World) : Calls Try.prog 121 #[] w fun e w' => e = .returned (.agg H0.cells.toArray) ∧ Below w.heap.size w w' := by
  go_enter Try.func121, Try.ntmps121
  go_wp2
  refine bodyPost_ret (v := .agg H0.cells.toArray) ?_ rfl ⟨rfl, (Below.refl _ _).alloc (Nat.le_refl _) _⟩
  refine results_row rfl _ _ w.heap.size 0 H0.cells _ rfl ?_ Try.underlying174 rfl (by kernel_rfl)
  exact rangeAt_new w H0.cells.toArray _ (0, 0)
set_option maxRecDepth 100000 in
set_option maxHeartbeats 1000000 in
theorem numbers_any (w : World) : Calls Try.prog 122 #[] w fun e w' => e = .returned (.agg (K64.map vw).toArray) ∧ Below w.heap.size w w' := by
  go_enter Try.func122, Try.ntmps122
  go_wp2_with (first | ((with_reducible show wpList _ _ _ (Oper.mk _ (Op.build _ _) _ _ _ _ :: _) _ _); go_must (refine wpList_built rfl _ _ rfl (.agg (K64.map vw).toArray) (by kernel_rfl) ?_)) | ((with_reducible show wpList _ _ _ (Oper.mk none (Op.store _ _ _) _ _ _ _ :: _) _ _); go_must (refine wpList_putRow rfl 176 _ _ rfl w.heap.size 0 (K64.map vw) rfl rfl (by exact there_new _ _ _ _ (by simp [K64_length])) (by kernel_rfl) (by intro v hv; obtain ⟨x, _, rfl⟩ := List.mem_map.1 hv; rfl) ?_)))
  refine bodyPost_ret (v := .agg (K64.map vw).toArray) ?_ rfl ⟨rfl, below_setCells (Nat.le_refl _) _ _ _ ((Below.refl _ _).alloc (Nat.le_refl _) _)⟩
  refine results_row rfl _ _ w.heap.size 0 (K64.map vw) _ rfl ?_ Try.underlying176 rfl (by kernel_rfl)
  exact World.rangeAt_setCells_same _ _ _ _ (there_new _ _ _ _ (by simp [K64_length]))
theorem shaCells_length : shaCells.length = 75 := rfl
set_option maxRecDepth 100000 in
set_option maxHeartbeats 1000000 in
theorem New_any (w : World) : Calls Try.prog 108 #[] w fun e w' => ∃ b, e = .returned (.pointer (some ⟨b, 0, none⟩)) ∧ ShaAt w' w.heap.size b H0 (.slice none 0 0) [] 0 ∧ Below w.heap.size w w' := by
  go_enter Try.func108, Try.ntmps108
  go_wp2_with (first | (go_at_call 121; refine (begin_any _).mono ?_; rintro e w1 ⟨rfl, hb1⟩) | (go_at_call 122; refine (numbers_any _).mono ?_; rintro e w2 ⟨rfl, hb2⟩) | ((with_reducible show wpList _ _ _ (Oper.mk _ (Op.build _ _) _ _ _ _ :: _) _ _); go_must (refine wpList_built rfl _ _ rfl (.agg shaCells.toArray) (by kernel_rfl) ?_)))
  go_ret
  refine ⟨w2.heap.size, rfl, ?_, (hb1.trans (hb2.mono hb1.size)).alloc (by have := hb1.size; have := hb2.size; omega) _⟩
  have hr := rangeAt_new w2 shaCells.toArray 179 (0, 0)
  have ht := there_new w2 shaCells.toArray 179 75 (by simp [shaCells_length])
  have hle : w.heap.size ≤ w2.heap.size := Nat.le_trans hb1.size hb2.size
  refine ⟨hle, by simp, rangeAt_take hr 8, there_mono ht (by omega), rangeAt_take (rangeAt_drop hr 8) 64, hr 72 _ rfl, (ht 72 (by omega)).2, Own_nil _ _ _, by simp [Value.ownBlock], hr 73 _ rfl, (ht 73 (by omega)).2, hr 74 _ rfl⟩
set_option maxHeartbeats 400000 in
theorem none_no (w : World) (b : Nat) (hm : w.cell? ⟨b, 74, none⟩ = some (.bool true)) : Calls Try.prog 123 #[.pointer (some ⟨b, 0, none⟩)] w fun e w' => e = .returned (.bool false) ∧ w = w' := by
  go_enter Try.func123, Try.ntmps123
  go_wp2
  go_ret
  exact ⟨rfl, rfl⟩
end Go.Proofs.Ytjlkiopncclomaa

/- The walk of (*Sha).Write on an object to which nothing was written: it turns the whole blocks, and keeps what is left. Conditions: the text is shorter than 10^12 bytes. -/
namespace Go
namespace TL
open Go.RowKit
/-- The words behind the first n blocks of a text. -/
def absorb : Nat → St → List UInt8 → St
  | 0, h, _ => h
  | n + 1, h, l => absorb n (turnS h h K64 (l.take 64)) (l.drop 64)
theorem absorb_step (n : Nat) : ∀ (h : St) (l : List UInt8), absorb (n + 1) h l = turnS (absorb n h l) (absorb n h l) K64 ((l.drop (64 * n)).take 64) := by
  induction n with
  | zero => intro h l; simp [absorb]
  | succ n ih =>
    intro h l
    rw [absorb, ih, absorb, List.drop_drop]
    rw [show 64 + 64 * n = 64 * (n + 1) by omega]
section
variable {w w1 : World} {base b : Nat} {h : St} {rv : Value} {rest : List UInt8} {n : Nat}
theorem ShaAt.setN (S : ShaAt w base b h rv rest n) (m : Nat) : ShaAt (w.setCell ⟨b, 73, none⟩ (.int .i64 m)) base b h rv rest m :=
  ⟨S.lo, by simpa using S.lt, rangeAt_setCell_apart S.hh _ (by right; right; simp [St.cells]) _, there_setCell S.ht _ _, rangeAt_setCell_apart S.kk _ (by right; right; simp [K64_length]) _,
   by rw [World.cell?_setCell_other _ _ _ _ (by simp)]; exact S.rc, by rw [World.frozen?_setCell]; exact S.rf, S.ro.setCell _ S.rne _, S.rne, World.cell?_setCell_same _ _ _ S.nc, by rw [World.frozen?_setCell]; exact S.nf,
   by rw [World.cell?_setCell_other _ _ _ _ (by simp)]; exact S.mc⟩
theorem ShaAt.kept (S : ShaAt w base b h rv rest n) (hb : w1.heap[b]? = w.heap[b]?) (hs : w.heap.size ≤ w1.heap.size) {v' : Value} {rest' : List UInt8} (ho : OwnB w1 base v' rest') (hne : v'.ownBlock ≠ some b) :
    ShaAt (w1.setCell ⟨b, 72, none⟩ v') base b h v' rest' n := by
  have rc' : w1.cell? ⟨b, 72, none⟩ = some rv := by rw [World.cell?_of_block (w := w) (a := ⟨b, 72, none⟩) hb]; exact S.rc
  exact ⟨S.lo, by have := S.lt; simp; omega, rangeAt_setCell_apart (rangeAt_of_block S.hh hb) _ (by right; right; simp [St.cells]) _, there_setCell (there_of_block S.ht hb) _ _, rangeAt_setCell_apart (rangeAt_of_block S.kk hb) _ (by right; right; simp [K64_length]) _,
   World.cell?_setCell_same _ _ _ rc', by rw [World.frozen?_setCell, World.frozen?_of_block (w := w) (a := ⟨b, 72, none⟩) hb]; exact S.rf, Own.setCell ho _ hne _, hne,
   by rw [World.cell?_setCell_other _ _ _ _ (by simp), World.cell?_of_block (w := w) (a := ⟨b, 73, none⟩) hb]; exact S.nc, by rw [World.frozen?_setCell, World.frozen?_of_block (w := w) (a := ⟨b, 73, none⟩) hb]; exact S.nf,
   by rw [World.cell?_setCell_other _ _ _ _ (by simp), World.cell?_of_block (w := w) (a := ⟨b, 74, none⟩) hb]; exact S.mc⟩
theorem ShaAt.below (S : ShaAt w base b h rv rest n) (hb : Below w.heap.size w w1) : ShaAt w1 base b h rv rest n := by
  have e := hb.block b S.lt
  exact ⟨S.lo, Nat.lt_of_lt_of_le S.lt hb.size, rangeAt_of_block S.hh e, there_of_block S.ht e, rangeAt_of_block S.kk e, by rw [World.cell?_of_block (w := w) (a := ⟨b, 72, none⟩) e]; exact S.rc, by rw [World.frozen?_of_block (w := w) (a := ⟨b, 72, none⟩) e]; exact S.rf,
    Own.below S.ro hb, S.rne, by rw [World.cell?_of_block (w := w) (a := ⟨b, 73, none⟩) e]; exact S.nc, by rw [World.frozen?_of_block (w := w) (a := ⟨b, 73, none⟩) e]; exact S.nf, by rw [World.cell?_of_block (w := w) (a := ⟨b, 74, none⟩) e]; exact S.mc⟩
theorem ShaAt.drew (S : ShaAt w base b h rv rest n) : ShaAt w.drew base b h rv rest n :=
  ⟨S.lo, S.lt, S.hh, S.ht, S.kk, S.rc, S.rf, S.ro, S.rne, S.nc, S.nf, S.mc⟩
theorem ShaAt.setH (S : ShaAt w base b h rv rest n) (h' : St) : ShaAt (w.setCells b 0 h'.cells) base b h' rv rest n := by
  have out : ∀ k, 8 ≤ k → (w.setCells b 0 h'.cells).cell? ⟨b, k, none⟩ = w.cell? ⟨b, k, none⟩ := fun k hk =>
    World.cell?_setCells_out b h'.cells 0 w ⟨b, k, none⟩ (fun _ _ => .inr (by simpa [St.cells] using hk))
  exact ⟨S.lo, by rw [size_setCells]; exact S.lt, World.rangeAt_setCells_same _ _ _ _ S.ht, World.there_setCells S.ht _ _ _, World.rangeAt_setCells_apart S.kk _ _ _ (.inr (.inr (by simp [St.cells]))),
    by rw [out 72 (by omega)]; exact S.rc, by rw [World.frozen?_setCells]; exact S.rf, S.ro.kept (grownBy_setCells _ _ _ _) (.inr S.rne), S.rne, by rw [out 73 (by omega)]; exact S.nc, by rw [World.frozen?_setCells]; exact S.nf, by rw [out 74 (by omega)]; exact S.mc⟩
end
/-- How many bytes are left, as the object's cell tells. -/
def restLen (b : Nat) (w : World) : Nat := match w.cell? ⟨b, 72, none⟩ with | some (.slice _ n _) => n | _ => 0
theorem ShaAt.restLen {w : World} {base b : Nat} {h : St} {rv : Value} {rest : List UInt8} {n : Nat} (S : ShaAt w base b h rv rest n) : restLen b w = rest.length := by
  obtain ⟨a, cap, e, _⟩ := S.ro.sees.form
  unfold TL.restLen; rw [S.rc, e]
end TL
end Go
namespace Go.Proofs.Ytjlkiopncclomaa
open Go.RowKit Go.TL
set_option maxRecDepth 100000 in
set_option maxHeartbeats 4000000 in
theorem Write_any (base b : Nat) (s : ByteArray) (w : World) (hs : s.size ≤ 1000000000000) (hbase : base ≤ w.heap.size) (S : ShaAt w base b H0 (.slice none 0 0) [] 0) :
    Calls Try.prog 109 #[.pointer (some ⟨b, 0, none⟩), .string s] w fun e w' => e = .returned (.int .i64 s.size) ∧
      (∃ rv, ShaAt w' base b (absorb (s.size / 64) H0 s.data.toList) rv (s.data.toList.drop (64 * (s.size / 64))) s.size) ∧ Below base w w' := by
  have m0 := S.mc
  have n0 := S.nc
  have nf0 := S.nf
  have r0 := S.rc
  have rf0 := S.rf
  have S' := Lib.hid S; clear S
  go_enter Try.func109, Try.ntmps109
  go_wp2_with (first | (go_at_call 123; refine (none_no _ b m0).mono ?_; rintro e w1 ⟨rfl, rfl⟩) | ((with_reducible show wpList _ _ _ (Oper.mk _ (Op.call ⟨Callee.builtin Builtin.append, _, _⟩) _ _ _ _ :: _) _ _); go_must (refine wpList_append bytesT rfl _ _ _ rfl uS base (.slice none 0 0) 0 [] rfl (S'.out.setN s.size).ro (.string s) s.size _ rfl (Src_string _ s) ?_ ?_ ?_ ?_)))
  · simp only [maxLen]; omega
  · omega
  · simpa using hbase
  · intro v1 w1 hown1 hg1 hf1 _
    replace hown1 : Own w1 base 1 v1 s.size (List.map vb s.data.toList) := by simpa using hown1
    have S1 := S'.out.setN s.size
    have hsz1 : w.heap.size ≤ w1.heap.size := by have := hg1.size; simpa using this
    have hbk1 : w1.heap[b]? = (w.setCell ⟨b, 73, none⟩ (.int .i64 s.size)).heap[b]? := hg1.block b S1.lt (by simp [Value.ownBlock])
    have hne1 : v1.ownBlock ≠ some b := by
      have := S1.lt
      rcases hf1 with e | e
      · rw [e]; simp [Value.ownBlock]
      · rw [e]; simp at this ⊢; omega
    have hlen : (s.data.toList).length = s.size := by rw [Array.length_toList]; rfl
    have ho1 : OwnB w1 base v1 s.data.toList := by show Own _ _ _ _ s.data.toList.length _; rw [hlen]; exact hown1
    have S2 := Lib.hid (S1.kept hbk1 hg1.size ho1 hne1)
    have B1 : Below base w w1 := ((Below.refl base w).setCell (p := ⟨b, 73, none⟩) S'.out.lo _).trans ((Below.refl base _).grown hg1 (by simpa using hbase) (by simp [Value.ownBlock]))
    have B2 := Lib.hid (B1.setCell (p := ⟨b, 72, none⟩) S'.out.lo v1)
    have r1 : w1.cell? ⟨b, 72, none⟩ = some (.slice none 0 0) := by rw [World.cell?_of_block (w := w.setCell ⟨b, 73, none⟩ (.int .i64 s.size)) (a := ⟨b, 72, none⟩) hbk1]; exact S1.rc
    have rf1 : w1.frozen? ⟨b, 72, none⟩ = false := by rw [World.frozen?_of_block (w := w.setCell ⟨b, 73, none⟩ (.int .i64 s.size)) (a := ⟨b, 72, none⟩) hbk1]; exact S1.rf
    have hsz2 := Lib.hid (Nat.le_trans hbase hsz1)
    have hlen' := Lib.hid hlen
    obtain ⟨a1, c1, e1, _⟩ := ho1.sees.form
    rw [hlen] at e1
    subst e1
    clear hown1 hg1 hf1 S1 hbk1 ho1 B1 hlen hsz1
    go_wp2_with fail
    go_loopw [25] (fun _ wr => ∃ (j : Nat) (rv : Value), 64 * j ≤ s.size ∧ ShaAt wr base b (absorb j H0 s.data.toList) rv (s.data.toList.drop (64 * j)) s.size ∧ Below base w wr) (fun _ wr => restLen b wr)
    case atStart => exact ⟨0, _, by omega, S2.out, B2.out⟩
    case round =>
      obtain ⟨j, rv, hj, S, B⟩ := hrel
      have hrl : (s.data.toList.drop (64 * j)).length = s.size - 64 * j := by rw [List.length_drop, hlen'.out]
      have hln := Sees.run_len S.ro.sees 45 5 3 Try.underlying45
      rw [hrl] at hln
      have rc := S.rc
      have rf := S.rf
      have T := Lib.hid S; clear S
      have B' := Lib.hid B; clear B
      have Hrl := Lib.hid hrl; clear hrl
      by_cases hlt : 64 ≤ s.size - 64 * j
      · have hd : decide ((s.size - 64 * j : Nat) ≥ (64 : Int)) = true := by simp; omega
        obtain ⟨hj', ehj⟩ : ∃ x, x = absorb j H0 s.data.toList := ⟨_, rfl⟩
        rw [← ehj] at T
        have Ehj := Lib.hid ehj; clear ehj
        have hcut := T.out.ro.sees.run_cut_hi bytesT 64 (by omega) (by rw [Hrl.out]; omega)
        have hsee := SeesB.cut T.out.ro.sees 0 64 (by omega) (by rw [Hrl.out]; omega)
        obtain ⟨cv, ecv⟩ : ∃ x, x = cutV 1 rv 0 64 := ⟨_, rfl⟩
        rw [show (64 : Int).toNat = 64 from rfl, ← ecv] at hcut
        rw [← ecv, List.drop_zero] at hsee
        have Hsee := Lib.hid hsee; clear hsee ecv
        go_wp2_with fail
        refine region_det [(0, false), (1, false), (2, false), (3, false), (5, false), (6, false), (7, false), (9, false), (10, false), (11, false), (12, false), (13, false), (14, false), (4, false), (8, false), (15, false), (16, false), (17, true), (18, false), (19, false), (20, true)] [(32, .ptr), (36, .ptr), (40, .ptr), (43, .ptr), (31, .ptr)] (by kernel_rfl) (by kernel_rfl) rfl (by kernel_rfl) ?_
        simp only [reord, opAt, List.map_cons, List.map_nil, List.getElem?_toArray, List.getElem?_cons_zero, List.getElem?_cons_succ, Option.getD_some]
        go_wp2_with (first | ((with_reducible show wpList _ _ _ (Oper.mk _ (Op.load 174 _) _ _ _ _ :: _) _ _); go_must (refine wpList_load_mid rfl 174 _ rfl b 0 rfl _ _ T.out.drew.hh Try.underlying174 rfl (by kernel_rfl) ?_)) | (go_at_call 124; refine (turn_any hj' hj' K64 K64_length b 8 cv ((s.data.toList.drop (64 * j)).take 64) (by rw [List.length_take, Hrl.out]; omega) _ (by exact T.out.drew.kk) (by exact Sees.drew Hsee.out)).mono ?_; rintro e w1 ⟨rfl, hb1⟩; have S3 := Lib.hid (T.out.drew.below hb1)) | ((with_reducible show wpList _ _ _ (Oper.mk none (Op.store 174 _ _) _ _ _ _ :: _) _ _); go_must (refine wpList_putRow rfl 174 _ _ rfl b 0 _ rfl rfl (by exact S3.out.ht) (by kernel_rfl) (by simp [Value.oneCell', St.cells, vw]) ?_)))
        refine OnlyN.intro (by kernel_rfl) ?_
        have S4 := Lib.hid (S3.out.setH (turnS hj' hj' K64 ((s.data.toList.drop (64 * j)).take 64)))
        have rc4 := S4.out.rc
        have rf4 := S4.out.rf
        have hb1' := Lib.hid hb1; clear hb1
        have hlo := S4.out.ro.sees.run_cut_lo bytesT 64 (by omega) (by rw [Hrl.out]; omega)
        have ho5 := OwnB.cut S4.out.ro 64 (s.data.toList.drop (64 * j)).length (by rw [Hrl.out]; omega) (Nat.le_refl _)
        rw [List.take_length, List.drop_drop, show 64 * j + 64 = 64 * (j + 1) by omega] at ho5
        have hne5 := ownBlock_cutV (size := 1) rv 64 (s.data.toList.drop (64 * j)).length
        have hlen5 : (s.data.toList.drop (64 * (j + 1))).length = s.size - 64 * (j + 1) := by rw [List.length_drop, hlen'.out]
        obtain ⟨a2, c2, e2, _⟩ := ho5.sees.form
        rw [hlen5] at e2
        rw [show (64 : Int).toNat = 64 from rfl, e2] at hlo
        rw [e2] at ho5 hne5
        have S5 := Lib.hid (S4.out.kept rfl (Nat.le_refl _) ho5 (by rw [hne5]; exact S4.out.rne))
        have hlen6 := Lib.hid hlen5
        clear e2 ho5 hne5 hlen5
        go_wp2_with fail
        go_roundw
        case rel =>
          have e : absorb (j + 1) H0 s.data.toList = turnS hj' hj' K64 ((s.data.toList.drop (64 * j)).take 64) := by rw [absorb_step, ← Ehj.out]
          exact ⟨j + 1, .slice a2 (s.size - 64 * (j + 1)) c2, by omega, by rw [e]; exact S5.out, (below_setCells S'.out.lo _ _ _ (B'.out.drew.trans (hb1'.out.mono (Nat.le_trans hbase B'.out.size)))).setCell (p := ⟨b, 72, none⟩) S'.out.lo _⟩
        case measure =>
          rw [S5.out.restLen, T.out.restLen, hlen6.out, Hrl.out]; omega
      · go_wp2_with fail
        go_ret
        have hq : s.size / 64 = j := by omega
        rw [hq]
        exact ⟨rfl, ⟨rv, T.out⟩, B'.out⟩
end Go.Proofs.Ytjlkiopncclomaa

/- The walk of (*Sha).Sum: the hash, and nothing that was there is touched. Conditions: fewer than 64 bytes are left; fewer than 10^12 were written. -/
namespace Go
namespace TL
open Go.RowKit
/-- How many noughts the padding has, behind r bytes. -/
def zpad (r : Nat) : Nat := (119 - r % 64) % 64
def padB (rest : List UInt8) (n : Nat) : List UInt8 := rest ++ [128] ++ List.replicate (zpad rest.length) 0 ++ bigB (UInt64.ofNat n * 8) 8
def outB (s : St) : List UInt8 := s.words.flatMap fun x => bigB x.toUInt64 4
def sumS (h : St) (rest : List UInt8) (n : Nat) : List UInt8 := outB (absorb ((padB rest n).length / 64) h (padB rest n))
theorem outB_length (s : St) : (outB s).length = 32 := rfl
/-- Sum's own blocks while it pads. -/
structure PI (w wr : World) (bv : Value) (l : List UInt8) : Prop where
  bel : Below w.heap.size w wr
  own : OwnB wr (w.heap.size + 1) bv l
  out : wr.there w.heap.size 0 32
  sz : w.heap.size < wr.heap.size
theorem PI.step {w wr w' : World} {bv v' : Value} {l l' : List UInt8} (h : PI w wr bv l) (ho : OwnB w' (w.heap.size + 1) v' l') (hg : wr.grownBy w' bv.ownBlock) : PI w w' v' l' := by
  have hne : ∀ k, bv.ownBlock = some k → w.heap.size + 1 ≤ k := fun k e => (Own.base_le h.own e).1
  refine ⟨h.bel.trans (below_of_grownBy hg (Nat.le_of_lt h.sz) fun k e => by have := hne k e; omega), ho, there_of_block h.out (hg.block _ h.sz ?_), Nat.lt_of_lt_of_le h.sz hg.size⟩
  cases e : bv.ownBlock with
  | none => simp
  | some k => intro e2; injection e2 with e2; have := hne k e; omega
theorem PI.drew {w wr : World} {bv : Value} {l : List UInt8} (h : PI w wr bv l) : PI w wr.drew bv l := ⟨h.bel.drew, h.own, h.out, h.sz⟩
/-- While the hash is laid: the words' bytes that are there. -/
structure RI (w wr : World) (s : St) (i : Nat) : Prop where
  bel : Below w.heap.size w wr
  out : wr.there w.heap.size 0 32
  sz : w.heap.size < wr.heap.size
  got : wr.rangeAt w.heap.size 0 (((outB s).take (4 * i)).map vb)
theorem outB_take (s : St) (i : Nat) (hi : i < 8) : ∃ x, s.words[i]? = some x ∧ s.cells.toArray[i]? = some (vw x) ∧ (outB s).take (4 * (i + 1)) = (outB s).take (4 * i) ++ bigB x.toUInt64 4 := by
  have : i = 0 ∨ i = 1 ∨ i = 2 ∨ i = 3 ∨ i = 4 ∨ i = 5 ∨ i = 6 ∨ i = 7 := by omega
  rcases this with rfl | rfl | rfl | rfl | rfl | rfl | rfl | rfl <;> exact ⟨_, rfl, rfl, rfl⟩
theorem RI.step {w wr w1 : World} {s : St} {i : Nat} (h : RI w wr s i) (hb : Below wr.heap.size wr w1) (hi : i < 8) (x : UInt32) (hx : (outB s).take (4 * (i + 1)) = (outB s).take (4 * i) ++ bigB x.toUInt64 4) :
    RI w (w1.setCells w.heap.size (4 * i) ((bigB x.toUInt64 4).map vb)) s (i + 1) := by
  have e := hb.block _ h.sz
  have hl : ((bigB x.toUInt64 4).map vb).length = 4 := by rw [List.length_map, bigB_length]
  have hlt : (((outB s).take (4 * i)).map vb).length = 4 * i := by rw [List.length_map, List.length_take, outB_length]; omega
  refine ⟨below_setCells (Nat.le_refl _) _ _ _ (h.bel.trans (hb.mono h.bel.size)), World.there_setCells (there_of_block h.out e) _ _ _, by rw [size_setCells]; exact Nat.lt_of_lt_of_le h.sz hb.size, ?_⟩
  rw [hx, List.map_append]
  refine rangeAt_append (World.rangeAt_setCells_apart (rangeAt_of_block h.got e) _ _ _ (.inr (.inl (by rw [hlt]; omega)))) ?_
  rw [hlt, Nat.zero_add]
  refine World.rangeAt_setCells_same _ _ _ _ ?_
  rw [hl]
  have := there_drop (there_of_block h.out e) (4 * i)
  rw [Nat.zero_add] at this
  exact there_mono this (by omega)
/-- While it turns: the words lie in a block of their own. -/
structure QI (w wr : World) (g : Nat) (bv : Value) (l : List UInt8) (s : St) : Prop where
  pi : PI w wr bv l
  glo : w.heap.size < g
  glt : g < wr.heap.size
  gne : bv.ownBlock ≠ some g
  gr : wr.rangeAt g 0 s.cells
  gt : wr.there g 0 8
theorem QI.drew {w wr : World} {g : Nat} {bv : Value} {l : List UInt8} {s : St} (h : QI w wr g bv l s) : QI w wr.drew g bv l s := ⟨h.pi.drew, h.glo, h.glt, h.gne, h.gr, h.gt⟩
theorem QI.below {w wr w' : World} {g : Nat} {bv : Value} {l : List UInt8} {s : St} (h : QI w wr g bv l s) (hb : Below wr.heap.size wr w') : QI w w' g bv l s := by
  have e := hb.block g h.glt
  exact ⟨h.pi.step (Own.below h.pi.own hb) (grownBy_of_below hb _), h.glo, Nat.lt_of_lt_of_le h.glt hb.size, h.gne, rangeAt_of_block h.gr e, there_of_block h.gt e⟩
theorem QI.set' {w wr : World} {g : Nat} {bv : Value} {l : List UInt8} (hpi : PI w wr bv l) (glo : w.heap.size < g) (glt : g < wr.heap.size) (gne : bv.ownBlock ≠ some g) (gt : wr.there g 0 8) (s' : St) : QI w (wr.setCells g 0 s'.cells) g bv l s' := by
  have hg := grownBy_setCells wr g 0 s'.cells
  refine ⟨⟨below_setCells (Nat.le_of_lt glo) _ _ _ hpi.bel, Own.kept hpi.own hg (.inr gne), there_of_block hpi.out (block_setCells g _ 0 wr _ (by omega)), by rw [size_setCells]; exact hpi.sz⟩, glo, by rw [size_setCells]; exact glt, gne, World.rangeAt_setCells_same _ _ _ _ gt, World.there_setCells gt _ _ _⟩
theorem QI.set {w wr : World} {g : Nat} {bv : Value} {l : List UInt8} {s : St} (h : QI w wr g bv l s) (s' : St) : QI w (wr.setCells g 0 s'.cells) g bv l s' := QI.set' h.pi h.glo h.glt h.gne h.gt s'
theorem padB_length (rest : List UInt8) (n : Nat) (hr : rest.length < 64) : ∃ N, N ≤ 2 ∧ (padB rest n).length = 64 * N := by
  have e : (padB rest n).length = rest.length + 1 + zpad rest.length + 8 := by simp [padB, bigB_length]; omega
  rw [e]; unfold zpad
  exact ⟨(rest.length + 1 + (119 - rest.length % 64) % 64 + 8) / 64, by omega, by omega⟩
theorem QI.slice {w wr : World} {g : Nat} {bv bv' : Value} {l l' : List UInt8} {s : St} (h : QI w wr g bv l s) (ho : OwnB wr (w.heap.size + 1) bv' l') (hne : bv'.ownBlock = bv.ownBlock) : QI w wr g bv' l' s :=
  ⟨⟨h.pi.bel, ho, h.pi.out, h.pi.sz⟩, h.glo, h.glt, by rw [hne]; exact h.gne, h.gr, h.gt⟩
end TL
end Go
namespace Go.Proofs.Ytjlkiopncclomaa
open Go.RowKit Go.TL
set_option maxRecDepth 100000 in
set_option maxHeartbeats 4000000 in
theorem Sum_any (base b : Nat) (h : St) (rv : Value) (rest : List UInt8) (n : Nat) (w : World) (S : ShaAt w base b h rv rest n) (hr : rest.length < 64) :
    Calls Try.prog 110 #[.pointer (some ⟨b, 0, none⟩)] w fun e w' => e = .returned (.agg ((sumS h rest n).map vb).toArray) ∧ Below w.heap.size w w' := by
  have m0 := S.mc
  have n0 := S.nc
  have r0 := S.rc
  have hbl := S.lt
  have S' := Lib.hid S; clear S
  go_enter Try.func110, Try.ntmps110
  go_wp2_with (first | ((with_reducible show wpList _ _ _ (Oper.mk _ (Op.alloc 27) _ _ _ _ :: _) _ _); go_must (refine wpList_newRow rfl _ rfl (Array.replicate 32 (.int .u8 0)) (by kernel_rfl) ?_; intro w1 hb1 hs1 hr1 ht1; have S1 := S'.out.below hb1; have m1 := S1.mc; have n1 := S1.nc; have r1 := S1.rc; have l1 : b < w1.heap.size := S1.lt; have T1 := Lib.hid S1; clear S1 hr1; have Hb1 := Lib.hid hb1; clear hb1; have Hs1 := Lib.hid hs1; clear hs1; have Ht1 := Lib.hid ht1; clear ht1)) | (go_at_call 123; go_must (refine (none_no _ b m1).mono ?_; rintro e w2 ⟨rfl, rfl⟩)) | ((with_reducible show wpList _ _ _ (Oper.mk _ (Op.call ⟨Callee.builtin Builtin.append, #[.tmp 10, .tmp 14], _⟩) _ _ _ _ :: _) _ _); go_must (refine wpList_append bytesT rfl _ _ _ rfl uB (w.heap.size + 1) (.slice (some ⟨w1.heap.size, 0, none⟩) 0 0) 0 [] rfl (OwnB_empty _ _ w1.heap.size (by rw [Hs1.out]; exact Nat.le_refl _) (by simp)) rv rest.length _ rfl (SeesB.src (Sees.alloc T1.out.ro.sees _)) (by simp only [maxLen]; omega) (by omega) (by simp; rw [Hs1.out]; omega) ?_; intro v1 w2 ho2 hg2 hf2 _; have B2 : Below w1.heap.size w1 w2 := below_of_grownBy (grownBy_trans (World.grownBy_alloc w1 _ _) hg2) (Nat.le_refl _) (by simp [Value.ownBlock]); have T2 := Lib.hid (T1.out.below B2); have hsz2 : w1.heap.size + 1 ≤ w2.heap.size := (by have := hg2.size; simpa using this); have hOut2 := Lib.hid (there_of_block Ht1.out (B2.block w.heap.size (by rw [Hs1.out]; omega))); have HB2 := Lib.hid (Hb1.out.trans (B2.mono (by rw [Hs1.out]; omega))); have Ho2 : Hid (OwnB w2 (w.heap.size + 1) v1 rest) := Lib.hid (by simpa [OwnB] using ho2); have Hsz2 : Hid (w.heap.size + 2 ≤ w2.heap.size) := Lib.hid (by rw [Hs1.out] at hsz2; exact hsz2); clear ho2 hg2 hf2 B2 hsz2 m1 n1 r1 T1 Ht1 Hb1 Hs1)) | ((with_reducible show wpList _ _ _ (Oper.mk _ (Op.call ⟨Callee.builtin Builtin.append, #[.tmp 15, .tmp 16], _⟩) _ _ _ _ :: _) _ _); go_must (refine wpList_append_new bytesT rfl _ _ rfl (w.heap.size + 1) w2 [128] _ _ rfl v1 rest rfl Ho2.out rfl (by simp; omega) (by have := Hsz2.out; omega) ?_; intro v2 w3 ho3 hg3 hf3)))
  have I3 : Hid (PI w w3 v2 (rest ++ [128])) := Lib.hid (PI.step ⟨HB2.out, Ho2.out, by simpa using hOut2.out, by have := Hsz2.out; omega⟩ ho3 hg3)
  clear ho3 hg3 hf3 Ho2 hOut2 HB2 Hsz2 T2
  go_loopw [3] (fun bv wr => ∃ k : Nat, k ≤ zpad rest.length ∧ PI w wr bv (rest ++ [128] ++ List.replicate k 0)) (fun bv _ => rest.length + 1 + zpad rest.length - lenV bv)
  case atStart => exact ⟨0, by omega, by simpa using I3.out⟩
  case round =>
    obtain ⟨k, hk, I⟩ := hrel
    have hln := Sees.run_len I.own.sees 45 5 3 Try.underlying45
    have elen : (rest ++ [128] ++ List.replicate k 0).length = rest.length + 1 + k := by simp; omega
    rw [elen] at hln
    have I' := Lib.hid I; clear I I3
    by_cases hlt : k < zpad rest.length
    · have hd : (rest.length + 1 + k) % 64 ≠ 56 := by unfold zpad at hlt; omega
      go_wp2_with ((with_reducible show wpList _ _ _ (Oper.mk _ (Op.call ⟨Callee.builtin Builtin.append, #[.tmp 22, .tmp 23], _⟩) _ _ _ _ :: _) _ _); go_must (refine wpList_append_new bytesT rfl _ _ rfl (w.heap.size + 1) wr [0] _ _ rfl _ (rest ++ [128] ++ List.replicate k 0) rfl I'.out.own rfl (by rw [elen]; simp; unfold zpad at hlt; omega) (by have := I'.out.sz; omega) ?_; intro v4 w4 ho4 hg4 _; have I4 := Lib.hid (I'.out.step ho4 hg4); clear ho4 hg4))
      go_roundw
      case rel => exact ⟨k + 1, by omega, by have := I4.out; simpa [List.replicate_succ'] using this⟩
      case measure => rw [I4.out.own.sees.lenV, I'.out.own.sees.lenV]; simp; omega
    · have hkz : k = zpad rest.length := by omega
      have hd : (rest.length + 1 + k) % 64 = 56 := by unfold zpad at hkz; omega
      have T4 := Lib.hid (S'.out.below I'.out.bel)
      have n4 := T4.out.nc
      go_wp2_with (first | (go_at_call 125; go_must (refine (putBig_any (w.heap.size + 1) _ (rest ++ [128] ++ List.replicate k 0) (UInt64.ofNat n * 8) 8 wr I'.out.own (by have := I'.out.sz; omega) (by decide) (by rw [elen]; unfold zpad at hkz; omega)).mono ?_; rintro e w5 ⟨v5, rfl, ho5, hg5, _⟩; have I5 := Lib.hid (I'.out.step ho5 hg5); have T5 := Lib.hid (S'.out.below I5.out.bel); clear ho5 hg5 T4 n4)) | ((with_reducible show wpList _ _ _ (Oper.mk (some 36) (Op.load 174 _) _ _ _ _ :: _) _ _); go_must (refine wpList_load_mid rfl 174 _ rfl b 0 rfl _ _ (by exact T5.out.hh) Try.underlying174 rfl (by kernel_rfl) ?_)) | ((with_reducible show wpList _ _ _ (Oper.mk _ (Op.alloc 174) _ _ _ _ :: _) _ _); go_must (refine wpList_newRow rfl _ rfl (Array.replicate 8 (.int .u32 0)) (by kernel_rfl) ?_; intro w6 hb6 hs6 hr6 ht6; have Hb6 := Lib.hid hb6; clear hb6; have Hs6 := Lib.hid hs6; clear hs6 hr6; have Ht6 := Lib.hid ht6; clear ht6)) | ((with_reducible show wpList _ _ _ (Oper.mk none (Op.store 174 _ _) _ _ _ _ :: _) _ _); go_must (refine wpList_putRow rfl 174 _ _ rfl w5.heap.size 0 h.cells rfl rfl (by simpa [St.cells] using Ht6.out) (by kernel_rfl) (by simp [Value.oneCell', St.cells, vw]) ?_)))
      have J6 : Hid (QI w (w6.setCells w5.heap.size 0 h.cells) w5.heap.size v5 (padB rest n) h) := Lib.hid (by
        have hpi := I5.out.step (Own.below I5.out.own Hb6.out) (grownBy_of_below Hb6.out _)
        rw [hkz] at hpi
        have hlt5 := Hs6.out
        exact QI.set' hpi I5.out.sz (by omega) (fun e => by have := (Own.base_le I5.out.own e).2; omega) (by simpa using Ht6.out) h)
      clear Hs6 Ht6 Hb6 I5 T5 I'
      obtain ⟨N, hN, hpl⟩ := padB_length rest n hr
      go_simp
      go_loopw [3] (fun bv wr => ∃ j : Nat, j ≤ N ∧ QI w wr w5.heap.size bv ((padB rest n).drop (64 * j)) (absorb j h (padB rest n))) (fun bv _ => lenV bv)
      case atStart => exact ⟨0, by omega, by simpa [absorb] using J6.out⟩
      case round =>
        clear J6
        obtain ⟨j, hj, J⟩ := hrel
        have hdl : ((padB rest n).drop (64 * j)).length = 64 * N - 64 * j := by rw [List.length_drop, hpl]
        have hln2 := Sees.run_len J.pi.own.sees 45 5 3 Try.underlying45
        rw [hdl] at hln2
        have J' := Lib.hid J; clear J
        have Hdl := Lib.hid hdl; clear hdl
        by_cases hjN : j < N
        · have hpos : decide ((64 * N - 64 * j : Nat) > (0 : Int)) = true := by simp; omega
          obtain ⟨hj', ehj⟩ : ∃ x, x = absorb j h (padB rest n) := ⟨_, rfl⟩
          rw [← ehj] at J'
          have Ehj := Lib.hid ehj; clear ehj
          have hcut := J'.out.pi.own.sees.run_cut_hi bytesT 64 (by omega) (by rw [Hdl.out]; omega)
          have hsee := SeesB.cut J'.out.pi.own.sees 0 64 (by omega) (by rw [Hdl.out]; omega)
          obtain ⟨cv, ecv⟩ : ∃ x, x = cutV 1 u3 0 64 := ⟨_, rfl⟩
          rw [show (64 : Int).toNat = 64 from rfl, ← ecv] at hcut
          rw [← ecv, List.drop_zero] at hsee
          have Hsee := Lib.hid hsee; clear hsee ecv
          go_wp2_with fail
          refine region_det [(2, false), (3, false), (4, false), (5, false), (6, false), (0, false), (1, false), (7, true), (8, true)] [(44, .ptr)] (by kernel_rfl) (by kernel_rfl) rfl (by kernel_rfl) ?_
          simp only [reord, opAt, List.map_cons, List.map_nil, List.getElem?_toArray, List.getElem?_cons_zero, List.getElem?_cons_succ, Option.getD_some]
          have T6 := Lib.hid (S'.out.below J'.out.drew.pi.bel)
          go_wp2_with (first | ((with_reducible show wpList _ _ _ (Oper.mk _ (Op.load 174 _) _ _ _ _ :: _) _ _); go_must (refine wpList_load_mid rfl 174 _ rfl w5.heap.size 0 rfl _ _ (by exact J'.out.drew.gr) Try.underlying174 rfl (by kernel_rfl) ?_)) | (go_at_call 124; go_must (refine (turn_any hj' hj' K64 K64_length b 8 cv (((padB rest n).drop (64 * j)).take 64) (by rw [List.length_take, Hdl.out]; omega) _ (by exact T6.out.kk) (by exact Sees.drew Hsee.out)).mono ?_; rintro e w7 ⟨rfl, hb7⟩; have J3 := Lib.hid (J'.out.drew.below hb7); clear hb7)) | ((with_reducible show wpList _ _ _ (Oper.mk none (Op.store 174 _ _) _ _ _ _ :: _) _ _); go_must (refine wpList_putRow rfl 174 _ _ rfl w5.heap.size 0 _ rfl rfl (by exact J3.out.gt) (by kernel_rfl) (by simp [Value.oneCell', St.cells, vw]) ?_)))
          refine OnlyN.intro (by kernel_rfl) ?_
          have J4 := Lib.hid (J3.out.set (turnS hj' hj' K64 (((padB rest n).drop (64 * j)).take 64)))
          have hlo := J4.out.pi.own.sees.run_cut_lo bytesT 64 (by omega) (by rw [Hdl.out]; omega)
          have ho5 := OwnB.cut J4.out.pi.own 64 ((padB rest n).drop (64 * j)).length (by rw [Hdl.out]; omega) (Nat.le_refl _)
          rw [List.take_length, List.drop_drop, show 64 * j + 64 = 64 * (j + 1) by omega] at ho5
          have J5 := Lib.hid (J4.out.slice ho5 (ownBlock_cutV (size := 1) u3 64 ((padB rest n).drop (64 * j)).length))
          have hlen5 : ((padB rest n).drop (64 * (j + 1))).length = 64 * N - 64 * (j + 1) := by rw [List.length_drop, hpl]
          have Hlen5 := Lib.hid hlen5; clear hlen5 ho5
          rw [Hdl.out] at J5
          go_wp2_with fail
          go_roundw
          case rel =>
            have e : absorb (j + 1) h (padB rest n) = turnS hj' hj' K64 (((padB rest n).drop (64 * j)).take 64) := by rw [absorb_step, ← Ehj.out]
            exact ⟨j + 1, by omega, by rw [e]; exact J5.out⟩
          case measure => rw [J5.out.pi.own.sees.lenV, J'.out.pi.own.sees.lenV, Hlen5.out, Hdl.out]; omega
        · have hjn : j = N := by omega
          subst hjn
          have hneg : decide ((64 * j - 64 * j : Nat) > (0 : Int)) = false := by simp
          go_wp2_with ((with_reducible show wpList _ _ _ (Oper.mk _ (Op.load 174 _) _ _ _ _ :: _) _ _); go_must (refine wpList_load_mid rfl 174 _ rfl w5.heap.size 0 rfl _ _ (by exact J'.out.gr) Try.underlying174 rfl (by kernel_rfl) ?_))
          go_simp
          obtain ⟨sN, esN⟩ : ∃ s, s = absorb j h (padB rest n) := ⟨_, rfl⟩
          rw [← esN] at J'
          have R0 : Hid (RI w wr sN 0) := Lib.hid ⟨J'.out.pi.bel, J'.out.pi.out, J'.out.pi.sz, rangeAt_nil _ _ _⟩
          have EsN := Lib.hid esN
          rw [← esN]; clear esN J'
          go_loopw [51] (fun iv wr => ∃ i : Nat, i ≤ 8 ∧ iv = .int .i64 i ∧ RI w wr sN i) (fun iv _ => 8 - (intOf iv).toNat)
          case atStart => exact ⟨0, by omega, rfl, R0.out⟩
          case round =>
            clear R0
            obtain ⟨i, hi8, rfl, R⟩ := hrel
            have R' := Lib.hid R; clear R
            by_cases hlt : i < 8
            · obtain ⟨x, hx1, hx2, hx3⟩ := outB_take sN i hlt
              have hix : ∀ w'', (Instr.index 174 (.agg sN.cells.toArray) (.int .i64 i)).run Try.prog w'' = .ok (.int .u32 (I32 x)) w'' := fun w'' => run_index_agg _ _ 8 _ Try.underlying174 _ Try.underlying24 rfl (by kernel_rfl) i hlt _ hx2 w''
              have hsl : ∀ w'', (Instr.sliceAt 27 (.pointer (some ⟨w.heap.size, 0, none⟩)) (some (.int .i64 (4 * (i : Int)))) none none).run Try.prog w'' = .ok (.slice (some ⟨w.heap.size, 4 * i, none⟩) (32 - 4 * i) (32 - 4 * i)) w'' := fun w'' => by
                have := run_sliceAt_row 27 _ 32 Try.underlying27 (by kernel_rfl) w.heap.size 0 (4 * i) (by omega) (4 * (i : Int)) (by omega) w''
                rwa [Nat.zero_add] at this
              have Hx3 := Lib.hid hx3; clear hx3 hx1 hx2
              go_wp2_with fail
              refine region_det [(0, false), (1, false), (2, false), (3, false), (4, false), (5, true), (6, true)] [(55, .int), (58, .int)] (by kernel_rfl) (by kernel_rfl) rfl (by kernel_rfl) ?_
              simp only [reord, opAt, List.map_cons, List.map_nil, List.getElem?_toArray, List.getElem?_cons_zero, List.getElem?_cons_succ, Option.getD_some]
              go_wp2_with (first | (go_at_call 125; go_must (refine (putBig_any (w.heap.size + 1) (.slice none 0 0) [] x.toUInt64 4 wr.drew (Own_nil _ _ _) (by exact R'.out.sz) (by decide) (by simp)).mono ?_; rintro e w8 ⟨v8, rfl, ho8, hg8, hf8⟩; have Ho8 : Hid (OwnB w8 (w.heap.size + 1) v8 (bigB x.toUInt64 4)) := Lib.hid (by simpa using ho8); have Hb8 : Hid (Below wr.heap.size wr w8) := Lib.hid ((Below.refl _ wr).drew.trans (below_of_grownBy hg8 (Nat.le_refl _) (by simp [Value.ownBlock]))); clear ho8 hg8 hf8)) | ((with_reducible show wpList _ _ _ (Oper.mk _ (Op.call ⟨Callee.builtin Builtin.copy, _, _⟩) _ _ _ _ :: _) _ _); go_must (refine wpList_copy bytesT rfl _ _ 45 rfl w.heap.size (4 * i) (32 - 4 * i) (32 - 4 * i) rfl v8 4 ((bigB x.toUInt64 4).map vb) rfl (SeesB.src Ho8.out.sees) 4 ?_ ?_ ?_)))
              · show 4 = Nat.min 4 (32 - 4 * i)
                exact (Nat.min_eq_left (by omega)).symm
              · have := there_drop (there_of_block R'.out.out (Hb8.out.block _ R'.out.sz)) (4 * i)
                rw [Nat.zero_add] at this
                exact there_mono this (by omega)
              have R8 := Lib.hid (R'.out.step Hb8.out hlt x Hx3.out)
              rw [show List.take (4 * 1) ((bigB x.toUInt64 4).map vb) = (bigB x.toUInt64 4).map vb from rfl]
              go_wp2_with fail
              refine OnlyN.intro (by kernel_rfl) ?_
              go_wp2_with fail
              go_roundw
              case rel => exact ⟨i + 1, by omega, by go_num, R8.out⟩
              case measure => simp [intOf]; omega
            · have hi8' : i = 8 := by omega
              subst hi8'
              have hgot := R'.out.got
              rw [show 4 * 8 = (outB sN).length from rfl, List.take_length] at hgot
              have Hgot := Lib.hid hgot; clear hgot
              go_wp2_with (first | ((with_reducible show wpList _ _ _ (Oper.mk _ (Op.load 27 _) _ _ _ _ :: _) _ _); go_must (refine wpList_load_mid rfl 27 _ rfl w.heap.size 0 rfl _ _ Hgot.out Try.underlying27 rfl (by kernel_rfl) ?_)) | ((with_reducible show wpList _ _ _ (Oper.mk none (Op.store 27 _ _) _ _ _ _ :: _) _ _); go_must (refine wpList_putRow rfl 27 _ _ rfl w.heap.size 0 ((outB sN).map vb) rfl rfl (by rw [List.length_map, outB_length]; exact R'.out.out) (by rw [List.length_map, outB_length]; kernel_rfl) (vb_one _) ?_)))
              refine bodyPost_ret (results_row rfl _ _ w.heap.size 0 ((outB sN).map vb) _ rfl (World.rangeAt_setCells_same _ _ _ _ (by rw [List.length_map, outB_length]; exact R'.out.out)) Try.underlying27 rfl (by rw [List.length_map, outB_length]; kernel_rfl)) rfl ?_
              refine ⟨?_, below_setCells (Nat.le_refl _) _ _ _ R'.out.bel⟩
              have e : sumS h rest n = outB sN := by rw [EsN.out]; unfold sumS; rw [hpl, Nat.mul_div_cancel_left _ (by decide)]
              rw [e]
end Go.Proofs.Ytjlkiopncclomaa

/- The walks of sha.Sum, hexOf and Digits: a text's hash, its digits. Conditions: the text is shorter than 10^12 bytes. -/
namespace Go
namespace TL
open Go.RowKit
def bytesOf (s : ByteArray) : List UInt8 := s.data.toList
/-- The hash of a text of n bytes. -/
def shaL (l : List UInt8) : List UInt8 := sumS (absorb (l.length / 64) H0 l) (l.drop (64 * (l.length / 64))) l.length
theorem shaL_length (l : List UInt8) : (shaL l).length = 32 := rfl
def hexTab : ByteArray := ⟨#[48, 49, 50, 51, 52, 53, 54, 55, 56, 57, 97, 98, 99, 100, 101, 102]⟩
/-- The digit of a number below 16. -/
def hexD (x : UInt8) : UInt8 := (hexTab[x.toNat]?).getD 0
@[go_sem high] theorem fold_hexTab : (⟨#[48, 49, 50, 51, 52, 53, 54, 55, 56, 57, 97, 98, 99, 100, 101, 102]⟩ : ByteArray) = hexTab := rfl
@[go_sem high] theorem run_index_hexTab {P : Program} (w : World) (t : TypeId) (k : IntKind) (x : UInt8) (h : P.underlying t = some .string) (h1 : I8 x ≤ 15) :
    (Instr.index t (.string hexTab) (.int k (I8 x))).run P w = .ok (.int .u8 (I8 (hexD x))) w := by
  rw [I8_eq] at h1 ⊢
  have hs : hexTab.size = 16 := rfl
  have hi : 0 ≤ (x.toNat : Int) ∧ (x.toNat : Int) < (hexTab.size : Int) := by rw [hs]; omega
  rw [run_index_string w t hexTab k _ h, dif_pos hi]
  have h2 : x.toNat < hexTab.size := by rw [hs]; omega
  simp [hexD, ByteArray.getElem?_lt' _ _ h2, I8_eq]
theorem shr4_le (x : UInt8) : I8 (x >>> 4) ≤ 15 := by
  rw [I8_eq]; have := UInt8.toNat_lt x; rw [UInt8.toNat_shiftRight]; simp [Nat.shiftRight_eq_div_pow]; omega
theorem and15_le (x : UInt8) : I8 (x &&& 15) ≤ 15 := by
  rw [I8_eq]; rw [UInt8.toNat_and]; exact Int.ofNat_le.2 (Nat.and_le_right)
def hexB (l : List UInt8) : List UInt8 := l.flatMap fun (b : UInt8) => [hexD (b >>> 4), hexD (b &&& 15)]
theorem hexB_length (l : List UInt8) : (hexB l).length = 2 * l.length := by
  induction l with
  | nil => rfl
  | cons a l ih => simp only [hexB, List.flatMap_cons, List.length_append] at ih ⊢; rw [ih]; simp; omega
theorem hexB_snoc (l : List UInt8) (b : UInt8) : hexB (l ++ [b]) = hexB l ++ [hexD (b >>> 4), hexD (b &&& 15)] := by simp [hexB]
theorem bytesOf_length (s : ByteArray) : (bytesOf s).length = s.size := by simp [bytesOf]
end TL
end Go
namespace Go.Proofs.Ytjlkiopncclomaa
open Go.RowKit Go.TL
set_option maxHeartbeats 1000000 in
theorem shaSum_any (s : ByteArray) (w : World) (hs : s.size ≤ 1000000000000) :
    Calls Try.prog 81 #[.string s] w fun e w' => e = .returned (.agg ((shaL (bytesOf s)).map vb).toArray) ∧ Below w.heap.size w w' := by
  go_enter Try.func81, Try.ntmps81
  go_wp2_with (first | ((with_reducible show wpList _ _ _ (Oper.mk _ (Op.alloc 27) _ _ _ _ :: _) _ _); go_must (refine wpList_newRow rfl _ rfl (Array.replicate 32 (.int .u8 0)) (by kernel_rfl) ?_; intro w0 hb0 hs0 hr0 ht0; have Hb0 := Lib.hid hb0; clear hb0 hr0; have Hs0 := Lib.hid hs0; clear hs0; have Ht0 := Lib.hid ht0; clear ht0)) | (go_at_call 108; go_must (refine (New_any w0).mono ?_; rintro e w1 ⟨b, rfl, S1, hb1⟩; have S1' := Lib.hid S1; have hb1' := Lib.hid hb1; clear S1 hb1)) | (go_at_call 109; go_must (refine (Write_any w0.heap.size b s w1 hs hb1'.out.size S1'.out).mono ?_; rintro e w2 ⟨rfl, ⟨rv, S2⟩, hb2⟩; have S2' := Lib.hid S2; have hb2' := Lib.hid hb2; clear S2 hb2)) | (go_at_call 110; go_must (refine (Sum_any w0.heap.size b _ rv _ _ w2 S2'.out (by rw [List.length_drop]; have := bytesOf_length s; unfold bytesOf at this; omega)).mono ?_; rintro e w3 ⟨rfl, hb3⟩; have hb3' := Lib.hid hb3; have Ht3 : Hid (w3.there w.heap.size 0 32) := Lib.hid (by have e := (hb1'.out.trans (hb2'.out.trans (hb3'.out.mono (Nat.le_trans hb1'.out.size hb2'.out.size)))).block w.heap.size (by have := Hs0.out; omega); exact there_of_block (by simpa using Ht0.out) e); clear hb3)) | ((with_reducible show wpList _ _ _ (Oper.mk none (Op.store 27 _ _) _ _ _ _ :: _) _ _); go_must (refine wpList_putRow rfl 27 _ _ rfl w.heap.size 0 ((sumS (absorb (s.size / 64) H0 s.data.toList) (List.drop (64 * (s.size / 64)) s.data.toList) s.size).map vb) rfl rfl (by exact Ht3.out) (by kernel_rfl) (vb_one _) ?_)))
  refine bodyPost_ret (results_row rfl _ _ w.heap.size 0 ((shaL (bytesOf s)).map vb) _ rfl ?_ Try.underlying27 rfl (by kernel_rfl)) rfl ⟨rfl, ?_⟩
  · rw [shaL, bytesOf_length]; exact World.rangeAt_setCells_same _ _ _ _ Ht3.out
  · have hb := Hb0.out.trans ((hb1'.out.trans hb2'.out).mono (Nat.le_of_lt (by have := Hs0.out; omega)))
    exact below_setCells (Nat.le_refl _) _ _ _ (hb.trans (hb3'.out.mono hb.size))
end Go.Proofs.Ytjlkiopncclomaa

/- The walk of mac.pad: a key's block, each byte xored. Conditions: the key is shorter than 10^12 bytes. -/
namespace Go
namespace TL
open Go.RowKit
/-- The key, or its hash where it is longer than a block. -/
def keyL (key : List UInt8) : List UInt8 := if 64 < key.length then shaL key else key
def keyB (key : List UInt8) : List UInt8 := keyL key ++ List.replicate (64 - (keyL key).length) 0
def macPad (key : List UInt8) (x : UInt8) : List UInt8 := (keyB key).map (· ^^^ x)
theorem keyL_length (key : List UInt8) : (keyL key).length ≤ 64 := by
  unfold keyL; split
  · rw [shaL_length]; omega
  · omega
theorem keyB_length (key : List UInt8) : (keyB key).length = 64 := by
  have := keyL_length key
  simp [keyB]; omega
def padK (l : List UInt8) (x : UInt8) (k : Nat) : List UInt8 := (l.take k).map (· ^^^ x) ++ l.drop k
theorem padK_length (l : List UInt8) (x : UInt8) (k : Nat) : (padK l x k).length = l.length := by
  simp [padK]; omega
theorem padK_get (l : List UInt8) (x : UInt8) (k : Nat) (h : k < l.length) : (padK l x k)[k]? = some l[k] := by
  unfold padK
  rw [List.getElem?_append_right (by simp; omega)]
  simp [List.length_take, Nat.min_eq_left (Nat.le_of_lt h), h]
theorem padK_set (l : List UInt8) (x : UInt8) (k : Nat) (h : k < l.length) : (padK l x k).set k (l[k] ^^^ x) = padK l x (k + 1) := by
  unfold padK
  rw [List.set_append_right _ _ (by simp; omega)]
  simp only [List.length_map, List.length_take, Nat.min_eq_left (Nat.le_of_lt h), Nat.sub_self]
  rw [List.drop_eq_getElem_cons h, List.set_cons_zero, List.take_succ_eq_append_getElem h, List.map_append, List.append_assoc]
  rfl
theorem padK_all (key : List UInt8) (x : UInt8) : padK (keyB key) x 64 = macPad key x := by
  unfold padK macPad
  rw [← keyB_length key, List.take_length, List.drop_length, List.append_nil]
/-- While the block is made. -/
structure MI (w wr : World) (g : Nat) (l : List UInt8) : Prop where
  bel : Below w.heap.size w wr
  lo : w.heap.size ≤ g
  lt : g < wr.heap.size
  got : wr.rangeAt g 0 (l.map vb)
  out : wr.there g 0 64
theorem MI.set {w wr : World} {g : Nat} {l : List UInt8} (h : MI w wr g l) (k : Nat) (hk : k < l.length) (y : UInt8) : MI w (wr.setCell ⟨g, k, none⟩ (vb y)) g (l.set k y) := by
  refine ⟨h.bel.setCell h.lo _, h.lo, by simpa using h.lt, ?_, there_setCell h.out _ _⟩
  have := rangeAt_setCell_same h.got k (by simpa using hk) (vb y)
  rw [Nat.zero_add] at this
  rwa [List.map_set]
theorem MI.copied {w wr : World} {g : Nat} (hb : Below w.heap.size w wr) (lo : w.heap.size ≤ g) (lt : g < wr.heap.size) (hr : wr.rangeAt g 0 (List.replicate 64 (Value.int .u8 0))) (ht : wr.there g 0 64) (K : List UInt8) (hK : K.length ≤ 64) :
    MI w (wr.setCells g 0 (K.map vb)) g (K ++ List.replicate (64 - K.length) 0) := by
  refine ⟨below_setCells lo _ _ _ hb, lo, by rw [size_setCells]; exact lt, ?_, World.there_setCells ht _ _ _⟩
  rw [List.map_append]
  refine rangeAt_append (World.rangeAt_setCells_same _ _ _ _ (there_mono ht (by simpa using hK))) ?_
  rw [Nat.zero_add, List.length_map]
  refine World.rangeAt_setCells_apart ?_ _ _ _ (.inr (.inr (by simp)))
  have := rangeAt_drop hr K.length
  rw [Nat.zero_add, List.drop_replicate] at this
  simpa [vb, I8_eq] using this
theorem MI.sees {w wr : World} {g : Nat} {l : List UInt8} (h : MI w wr g l) (hl : l.length = 64) : SeesB wr (.slice (some ⟨g, 0, none⟩) 64 64) l := by
  refine ⟨by simp, .inr ⟨g, 0, 64, by rw [hl], h.lt, by omega, by simp [maxLen], h.got⟩⟩
end TL
end Go
namespace Go.Proofs.Ytjlkiopncclomaa
open Go.RowKit Go.TL
set_option maxRecDepth 100000 in
set_option maxHeartbeats 2000000 in
theorem pad_any (key : ByteArray) (x : UInt8) (w : World) (hs : key.size ≤ 1000000000000) :
    Calls Try.prog 82 #[.string key, .int .u8 (I8 x)] w fun e w' => e = .returned (.string ⟨(macPad (bytesOf key) x).toArray⟩) ∧ Below w.heap.size w w' := by
  by_cases hk : 64 < key.size
  · have EK : Hid (bytesOf ⟨(shaL (bytesOf key)).toArray⟩ = keyL (bytesOf key)) := Lib.hid (by rw [keyL, if_pos (by rw [bytesOf_length]; exact hk)]; rfl)
    have HK : Hid (ByteArray.size ⟨(shaL (bytesOf key)).toArray⟩ ≤ 64) := Lib.hid (by show (shaL (bytesOf key)).toArray.size ≤ 64; simp [shaL_length])
    go_enter Try.func82, Try.ntmps82
    go_wp2_with (first | (go_at_call 81; go_must (refine (shaSum_any key w hs).mono ?_; rintro e w1 ⟨rfl, hb1⟩; have Hb1 := Lib.hid hb1; clear hb1)) | ((with_reducible show wpList _ _ _ (Oper.mk _ (Op.alloc 27) _ _ _ _ :: _) _ _); go_must (refine wpList_newRow rfl _ rfl (Array.replicate 32 (.int .u8 0)) (by kernel_rfl) ?_; intro w2 hb2 hs2 hr2 ht2; have Hb2 := Lib.hid hb2; clear hb2 hr2; have Hs2 := Lib.hid hs2; clear hs2; have Ht2 := Lib.hid ht2; clear ht2)) | ((with_reducible show wpList _ _ _ (Oper.mk none (Op.store 27 _ _) _ _ _ _ :: _) _ _); go_must (refine wpList_putRow rfl 27 _ _ rfl w1.heap.size 0 ((shaL (bytesOf key)).map vb) rfl rfl (by exact Ht2.out) (by kernel_rfl) (vb_one _) ?_; have hrs2 : (convert 45 9 (.slice (some ⟨w1.heap.size, 0, none⟩) 32 32)).run Try.prog (w2.setCells w1.heap.size 0 ((shaL (bytesOf key)).map vb)) = .ok (.string ⟨(shaL (bytesOf key)).toArray⟩) (w2.setCells w1.heap.size 0 ((shaL (bytesOf key)).map vb)) := SeesB.run_string (l := shaL (bytesOf key)) ⟨by simp, .inr ⟨w1.heap.size, 0, 32, by rw [shaL_length], by rw [size_setCells]; have := Hs2.out; omega, by simp [shaL_length], by simp [maxLen], World.rangeAt_setCells_same _ _ _ _ (by exact Ht2.out)⟩⟩ 45 9 5 Try.underlying45 Try.underlying5 Try.underlying9 _ (grownBy_refl _ _); obtain ⟨wS, eS⟩ : ∃ wS, wS = w2.setCells w1.heap.size 0 ((shaL (bytesOf key)).map vb) := ⟨_, rfl⟩; have HbS : Hid (Below w.heap.size w wS) := Lib.hid (by rw [eS]; exact below_setCells Hb1.out.size _ _ _ (Hb1.out.trans (Hb2.out.mono Hb1.out.size))); rw [← eS] at hrs2; rw [← eS]; clear eS)) | ((with_reducible show wpList _ _ _ (Oper.mk _ (Op.alloc 162) _ _ _ _ :: _) _ _); go_must (refine wpList_newRow rfl _ rfl (Array.replicate 64 (.int .u8 0)) (by kernel_rfl) ?_; intro w3 hb3 hs3 hr3 ht3; have Hb3 := Lib.hid hb3; clear hb3; have Hs3 := Lib.hid hs3; clear hs3; have Hr3 := Lib.hid hr3; clear hr3; have Ht3 := Lib.hid ht3; clear ht3)) | ((with_reducible show wpList _ _ _ (Oper.mk _ (Op.call ⟨Callee.builtin Builtin.copy, _, _⟩) _ _ _ _ :: _) _ _); go_must (refine wpList_copy bytesT rfl _ _ 9 rfl wS.heap.size 0 64 64 rfl (.string (ByteArray.mk (shaL (bytesOf key)).toArray)) (ByteArray.mk (shaL (bytesOf key)).toArray).size _ rfl (Src_string _ _) (ByteArray.mk (shaL (bytesOf key)).toArray).size (by exact (Nat.min_eq_left HK.out).symm) (by rw [Nat.mul_one]; exact there_mono (by simpa using Ht3.out) HK.out) ?_)))
    have BW : Hid (Below w.heap.size w w3) := Lib.hid (HbS.out.trans (Hb3.out.mono HbS.out.size))
    have LO : Hid (w.heap.size ≤ wS.heap.size) := Lib.hid HbS.out.size
    have M0 : Hid (MI w (w3.setCells wS.heap.size 0 ((((ByteArray.mk (shaL (bytesOf key)).toArray)).data.toList.map vb).take (((ByteArray.mk (shaL (bytesOf key)).toArray)).size * 1))) wS.heap.size (padK (keyB (bytesOf key)) x 0)) := Lib.hid (by
      have := MI.copied BW.out (LO.out) (by have := Hs3.out; omega) (by simpa using Hr3.out) (by simpa using Ht3.out) (bytesOf (ByteArray.mk (shaL (bytesOf key)).toArray)) (by rw [bytesOf_length]; exact HK.out)
      rw [show padK (keyB (bytesOf key)) x 0 = keyB (bytesOf key) from rfl, keyB, ← EK.out, show (((ByteArray.mk (shaL (bytesOf key)).toArray)).data.toList.map vb).take (((ByteArray.mk (shaL (bytesOf key)).toArray)).size * 1) = (bytesOf (ByteArray.mk (shaL (bytesOf key)).toArray)).map vb from by rw [Nat.mul_one, ← bytesOf_length, ← List.length_map (f := vb)]; exact List.take_length]
      exact this)
    clear Hb3 Hs3 Hr3 Ht3
    go_simp
    go_loopw [18] (fun iv wr => ∃ k : Nat, k ≤ 64 ∧ iv = .int .i64 k ∧ MI w wr wS.heap.size (padK (keyB (bytesOf key)) x k)) (fun iv _ => 64 - (intOf iv).toNat)
    case atStart => exact ⟨0, by omega, rfl, by first | exact M0.out | (have := M0.out; rw [Nat.mul_one] at this; exact this)⟩
    case round =>
      clear M0
      obtain ⟨k, hk64, rfl, M⟩ := hrel
      have M' := Lib.hid M; clear M
      by_cases hlt : k < 64
      · have hkl : k < (keyB (bytesOf key)).length := by rw [keyB_length]; exact hlt
        obtain ⟨y, hy⟩ : ∃ y, y = (keyB (bytesOf key))[k] := ⟨_, rfl⟩
        have c1 : wr.cell? ⟨wS.heap.size, k, none⟩ = some (.int .u8 (I8 y)) := by
          have := M'.out.got k (vb y) (by rw [List.getElem?_map, padK_get _ _ _ hkl, hy]; rfl)
          rwa [Nat.zero_add] at this
        have c2 : wr.frozen? ⟨wS.heap.size, k, none⟩ = false := by
          have := (M'.out.out k hlt).2
          rwa [Nat.zero_add] at this
        have M1 := Lib.hid (M'.out.set k (by rw [padK_length]; exact hkl) (y ^^^ x))
        rw [hy, padK_set _ _ _ hkl, ← hy] at M1
        clear hy hkl
        go_wp2_with fail
        go_roundw
        case rel => exact ⟨k + 1, by omega, by go_num, M1.out⟩
        case measure => simp [intOf]; omega
      · have hk' : k = 64 := by omega
        subst hk'
        have hrs := SeesB.run_string (M'.out.sees (by rw [padK_length, keyB_length])) 45 9 5 Try.underlying45 Try.underlying5 Try.underlying9 _ (grownBy_refl _ _)
        rw [padK_all] at hrs
        go_wp2_with fail
        go_ret
        exact ⟨rfl, M'.out.bel⟩
  · have EK : Hid (bytesOf key = keyL (bytesOf key)) := Lib.hid (by rw [keyL, if_neg (by rw [bytesOf_length]; exact hk)])
    have HK : Hid (key.size ≤ 64) := Lib.hid (by omega)
    go_enter Try.func82, Try.ntmps82
    go_wp2_with (first | ((with_reducible show wpList _ _ _ (Oper.mk _ (Op.alloc 162) _ _ _ _ :: _) _ _); go_must (refine wpList_newRow rfl _ rfl (Array.replicate 64 (.int .u8 0)) (by kernel_rfl) ?_; intro w3 hb3 hs3 hr3 ht3; have Hb3 := Lib.hid hb3; clear hb3; have Hs3 := Lib.hid hs3; clear hs3; have Hr3 := Lib.hid hr3; clear hr3; have Ht3 := Lib.hid ht3; clear ht3)) | ((with_reducible show wpList _ _ _ (Oper.mk _ (Op.call ⟨Callee.builtin Builtin.copy, _, _⟩) _ _ _ _ :: _) _ _); go_must (refine wpList_copy bytesT rfl _ _ 9 rfl w.heap.size 0 64 64 rfl (.string (key)) (key).size _ rfl (Src_string _ _) (key).size (by exact (Nat.min_eq_left HK.out).symm) (by rw [Nat.mul_one]; exact there_mono (by simpa using Ht3.out) HK.out) ?_)))
    have BW : Hid (Below w.heap.size w w3) := Lib.hid Hb3.out
    have LO : Hid (w.heap.size ≤ w.heap.size) := Lib.hid (Nat.le_refl _)
    have M0 : Hid (MI w (w3.setCells w.heap.size 0 (((key).data.toList.map vb).take ((key).size * 1))) w.heap.size (padK (keyB (bytesOf key)) x 0)) := Lib.hid (by
      have := MI.copied BW.out (LO.out) (by have := Hs3.out; omega) (by simpa using Hr3.out) (by simpa using Ht3.out) (bytesOf key) (by rw [bytesOf_length]; exact HK.out)
      rw [show padK (keyB (bytesOf key)) x 0 = keyB (bytesOf key) from rfl, keyB, ← EK.out, show ((key).data.toList.map vb).take ((key).size * 1) = (bytesOf key).map vb from by rw [Nat.mul_one, ← bytesOf_length, ← List.length_map (f := vb)]; exact List.take_length]
      exact this)
    clear Hb3 Hs3 Hr3 Ht3
    go_simp
    go_loopw [18] (fun iv wr => ∃ k : Nat, k ≤ 64 ∧ iv = .int .i64 k ∧ MI w wr w.heap.size (padK (keyB (bytesOf key)) x k)) (fun iv _ => 64 - (intOf iv).toNat)
    case atStart => exact ⟨0, by omega, rfl, by first | exact M0.out | (have := M0.out; rw [Nat.mul_one] at this; exact this)⟩
    case round =>
      clear M0
      obtain ⟨k, hk64, rfl, M⟩ := hrel
      have M' := Lib.hid M; clear M
      by_cases hlt : k < 64
      · have hkl : k < (keyB (bytesOf key)).length := by rw [keyB_length]; exact hlt
        obtain ⟨y, hy⟩ : ∃ y, y = (keyB (bytesOf key))[k] := ⟨_, rfl⟩
        have c1 : wr.cell? ⟨w.heap.size, k, none⟩ = some (.int .u8 (I8 y)) := by
          have := M'.out.got k (vb y) (by rw [List.getElem?_map, padK_get _ _ _ hkl, hy]; rfl)
          rwa [Nat.zero_add] at this
        have c2 : wr.frozen? ⟨w.heap.size, k, none⟩ = false := by
          have := (M'.out.out k hlt).2
          rwa [Nat.zero_add] at this
        have M1 := Lib.hid (M'.out.set k (by rw [padK_length]; exact hkl) (y ^^^ x))
        rw [hy, padK_set _ _ _ hkl, ← hy] at M1
        clear hy hkl
        go_wp2_with fail
        go_roundw
        case rel => exact ⟨k + 1, by omega, by go_num, M1.out⟩
        case measure => simp [intOf]; omega
      · have hk' : k = 64 := by omega
        subst hk'
        have hrs := SeesB.run_string (M'.out.sees (by rw [padK_length, keyB_length])) 45 9 5 Try.underlying45 Try.underlying5 Try.underlying9 _ (grownBy_refl _ _)
        rw [padK_all] at hrs
        go_wp2_with fail
        go_ret
        exact ⟨rfl, M'.out.bel⟩
end Go.Proofs.Ytjlkiopncclomaa
