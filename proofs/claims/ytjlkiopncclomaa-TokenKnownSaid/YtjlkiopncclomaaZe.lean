/- Texts of this seat, put together: SealD, SealO0, PathL, Sees, BatL, TokL, PathN, TokR, TokS, TokE, TokX, TokN, Own. Each begins with a remark that says what is proved in it, and under which conditions. -/
import Derived.Lib.Bytealg
import Derived.Lib.IndexLaws
import Derived.OwnWalk
import Derived.Test.YtjlkiopncclomaaZb
import Derived.Test.YtjlkiopncclomaaZc
import Derived.Test.YtjlkiopncclomaaZd
/- The walk of seal.Read. Conditions: lengths. -/
namespace Go.Proofs.Ytjlkiopncclomaa
open Go.RowKit Go.TL
set_option maxRecDepth 100000 in
set_option maxHeartbeats 4000000 in
theorem sealRead_c (s : List UInt8) (w : World) (hs : s.length ≤ 1000000) :
    Calls Try.prog 22 #[.string (mkS s)] w fun e w' => e = .returned (.tuple #[.agg (envC (readS s).1.k (readS s).1.b (readS s).1.n (readS s).1.d (readS s).1.t).toArray, .int .i64 (readS s).2]) ∧ Below w.heap.size w w' := by
  have M := Mem.start [] w
  have f0 : (InS.mk s 0 0).fit := by unfold InS.fit; simp only; omega
  have f1 := InS.most_fit f0 1048576
  have f2 := InS.most_fit f1 4294967295
  have f3 := InS.most_fit f2 maxU
  have f4 := InS.text_fit f3 8192
  have hcm := InS.most_le ((InS.mk s 0 0).most 1048576 |>.2 |>.most 4294967295 |>.2) maxU
  have Q1 := fun g (w : World) h => Most_c g (InS.mk s 0 0) w h f0 1048576 1048576 rfl (by omega)
  have Q2 := fun g (w : World) h => Most_c g _ w h f1 4294967295 4294967295 rfl (by omega)
  have Q3 := fun g (w : World) h => In_Num_c g _ w h f2
  have Q4 := fun g (w : World) h => In_Text_c g _ w h f3 8192 8192 rfl (by omega)
  obtain ⟨⟨a, x1⟩, e1⟩ : ∃ R, R = (InS.mk s 0 0).most 1048576 := ⟨_, rfl⟩
  rw [← e1] at f1 f2 f3 f4 hcm Q1 Q2 Q3 Q4
  simp only at f1 f2 f3 f4 hcm Q1 Q2 Q3 Q4
  obtain ⟨⟨b, x2⟩, e2⟩ : ∃ R, R = x1.most 4294967295 := ⟨_, rfl⟩
  rw [← e2] at f2 f3 f4 hcm Q2 Q3 Q4
  simp only at f2 f3 f4 hcm Q2 Q3 Q4
  obtain ⟨⟨c, x3⟩, e3⟩ : ∃ R, R = x2.most maxU := ⟨_, rfl⟩
  rw [← e3] at f3 f4 hcm Q3 Q4
  simp only at f3 f4 hcm Q3 Q4
  obtain ⟨⟨d, x4⟩, e4⟩ : ∃ R, R = x3.text 8192 := ⟨_, rfl⟩
  rw [← e4] at f4 Q4
  simp only at f4 Q4
  have en : numsS s = ⟨a, b, c, d, x4⟩ := by unfold numsS; simp only [← e1, ← e2, ← e3, ← e4]
  rw [maxU_eq] at hcm
  have ec : (c : Int) = I64 (UInt64.ofNat c) := by rw [I64_eq, UInt64.toNat_ofNat', Nat.mod_eq_of_lt (by omega)]
  rw [ec] at Q3
  obtain ⟨nn, enn⟩ : ∃ x, x = UInt64.ofNat c := ⟨_, rfl⟩
  rw [← enn] at Q3
  obtain ⟨bb, ebb⟩ : ∃ x, x = UInt32.ofNat b := ⟨_, rfl⟩
  have hbb : w32 (b : Int) = bb := by rw [ebb]; exact w32_nat b
  have TF := fun n => tagS_fit f4 n
  have er : ∀ (x5 : InS) (t : List UInt8), (x5, t) = tagS x4 32 → readS s = if x5.fin = 0 then (⟨a, bb, nn, d, t⟩, 0) else (zeroE, x5.fin) := fun x5 t h => by unfold readS; simp only [en, ← h, ← enn, ← ebb]
  replace Q1 := Lib.hid Q1
  replace Q2 := Lib.hid Q2
  replace Q3 := Lib.hid Q3
  replace Q4 := Lib.hid Q4
  replace er := Lib.hid er
  replace TF := Lib.hid TF
  clear e1 e2 e3 e4 en ec enn ebb hcm f0 f1 f2 f3 f4
  go_enter Try.func22, Try.ntmps22
  go_wp2_with ((first | ((with_reducible refine tAlloc (some 2) 29 ?_); refine w_alloc M _ rfl rfl (.agg (envC 0 0 0 [] zeroT).toArray) (envC 0 0 0 [] zeroT) (by kernel_rfl) rfl ?_; clear M; intro gr w1 M) | ((with_reducible refine tAlloc (some 5) 29 ?_); refine w_alloc M _ rfl rfl (.agg (envC 0 0 0 [] zeroT).toArray) (envC 0 0 0 [] zeroT) (by kernel_rfl) rfl ?_; clear M; intro gx w1 M) | (go_at_call 50; go_must (refine (packOf_c s _).mono ?_; rintro e w1 ⟨gi, rfl, MP⟩; replace M := M.join MP; clear MP; simp only [List.cons_append, List.nil_append] at M)) | (go_at_call 51; go_must ((first | (with_reducible refine (Q1.out _ _ (M.ok 0 _ rfl)).mono ?_) | (with_reducible refine (Q2.out _ _ (M.ok 0 _ rfl)).mono ?_)); rintro e w1 ⟨rfl, U⟩; replace M := M.upd 0 rfl U; clear U; simp only [List.set_cons_zero] at M)) | (go_at_call 52; go_must (refine (Q3.out _ _ (M.ok 0 _ rfl)).mono ?_; rintro e w1 ⟨rfl, U⟩; replace M := M.upd 0 rfl U; clear U; simp only [List.set_cons_zero] at M)) | (go_at_call 53; go_must (refine (Q4.out _ _ (M.ok 0 _ rfl)).mono ?_; rintro e w1 ⟨rfl, U⟩; replace M := M.upd 0 rfl U; clear U; simp only [List.set_cons_zero] at M)) | ((with_reducible refine tLoad ?_); refine w_at _ _ rfl (by exact ev_tmp rfl) ?_; intro hx; (first | refine w_loadE M _ _ _ rfl (by first | exact at0) hx rfl (by decide +kernel) (by decide +kernel) (by first | assumption | exact zeroT_len | exact macL_len _ _) ?_ | refine w_loadTag M _ _ _ rfl (by first | exact at0) hx rfl (by decide +kernel) (by decide +kernel) (by first | assumption | exact zeroT_len | exact macL_len _ _) ?_); clear hx) | ((with_reducible refine tStore ?_); refine w_at2 _ _ _ rfl (by first | exact ev_tmp rfl | exact ev_const) (by first | exact ev_tmp rfl | exact ev_const) ?_; intro hx hy; (first | refine w_storeE M _ _ _ _ rfl (by first | exact at0) hx rfl hy rfl (by decide +kernel) (by first | assumption | exact zeroT_len | exact macL_len _ _) (by first | assumption | exact zeroT_len | exact macL_len _ _) ?_ | refine w_storeE (k := 0) (b := 0) (n := 0) (d := []) (tg := zeroT) M _ _ _ _ rfl (by first | exact at0) hx rfl hy rfl (by decide +kernel) zeroT_len (by first | assumption | exact zeroT_len | exact macL_len _ _) ?_ | refine w_storeE (tg := zeroT) M _ _ _ _ rfl (by first | exact at0) hx rfl hy rfl (by decide +kernel) zeroT_len (by first | assumption | exact zeroT_len | exact macL_len _ _) ?_ | refine w_storeTag M _ _ _ _ rfl (by first | exact at0) hx rfl hy (by decide +kernel) (by first | assumption | exact zeroT_len | exact macL_len _ _) (by first | assumption | exact zeroT_len | exact macL_len _ _) ?_ | refine w_storeData M _ _ _ _ rfl (by first | exact at0) hx rfl hy (by decide +kernel) ?_ | refine w_storeNum M _ _ _ _ rfl (by first | exact at0) hx rfl hy (by decide +kernel) ?_); clear hx hy M; intro w1 M; (try simp only [setC] at M)) | ((with_reducible refine tConv _ 45 9 ?_); (first | refine w_stringTag M _ _ _ _ _ rfl rfl (by first | exact at0) rfl (by first | assumption | exact zeroT_len | exact macL_len _ _) Try.underlying45 Try.underlying5 Try.underlying9 ?_)) | ((with_reducible refine tGuard ?_); first | refine w_strip rfl (by with_reducible rfl) ?_ | ((fail_if_success (refine w_lit false rfl (by with_reducible rfl) ?_)); (fail_if_success (refine w_lit true rfl (by with_reducible rfl) ?_)); refine w_case rfl ?_ ?_ <;> (intro hgd; rw [hgd]; try (exfalso; simp at hgd; omega)))) | ((with_reducible refine tConv _ 45 9 ?_); go_must (first | refine w_stringW M _ _ _ _ _ rfl rfl (by first | exact at0 | exact at1) rfl (by first | assumption | exact lenI | exact lenS ‹_› | rfl) (by decide) Try.underlying45 Try.underlying5 Try.underlying9 ?_ | refine w_string M _ _ _ _ _ rfl rfl (by first | exact at0 | exact at1) (by first | rfl | (simp; done) | assumption) rfl Try.underlying45 Try.underlying5 Try.underlying9 ?_)) | ((with_reducible refine tLoad ?_); go_must (refine w_at _ _ rfl (by exact ev_tmp rfl) ?_; intro hx; (first | refine w_load M _ _ _ rfl (by first | exact at0 | exact at1) hx rfl (by decide +kernel) (by exact rfl) ?_ | refine w_loadB M _ _ _ rfl (by first | exact at0 | exact at1) hx rfl (by decide +kernel) (by first | assumption | omega | (simp; omega)) ?_ | refine w_loadH M _ _ _ rfl (by first | exact at0 | exact at1) hx rfl (by decide +kernel) (by first | assumption | exact lenI | exact lenS ‹_› | rfl) (by decide +kernel) ?_ | refine w_loadR M _ _ _ rfl (by first | exact at0 | exact at1) hx rfl (by decide +kernel) (by kernel_rfl) ?_); clear hx)) | ((with_reducible refine tStore ?_); go_must (refine w_at2 _ _ _ rfl (by exact ev_tmp rfl) (by first | exact ev_tmp rfl | exact ev_const) ?_; intro hx hy; (first | refine w_storeB M _ _ _ _ rfl (by first | exact at0 | exact at1) hx rfl hy (by decide +kernel) (by first | assumption | omega | (simp; omega)) ?_ | refine w_storeH M _ _ _ _ rfl (by first | exact at0 | exact at1) hx rfl hy (by first | assumption | exact lenI | exact lenS ‹_› | rfl) (by decide +kernel) (by first | assumption | exact lenI | exact lenS ‹_› | rfl) ?_ | refine w_store M _ _ _ _ rfl (by first | exact at0 | exact at1) hx rfl hy rfl rfl (by decide +kernel) (by first | decide | simp | (simp; omega)) ?_ | refine w_storeR M _ _ _ _ rfl (by first | exact at0 | exact at1) hx rfl _ hy rfl (by kernel_rfl) (by simp [Value.oneCell']) (by first | rfl | assumption) ?_); clear hx hy M; intro w1 M; (try simp only [setC] at M))) | ((with_reducible refine tBox _ ?_); (refine w_box M _ _ rfl rfl _ rfl _ rfl ?_; clear M; intro g w1 M))) <;> (try conv => arg 5; simp only [Act.put, List.setIfInBounds_toArray, setC]))
  go_loopw [20] (fun kv wr => ∃ j : Nat, j ≤ 32 ∧ kv = .int .i64 j ∧ Mem [] w wr [.row gx (envC a bb nn d (tagS x4 j).2), .row gi (inV (tagS x4 j).1), .row gr (envC 0 0 0 [] zeroT)]) (fun kv _ => 32 - (intOf kv).toNat)
  case atStart => exact ⟨0, by omega, rfl, M⟩
  case round =>
    clear M
    obtain ⟨j, hj, rfl, M⟩ := hrel
    have fy := TF.out j
    have tl := tagS_len x4 j
    have TS := tagS_succ x4 j
    have ER := er.out (tagS x4 j).1 (tagS x4 j).2
    obtain ⟨⟨y, t⟩, ey⟩ : ∃ R, R = tagS x4 j := ⟨_, rfl⟩
    rw [← ey] at M fy tl TS ER
    simp only at M fy tl TS ER
    have EY := Lib.hid fun _ : Unit => ey
    clear ey
    by_cases hlt : j < 32
    · obtain ⟨q, hq⟩ := byte_has y
      have BC := fun (w : World) h => In_Byte_c gi y w h fy
      rw [hq, UInt8.ofNat_toNat] at TS
      rw [hq, show ((q.toNat : Nat) : Int) = I8 q from rfl] at BC
      obtain ⟨z, ez⟩ : ∃ z, z = y.byte.2 := ⟨_, rfl⟩
      rw [← ez] at TS BC
      replace BC := Lib.hid BC
      replace TS := Lib.hid fun _ : Unit => TS
      clear ez hq ER
      go_wp2_with ((first | (go_at_call 54; go_must (refine (BC.out _ (M.ok 1 _ rfl)).mono ?_; rintro e w1 ⟨rfl, U⟩; replace M := M.upd 1 rfl U; clear U; simp only [List.set_cons_succ, List.set_cons_zero] at M)) | ((with_reducible show wpList _ _ _ (Oper.mk _ (Op.store _ _ _) _ _ _ _ :: _) _ _); refine w_at2 _ _ _ rfl (by first | exact ev_tmp rfl | exact ev_const) (by first | exact ev_tmp rfl | exact ev_const) ?_; intro hx hy; refine w_storeTagB M 0 _ _ _ rfl rfl hx rfl hy (by decide +kernel) j (by first | rfl | omega) (by omega) ?_; clear hx hy M; intro w1 M; simp only [List.set_cons_zero] at M) | ((with_reducible refine tGuard ?_); first | refine w_strip rfl (by with_reducible rfl) ?_ | ((fail_if_success (refine w_lit false rfl (by with_reducible rfl) ?_)); (fail_if_success (refine w_lit true rfl (by with_reducible rfl) ?_)); refine w_case rfl ?_ ?_ <;> (intro hgd; rw [hgd]; try (exfalso; simp at hgd; omega)))) | ((with_reducible refine tConv _ 45 9 ?_); go_must (first | refine w_stringW M _ _ _ _ _ rfl rfl (by first | exact at0) rfl (by first | assumption | exact lenI | exact lenS ‹_› | rfl) (by decide) Try.underlying45 Try.underlying5 Try.underlying9 ?_ | refine w_string M _ _ _ _ _ rfl rfl (by first | exact at0) (by first | rfl | (simp; done) | assumption) rfl Try.underlying45 Try.underlying5 Try.underlying9 ?_)) | ((with_reducible refine tLoad ?_); go_must (refine w_at _ _ rfl (by exact ev_tmp rfl) ?_; intro hx; (first | refine w_load M _ _ _ rfl (by first | exact at0) hx rfl (by decide +kernel) (by exact rfl) ?_ | refine w_loadB M _ _ _ rfl (by first | exact at0) hx rfl (by decide +kernel) (by first | assumption | omega | (simp; omega)) ?_ | refine w_loadH M _ _ _ rfl (by first | exact at0) hx rfl (by decide +kernel) (by first | assumption | exact lenI | exact lenS ‹_› | rfl) (by decide +kernel) ?_ | refine w_loadR M _ _ _ rfl (by first | exact at0) hx rfl (by decide +kernel) (by kernel_rfl) ?_); clear hx)) | ((with_reducible refine tStore ?_); go_must (refine w_at2 _ _ _ rfl (by exact ev_tmp rfl) (by first | exact ev_tmp rfl | exact ev_const) ?_; intro hx hy; (first | refine w_storeB M _ _ _ _ rfl (by first | exact at0) hx rfl hy (by decide +kernel) (by first | assumption | omega | (simp; omega)) ?_ | refine w_storeH M _ _ _ _ rfl (by first | exact at0) hx rfl hy (by first | assumption | exact lenI | exact lenS ‹_› | rfl) (by decide +kernel) (by first | assumption | exact lenI | exact lenS ‹_› | rfl) ?_ | refine w_store M _ _ _ _ rfl (by first | exact at0) hx rfl hy rfl rfl (by decide +kernel) (by first | decide | simp | (simp; omega)) ?_ | refine w_storeR M _ _ _ _ rfl (by first | exact at0) hx rfl _ hy rfl (by kernel_rfl) (by simp [Value.oneCell']) (by first | rfl | assumption) ?_); clear hx hy M; intro w1 M; (try simp only [setC] at M))) | ((with_reducible refine tBox _ ?_); (refine w_box M _ _ rfl rfl _ rfl _ rfl ?_; clear M; intro g w1 M))) <;> (try conv => arg 5; simp only [Act.put, List.setIfInBounds_toArray, setC]))
      go_roundw
      case rel => exact ⟨j + 1, by omega, by go_num, by rw [TS.out ()]; exact M⟩
      case measure => simp [intOf]; omega
    · obtain rfl : j = 32 := by omega
      replace ER := ER (EY.out ())
      have EC := fun (w : World) h => End_c gi y w h fy
      by_cases hf : y.fin = 0
      · rw [if_pos hf] at ER
        rw [hf] at EC
        replace EC := Lib.hid EC
        replace ER := Lib.hid fun _ : Unit => ER
        clear hf
        go_wp2_with ((first | (go_at_call 55; go_must (refine (EC.out _ (M.ok 1 _ rfl)).mono ?_; rintro e w1 ⟨rfl, hb⟩; replace M := M.call hb; clear hb)) | ((with_reducible refine tLoad ?_); refine w_at _ _ rfl (by exact ev_tmp rfl) ?_; intro hx; (first | refine w_loadE M _ _ _ rfl (by first | exact at0 | exact at2) hx rfl (by decide +kernel) (by decide +kernel) (by first | assumption | exact zeroT_len | exact macL_len _ _) ?_ | refine w_loadTag M _ _ _ rfl (by first | exact at0 | exact at2) hx rfl (by decide +kernel) (by decide +kernel) (by first | assumption | exact zeroT_len | exact macL_len _ _) ?_); clear hx) | ((with_reducible refine tStore ?_); refine w_at2 _ _ _ rfl (by first | exact ev_tmp rfl | exact ev_const) (by first | exact ev_tmp rfl | exact ev_const) ?_; intro hx hy; (first | refine w_storeE M _ _ _ _ rfl (by first | exact at0 | exact at2) hx rfl hy rfl (by decide +kernel) (by first | assumption | exact zeroT_len | exact macL_len _ _) (by first | assumption | exact zeroT_len | exact macL_len _ _) ?_ | refine w_storeE (k := 0) (b := 0) (n := 0) (d := []) (tg := zeroT) M _ _ _ _ rfl (by first | exact at0 | exact at2) hx rfl hy rfl (by decide +kernel) zeroT_len (by first | assumption | exact zeroT_len | exact macL_len _ _) ?_ | refine w_storeE (tg := zeroT) M _ _ _ _ rfl (by first | exact at0 | exact at2) hx rfl hy rfl (by decide +kernel) zeroT_len (by first | assumption | exact zeroT_len | exact macL_len _ _) ?_ | refine w_storeTag M _ _ _ _ rfl (by first | exact at0 | exact at2) hx rfl hy (by decide +kernel) (by first | assumption | exact zeroT_len | exact macL_len _ _) (by first | assumption | exact zeroT_len | exact macL_len _ _) ?_ | refine w_storeData M _ _ _ _ rfl (by first | exact at0 | exact at2) hx rfl hy (by decide +kernel) ?_ | refine w_storeNum M _ _ _ _ rfl (by first | exact at0 | exact at2) hx rfl hy (by decide +kernel) ?_); clear hx hy M; intro w1 M; (try simp only [setC] at M)) | ((with_reducible refine tConv _ 45 9 ?_); (first | refine w_stringTag M _ _ _ _ _ rfl rfl (by first | exact at0 | exact at2) rfl (by first | assumption | exact zeroT_len | exact macL_len _ _) Try.underlying45 Try.underlying5 Try.underlying9 ?_)) | ((with_reducible refine tGuard ?_); first | refine w_strip rfl (by with_reducible rfl) ?_ | ((fail_if_success (refine w_lit false rfl (by with_reducible rfl) ?_)); (fail_if_success (refine w_lit true rfl (by with_reducible rfl) ?_)); refine w_case rfl ?_ ?_ <;> (intro hgd; rw [hgd]; try (exfalso; simp at hgd; omega)))) | ((with_reducible refine tConv _ 45 9 ?_); go_must (first | refine w_stringW M _ _ _ _ _ rfl rfl (by first | exact at0) rfl (by first | assumption | exact lenI | exact lenS ‹_› | rfl) (by decide) Try.underlying45 Try.underlying5 Try.underlying9 ?_ | refine w_string M _ _ _ _ _ rfl rfl (by first | exact at0) (by first | rfl | (simp; done) | assumption) rfl Try.underlying45 Try.underlying5 Try.underlying9 ?_)) | ((with_reducible refine tLoad ?_); go_must (refine w_at _ _ rfl (by exact ev_tmp rfl) ?_; intro hx; (first | refine w_load M _ _ _ rfl (by first | exact at0) hx rfl (by decide +kernel) (by exact rfl) ?_ | refine w_loadB M _ _ _ rfl (by first | exact at0) hx rfl (by decide +kernel) (by first | assumption | omega | (simp; omega)) ?_ | refine w_loadH M _ _ _ rfl (by first | exact at0) hx rfl (by decide +kernel) (by first | assumption | exact lenI | exact lenS ‹_› | rfl) (by decide +kernel) ?_ | refine w_loadR M _ _ _ rfl (by first | exact at0) hx rfl (by decide +kernel) (by kernel_rfl) ?_); clear hx)) | ((with_reducible refine tStore ?_); go_must (refine w_at2 _ _ _ rfl (by exact ev_tmp rfl) (by first | exact ev_tmp rfl | exact ev_const) ?_; intro hx hy; (first | refine w_storeB M _ _ _ _ rfl (by first | exact at0) hx rfl hy (by decide +kernel) (by first | assumption | omega | (simp; omega)) ?_ | refine w_storeH M _ _ _ _ rfl (by first | exact at0) hx rfl hy (by first | assumption | exact lenI | exact lenS ‹_› | rfl) (by decide +kernel) (by first | assumption | exact lenI | exact lenS ‹_› | rfl) ?_ | refine w_store M _ _ _ _ rfl (by first | exact at0) hx rfl hy rfl rfl (by decide +kernel) (by first | decide | simp | (simp; omega)) ?_ | refine w_storeR M _ _ _ _ rfl (by first | exact at0) hx rfl _ hy rfl (by kernel_rfl) (by simp [Value.oneCell']) (by first | rfl | assumption) ?_); clear hx hy M; intro w1 M; (try simp only [setC] at M))) | ((with_reducible refine tBox _ ?_); (refine w_box M _ _ rfl rfl _ rfl _ rfl ?_; clear M; intro g w1 M))) <;> (try conv => arg 5; simp only [Act.put, List.setIfInBounds_toArray, setC]))
        exact bodyPost_ret (results_two rfl _ _ gr 0 (envC a bb nn d t) _ (.int .i64 0) rfl rfl (M.ok 2 _ rfl).2.1 Try.underlying29 rfl (by rw [envC_len, tl]; kernel_rfl)) rfl ⟨by rw [ER.out ()]; rfl, M.below⟩
      · rw [if_neg hf] at ER
        obtain ⟨m, em⟩ : ∃ m, m = y.fin := ⟨_, rfl⟩
        rw [← em] at EC hf ER
        replace ER := Lib.hid fun _ : Unit => ER
        have hz : ((m : Int) == 0) = false := by simp; exact hf
        have hz' : ((m : Int) != 0) = true := by simp; exact hf
        replace EC := Lib.hid EC
        clear hf em
        go_wp2_with ((first | (go_at_call 55; go_must (refine (EC.out _ (M.ok 1 _ rfl)).mono ?_; rintro e w1 ⟨rfl, hb⟩; replace M := M.call hb; clear hb)) | ((with_reducible refine tLoad ?_); refine w_at _ _ rfl (by exact ev_tmp rfl) ?_; intro hx; (first | refine w_loadE M _ _ _ rfl (by first | exact at0 | exact at2) hx rfl (by decide +kernel) (by decide +kernel) (by first | assumption | exact zeroT_len | exact macL_len _ _) ?_ | refine w_loadTag M _ _ _ rfl (by first | exact at0 | exact at2) hx rfl (by decide +kernel) (by decide +kernel) (by first | assumption | exact zeroT_len | exact macL_len _ _) ?_); clear hx) | ((with_reducible refine tStore ?_); refine w_at2 _ _ _ rfl (by first | exact ev_tmp rfl | exact ev_const) (by first | exact ev_tmp rfl | exact ev_const) ?_; intro hx hy; (first | refine w_storeE M _ _ _ _ rfl (by first | exact at0 | exact at2) hx rfl hy rfl (by decide +kernel) (by first | assumption | exact zeroT_len | exact macL_len _ _) (by first | assumption | exact zeroT_len | exact macL_len _ _) ?_ | refine w_storeE (k := 0) (b := 0) (n := 0) (d := []) (tg := zeroT) M _ _ _ _ rfl (by first | exact at0 | exact at2) hx rfl hy rfl (by decide +kernel) zeroT_len (by first | assumption | exact zeroT_len | exact macL_len _ _) ?_ | refine w_storeE (tg := zeroT) M _ _ _ _ rfl (by first | exact at0 | exact at2) hx rfl hy rfl (by decide +kernel) zeroT_len (by first | assumption | exact zeroT_len | exact macL_len _ _) ?_ | refine w_storeTag M _ _ _ _ rfl (by first | exact at0 | exact at2) hx rfl hy (by decide +kernel) (by first | assumption | exact zeroT_len | exact macL_len _ _) (by first | assumption | exact zeroT_len | exact macL_len _ _) ?_ | refine w_storeData M _ _ _ _ rfl (by first | exact at0 | exact at2) hx rfl hy (by decide +kernel) ?_ | refine w_storeNum M _ _ _ _ rfl (by first | exact at0 | exact at2) hx rfl hy (by decide +kernel) ?_); clear hx hy M; intro w1 M; (try simp only [setC] at M)) | ((with_reducible refine tConv _ 45 9 ?_); (first | refine w_stringTag M _ _ _ _ _ rfl rfl (by first | exact at0 | exact at2) rfl (by first | assumption | exact zeroT_len | exact macL_len _ _) Try.underlying45 Try.underlying5 Try.underlying9 ?_)) | ((with_reducible refine tGuard ?_); first | refine w_strip rfl (by with_reducible rfl) ?_ | ((fail_if_success (refine w_lit false rfl (by with_reducible rfl) ?_)); (fail_if_success (refine w_lit true rfl (by with_reducible rfl) ?_)); refine w_case rfl ?_ ?_ <;> (intro hgd; rw [hgd]; try (exfalso; simp at hgd; omega)))) | ((with_reducible refine tConv _ 45 9 ?_); go_must (first | refine w_stringW M _ _ _ _ _ rfl rfl (by first | exact at0) rfl (by first | assumption | exact lenI | exact lenS ‹_› | rfl) (by decide) Try.underlying45 Try.underlying5 Try.underlying9 ?_ | refine w_string M _ _ _ _ _ rfl rfl (by first | exact at0) (by first | rfl | (simp; done) | assumption) rfl Try.underlying45 Try.underlying5 Try.underlying9 ?_)) | ((with_reducible refine tLoad ?_); go_must (refine w_at _ _ rfl (by exact ev_tmp rfl) ?_; intro hx; (first | refine w_load M _ _ _ rfl (by first | exact at0) hx rfl (by decide +kernel) (by exact rfl) ?_ | refine w_loadB M _ _ _ rfl (by first | exact at0) hx rfl (by decide +kernel) (by first | assumption | omega | (simp; omega)) ?_ | refine w_loadH M _ _ _ rfl (by first | exact at0) hx rfl (by decide +kernel) (by first | assumption | exact lenI | exact lenS ‹_› | rfl) (by decide +kernel) ?_ | refine w_loadR M _ _ _ rfl (by first | exact at0) hx rfl (by decide +kernel) (by kernel_rfl) ?_); clear hx)) | ((with_reducible refine tStore ?_); go_must (refine w_at2 _ _ _ rfl (by exact ev_tmp rfl) (by first | exact ev_tmp rfl | exact ev_const) ?_; intro hx hy; (first | refine w_storeB M _ _ _ _ rfl (by first | exact at0) hx rfl hy (by decide +kernel) (by first | assumption | omega | (simp; omega)) ?_ | refine w_storeH M _ _ _ _ rfl (by first | exact at0) hx rfl hy (by first | assumption | exact lenI | exact lenS ‹_› | rfl) (by decide +kernel) (by first | assumption | exact lenI | exact lenS ‹_› | rfl) ?_ | refine w_store M _ _ _ _ rfl (by first | exact at0) hx rfl hy rfl rfl (by decide +kernel) (by first | decide | simp | (simp; omega)) ?_ | refine w_storeR M _ _ _ _ rfl (by first | exact at0) hx rfl _ hy rfl (by kernel_rfl) (by simp [Value.oneCell']) (by first | rfl | assumption) ?_); clear hx hy M; intro w1 M; (try simp only [setC] at M))) | ((with_reducible refine tBox _ ?_); (refine w_box M _ _ rfl rfl _ rfl _ rfl ?_; clear M; intro g w1 M))) <;> (try conv => arg 5; simp only [Act.put, List.setIfInBounds_toArray, setC]))
        exact bodyPost_ret (results_two rfl _ _ gr 0 (envC 0 0 0 [] zeroT) _ (.int .i64 (m : Int)) rfl rfl (M.ok 2 _ rfl).2.1 Try.underlying29 rfl (by rw [envC_len, zeroT_len]; kernel_rfl)) rfl ⟨by rw [ER.out ()]; rfl, M.below⟩
end Go.Proofs.Ytjlkiopncclomaa

/- Plain: an envelope's bytes and bounds. No conditions but those each lemma names. -/
namespace Go
namespace TL
theorem envB_head (k : Nat) (b : UInt32) (n : UInt64) (d t : List UInt8) : headL k b n ++ (textL d ++ t) = envB ⟨k, b, n, d, t⟩ := by unfold headL envB; simp only [List.append_assoc]
theorem envB_len {x : Env} (h : rightEnv x) : (envB x).length ≤ 1000000 := by
  obtain ⟨h1, h2, h3⟩ := h
  have hb := x.b.toNat_lt
  have hn := x.n.toNat_lt
  have k1 := numL_length_le x.k (by omega)
  have k2 := numL_length_le x.b.toNat (by omega)
  have k3 := numL_length_le x.n.toNat (by omega)
  have k4 := numL_length_le x.d.length (by omega)
  unfold envB textL; simp only [List.length_append]; omega
theorem rightE_of {k : Nat} {d : List UInt8} (h1 : k ≤ 1048576) (h2 : d.length ≤ 8192) : rightE (k : Int) d = true := by unfold rightE; simp; omega
theorem rightE_no {k : Int} {d : List UInt8} (h : rightE k d = false) : k < 0 ∨ (0 ≤ k ∧ 1048576 < k) ∨ ((0 ≤ k ∧ k ≤ 1048576) ∧ 8192 < (d.length : Int)) := by
  unfold rightE at h
  by_cases h1 : 0 ≤ k
  · by_cases h2 : k ≤ 1048576
    · by_cases h3 : (d.length : Int) ≤ 8192
      · rw [decide_eq_true h1, decide_eq_true h2, decide_eq_true h3] at h; cases h
      · exact .inr (.inr ⟨⟨h1, h2⟩, by omega⟩)
    · exact .inr (.inl ⟨h1, by omega⟩)
  · exact .inl (by omega)
end TL
end Go

/- Plain laws of layer 11 (path): a path's mount and key. No program in this text. No conditions but those each lemma names. -/
namespace Go
namespace TL
def goodN (b : UInt8) : Bool := decide (97 ≤ b.toNat ∧ b.toNat ≤ 122)
def goodK (b : UInt8) : Bool := decide (b.toNat ≠ 0 ∧ b.toNat ≠ 47)
/-- Is it a mount's name? -/
def namedL (s : List UInt8) : Bool := decide (1 ≤ s.length ∧ s.length ≤ 8) && s.all goodN
/-- Is it a key? -/
def pkeyL (s : List UInt8) : Bool := decide (1 ≤ s.length ∧ s.length ≤ 24) && s.all goodK
/-- Where the first / is; the length, if there is none. -/
def slash : List UInt8 → Nat
  | [] => 0
  | b :: l => if b.toNat = 47 then 0 else slash l + 1
/-- A path's mount and key. -/
def cutL (p : List UInt8) : List UInt8 × List UInt8 × Bool :=
  if slash p < p.length ∧ namedL (p.take (slash p)) = true ∧ pkeyL (p.drop (slash p + 1)) = true then (p.take (slash p), p.drop (slash p + 1), true) else ([], [], false)
/-- A text, cut at the first /. -/
def scutL (p : List UInt8) : List UInt8 × List UInt8 × Bool := if slash p < p.length then (p.take (slash p), p.drop (slash p + 1), true) else (p, [], false)
theorem scut_yes {p : List UInt8} (h : slash p < p.length) : scutL p = (p.take (slash p), p.drop (slash p + 1), true) := if_pos h
theorem scut_no {p : List UInt8} (h : ¬ slash p < p.length) : scutL p = (p, [], false) := if_neg h
theorem all_bad {f : UInt8 → Bool} {s : List UInt8} {k : Nat} (h : k < s.length) (hb : f (s.getD k 0) = false) : s.all f = false := by
  rw [List.all_eq_false]
  refine ⟨s[k], List.getElem_mem _, ?_⟩
  rw [List.getD_eq_getElem?_getD, List.getElem?_eq_getElem h] at hb
  simpa using hb
theorem all_good {f : UInt8 → Bool} {s : List UInt8} (h : ∀ k, k < s.length → f (s.getD k 0) = true) : s.all f = true := by
  rw [List.all_eq_true]
  intro x hx
  obtain ⟨k, hk, rfl⟩ := List.mem_iff_getElem.1 hx
  have := h k hk
  rwa [List.getD_eq_getElem?_getD, List.getElem?_eq_getElem hk] at this
theorem named_bad {s : List UInt8} {k : Nat} (h : k < s.length) (hb : goodN (s.getD k 0) = false) : namedL s = false := by unfold namedL; rw [all_bad h hb, Bool.and_false]
theorem named_good {s : List UInt8} (h : ∀ k, k < s.length → goodN (s.getD k 0) = true) : namedL s = decide (1 ≤ s.length ∧ s.length ≤ 8) := by unfold namedL; rw [all_good h, Bool.and_true]
theorem named_len {s : List UInt8} (h : ¬ (1 ≤ s.length ∧ s.length ≤ 8)) : namedL s = false := by unfold namedL; rw [decide_eq_false h, Bool.false_and]
theorem pkey_bad {s : List UInt8} {k : Nat} (h : k < s.length) (hb : goodK (s.getD k 0) = false) : pkeyL s = false := by unfold pkeyL; rw [all_bad h hb, Bool.and_false]
theorem pkey_good {s : List UInt8} (h : ∀ k, k < s.length → goodK (s.getD k 0) = true) : pkeyL s = decide (1 ≤ s.length ∧ s.length ≤ 24) := by unfold pkeyL; rw [all_good h, Bool.and_true]
theorem pkey_len {s : List UInt8} (h : ¬ (1 ≤ s.length ∧ s.length ≤ 24)) : pkeyL s = false := by unfold pkeyL; rw [decide_eq_false h, Bool.false_and]
theorem slash_le : ∀ p, slash p ≤ p.length
  | [] => Nat.le_refl _
  | b :: l => by rw [slash]; split <;> have := slash_le l <;> simp <;> omega
theorem slash_before : ∀ (p : List UInt8) (k : Nat), k < slash p → (p.getD k 0).toNat ≠ 47
  | [], k, h => by simp [slash] at h
  | b :: l, k, h => by
    by_cases hb : b.toNat = 47
    · rw [slash, if_pos hb] at h; omega
    · rw [slash, if_neg hb] at h
      cases k with
      | zero => simpa using hb
      | succ k => simpa using slash_before l k (by omega)
theorem slash_at : ∀ (p : List UInt8), slash p < p.length → (p.getD (slash p) 0).toNat = 47
  | [], h => by simp at h
  | b :: l, h => by
    by_cases hb : b.toNat = 47
    · rw [slash, if_pos hb]; simpa using hb
    · rw [slash, if_neg hb] at h ⊢
      simpa using slash_at l (by simpa using h)
theorem indexByte_slash : ∀ p : List UInt8, Lib.indexByte p 47 = if slash p < p.length then (slash p : Int) else -1
  | [] => rfl
  | b :: l => by
    have ih := indexByte_slash l
    by_cases hb : b.toNat = 47
    · have e : b = 47 := UInt8.toNat_inj.1 hb
      subst e
      rw [Lib.indexByte, slash, if_pos hb]; simp
    · have e : (b == 47) = false := by
        rw [beq_eq_false_iff_ne]; rintro rfl; exact hb rfl
      rw [Lib.indexByte, slash, if_neg hb, e, ih]
      by_cases h : slash l < l.length
      · have h2 : slash l + 1 < (b :: l).length := by simpa using h
        rw [if_pos h, if_pos h2]
        have : (((slash l : Nat) : Int) == -1) = false := by simp
        rw [this]; simp
      · have h2 : ¬ slash l + 1 < (b :: l).length := by simpa using h
        rw [if_neg h, if_neg h2]; simp
theorem indexByte_neg {l : List UInt8} {c : UInt8} : Lib.indexByte l c < 0 ↔ ∀ b ∈ l, b ≠ c := by
  have hge := Lib.indexByte_ge l c
  constructor
  · intro h b hb e
    subst e
    obtain ⟨k, hk, e⟩ := List.mem_iff_getElem.1 hb
    exact Lib.indexByte_none (by omega : Lib.indexByte l b = -1) k (by rw [List.getElem?_eq_getElem hk, e])
  · intro h
    by_cases h0 : Lib.indexByte l c < 0
    · exact h0
    · obtain ⟨o, ho⟩ := Int.eq_ofNat_of_zero_le (by omega : 0 ≤ Lib.indexByte l c)
      have := (Lib.indexByte_some ho).1
      exact absurd rfl (h c (List.mem_of_getElem? this))
theorem pkey_index (s : List UInt8) (h : 1 ≤ s.length ∧ s.length ≤ 24) : pkeyL s = (decide (Lib.indexByte s 0 < 0) && decide (Lib.indexByte s 47 < 0)) := by
  unfold pkeyL
  rw [decide_eq_true h, Bool.true_and, Bool.eq_iff_iff]
  simp only [Bool.and_eq_true, decide_eq_true_eq, indexByte_neg, List.all_eq_true, goodK]
  constructor
  · intro h2
    refine ⟨fun b hb e => (h2 b hb).1 (by rw [e]; rfl), fun b hb e => (h2 b hb).2 (by rw [e]; rfl)⟩
  · rintro ⟨h2, h3⟩ b hb
    exact ⟨fun e => h2 b hb (UInt8.toNat_inj.1 e), fun e => h3 b hb (UInt8.toNat_inj.1 e)⟩
/-- What was cut is the path, and short. -/
theorem cut_ok {p m k : List UInt8} (h : cutL p = (m, k, true)) : p = m ++ 47 :: k ∧ namedL m = true ∧ pkeyL k = true ∧ m.length ≤ 8 ∧ k.length ≤ 24 ∧ 1 ≤ m.length ∧ 1 ≤ k.length := by
  unfold cutL at h
  split at h
  · rename_i h1
    obtain ⟨h1, h2, h3⟩ := h1
    simp only [Prod.mk.injEq, and_true] at h
    obtain ⟨rfl, rfl⟩ := h
    have hs := slash_at p h1
    have e47 : p[slash p] = 47 := by
      apply UInt8.toNat_inj.1
      rw [List.getD_eq_getElem?_getD, List.getElem?_eq_getElem h1] at hs
      exact hs
    refine ⟨?_, h2, h3, ?_⟩
    · rw [← e47, ← List.drop_eq_getElem_cons h1, List.take_append_drop]
    · unfold namedL at h2; unfold pkeyL at h3
      simp only [Bool.and_eq_true, decide_eq_true_eq] at h2 h3
      omega
  · simp at h
theorem cut_err {p : List UInt8} (h : (cutL p).2.2 = false) : cutL p = ([], [], false) := by
  unfold cutL at h ⊢
  split
  · rename_i h1; rw [if_pos h1] at h; cases h
  · rfl
end TL
end Go

/- Slices of structs, as the walk reads them, by elements. No conditions but those each law names. -/
namespace Go
namespace TL
open Go.RowKit
theorem flat_len {α : Type} {f : α → List Value} {size : Nat} (hf : ∀ x, (f x).length = size) (l : List α) : (l.flatMap f).length = l.length * size := by
  induction l with
  | nil => simp
  | cons a l ih => simp only [List.flatMap_cons, List.length_append, ih, hf, List.length_cons, Nat.succ_mul]; omega
theorem flat_get {α : Type} {f : α → List Value} {size : Nat} (hf : ∀ x, (f x).length = size) : ∀ (l : List α) (k : Nat) (x : α), l[k]? = some x → ∀ j, j < size → (l.flatMap f)[k * size + j]? = (f x)[j]?
  | [], k, x, h, _, _ => by simp at h
  | a :: l, 0, x, h, j, hj => by
    simp only [List.getElem?_cons_zero, Option.some.injEq] at h; subst h
    rw [List.flatMap_cons, Nat.zero_mul, Nat.zero_add, List.getElem?_append_left (by rw [hf]; exact hj)]
  | a :: l, k + 1, x, h, j, hj => by
    rw [List.flatMap_cons, List.getElem?_append_right (by rw [hf, Nat.succ_mul]; omega), hf, Nat.succ_mul, show k * size + size + j - size = k * size + j by omega]
    exact flat_get hf l k x (by simpa using h) j hj
/-- A slice's elements, seen: each is a row of 'size' cells. -/
structure SeesL {α : Type} (w : World) (size : Nat) (f : α → List Value) (v : Value) (l : List α) : Prop where
  sees : Sees w size v l.length (l.flatMap f)
  size : ∀ x, (f x).length = size
section
variable {α : Type} {P : Program} {ops : Array Oper} {rest : List Oper} {o : Oper} {a : Act} {w w0 : World} {Q : Exit → Act → World → Prop} {L : List Chunk} {size : Nat} {f : α → List Value} {v : Value} {l : List α}
theorem SeesL.form (S : SeesL w size f v l) : ∃ p cap, v = .slice p l.length cap ∧ l.length ≤ cap := S.sees.form
theorem SeesL.addr {p : Option Addr} {n cap : Nat} (S : SeesL w size f (.slice p n cap) l) (h : 0 < l.length) : ∃ g so, p = some ⟨g, so, none⟩ := by
  rcases S.sees.2 with ⟨_, h0⟩ | ⟨g, so, c, hv, _⟩
  · omega
  · injection hv with h1 h2 h3; exact ⟨g, so, h1⟩
theorem SeesL.cell {g so n cap : Nat} (S : SeesL w size f (.slice (some ⟨g, so, none⟩) n cap) l) {k : Nat} {x : α} (hk : l[k]? = some x) {j : Nat} {val : Value} (hv : (f x)[j]? = some val) : w.cell? ⟨g, so + (k * size + j), none⟩ = some val := by
  have hj : j < size := by rw [← S.size x]; exact (List.getElem?_eq_some_iff.1 hv).1
  rcases S.sees.2 with ⟨h0, _⟩ | ⟨g', o', c, hv', _, _, _, hr⟩
  · cases h0
  · injection hv' with h1 _ _; injection h1 with h1; injection h1 with h1 h2; subst h1; subst h2
    exact hr _ _ ((flat_get S.size l k x hk j hj).trans hv)
theorem SeesL.kept {G : List Nat} {w' : World} (S : SeesL w size f v l) (h : Kept G w w') (hG : ∀ k, v.ownBlock = some k → k ∉ G) : SeesL w' size f v l := by
  refine ⟨⟨S.sees.1, S.sees.2.imp id ?_⟩, S.size⟩
  rintro ⟨g, so, cap, rfl, hlt, hn, hc, hr⟩
  exact ⟨g, so, cap, rfl, Nat.lt_of_lt_of_le hlt h.size, hn, hc, rangeAt_of_block hr (h.block g hlt (hG g rfl))⟩
theorem SeesL.below {w' : World} (S : SeesL w size f v l) (h : Below w.heap.size w w') : SeesL w' size f v l := S.kept (Kept.of_below h []) (by simp)
theorem SeesL.now (M : Mem [] w0 w L) (S : SeesL w0 size f v l) : SeesL w size f v l := S.kept M.kept (by simp)
theorem seesL_nil (size : Nat) (f : α → List Value) (hf : ∀ x, (f x).length = size) (w : World) : SeesL w size f (.slice none 0 0) [] := ⟨Sees_nil _ _, hf⟩
/-- A piece of the walk's own, seen. -/
theorem SeesL.own {F : List Nat} (M : Mem F w0 w L) (i : Nat) {n : Nat} (hi : L[i]? = some (.sl size v n (l.flatMap f))) (hn : n = l.length) (hf : ∀ x, (f x).length = size) : SeesL w size f v l := by
  subst hn; exact ⟨Own.sees (M.ok i _ hi), hf⟩
/-- A field of an element. -/
theorem w_see (M : Mem [] w0 w L) {g so n cap : Nat} (S : SeesL w0 size f (.slice (some ⟨g, so, none⟩) n cap) l) {k : Nat} {x : α} (hk : l[k]? = some x) (t : TypeId) (op : Operand) (ho : o.op = .load t op) {off : Nat} (hx : a.eval op = .pointer (some ⟨g, off, none⟩)) (hw : Region.wanted o (yielded ops a.tmps) = true)
    (ht : scalarT P t = true) (j : Nat) (hoff : off = so + (k * size + j)) {val : Value} (hv : (f x)[j]? = some val) (h : wpList P ops Q rest (a.put o.dst val) w) : wpList P ops Q (o :: rest) a w :=
  wpW hw fun _ hK => by
    subst hoff
    unfold Oper.wp execOp
    simp only [ho, hx, Instr.loadAt, Instr.sureAddr, Sem.run_bind, Sem.run_pure, Result.andThen_ok, run_loadVar_scalar ht w g _ val ((S.now M).cell hk hv)]
    exact hK _ _ h
/-- A whole element. -/
theorem w_seeA (M : Mem [] w0 w L) {g so n cap : Nat} (S : SeesL w0 size f (.slice (some ⟨g, so, none⟩) n cap) l) {k : Nat} {x : α} (hk : l[k]? = some x) (t : TypeId) (op : Operand) (ho : o.op = .load t op) {off : Nat} (hx : a.eval op = .pointer (some ⟨g, off, none⟩)) (hw : Region.wanted o (yielded ops a.tmps) = true)
    (ht : rowT P t = true) (hoff : off = so + k * size) (hn : (P.info? t).map (·.size) = some (f x).length) (h : wpList P ops Q rest (a.put o.dst (.agg (f x).toArray)) w) : wpList P ops Q (o :: rest) a w :=
  wpW hw fun _ hK => by
    subst hoff
    unfold rowT at ht
    cases hu : P.underlying t with
    | none => simp [hu] at ht
    | some d =>
      simp only [hu] at ht
      refine wp_load_mid t op ho g _ hx (f x) d ?_ hu ht hn (hK _ _ h)
      intro j val hv
      rw [Nat.add_assoc]
      exact (S.now M).cell hk hv
/-- A field of an element, as a region's load that may come at any time. -/
theorem stab_see (M : Mem [] w0 w L) {is : List Nat} {g so n cap : Nat} (S : SeesL w0 size f (.slice (some ⟨g, so, none⟩) n cap) l) {k : Nat} {x : α} (hk : l[k]? = some x) (j : Nat) {t : TypeId} {op : Operand} (ho : o.op = .load t op) (ht : scalarT P t = true) {val : Value} (hv : (f x)[j]? = some val) :
    Stab P (IxOk M is) o (.pointer (some ⟨g, so + (k * size + j), none⟩)) := by
  unfold Stab; rw [ho]
  refine ⟨val, fun w' hw => ?_⟩
  simp only [Instr.loadAt, Instr.sureAddr, Sem.run_bind, Sem.run_pure, Result.andThen_ok, run_loadVar_scalar ht w' g _ val ((S.kept hw.1 (by simp)).cell hk hv)]
theorem stab_seeA (M : Mem [] w0 w L) {is : List Nat} {g so n cap : Nat} (S : SeesL w0 size f (.slice (some ⟨g, so, none⟩) n cap) l) {k : Nat} {x : α} (hk : l[k]? = some x) {t : TypeId} {op : Operand} (ho : o.op = .load t op) (ht : rowT P t = true) (hn : (P.info? t).map (·.size) = some (f x).length) :
    Stab P (IxOk M is) o (.pointer (some ⟨g, so + k * size, none⟩)) := by
  unfold rowT at ht
  cases hu : P.underlying t with
  | none => simp [hu] at ht
  | some d =>
    simp only [hu] at ht
    refine stab_load ho g _ (f x) d (fun w' hw j val hv => ?_) hu ht hn
    rw [Nat.add_assoc]
    exact (S.kept hw.1 (by simp)).cell hk hv
end
/-- A pair's cells. -/
def prV (x : List UInt8 × List UInt8) : List Value := [.string (mkS x.1), .string (mkS x.2)]
@[go_sem] theorem prV_eq (a b : List UInt8) : prV (a, b) = [.string (mkS a), .string (mkS b)] := rfl
theorem prV_len (x : List UInt8 × List UInt8) : (prV x).length = 2 := rfl
end TL
end Go

/- Plain laws of layer 12 (batch): which operations may be, a batch's bytes, and how they are read. No program in this text. No conditions but those each lemma names. -/
namespace Go
namespace TL
open Go.RowKit
abbrev Opr : Type := UInt8 × List UInt8 × List UInt8
abbrev Mt : Type := List UInt8 × Bool
/-- An operation's cells. -/
def opV (x : Opr) : List Value := [.int .u8 (I8 x.1), .string (mkS x.2.1), .string (mkS x.2.2)]
@[go_sem] theorem opV_eq (a : UInt8) (b c : List UInt8) : opV (a, b, c) = [.int .u8 (I8 a), .string (mkS b), .string (mkS c)] := rfl
theorem opV_len (x : Opr) : (opV x).length = 3 := rfl
/-- A mount's cells. -/
def mtV (x : Mt) : List Value := [.string (mkS x.1), .bool x.2]
@[go_sem] theorem mtV_eq (a : List UInt8) (b : Bool) : mtV (a, b) = [.string (mkS a), .bool b] := rfl
theorem mtV_len (x : Mt) : (mtV x).length = 2 := rfl
/-! ### Great ones -/
def greatM (l : List Mt) : Bool := decide (100 < l.length) || l.any fun x => decide (1000 < x.1.length)
theorem greatM_at {l : List Mt} {k : Nat} {x : Mt} (h : l[k]? = some x) (hb : 1000 < x.1.length) : greatM l = true := by
  unfold greatM
  rw [Bool.or_eq_true]; right
  rw [List.any_eq_true]
  exact ⟨x, List.mem_of_getElem? h, by simpa using hb⟩
theorem greatM_no {l : List Mt} (hl : l.length ≤ 100) (h : ∀ (k : Nat) (x : Mt), l[k]? = some x → ¬ 1000 < x.1.length) : greatM l = false := by
  unfold greatM
  rw [Bool.or_eq_false_iff]
  refine ⟨by simpa using hl, ?_⟩
  rw [List.any_eq_false]
  intro x hx
  obtain ⟨k, hk⟩ := List.getElem?_of_mem hx
  simpa using h k x hk
theorem greatM_small {l : List Mt} (h : greatM l = false) : l.length ≤ 100 ∧ ∀ x ∈ l, x.1.length ≤ 1000 := by
  unfold greatM at h
  rw [Bool.or_eq_false_iff, List.any_eq_false] at h
  refine ⟨by simpa using h.1, fun x hx => ?_⟩
  have := h.2 x hx
  simp at this; omega
def greatO (l : List Opr) : Bool := decide (100 < l.length) || l.any fun x => decide (1000 < x.2.1.length) || decide (1000 < x.2.2.length)
theorem greatO_at {l : List Opr} {k : Nat} {x : Opr} (h : l[k]? = some x) (hb : 1000 < x.2.1.length ∨ 1000 < x.2.2.length) : greatO l = true := by
  unfold greatO
  rw [Bool.or_eq_true]; right
  rw [List.any_eq_true]
  exact ⟨x, List.mem_of_getElem? h, by simpa using hb⟩
theorem greatO_no {l : List Opr} (hl : l.length ≤ 100) (h : ∀ (k : Nat) (x : Opr), l[k]? = some x → ¬ (1000 < x.2.1.length ∨ 1000 < x.2.2.length)) : greatO l = false := by
  unfold greatO
  rw [Bool.or_eq_false_iff]
  refine ⟨by simpa using hl, ?_⟩
  rw [List.any_eq_false]
  intro x hx
  obtain ⟨k, hk⟩ := List.getElem?_of_mem hx
  simpa using h k x hk
theorem greatO_small {l : List Opr} (h : greatO l = false) : l.length ≤ 100 ∧ ∀ x ∈ l, x.2.1.length ≤ 1000 ∧ x.2.2.length ≤ 1000 := by
  unfold greatO at h
  rw [Bool.or_eq_false_iff, List.any_eq_false] at h
  refine ⟨by simpa using h.1, fun x hx => ?_⟩
  have := h.2 x hx
  simp at this; omega
/-! ### Mounts -/
/-- The first mount of a name. -/
def findM (l : List Mt) (m : List UInt8) : Nat := l.findIdx fun x => x.1 == m
theorem findM_at {l : List Mt} {m : List UInt8} {k : Nat} {x : Mt} (h : l[k]? = some x) (hx : x.1 = m) (hb : ∀ (j : Nat) (y : Mt), j < k → l[j]? = some y → y.1 ≠ m) : findM l m = k := by
  obtain ⟨hk, rfl⟩ := List.getElem?_eq_some_iff.1 h
  unfold findM
  rw [List.findIdx_eq hk]
  refine ⟨by simpa using hx, fun j hj => ?_⟩
  have := hb j l[j] hj (List.getElem?_eq_getElem (by omega))
  simpa using this
theorem findM_no {l : List Mt} {m : List UInt8} (hb : ∀ (j : Nat) (y : Mt), l[j]? = some y → y.1 ≠ m) : findM l m = l.length := by
  unfold findM
  rw [List.findIdx_eq_length]
  intro x hx
  obtain ⟨k, hk⟩ := List.getElem?_of_mem hx
  simpa using hb k x hk
/-- A path's mount, or why there is none. -/
def ofP (l : List Mt) (p : List UInt8) : Mt × Nat :=
  if (cutL p).2.2 = true then
    if findM l (cutL p).1 < l.length then (l.getD (findM l (cutL p).1) ([], false), 0) else (([], false), 21)
  else (([], false), 20)
theorem ofP_key {l : List Mt} {p : List UInt8} (h : (cutL p).2.2 = false) : ofP l p = (([], false), 20) := by unfold ofP; rw [if_neg (by rw [h]; decide)]
theorem ofP_no {l : List Mt} {p m k : List UInt8} (h : cutL p = (m, k, true)) (hf : findM l m = l.length) : ofP l p = (([], false), 21) := by unfold ofP; rw [h, if_pos rfl, hf, if_neg (by omega)]
theorem ofP_yes {l : List Mt} {p m k : List UInt8} {i : Nat} {x : Mt} (h : cutL p = (m, k, true)) (hf : findM l m = i) (hx : l[i]? = some x) : ofP l p = (x, 0) := by
  obtain ⟨hi, rfl⟩ := List.getElem?_eq_some_iff.1 hx
  unfold ofP; rw [h, if_pos rfl, hf, if_pos hi, List.getD_eq_getElem?_getD, hx]; rfl
/-- Is a path shipped? -/
def shipL (l : List Mt) (p : List UInt8) : Bool := (ofP l p).2 == 0 && (ofP l p).1.2
/-! ### Operations -/
/-- Why an operation may not be; of: why a path may not. -/
def opE (f : List UInt8 → Nat) (x : Opr) : Nat :=
  if x.1 = 1 ∨ x.1 = 2 then
    if f x.2.1 = 0 then
      if x.2.2.length ≤ 32 then (if x.1 = 2 ∧ x.2.2 ≠ [] then 1 else 0) else 3
    else f x.2.1
  else 10
def eachE (f : List UInt8 → Nat) : List Opr → Nat
  | [] => 0
  | x :: l => if opE f x = 0 then eachE f l else opE f x
theorem each_at {f : List UInt8 → Nat} : ∀ {l : List Opr} {k : Nat} {x : Opr}, l[k]? = some x → (∀ (j : Nat) (y : Opr), j < k → l[j]? = some y → opE f y = 0) → opE f x ≠ 0 → eachE f l = opE f x
  | [], k, x, h, _, _ => by simp at h
  | y :: l, 0, x, h, _, hx => by
    have : y = x := by simpa using h
    subst this; rw [eachE, if_neg hx]
  | y :: l, k + 1, x, h, hb, hx => by
    rw [eachE, if_pos (hb 0 y (by omega) rfl)]
    exact each_at (l := l) (k := k) (by simpa using h) (fun j z hj hz => hb (j + 1) z (by omega) (by simpa using hz)) hx
theorem each_all {f : List UInt8 → Nat} : ∀ {l : List Opr}, (∀ (j : Nat) (y : Opr), l[j]? = some y → opE f y = 0) → eachE f l = 0
  | [], _ => rfl
  | y :: l, hb => by
    rw [eachE, if_pos (hb 0 y rfl)]
    exact each_all fun j z hz => hb (j + 1) z (by simpa using hz)
theorem each_ok {f : List UInt8 → Nat} : ∀ {l : List Opr}, eachE f l = 0 → ∀ x ∈ l, opE f x = 0
  | [], _, x, hx => by cases hx
  | y :: l, h, x, hx => by
    rw [eachE] at h
    split at h
    · rename_i h0
      rcases List.mem_cons.1 hx with rfl | hx
      · exact h0
      · exact each_ok h x hx
    · rename_i h0; exact absurd h h0
theorem each_of {f : List UInt8 → Nat} {l : List Opr} (h : ∀ x ∈ l, opE f x = 0) : eachE f l = 0 := each_all fun _ y hy => h y (List.mem_of_getElem? hy)
theorem op_kind {f : List UInt8 → Nat} {x : Opr} (h : ¬ (x.1 = 1 ∨ x.1 = 2)) : opE f x = 10 := if_neg h
theorem op_path {f : List UInt8 → Nat} {x : Opr} (h : x.1 = 1 ∨ x.1 = 2) (h2 : f x.2.1 ≠ 0) : opE f x = f x.2.1 := by unfold opE; rw [if_pos h, if_neg h2]
theorem op_long {f : List UInt8 → Nat} {x : Opr} (h : x.1 = 1 ∨ x.1 = 2) (h2 : f x.2.1 = 0) (h3 : 32 < x.2.2.length) : opE f x = 3 := by unfold opE; rw [if_pos h, if_pos h2, if_neg (by omega)]
theorem op_arg {f : List UInt8 → Nat} {x : Opr} (h : x.1 = 2) (h2 : f x.2.1 = 0) (h3 : x.2.2.length ≤ 32) (h4 : x.2.2 ≠ []) : opE f x = 1 := by unfold opE; rw [if_pos (.inr h), if_pos h2, if_pos h3, if_pos ⟨h, h4⟩]
theorem op_good {f : List UInt8 → Nat} {x : Opr} (h : x.1 = 1 ∨ x.1 = 2) (h2 : f x.2.1 = 0) (h3 : x.2.2.length ≤ 32) (h4 : x.1 = 2 → x.2.2 = []) : opE f x = 0 := by
  unfold opE; rw [if_pos h, if_pos h2, if_pos h3, if_neg (fun h => h.2 (h4 h.1))]
theorem op_zero {f : List UInt8 → Nat} {x : Opr} (h : opE f x = 0) : (x.1 = 1 ∨ x.1 = 2) ∧ f x.2.1 = 0 ∧ x.2.2.length ≤ 32 ∧ (x.1 = 2 → x.2.2 = []) := by
  unfold opE at h
  split at h
  · rename_i h1
    split at h
    · rename_i h2
      split at h
      · rename_i h3
        split at h
        · cases h
        · rename_i h4
          refine ⟨h1, h2, h3, fun e => ?_⟩
          by_cases hn : x.2.2 = []
          · exact hn
          · exact absurd ⟨e, hn⟩ h4
      · cases h
    · rename_i h2; exact absurd h h2
  · cases h
def cutE (p : List UInt8) : Nat := if (cutL p).2.2 = true then 0 else 20
/-- May operations be? -/
def mayO (l : List Mt) (ops : List Opr) : Nat := if ops.length = 0 then 1 else if 4 < ops.length then 3 else eachE (fun p => (ofP l p).2) ops
/-- Is a batch right? -/
def rightB (i e : Int) (ops : List Opr) : Nat := if i < 1 ∨ 4611686018427387904 < i ∨ e < 1 then 1 else if 4 < ops.length then 3 else eachE cutE ops
theorem right_ok {i e : Int} {ops : List Opr} (h : rightB i e ops = 0) : 1 ≤ i ∧ i ≤ 4611686018427387904 ∧ 1 ≤ e ∧ ops.length ≤ 4 ∧ eachE cutE ops = 0 := by
  unfold rightB at h
  split at h
  · cases h
  · rename_i h1
    split at h
    · cases h
    · rename_i h2; exact ⟨by omega, by omega, by omega, by omega, h⟩
def opB (x : Opr) : List UInt8 := x.1 :: (textL x.2.1 ++ if x.1 = 1 then textL x.2.2 else [])
/-- A batch's bytes. -/
def batB (i e : Nat) (ops : List Opr) : List UInt8 := numL i ++ (numL e ++ (numL ops.length ++ ops.flatMap opB))
def bytesB (i e : Int) (ops : List Opr) : List UInt8 × Nat := if rightB i e ops = 0 then (batB i.toNat e.toNat ops, 0) else ([], rightB i e ops)
/-- What is shipped. -/
def filtB (l : List Mt) (ops : List Opr) : List Opr := ops.filter fun x => shipL l x.2.1
/-- A kind that is none. -/
def InS.bad (x : InS) (e : Nat) : InS := ⟨x.rest, x.read, e⟩
/-- Operations, read one behind the other. -/
def rdOps : Nat → InS → List Opr × InS
  | 0, x => ([], x)
  | n + 1, x =>
    if x.byte.2.err = 0 then
      if x.byte.1 = 1 ∨ x.byte.1 = 2 then
        ((UInt8.ofNat x.byte.1, (x.byte.2.text 33).1, if x.byte.1 = 1 then ((x.byte.2.text 33).2.text 32).1 else []) :: (rdOps n (if x.byte.1 = 1 then ((x.byte.2.text 33).2.text 32).2 else (x.byte.2.text 33).2)).1,
          (rdOps n (if x.byte.1 = 1 then ((x.byte.2.text 33).2.text 32).2 else (x.byte.2.text 33).2)).2)
      else ([], x.byte.2.bad 10)
    else ([], x.byte.2)
/-- The reader behind a batch's three numbers. -/
def nums3 (s : List UInt8) : Nat × Nat × Nat × InS :=
  let a := (InS.mk s 0 0).most 4611686018427387904
  let b := a.2.most 9223372036854775807
  let c := b.2.most 4
  (a.1, b.1, c.1, c.2)
/-- The batch of bytes, or the fault. -/
def readB (s : List UInt8) : (Nat × Nat × List Opr) × Nat :=
  let q := nums3 s
  let r := rdOps q.2.2.1 q.2.2.2
  if r.2.fin = 0 then
    if rightB q.1 q.2.1 r.1 = 0 then ((q.1, q.2.1, r.1), 0) else ((0, 0, []), rightB q.1 q.2.1 r.1)
  else ((0, 0, []), r.2.fin)
end TL
end Go

/- Plain: tokens: when they are right, their bytes, read back. No program in this text. No conditions but those each lemma names. -/
namespace Go
namespace TL
/-- The i-th mount has a name, and no twin ahead of it. -/
def okM (l : List Mt) (i : Nat) : Bool := namedL (l.getD i ([], false)).1 && !((l.take i).any fun x => x.1 == (l.getD i ([], false)).1)
def rightM (l : List Mt) : Bool := (List.range l.length).all (okM l) && (decide (1 ≤ l.length) && decide (l.length ≤ 4))
theorem rightM_bad {l : List Mt} {i : Nat} (hi : i < l.length) (h : okM l i = false) : rightM l = false := by
  unfold rightM
  have : (List.range l.length).all (okM l) = false := by
    rw [List.all_eq_false]
    exact ⟨i, List.mem_range.2 hi, by rw [h]; decide⟩
  rw [this, Bool.false_and]
theorem rightM_good {l : List Mt} (h : ∀ i, i < l.length → okM l i = true) : rightM l = (decide (1 ≤ l.length) && decide (l.length ≤ 4)) := by
  unfold rightM
  have : (List.range l.length).all (okM l) = true := by
    rw [List.all_eq_true]
    exact fun i hi => h i (List.mem_range.1 hi)
  rw [this, Bool.true_and]
theorem rightM_of {l : List Mt} (h : rightM l = true) : 1 ≤ l.length ∧ l.length ≤ 4 ∧ ∀ x ∈ l, x.1.length ≤ 8 := by
  unfold rightM at h
  simp only [Bool.and_eq_true, decide_eq_true_eq] at h
  obtain ⟨h1, h2, h3⟩ := h
  refine ⟨h2, h3, fun x hx => ?_⟩
  obtain ⟨i, hi⟩ := List.mem_iff_getElem?.1 hx
  have hlt := (List.getElem?_eq_some_iff.1 hi).1
  have hk := List.all_eq_true.1 h1 i (List.mem_range.2 hlt)
  unfold okM namedL at hk
  simp only [Bool.and_eq_true, decide_eq_true_eq] at hk
  have e : l.getD i ([], false) = x := by rw [List.getD_eq_getElem?_getD, hi]; rfl
  rw [e] at hk
  exact hk.1.1.2
/-- A token. -/
structure Tok where
  k : Nat
  e : Nat
  l : List Mt
  s : List UInt8
def rightT (k e : Int) (l : List Mt) (s : List UInt8) : Bool := decide (0 ≤ k) && (decide (1 ≤ e) && (rightM l && (decide (1 ≤ s.length) && decide (s.length ≤ 64))))
def shipB (x : Mt) : UInt8 := if x.2 then 1 else 0
def mtB (x : Mt) : List UInt8 := textL x.1 ++ [shipB x]
/-- A token's bytes. -/
def tokB (t : Tok) : List UInt8 := numL t.k ++ (numL t.e ++ (numL t.l.length ++ (t.l.flatMap mtB ++ textL t.s)))
/-- What is sealed about. -/
def aboutT : List UInt8 := [116, 111, 107, 101, 110]
theorem rightT_of {k e : Int} {l : List Mt} {s : List UInt8} (h : rightT k e l s = true) : 0 ≤ k ∧ 1 ≤ e ∧ rightM l = true ∧ 1 ≤ s.length ∧ s.length ≤ 64 := by
  unfold rightT at h
  simp only [Bool.and_eq_true, decide_eq_true_eq] at h
  exact ⟨h.1, h.2.1, h.2.2.1, h.2.2.2.1, h.2.2.2.2⟩
theorem mtB_len {x : Mt} (h : x.1.length ≤ 8) : (mtB x).length ≤ 19 := by
  unfold mtB textL
  have := numL_length_le x.1.length (by omega)
  simp only [List.length_append, List.length_singleton]; omega
theorem flat_mtB_len : ∀ {l : List Mt}, (∀ x ∈ l, x.1.length ≤ 8) → (l.flatMap mtB).length ≤ 19 * l.length
  | [], _ => by simp
  | x :: l, h => by
    have h1 := mtB_len (h x (by simp))
    have h2 := flat_mtB_len (l := l) (fun y hy => h y (by simp [hy]))
    rw [List.flatMap_cons, List.length_append, List.length_cons]; omega
theorem tokB_len {t : Tok} (hk : t.k < 9223372036854775808) (he : t.e < 9223372036854775808) (hl : t.l.length ≤ 4) (hn : ∀ x ∈ t.l, x.1.length ≤ 8) (hs : t.s.length ≤ 64) : (tokB t).length ≤ 1000 := by
  have h1 := numL_length_le t.k (by omega)
  have h2 := numL_length_le t.e (by omega)
  have h3 := numL_length_le t.l.length (by omega)
  have h4 := flat_mtB_len hn
  have h5 := numL_length_le t.s.length (by omega)
  unfold tokB textL
  simp only [List.length_append]; omega
/-- The reader's state ahead of the j-th mount. -/
def tokS (t : Tok) (k : Nat) (j : Nat) : InS := ⟨(t.l.drop j).flatMap mtB ++ textL t.s, k, 0⟩
theorem tok_mount {t : Tok} {j k : Nat} {x : Mt} (hx : t.l[j]? = some x) (hn : x.1.length ≤ 8) : ∃ k' k'', InS.text (tokS t k j) 8 = (x.1, ⟨shipB x :: ((t.l.drop (j + 1)).flatMap mtB ++ textL t.s), k', 0⟩) ∧ InS.byte ⟨shipB x :: ((t.l.drop (j + 1)).flatMap mtB ++ textL t.s), k', 0⟩ = ((shipB x).toNat, tokS t k'' (j + 1)) := by
  obtain ⟨hj, hx'⟩ := List.getElem?_eq_some_iff.1 hx
  have hd : t.l.drop j = x :: t.l.drop (j + 1) := by rw [← hx']; exact List.drop_eq_getElem_cons hj
  have e : (t.l.drop j).flatMap mtB ++ textL t.s = textL x.1 ++ (shipB x :: ((t.l.drop (j + 1)).flatMap mtB ++ textL t.s)) := by
    rw [hd, List.flatMap_cons]; unfold mtB; simp only [List.append_assoc, List.cons_append, List.nil_append]
  refine ⟨k + (textL x.1).length, k + (textL x.1).length + 1, ?_, ?_⟩
  · unfold tokS; rw [e]; exact text_text hn (by omega)
  · rw [byte_cons]; rfl
/-- The reference's way to tell the bytes. -/
theorem tokB_eq (t : Tok) : tokB t = (numL t.k ++ numL t.e ++ numL t.l.length ++ t.l.flatMap mtB) ++ textL t.s := by unfold tokB; simp only [List.append_assoc]
/-- Whether two tokens are the same. -/
def sameT (k e : Int) (l : List Mt) (s : List UInt8) (k' e' : Int) (l' : List Mt) (s' : List UInt8) : Bool := (k == k') && ((e == e') && ((l == l') && (s == s')))
theorem sameT_self (k e : Int) (l : List Mt) (s : List UInt8) : sameT k e l s k e l s = true := by unfold sameT; simp
/-- Whether a token is great. -/
def greatT (l : List Mt) (s : List UInt8) : Bool := ((l.take 301).any fun x => decide (3000 < x.1.length)) || (decide (300 < l.length) || decide (3000 < s.length))
theorem greatT_at {l : List Mt} {s : List UInt8} {k : Nat} {x : Mt} (h : l[k]? = some x) (hk : k ≤ 300) (hx : 3000 < x.1.length) : greatT l s = true := by
  unfold greatT
  have : ((l.take 301).any fun x => decide (3000 < x.1.length)) = true := by
    rw [List.any_eq_true]
    exact ⟨x, List.mem_of_getElem? (i := k) (by rw [List.getElem?_take, if_pos (by omega)]; exact h), decide_eq_true hx⟩
  rw [this, Bool.true_or]
theorem greatT_no {l : List Mt} {s : List UInt8} (h : ∀ (k : Nat) (x : Mt), k ≤ 300 → l[k]? = some x → ¬ 3000 < x.1.length) : greatT l s = (decide (300 < l.length) || decide (3000 < s.length)) := by
  unfold greatT
  have : ((l.take 301).any fun x => decide (3000 < x.1.length)) = false := by
    rw [List.any_eq_false]
    intro x hx
    obtain ⟨k, hk⟩ := List.mem_iff_getElem?.1 hx
    rw [List.getElem?_take] at hk
    split at hk
    · rw [decide_eq_true_eq]; exact h k x (by omega) hk
    · cases hk
  rw [this, Bool.false_or]
theorem greatT_of {l : List Mt} {s : List UInt8} (h : greatT l s = false) : l.length ≤ 300 ∧ s.length ≤ 3000 ∧ ∀ x ∈ l, x.1.length ≤ 3000 := by
  have h' := h
  unfold greatT at h
  simp only [Bool.or_eq_false_iff, decide_eq_false_iff_not, List.any_eq_false, decide_eq_true_eq] at h
  obtain ⟨h1, h2, h3⟩ := h
  refine ⟨by omega, by omega, fun x hx => ?_⟩
  have := h1 x (by rw [List.take_of_length_le (by omega)]; exact hx)
  omega
end TL
end Go

/- The walk of path.named. Conditions: lengths. -/
namespace Go
namespace TL
theorem goodN_of {b : UInt8} (h1 : ¬ I8 b < 97) (h2 : ¬ 122 < I8 b) : goodN b = true := by rw [I8_eq] at h1 h2; simp [goodN]; omega
theorem badN_lo {b : UInt8} (h1 : I8 b < 97) : goodN b = false := by rw [I8_eq] at h1; simp [goodN]; omega
theorem badN_hi {b : UInt8} (h1 : 122 < I8 b) : goodN b = false := by rw [I8_eq] at h1; simp [goodN]; omega
theorem goodK_of {b : UInt8} (h1 : ¬ I8 b = 0) (h2 : ¬ I8 b = 47) : goodK b = true := by rw [I8_eq] at h1 h2; simp [goodK]; omega
theorem badK_0 {b : UInt8} (h1 : I8 b = 0) : goodK b = false := by rw [I8_eq] at h1; simp [goodK]; omega
theorem badK_47 {b : UInt8} (h1 : I8 b = 47) : goodK b = false := by rw [I8_eq] at h1; simp [goodK]; omega
end TL
end Go
namespace Go.Proofs.Ytjlkiopncclomaa
open Go.RowKit Go.TL
set_option maxRecDepth 100000 in
set_option maxHeartbeats 2000000 in
theorem named_c (s : List UInt8) (w : World) (hs : s.length ≤ 1000000000) :
    Calls Try.prog 98 #[.string (mkS s)] w fun e w' => e = .returned (.bool (namedL s)) ∧ w = w' := by
  have hbad : ∀ k, k < s.length → goodN (s.getD k 0) = false → namedL s = false := fun k h hb => named_bad h hb
  have hgood : (∀ k, k < s.length → goodN (s.getD k 0) = true) → namedL s = decide (1 ≤ s.length ∧ s.length ≤ 8) := named_good
  obtain ⟨N, eN⟩ : ∃ N, N = namedL s := ⟨_, rfl⟩
  rw [← eN] at hbad hgood ⊢
  have HB := Lib.hid hbad
  have HG := Lib.hid hgood
  clear eN hbad hgood
  go_enter Try.func98, Try.ntmps98
  go_wp2_with fail
  go_loop [6] (fun iv => ∃ k : Nat, k ≤ s.length ∧ iv = .int .i64 k ∧ Hid (∀ j, j < k → goodN (s.getD j 0) = true)) (fun iv => s.length - (intOf iv).toNat)
  case atStart => exact ⟨0, by omega, rfl, Lib.hid (by omega)⟩
  case round =>
    obtain ⟨k, hk, rfl, HK⟩ := hrel
    by_cases hlt : k < s.length
    · by_cases h1 : I8 (bt s k) < 97
      · have e : N = false := HB.out k hlt (badN_lo h1)
        subst e
        go_wp2_with fail
        go_ret
        exact ⟨rfl, rfl⟩
      · by_cases h2 : 122 < I8 (bt s k)
        · have e : N = false := HB.out k hlt (badN_hi h2)
          subst e
          replace h1 : 97 ≤ I8 (bt s k) := by omega
          go_wp2_with fail
          go_ret
          exact ⟨rfl, rfl⟩
        · have hg := Lib.hid (goodN_of h1 h2)
          replace h1 : 97 ≤ I8 (bt s k) := by omega
          replace h2 : I8 (bt s k) ≤ 122 := by omega
          go_wp2_with fail
          go_round
          case rel => exact ⟨k + 1, by omega, by go_num, Lib.hid fun j hj => by
            rcases Nat.lt_succ_iff_lt_or_eq.1 hj with hj | rfl
            · exact HK.out j hj
            · exact hg.out⟩
          case measure => simp [intOf]; omega
    · obtain rfl : k = s.length := by omega
      have e : N = decide (1 ≤ s.length ∧ s.length ≤ 8) := HG.out HK.out
      by_cases hl : 1 ≤ s.length ∧ s.length ≤ 8
      · rw [decide_eq_true hl] at e
        subst e
        obtain ⟨hl1, hl2⟩ := hl
        go_wp2_with fail
        go_ret
        exact ⟨by first | rfl | (simp <;> omega), rfl⟩
      · rw [decide_eq_false hl] at e
        subst e
        go_wp2_with fail
        all_goals
          go_ret
          exact ⟨by first | rfl | (simp <;> omega), rfl⟩
end Go.Proofs.Ytjlkiopncclomaa

/- The walks of path.Right (with slices.ContainsFunc and its closure), token.Right, and of layer 24's Great. Conditions: lengths. -/
namespace Go
namespace TL
open Go.RowKit
theorem seesRow1 {w : World} {g : Nat} {x : Mt} (h : (Chunk.row g (mtV x)).ok w) : SeesL w 2 mtV (.slice (some ⟨g, 0, none⟩) 1 1) [x] :=
  ⟨⟨rfl, .inr ⟨g, 0, 1, rfl, h.1, Nat.le_refl _, by simp only [maxLen]; omega, by simpa using h.2.1⟩⟩, mtV_len⟩
theorem flat_take2 : ∀ (l : List Mt) (i : Nat), (l.flatMap mtV).take (i * 2) = (l.take i).flatMap mtV
  | [], i => by simp
  | x :: l, 0 => by simp
  | x :: l, i + 1 => by
    rw [List.take_succ_cons, List.flatMap_cons, List.flatMap_cons, show (i + 1) * 2 = (mtV x).length + i * 2 by rw [mtV_len]; omega, List.take_append, List.take_of_length_le (by omega), Nat.add_sub_cancel_left, flat_take2 l i]
theorem seesTake {w : World} {p : Option Addr} {n cap i : Nat} {l : List Mt} (S : SeesL w 2 mtV (.slice p n cap) l) (hn : n = l.length) (hi : i ≤ n) (hp : p ≠ none) : SeesL w 2 mtV (.slice p i cap) (l.take i) := by
  subst hn
  have hl : (l.take i).length = i := by rw [List.length_take]; omega
  refine ⟨⟨?_, ?_⟩, mtV_len⟩
  · rw [flat_len mtV_len]
  · rcases S.sees.2 with ⟨h0, _⟩ | ⟨g, o, c, hv, hg, hc, hm, hr⟩
    · injection h0 with h1 _ _; exact absurd h1 hp
    · injection hv with h1 h2 h3
      subst h1; subst h3
      refine .inr ⟨g, o, cap, by rw [hl], hg, by rw [hl]; omega, hm, ?_⟩
      have := rangeAt_take hr (i * 2)
      have e := flat_take2 l i
      rwa [e] at this
theorem any_find (l : List Mt) (m : List UInt8) : (l.any fun x => x.1 == m) = decide (findM l m < l.length) := by
  unfold findM
  rw [Bool.eq_iff_iff, decide_eq_true_iff, List.findIdx_lt_length, List.any_eq_true]
theorem mkS_empty {s : List UInt8} (h : 1 ≤ s.length) : s.isEmpty = false := by
  cases s with
  | nil => simp at h
  | cons a l => rfl
end TL
end Go
namespace Go.Proofs.Ytjlkiopncclomaa
open Go.RowKit Go.TL
set_option maxRecDepth 100000 in
set_option maxHeartbeats 2000000 in
theorem Twin_c (a m : List UInt8) (b b' : Bool) (gm : Nat) (w : World) (T : SeesL w 2 mtV (.slice (some ⟨gm, 0, none⟩) 1 1) [(m, b')]) :
    Calls Try.prog 97 #[.agg #[.string (mkS a), .bool b], .pointer (some ⟨gm, 0, none⟩)] w fun e w' => e = .returned (.bool (a == m)) ∧ Below w.heap.size w w' := by
  have M := Mem.start [] w
  have HC : Hid ([((m, b') : Mt)][0]? = some (m, b')) := Lib.hid rfl
  go_enter Try.func97, Try.ntmps97
  go_wp2_with ((first | ((with_reducible refine tBox (some 2) ?_); refine w_box M _ _ rfl rfl _ rfl ([.string (mkS a), .bool b]) rfl ?_; clear M; intro gx w1 M) | ((with_reducible refine tLoad ?_); refine w_at _ _ rfl (by exact ev_tmp rfl) ?_; intro hx; first | (refine w_seeA M T HC.out _ _ rfl hx rfl (by decide +kernel) (by first | (with_reducible rfl) | omega) (by kernel_rfl) ?_; clear hx; (try conv => arg 5; simp only [Act.put, List.setIfInBounds_toArray, setC, mtV_eq])) | (refine w_see M T HC.out _ _ rfl hx rfl (by decide +kernel) 0 (by first | (with_reducible rfl) | omega) rfl ?_; clear hx) | (refine w_see M T HC.out _ _ rfl hx rfl (by decide +kernel) 1 (by first | (with_reducible rfl) | omega) rfl ?_; clear hx) | (refine w_see M T HC.out _ _ rfl hx rfl (by decide +kernel) 2 (by first | (with_reducible rfl) | omega) rfl ?_; clear hx)) | ((with_reducible refine tGuard ?_); refine w_strip rfl (by with_reducible rfl) ?_) | fail | ((with_reducible refine tLoad ?_); go_must (refine w_at _ _ rfl (by exact ev_tmp rfl) ?_; intro hx; (first | refine w_load M _ _ _ rfl (by first | exact at0) hx rfl (by decide +kernel) (by exact rfl) ?_ | refine w_loadR M _ _ _ rfl (by first | exact at0) hx rfl (by decide +kernel) (by kernel_rfl) ?_); clear hx)) | ((with_reducible refine tStore ?_); go_must (refine w_at2 _ _ _ rfl (by exact ev_tmp rfl) (by first | exact ev_tmp rfl | exact ev_const) ?_; intro hx hy; (first | refine w_store M _ _ _ _ rfl (by first | exact at0) hx rfl hy rfl rfl (by decide +kernel) (by first | decide | simp | (simp; omega)) ?_ | refine w_storeR M _ _ _ _ rfl (by first | exact at0) hx rfl _ hy rfl (by kernel_rfl) (by simp [Value.oneCell']) (by first | rfl | assumption) ?_); clear hx hy M; intro w1 M; (try simp only [setC] at M))) | ((with_reducible refine tBox _ ?_); (refine w_box M _ _ rfl rfl _ rfl _ rfl ?_; clear M; intro g w1 M))) <;> (try conv => arg 5; simp only [Act.put, List.setIfInBounds_toArray, setC]))
  go_ret
  exact ⟨rfl, M.below⟩
set_option maxRecDepth 100000 in
set_option maxHeartbeats 2000000 in
theorem IndexTwin_c (l : List Mt) (m : List UInt8) (b' : Bool) (gm : Nat) (v : Value) (w : World) (S : SeesL w 2 mtV v l) (T : SeesL w 2 mtV (.slice (some ⟨gm, 0, none⟩) 1 1) [(m, b')]) (hl : l.length ≤ 1000000) :
    Calls Try.prog 118 #[v, .func (.func 97) #[] #[.pointer (some ⟨gm, 0, none⟩)]] w fun e w' => e = .returned (.int .i64 (if findM l m < l.length then (findM l m : Int) else -1)) ∧ Below w.heap.size w w' := by
  obtain ⟨p, cap, rfl, hc⟩ := S.form
  have M := Mem.start [] w
  have HY : ∀ (k : Nat) (x : Mt), l[k]? = some x → x.1 = m → (∀ (j : Nat) (y : Mt), j < k → l[j]? = some y → y.1 ≠ m) → (if findM l m < l.length then (findM l m : Int) else -1) = k := fun k x h hx hb => by
    rw [findM_at h hx hb, if_pos (List.getElem?_eq_some_iff.1 h).1]
  have HN : (∀ (j : Nat) (y : Mt), l[j]? = some y → y.1 ≠ m) → (if findM l m < l.length then (findM l m : Int) else -1) = -1 := fun h => by rw [findM_no h, if_neg (by omega)]
  obtain ⟨R, eR⟩ : ∃ R : Int, R = (if findM l m < l.length then (findM l m : Int) else -1) := ⟨_, rfl⟩
  rw [← eR] at HY HN ⊢
  replace HY := Lib.hid HY
  replace HN := Lib.hid HN
  clear eR
  go_enter Try.func118, Try.ntmps118
  go_wp2_with fail
  go_loopw [8] (fun iv wr => ∃ k : Nat, k ≤ l.length ∧ iv = .int .i64 k ∧ Hid (∀ (j : Nat) (y : Mt), j < k → l[j]? = some y → y.1 ≠ m) ∧ Mem [] w wr []) (fun iv _ => l.length - (intOf iv).toNat)
  case atStart => exact ⟨0, by omega, rfl, Lib.hid (by omega), M⟩
  case round =>
    clear M
    obtain ⟨k, hk, rfl, HK, M⟩ := hrel
    by_cases hlt : k < l.length
    · obtain ⟨g, so, rfl⟩ := S.addr (by omega)
      obtain ⟨⟨a, b⟩, hx⟩ : ∃ x, l[k]? = some x := ⟨_, List.getElem?_eq_getElem hlt⟩
      have HX := Lib.hid hx
      clear hx
      by_cases ham : a = m
      · obtain rfl : R = k := HY.out k (a, b) HX.out ham HK.out
        subst ham
        have C := fun w T => Twin_c a a b b' gm w T
        simp only [beq_self_eq_true] at C
        replace C := Lib.hid C
        go_wp2_with ((first | ((with_reducible refine tLoad ?_); refine w_at _ _ rfl (by exact ev_tmp rfl) ?_; intro hx; first | (refine w_seeA M S HX.out _ _ rfl hx rfl (by decide +kernel) (by first | (with_reducible rfl) | omega) (by kernel_rfl) ?_; clear hx; (try conv => arg 5; simp only [Act.put, List.setIfInBounds_toArray, setC, mtV_eq])) | (refine w_see M S HX.out _ _ rfl hx rfl (by decide +kernel) 0 (by first | (with_reducible rfl) | omega) rfl ?_; clear hx) | (refine w_see M S HX.out _ _ rfl hx rfl (by decide +kernel) 1 (by first | (with_reducible rfl) | omega) rfl ?_; clear hx) | (refine w_see M S HX.out _ _ rfl hx rfl (by decide +kernel) 2 (by first | (with_reducible rfl) | omega) rfl ?_; clear hx)) | (go_at_call 97; go_must (refine (C.out _ (T.now M)).mono ?_; rintro e w1 ⟨rfl, hb⟩; replace M := M.call hb; clear hb)) | ((with_reducible refine tGuard ?_); refine w_strip rfl (by with_reducible rfl) ?_) | fail | ((with_reducible refine tLoad ?_); go_must (refine w_at _ _ rfl (by exact ev_tmp rfl) ?_; intro hx; (first | refine w_load M _ _ _ rfl (by first | exact at0) hx rfl (by decide +kernel) (by exact rfl) ?_ | refine w_loadR M _ _ _ rfl (by first | exact at0) hx rfl (by decide +kernel) (by kernel_rfl) ?_); clear hx)) | ((with_reducible refine tStore ?_); go_must (refine w_at2 _ _ _ rfl (by exact ev_tmp rfl) (by first | exact ev_tmp rfl | exact ev_const) ?_; intro hx hy; (first | refine w_store M _ _ _ _ rfl (by first | exact at0) hx rfl hy rfl rfl (by decide +kernel) (by first | decide | simp | (simp; omega)) ?_ | refine w_storeR M _ _ _ _ rfl (by first | exact at0) hx rfl _ hy rfl (by kernel_rfl) (by simp [Value.oneCell']) (by first | rfl | assumption) ?_); clear hx hy M; intro w1 M; (try simp only [setC] at M))) | ((with_reducible refine tBox _ ?_); (refine w_box M _ _ rfl rfl _ rfl _ rfl ?_; clear M; intro g w1 M))) <;> (try conv => arg 5; simp only [Act.put, List.setIfInBounds_toArray, setC]))
        go_ret
        exact ⟨rfl, M.below⟩
      · have C := fun w T => Twin_c a m b b' gm w T
        have hne : (a == m) = false := by simpa using ham
        rw [hne] at C
        replace C := Lib.hid C
        have HA := Lib.hid ham
        clear hne ham
        go_wp2_with ((first | ((with_reducible refine tLoad ?_); refine w_at _ _ rfl (by exact ev_tmp rfl) ?_; intro hx; first | (refine w_seeA M S HX.out _ _ rfl hx rfl (by decide +kernel) (by first | (with_reducible rfl) | omega) (by kernel_rfl) ?_; clear hx; (try conv => arg 5; simp only [Act.put, List.setIfInBounds_toArray, setC, mtV_eq])) | (refine w_see M S HX.out _ _ rfl hx rfl (by decide +kernel) 0 (by first | (with_reducible rfl) | omega) rfl ?_; clear hx) | (refine w_see M S HX.out _ _ rfl hx rfl (by decide +kernel) 1 (by first | (with_reducible rfl) | omega) rfl ?_; clear hx) | (refine w_see M S HX.out _ _ rfl hx rfl (by decide +kernel) 2 (by first | (with_reducible rfl) | omega) rfl ?_; clear hx)) | (go_at_call 97; go_must (refine (C.out _ (T.now M)).mono ?_; rintro e w1 ⟨rfl, hb⟩; replace M := M.call hb; clear hb)) | ((with_reducible refine tGuard ?_); refine w_strip rfl (by with_reducible rfl) ?_) | fail | ((with_reducible refine tLoad ?_); go_must (refine w_at _ _ rfl (by exact ev_tmp rfl) ?_; intro hx; (first | refine w_load M _ _ _ rfl (by first | exact at0) hx rfl (by decide +kernel) (by exact rfl) ?_ | refine w_loadR M _ _ _ rfl (by first | exact at0) hx rfl (by decide +kernel) (by kernel_rfl) ?_); clear hx)) | ((with_reducible refine tStore ?_); go_must (refine w_at2 _ _ _ rfl (by exact ev_tmp rfl) (by first | exact ev_tmp rfl | exact ev_const) ?_; intro hx hy; (first | refine w_store M _ _ _ _ rfl (by first | exact at0) hx rfl hy rfl rfl (by decide +kernel) (by first | decide | simp | (simp; omega)) ?_ | refine w_storeR M _ _ _ _ rfl (by first | exact at0) hx rfl _ hy rfl (by kernel_rfl) (by simp [Value.oneCell']) (by first | rfl | assumption) ?_); clear hx hy M; intro w1 M; (try simp only [setC] at M))) | ((with_reducible refine tBox _ ?_); (refine w_box M _ _ rfl rfl _ rfl _ rfl ?_; clear M; intro g w1 M))) <;> (try conv => arg 5; simp only [Act.put, List.setIfInBounds_toArray, setC]))
        go_roundw
        case rel => exact ⟨k + 1, by omega, by go_num, Lib.hid fun j y hj hy => by
          rcases Nat.lt_succ_iff_lt_or_eq.1 hj with hj | rfl
          · exact HK.out j y hj hy
          · have := HX.out; rw [hy] at this; cases this; exact HA.out, M⟩
        case measure => simp [intOf]; omega
    · obtain rfl : k = l.length := by omega
      obtain rfl : R = -1 := HN.out fun j x hx => HK.out j x (List.getElem?_eq_some_iff.1 hx).1 hx
      go_wp2_with fail
      go_ret
      exact ⟨rfl, M.below⟩
set_option maxRecDepth 100000 in
set_option maxHeartbeats 2000000 in
theorem Contains_c (l : List Mt) (m : List UInt8) (b' : Bool) (gm : Nat) (v : Value) (w : World) (S : SeesL w 2 mtV v l) (T : SeesL w 2 mtV (.slice (some ⟨gm, 0, none⟩) 1 1) [(m, b')]) (hl : l.length ≤ 1000000) :
    Calls Try.prog 99 #[v, .func (.func 97) #[] #[.pointer (some ⟨gm, 0, none⟩)]] w fun e w' => e = .returned (.bool (l.any fun x => x.1 == m)) ∧ Below w.heap.size w w' := by
  have M := Mem.start [] w
  have I := fun w S T => IndexTwin_c l m b' gm v w S T hl
  rw [any_find]
  by_cases hf : findM l m < l.length
  · rw [decide_eq_true hf]
    rw [if_pos hf] at I
    obtain ⟨i, ei⟩ : ∃ i, i = findM l m := ⟨_, rfl⟩
    rw [← ei] at I
    replace I := Lib.hid I
    clear ei hf
    go_enter Try.func99, Try.ntmps99
    go_wp2_with ((go_at_call 118; go_must (refine (I.out _ (S.now M) (T.now M)).mono ?_; rintro e w1 ⟨rfl, hb⟩; replace M := M.call hb; clear hb)))
    go_ret
    exact ⟨rfl, M.below⟩
  · rw [decide_eq_false hf]
    rw [if_neg hf] at I
    replace I := Lib.hid I
    clear hf
    go_enter Try.func99, Try.ntmps99
    go_wp2_with ((go_at_call 118; go_must (refine (I.out _ (S.now M) (T.now M)).mono ?_; rintro e w1 ⟨rfl, hb⟩; replace M := M.call hb; clear hb)))
    go_ret
    exact ⟨rfl, M.below⟩
set_option maxRecDepth 100000 in
set_option maxHeartbeats 4000000 in
theorem pathRight_c (l : List Mt) (v : Value) (w : World) (S : SeesL w 2 mtV v l) (hl : l.length ≤ 1000000) (hm : ∀ x ∈ l, x.1.length ≤ 1000000000) :
    Calls Try.prog 67 #[v] w fun e w' => e = .returned (.bool (rightM l)) ∧ Below w.heap.size w w' := by
  obtain ⟨p, cap, rfl, hc⟩ := S.form
  have M := Mem.start [] w
  have hmf : ∀ (fn : Fn) (first cap : Array Value) (w : World), (Instr.makeFunc fn first cap).run Try.prog w = .ok (.func fn first cap) w := fun _ _ _ _ => rfl
  have HB := fun i => @rightM_bad l i
  have HG := @rightM_good l
  obtain ⟨R, eR⟩ : ∃ R, R = rightM l := ⟨_, rfl⟩
  simp only [← eR] at HB HG
  rw [← eR]
  replace HB := Lib.hid HB
  replace HG := Lib.hid HG
  clear eR
  go_enter Try.func67, Try.ntmps67
  go_wp2_with fail
  go_loopw [8] (fun iv wr => ∃ k : Nat, k ≤ l.length ∧ iv = .int .i64 k ∧ Hid (∀ j, j < k → okM l j = true) ∧ Mem [] w wr []) (fun iv _ => l.length - (intOf iv).toNat)
  case atStart => exact ⟨0, by omega, rfl, Lib.hid (by omega), M⟩
  case round =>
    clear M
    obtain ⟨k, hk, rfl, HK, M⟩ := hrel
    by_cases hlt : k < l.length
    · obtain ⟨g, so, rfl⟩ := S.addr (by omega)
      obtain ⟨⟨a, b⟩, hx⟩ : ∃ x, l[k]? = some x := ⟨_, List.getElem?_eq_getElem hlt⟩
      have ha := hm (a, b) (List.mem_of_getElem? hx)
      simp only at ha
      have HX := Lib.hid hx
      have eo : okM l k = (namedL a && !((l.take k).any fun x => x.1 == a)) := by unfold okM; rw [List.getD_eq_getElem?_getD, hx]; rfl
      have NC := fun w => named_c a w ha
      have CC := fun gm w S T => Contains_c (l.take k) a b gm (.slice (some ⟨g, so, none⟩) k cap) w S T (by rw [List.length_take]; omega)
      have ST := seesTake (i := k) S rfl hk (by simp)
      obtain ⟨nb, en⟩ : ∃ nb, nb = namedL a := ⟨_, rfl⟩
      obtain ⟨cb, ec⟩ : ∃ cb, cb = (l.take k).any fun x => x.1 == a := ⟨_, rfl⟩
      rw [← en, ← ec] at eo
      rw [← en] at NC
      rw [← ec] at CC
      replace NC := Lib.hid NC
      replace CC := Lib.hid CC
      replace eo := Lib.hid fun _ : Unit => eo
      clear hx en ec
      cases nb with
      | false =>
        obtain rfl : R = false := HB.out k hlt (eo.out ())
        go_wp2_with ((first | ((with_reducible refine tGuard ?_); (with_reducible refine w_stripE ?_ ?_); (focus (refine ⟨_, rfl, ?_⟩; first | (with_reducible rfl) | exact decide_eq_false (by omega) | exact decide_eq_true (by omega)))) | ((with_reducible refine tGuard ?_); first | ((with_reducible refine w_skip1 ?_ ?_); (focus (refine ⟨_, rfl, ?_⟩; first | (with_reducible rfl) | exact decide_eq_false (by omega) | exact decide_eq_true (by omega)))) | ((with_reducible refine w_skip0 ?_ ?_); (focus (refine ⟨_, rfl, ?_⟩; first | (with_reducible rfl) | exact decide_eq_false (by omega) | exact decide_eq_true (by omega))))) | ((with_reducible refine tLoad ?_); refine w_at _ _ rfl (by exact ev_tmp rfl) ?_; intro hx; first | (refine w_seeA M S HX.out _ _ rfl hx rfl (by decide +kernel) (by first | (with_reducible rfl) | omega) (by kernel_rfl) ?_; clear hx; (try conv => arg 5; simp only [Act.put, List.setIfInBounds_toArray, setC, mtV_eq])) | (refine w_see M S HX.out _ _ rfl hx rfl (by decide +kernel) 0 (by first | (with_reducible rfl) | omega) rfl ?_; clear hx) | (refine w_see M S HX.out _ _ rfl hx rfl (by decide +kernel) 1 (by first | (with_reducible rfl) | omega) rfl ?_; clear hx) | (refine w_see M S HX.out _ _ rfl hx rfl (by decide +kernel) 2 (by first | (with_reducible rfl) | omega) rfl ?_; clear hx)) | (go_at_call 98; go_must (refine (NC.out _).mono ?_; rintro e w1 ⟨rfl, rfl⟩)) | ((with_reducible refine tAlloc (some 4) 99 ?_); refine w_alloc M _ rfl rfl (.agg #[.string (mkS []), .bool false]) (mtV ([], false)) (by kernel_rfl) rfl ?_; clear M; intro gm w1 M) | ((with_reducible refine tGuard ?_); refine w_strip rfl (by with_reducible rfl) ?_) | fail | ((with_reducible refine tLoad ?_); go_must (refine w_at _ _ rfl (by exact ev_tmp rfl) ?_; intro hx; (first | refine w_load M _ _ _ rfl (by first | exact at0) hx rfl (by decide +kernel) (by exact rfl) ?_ | refine w_loadR M _ _ _ rfl (by first | exact at0) hx rfl (by decide +kernel) (by kernel_rfl) ?_); clear hx)) | ((with_reducible refine tStore ?_); go_must (refine w_at2 _ _ _ rfl (by exact ev_tmp rfl) (by first | exact ev_tmp rfl | exact ev_const) ?_; intro hx hy; (first | refine w_store M _ _ _ _ rfl (by first | exact at0) hx rfl hy rfl rfl (by decide +kernel) (by first | decide | simp | (simp; omega)) ?_ | refine w_storeR M _ _ _ _ rfl (by first | exact at0) hx rfl _ hy rfl (by kernel_rfl) (by simp [Value.oneCell']) (by first | rfl | assumption) ?_); clear hx hy M; intro w1 M; (try simp only [setC] at M))) | ((with_reducible refine tBox _ ?_); (refine w_box M _ _ rfl rfl _ rfl _ rfl ?_; clear M; intro g w1 M))) <;> (try conv => arg 5; simp only [Act.put, List.setIfInBounds_toArray, setC]))
        go_ret
        exact ⟨rfl, M.below⟩
      | true =>
        cases cb with
        | true =>
          obtain rfl : R = false := HB.out k hlt (eo.out ())
          go_wp2_with ((first | ((with_reducible refine tGuard ?_); (with_reducible refine w_stripE ?_ ?_); (focus (refine ⟨_, rfl, ?_⟩; first | (with_reducible rfl) | exact decide_eq_false (by omega) | exact decide_eq_true (by omega)))) | ((with_reducible refine tGuard ?_); first | ((with_reducible refine w_skip1 ?_ ?_); (focus (refine ⟨_, rfl, ?_⟩; first | (with_reducible rfl) | exact decide_eq_false (by omega) | exact decide_eq_true (by omega)))) | ((with_reducible refine w_skip0 ?_ ?_); (focus (refine ⟨_, rfl, ?_⟩; first | (with_reducible rfl) | exact decide_eq_false (by omega) | exact decide_eq_true (by omega))))) | ((with_reducible refine tLoad ?_); refine w_at _ _ rfl (by exact ev_tmp rfl) ?_; intro hx; first | (refine w_seeA M S HX.out _ _ rfl hx rfl (by decide +kernel) (by first | (with_reducible rfl) | omega) (by kernel_rfl) ?_; clear hx; (try conv => arg 5; simp only [Act.put, List.setIfInBounds_toArray, setC, mtV_eq])) | (refine w_see M S HX.out _ _ rfl hx rfl (by decide +kernel) 0 (by first | (with_reducible rfl) | omega) rfl ?_; clear hx) | (refine w_see M S HX.out _ _ rfl hx rfl (by decide +kernel) 1 (by first | (with_reducible rfl) | omega) rfl ?_; clear hx) | (refine w_see M S HX.out _ _ rfl hx rfl (by decide +kernel) 2 (by first | (with_reducible rfl) | omega) rfl ?_; clear hx)) | (go_at_call 98; go_must (refine (NC.out _).mono ?_; rintro e w1 ⟨rfl, rfl⟩)) | ((with_reducible refine tAlloc (some 4) 99 ?_); refine w_alloc M _ rfl rfl (.agg #[.string (mkS []), .bool false]) (mtV ([], false)) (by kernel_rfl) rfl ?_; clear M; intro gm w1 M) | (go_at_call 99; go_must (refine (CC.out _ _ (ST.now M) (seesRow1 (M.ok 0 _ rfl))).mono ?_; rintro e w1 ⟨rfl, hb⟩; replace M := M.call hb; clear hb)) | ((with_reducible refine tGuard ?_); refine w_strip rfl (by with_reducible rfl) ?_) | fail | ((with_reducible refine tLoad ?_); go_must (refine w_at _ _ rfl (by exact ev_tmp rfl) ?_; intro hx; (first | refine w_load M _ _ _ rfl (by first | exact at0) hx rfl (by decide +kernel) (by exact rfl) ?_ | refine w_loadR M _ _ _ rfl (by first | exact at0) hx rfl (by decide +kernel) (by kernel_rfl) ?_); clear hx)) | ((with_reducible refine tStore ?_); go_must (refine w_at2 _ _ _ rfl (by exact ev_tmp rfl) (by first | exact ev_tmp rfl | exact ev_const) ?_; intro hx hy; (first | refine w_store M _ _ _ _ rfl (by first | exact at0) hx rfl hy rfl rfl (by decide +kernel) (by first | decide | simp | (simp; omega)) ?_ | refine w_storeR M _ _ _ _ rfl (by first | exact at0) hx rfl _ hy rfl (by kernel_rfl) (by simp [Value.oneCell']) (by first | rfl | assumption) ?_); clear hx hy M; intro w1 M; (try simp only [setC] at M))) | ((with_reducible refine tBox _ ?_); (refine w_box M _ _ rfl rfl _ rfl _ rfl ?_; clear M; intro g w1 M))) <;> (try conv => arg 5; simp only [Act.put, List.setIfInBounds_toArray, setC]))
          go_ret
          exact ⟨rfl, M.below⟩
        | false =>
          have eo1 : okM l k = true := eo.out ()
          replace eo1 := Lib.hid fun _ : Unit => eo1
          clear eo
          go_wp2_with ((first | ((with_reducible refine tGuard ?_); (with_reducible refine w_stripE ?_ ?_); (focus (refine ⟨_, rfl, ?_⟩; first | (with_reducible rfl) | exact decide_eq_false (by omega) | exact decide_eq_true (by omega)))) | ((with_reducible refine tGuard ?_); first | ((with_reducible refine w_skip1 ?_ ?_); (focus (refine ⟨_, rfl, ?_⟩; first | (with_reducible rfl) | exact decide_eq_false (by omega) | exact decide_eq_true (by omega)))) | ((with_reducible refine w_skip0 ?_ ?_); (focus (refine ⟨_, rfl, ?_⟩; first | (with_reducible rfl) | exact decide_eq_false (by omega) | exact decide_eq_true (by omega))))) | ((with_reducible refine tLoad ?_); refine w_at _ _ rfl (by exact ev_tmp rfl) ?_; intro hx; first | (refine w_seeA M S HX.out _ _ rfl hx rfl (by decide +kernel) (by first | (with_reducible rfl) | omega) (by kernel_rfl) ?_; clear hx; (try conv => arg 5; simp only [Act.put, List.setIfInBounds_toArray, setC, mtV_eq])) | (refine w_see M S HX.out _ _ rfl hx rfl (by decide +kernel) 0 (by first | (with_reducible rfl) | omega) rfl ?_; clear hx) | (refine w_see M S HX.out _ _ rfl hx rfl (by decide +kernel) 1 (by first | (with_reducible rfl) | omega) rfl ?_; clear hx) | (refine w_see M S HX.out _ _ rfl hx rfl (by decide +kernel) 2 (by first | (with_reducible rfl) | omega) rfl ?_; clear hx)) | (go_at_call 98; go_must (refine (NC.out _).mono ?_; rintro e w1 ⟨rfl, rfl⟩)) | ((with_reducible refine tAlloc (some 4) 99 ?_); refine w_alloc M _ rfl rfl (.agg #[.string (mkS []), .bool false]) (mtV ([], false)) (by kernel_rfl) rfl ?_; clear M; intro gm w1 M) | (go_at_call 99; go_must (refine (CC.out _ _ (ST.now M) (seesRow1 (M.ok 0 _ rfl))).mono ?_; rintro e w1 ⟨rfl, hb⟩; replace M := M.call hb; clear hb)) | ((with_reducible refine tGuard ?_); refine w_strip rfl (by with_reducible rfl) ?_) | fail | ((with_reducible refine tLoad ?_); go_must (refine w_at _ _ rfl (by exact ev_tmp rfl) ?_; intro hx; (first | refine w_load M _ _ _ rfl (by first | exact at0) hx rfl (by decide +kernel) (by exact rfl) ?_ | refine w_loadR M _ _ _ rfl (by first | exact at0) hx rfl (by decide +kernel) (by kernel_rfl) ?_); clear hx)) | ((with_reducible refine tStore ?_); go_must (refine w_at2 _ _ _ rfl (by exact ev_tmp rfl) (by first | exact ev_tmp rfl | exact ev_const) ?_; intro hx hy; (first | refine w_store M _ _ _ _ rfl (by first | exact at0) hx rfl hy rfl rfl (by decide +kernel) (by first | decide | simp | (simp; omega)) ?_ | refine w_storeR M _ _ _ _ rfl (by first | exact at0) hx rfl _ hy rfl (by kernel_rfl) (by simp [Value.oneCell']) (by first | rfl | assumption) ?_); clear hx hy M; intro w1 M; (try simp only [setC] at M))) | ((with_reducible refine tBox _ ?_); (refine w_box M _ _ rfl rfl _ rfl _ rfl ?_; clear M; intro g w1 M))) <;> (try conv => arg 5; simp only [Act.put, List.setIfInBounds_toArray, setC]))
          go_roundw
          case rel => exact ⟨k + 1, by omega, by go_num, Lib.hid fun j hj => by
            rcases Nat.lt_succ_iff_lt_or_eq.1 hj with hj | rfl
            · exact HK.out j hj
            · exact eo1.out (), M.tail⟩
          case measure => simp [intOf]; omega
    · obtain rfl : k = l.length := by omega
      have e := HG.out HK.out
      by_cases h1 : 1 ≤ l.length
      by_cases h4 : l.length ≤ 4
      · rw [decide_eq_true h1, decide_eq_true h4] at e
        subst e
        go_wp2_with ((first | ((with_reducible refine tGuard ?_); (with_reducible refine w_stripE ?_ ?_); (focus (refine ⟨_, rfl, ?_⟩; first | (with_reducible rfl) | exact decide_eq_false (by omega) | exact decide_eq_true (by omega)))) | ((with_reducible refine tGuard ?_); first | ((with_reducible refine w_skip1 ?_ ?_); (focus (refine ⟨_, rfl, ?_⟩; first | (with_reducible rfl) | exact decide_eq_false (by omega) | exact decide_eq_true (by omega)))) | ((with_reducible refine w_skip0 ?_ ?_); (focus (refine ⟨_, rfl, ?_⟩; first | (with_reducible rfl) | exact decide_eq_false (by omega) | exact decide_eq_true (by omega))))) | ((with_reducible refine tGuard ?_); refine w_strip rfl (by with_reducible rfl) ?_) | fail | ((with_reducible refine tLoad ?_); go_must (refine w_at _ _ rfl (by exact ev_tmp rfl) ?_; intro hx; (first | refine w_load M _ _ _ rfl (by first | exact at0) hx rfl (by decide +kernel) (by exact rfl) ?_ | refine w_loadR M _ _ _ rfl (by first | exact at0) hx rfl (by decide +kernel) (by kernel_rfl) ?_); clear hx)) | ((with_reducible refine tStore ?_); go_must (refine w_at2 _ _ _ rfl (by exact ev_tmp rfl) (by first | exact ev_tmp rfl | exact ev_const) ?_; intro hx hy; (first | refine w_store M _ _ _ _ rfl (by first | exact at0) hx rfl hy rfl rfl (by decide +kernel) (by first | decide | simp | (simp; omega)) ?_ | refine w_storeR M _ _ _ _ rfl (by first | exact at0) hx rfl _ hy rfl (by kernel_rfl) (by simp [Value.oneCell']) (by first | rfl | assumption) ?_); clear hx hy M; intro w1 M; (try simp only [setC] at M))) | ((with_reducible refine tBox _ ?_); (refine w_box M _ _ rfl rfl _ rfl _ rfl ?_; clear M; intro g w1 M))) <;> (try conv => arg 5; simp only [Act.put, List.setIfInBounds_toArray, setC]))
        go_ret
        exact ⟨by first | rfl | (simp; omega) | (simp; done), M.below⟩
      · rw [decide_eq_true h1, decide_eq_false h4] at e
        subst e
        go_wp2_with ((first | ((with_reducible refine tGuard ?_); (with_reducible refine w_stripE ?_ ?_); (focus (refine ⟨_, rfl, ?_⟩; first | (with_reducible rfl) | exact decide_eq_false (by omega) | exact decide_eq_true (by omega)))) | ((with_reducible refine tGuard ?_); first | ((with_reducible refine w_skip1 ?_ ?_); (focus (refine ⟨_, rfl, ?_⟩; first | (with_reducible rfl) | exact decide_eq_false (by omega) | exact decide_eq_true (by omega)))) | ((with_reducible refine w_skip0 ?_ ?_); (focus (refine ⟨_, rfl, ?_⟩; first | (with_reducible rfl) | exact decide_eq_false (by omega) | exact decide_eq_true (by omega))))) | ((with_reducible refine tGuard ?_); refine w_strip rfl (by with_reducible rfl) ?_) | fail | ((with_reducible refine tLoad ?_); go_must (refine w_at _ _ rfl (by exact ev_tmp rfl) ?_; intro hx; (first | refine w_load M _ _ _ rfl (by first | exact at0) hx rfl (by decide +kernel) (by exact rfl) ?_ | refine w_loadR M _ _ _ rfl (by first | exact at0) hx rfl (by decide +kernel) (by kernel_rfl) ?_); clear hx)) | ((with_reducible refine tStore ?_); go_must (refine w_at2 _ _ _ rfl (by exact ev_tmp rfl) (by first | exact ev_tmp rfl | exact ev_const) ?_; intro hx hy; (first | refine w_store M _ _ _ _ rfl (by first | exact at0) hx rfl hy rfl rfl (by decide +kernel) (by first | decide | simp | (simp; omega)) ?_ | refine w_storeR M _ _ _ _ rfl (by first | exact at0) hx rfl _ hy rfl (by kernel_rfl) (by simp [Value.oneCell']) (by first | rfl | assumption) ?_); clear hx hy M; intro w1 M; (try simp only [setC] at M))) | ((with_reducible refine tBox _ ?_); (refine w_box M _ _ rfl rfl _ rfl _ rfl ?_; clear M; intro g w1 M))) <;> (try conv => arg 5; simp only [Act.put, List.setIfInBounds_toArray, setC]))
        go_ret
        exact ⟨by first | rfl | (simp; omega) | (simp; done), M.below⟩
      · rw [decide_eq_false h1] at e
        subst e
        go_wp2_with ((first | ((with_reducible refine tGuard ?_); (with_reducible refine w_stripE ?_ ?_); (focus (refine ⟨_, rfl, ?_⟩; first | (with_reducible rfl) | exact decide_eq_false (by omega) | exact decide_eq_true (by omega)))) | ((with_reducible refine tGuard ?_); first | ((with_reducible refine w_skip1 ?_ ?_); (focus (refine ⟨_, rfl, ?_⟩; first | (with_reducible rfl) | exact decide_eq_false (by omega) | exact decide_eq_true (by omega)))) | ((with_reducible refine w_skip0 ?_ ?_); (focus (refine ⟨_, rfl, ?_⟩; first | (with_reducible rfl) | exact decide_eq_false (by omega) | exact decide_eq_true (by omega))))) | ((with_reducible refine tGuard ?_); refine w_strip rfl (by with_reducible rfl) ?_) | fail | ((with_reducible refine tLoad ?_); go_must (refine w_at _ _ rfl (by exact ev_tmp rfl) ?_; intro hx; (first | refine w_load M _ _ _ rfl (by first | exact at0) hx rfl (by decide +kernel) (by exact rfl) ?_ | refine w_loadR M _ _ _ rfl (by first | exact at0) hx rfl (by decide +kernel) (by kernel_rfl) ?_); clear hx)) | ((with_reducible refine tStore ?_); go_must (refine w_at2 _ _ _ rfl (by exact ev_tmp rfl) (by first | exact ev_tmp rfl | exact ev_const) ?_; intro hx hy; (first | refine w_store M _ _ _ _ rfl (by first | exact at0) hx rfl hy rfl rfl (by decide +kernel) (by first | decide | simp | (simp; omega)) ?_ | refine w_storeR M _ _ _ _ rfl (by first | exact at0) hx rfl _ hy rfl (by kernel_rfl) (by simp [Value.oneCell']) (by first | rfl | assumption) ?_); clear hx hy M; intro w1 M; (try simp only [setC] at M))) | ((with_reducible refine tBox _ ?_); (refine w_box M _ _ rfl rfl _ rfl _ rfl ?_; clear M; intro g w1 M))) <;> (try conv => arg 5; simp only [Act.put, List.setIfInBounds_toArray, setC]))
        go_ret
        exact ⟨by first | rfl | (simp; omega) | (simp; done), M.below⟩
end Go.Proofs.Ytjlkiopncclomaa

/- The walks of token.Right, token.Same, path.Same (with slices.Equal at mounts), of layer 24's Great, own and the reference's Same. Conditions: lengths. -/
namespace Go.Proofs.Ytjlkiopncclomaa
open Go.RowKit Go.TL
set_option maxRecDepth 100000 in
set_option maxHeartbeats 4000000 in
theorem tokRight_c (k e : Int) (l : List Mt) (s : List UInt8) (v : Value) (w : World) (S : SeesL w 2 mtV v l) (hl : l.length ≤ 1000000) (hm : ∀ x ∈ l, x.1.length ≤ 1000000000) :
    Calls Try.prog 30 #[.agg #[.int .i64 k, .int .i64 e, v, .string (mkS s)]] w fun r w' => r = .returned (.int .i64 (if rightT k e l s = true then 0 else 1)) ∧ Below w.heap.size w w' := by
  obtain ⟨p, cap, rfl, hc⟩ := S.form
  have M := Mem.start [] w
  have PC := fun w S => pathRight_c l (.slice p l.length cap) w S hl hm
  unfold rightT
  obtain ⟨r, er⟩ : ∃ r, r = rightM l := ⟨_, rfl⟩
  rw [← er] at PC
  rw [← er]
  replace PC := Lib.hid PC
  clear er
  by_cases h1 : 0 ≤ k
  rotate_left
  · rw [decide_eq_false h1, Bool.false_and, if_neg (by decide)]
    have h1' : k < 0 := by omega
    go_enter Try.func30, Try.ntmps30
    go_wp2_with ((first | ((with_reducible refine tBox (some 1) ?_); refine w_box M _ _ rfl rfl _ rfl ([.int .i64 k, .int .i64 e, .slice p l.length cap, .string (mkS s)]) rfl ?_; clear M; intro gt w1 M) | ((with_reducible refine tGuard ?_); (with_reducible refine w_stripE ?_ ?_); (focus (refine ⟨_, rfl, ?_⟩; first | (with_reducible rfl) | exact decide_eq_false (by omega) | exact decide_eq_true (by omega)))) | ((with_reducible refine tGuard ?_); first | ((with_reducible refine w_skip1 ?_ ?_); (focus (refine ⟨_, rfl, ?_⟩; first | (with_reducible rfl) | exact decide_eq_false (by omega) | exact decide_eq_true (by omega)))) | ((with_reducible refine w_skip0 ?_ ?_); (focus (refine ⟨_, rfl, ?_⟩; first | (with_reducible rfl) | exact decide_eq_false (by omega) | exact decide_eq_true (by omega))))) | (go_at_call 67; go_must (refine (PC.out _ (S.now M)).mono ?_; rintro e w1 ⟨rfl, hb⟩; replace M := M.call hb; clear hb)) | ((with_reducible refine tGuard ?_); refine w_strip rfl (by with_reducible rfl) ?_) | fail | ((with_reducible refine tLoad ?_); go_must (refine w_at _ _ rfl (by exact ev_tmp rfl) ?_; intro hx; (first | refine w_load M _ _ _ rfl (by first | exact at0) hx rfl (by decide +kernel) (by exact rfl) ?_ | refine w_loadR M _ _ _ rfl (by first | exact at0) hx rfl (by decide +kernel) (by kernel_rfl) ?_); clear hx)) | ((with_reducible refine tStore ?_); go_must (refine w_at2 _ _ _ rfl (by exact ev_tmp rfl) (by first | exact ev_tmp rfl | exact ev_const) ?_; intro hx hy; (first | refine w_store M _ _ _ _ rfl (by first | exact at0) hx rfl hy rfl rfl (by decide +kernel) (by first | decide | simp | (simp; omega)) ?_ | refine w_storeR M _ _ _ _ rfl (by first | exact at0) hx rfl _ hy rfl (by kernel_rfl) (by simp [Value.oneCell']) (by first | rfl | assumption) ?_); clear hx hy M; intro w1 M; (try simp only [setC] at M))) | ((with_reducible refine tBox _ ?_); (refine w_box M _ _ rfl rfl _ rfl _ rfl ?_; clear M; intro g w1 M))) <;> (try conv => arg 5; simp only [Act.put, List.setIfInBounds_toArray, setC]))
    go_ret
    exact ⟨by first | rfl | simp, M.below⟩
  rw [decide_eq_true h1, Bool.true_and]
  have h1' : ¬ k < 0 := by omega
  by_cases h2 : 1 ≤ e
  rotate_left
  · rw [decide_eq_false h2, Bool.false_and, if_neg (by decide)]
    have h2' : e < 1 := by omega
    go_enter Try.func30, Try.ntmps30
    go_wp2_with ((first | ((with_reducible refine tBox (some 1) ?_); refine w_box M _ _ rfl rfl _ rfl ([.int .i64 k, .int .i64 e, .slice p l.length cap, .string (mkS s)]) rfl ?_; clear M; intro gt w1 M) | ((with_reducible refine tGuard ?_); (with_reducible refine w_stripE ?_ ?_); (focus (refine ⟨_, rfl, ?_⟩; first | (with_reducible rfl) | exact decide_eq_false (by omega) | exact decide_eq_true (by omega)))) | ((with_reducible refine tGuard ?_); first | ((with_reducible refine w_skip1 ?_ ?_); (focus (refine ⟨_, rfl, ?_⟩; first | (with_reducible rfl) | exact decide_eq_false (by omega) | exact decide_eq_true (by omega)))) | ((with_reducible refine w_skip0 ?_ ?_); (focus (refine ⟨_, rfl, ?_⟩; first | (with_reducible rfl) | exact decide_eq_false (by omega) | exact decide_eq_true (by omega))))) | (go_at_call 67; go_must (refine (PC.out _ (S.now M)).mono ?_; rintro e w1 ⟨rfl, hb⟩; replace M := M.call hb; clear hb)) | ((with_reducible refine tGuard ?_); refine w_strip rfl (by with_reducible rfl) ?_) | fail | ((with_reducible refine tLoad ?_); go_must (refine w_at _ _ rfl (by exact ev_tmp rfl) ?_; intro hx; (first | refine w_load M _ _ _ rfl (by first | exact at0) hx rfl (by decide +kernel) (by exact rfl) ?_ | refine w_loadR M _ _ _ rfl (by first | exact at0) hx rfl (by decide +kernel) (by kernel_rfl) ?_); clear hx)) | ((with_reducible refine tStore ?_); go_must (refine w_at2 _ _ _ rfl (by exact ev_tmp rfl) (by first | exact ev_tmp rfl | exact ev_const) ?_; intro hx hy; (first | refine w_store M _ _ _ _ rfl (by first | exact at0) hx rfl hy rfl rfl (by decide +kernel) (by first | decide | simp | (simp; omega)) ?_ | refine w_storeR M _ _ _ _ rfl (by first | exact at0) hx rfl _ hy rfl (by kernel_rfl) (by simp [Value.oneCell']) (by first | rfl | assumption) ?_); clear hx hy M; intro w1 M; (try simp only [setC] at M))) | ((with_reducible refine tBox _ ?_); (refine w_box M _ _ rfl rfl _ rfl _ rfl ?_; clear M; intro g w1 M))) <;> (try conv => arg 5; simp only [Act.put, List.setIfInBounds_toArray, setC]))
    go_ret
    exact ⟨by first | rfl | simp, M.below⟩
  rw [decide_eq_true h2, Bool.true_and]
  have h2' : ¬ e < 1 := by omega
  cases r with
  | false =>
    rw [Bool.false_and, if_neg (by decide)]
    go_enter Try.func30, Try.ntmps30
    go_wp2_with ((first | ((with_reducible refine tBox (some 1) ?_); refine w_box M _ _ rfl rfl _ rfl ([.int .i64 k, .int .i64 e, .slice p l.length cap, .string (mkS s)]) rfl ?_; clear M; intro gt w1 M) | ((with_reducible refine tGuard ?_); (with_reducible refine w_stripE ?_ ?_); (focus (refine ⟨_, rfl, ?_⟩; first | (with_reducible rfl) | exact decide_eq_false (by omega) | exact decide_eq_true (by omega)))) | ((with_reducible refine tGuard ?_); first | ((with_reducible refine w_skip1 ?_ ?_); (focus (refine ⟨_, rfl, ?_⟩; first | (with_reducible rfl) | exact decide_eq_false (by omega) | exact decide_eq_true (by omega)))) | ((with_reducible refine w_skip0 ?_ ?_); (focus (refine ⟨_, rfl, ?_⟩; first | (with_reducible rfl) | exact decide_eq_false (by omega) | exact decide_eq_true (by omega))))) | (go_at_call 67; go_must (refine (PC.out _ (S.now M)).mono ?_; rintro e w1 ⟨rfl, hb⟩; replace M := M.call hb; clear hb)) | ((with_reducible refine tGuard ?_); refine w_strip rfl (by with_reducible rfl) ?_) | fail | ((with_reducible refine tLoad ?_); go_must (refine w_at _ _ rfl (by exact ev_tmp rfl) ?_; intro hx; (first | refine w_load M _ _ _ rfl (by first | exact at0) hx rfl (by decide +kernel) (by exact rfl) ?_ | refine w_loadR M _ _ _ rfl (by first | exact at0) hx rfl (by decide +kernel) (by kernel_rfl) ?_); clear hx)) | ((with_reducible refine tStore ?_); go_must (refine w_at2 _ _ _ rfl (by exact ev_tmp rfl) (by first | exact ev_tmp rfl | exact ev_const) ?_; intro hx hy; (first | refine w_store M _ _ _ _ rfl (by first | exact at0) hx rfl hy rfl rfl (by decide +kernel) (by first | decide | simp | (simp; omega)) ?_ | refine w_storeR M _ _ _ _ rfl (by first | exact at0) hx rfl _ hy rfl (by kernel_rfl) (by simp [Value.oneCell']) (by first | rfl | assumption) ?_); clear hx hy M; intro w1 M; (try simp only [setC] at M))) | ((with_reducible refine tBox _ ?_); (refine w_box M _ _ rfl rfl _ rfl _ rfl ?_; clear M; intro g w1 M))) <;> (try conv => arg 5; simp only [Act.put, List.setIfInBounds_toArray, setC]))
    go_ret
    exact ⟨by first | rfl | simp, M.below⟩
  | true =>
    rw [Bool.true_and]
    by_cases h3 : 1 ≤ s.length
    rotate_left
    · rw [decide_eq_false h3, Bool.false_and, if_neg (by decide)]
      obtain rfl : s = [] := by
        cases s with
        | nil => rfl
        | cons a l => exfalso; simp at h3
      clear h3
      go_enter Try.func30, Try.ntmps30
      go_wp2_with ((first | ((with_reducible refine tBox (some 1) ?_); refine w_box M _ _ rfl rfl _ rfl ([.int .i64 k, .int .i64 e, .slice p l.length cap, .string (mkS [])]) rfl ?_; clear M; intro gt w1 M) | ((with_reducible refine tGuard ?_); (with_reducible refine w_stripE ?_ ?_); (focus (refine ⟨_, rfl, ?_⟩; first | (with_reducible rfl) | exact decide_eq_false (by omega) | exact decide_eq_true (by omega)))) | ((with_reducible refine tGuard ?_); first | ((with_reducible refine w_skip1 ?_ ?_); (focus (refine ⟨_, rfl, ?_⟩; first | (with_reducible rfl) | exact decide_eq_false (by omega) | exact decide_eq_true (by omega)))) | ((with_reducible refine w_skip0 ?_ ?_); (focus (refine ⟨_, rfl, ?_⟩; first | (with_reducible rfl) | exact decide_eq_false (by omega) | exact decide_eq_true (by omega))))) | (go_at_call 67; go_must (refine (PC.out _ (S.now M)).mono ?_; rintro e w1 ⟨rfl, hb⟩; replace M := M.call hb; clear hb)) | ((with_reducible refine tGuard ?_); refine w_strip rfl (by with_reducible rfl) ?_) | fail | ((with_reducible refine tLoad ?_); go_must (refine w_at _ _ rfl (by exact ev_tmp rfl) ?_; intro hx; (first | refine w_load M _ _ _ rfl (by first | exact at0) hx rfl (by decide +kernel) (by exact rfl) ?_ | refine w_loadR M _ _ _ rfl (by first | exact at0) hx rfl (by decide +kernel) (by kernel_rfl) ?_); clear hx)) | ((with_reducible refine tStore ?_); go_must (refine w_at2 _ _ _ rfl (by exact ev_tmp rfl) (by first | exact ev_tmp rfl | exact ev_const) ?_; intro hx hy; (first | refine w_store M _ _ _ _ rfl (by first | exact at0) hx rfl hy rfl rfl (by decide +kernel) (by first | decide | simp | (simp; omega)) ?_ | refine w_storeR M _ _ _ _ rfl (by first | exact at0) hx rfl _ hy rfl (by kernel_rfl) (by simp [Value.oneCell']) (by first | rfl | assumption) ?_); clear hx hy M; intro w1 M; (try simp only [setC] at M))) | ((with_reducible refine tBox _ ?_); (refine w_box M _ _ rfl rfl _ rfl _ rfl ?_; clear M; intro g w1 M))) <;> (try conv => arg 5; simp only [Act.put, List.setIfInBounds_toArray, setC]))
      go_ret
      exact ⟨by first | rfl | simp, M.below⟩
    rw [decide_eq_true h3, Bool.true_and]
    have hse := mkS_empty h3
    by_cases h4 : s.length ≤ 64
    · rw [decide_eq_true h4, if_pos rfl]
      have h4' : ¬ (64 : Int) < (s.length : Int) := by omega
      go_enter Try.func30, Try.ntmps30
      go_wp2_with ((first | ((with_reducible refine tBox (some 1) ?_); refine w_box M _ _ rfl rfl _ rfl ([.int .i64 k, .int .i64 e, .slice p l.length cap, .string (mkS s)]) rfl ?_; clear M; intro gt w1 M) | ((with_reducible refine tGuard ?_); (with_reducible refine w_stripE ?_ ?_); (focus (refine ⟨_, rfl, ?_⟩; first | (with_reducible rfl) | exact decide_eq_false (by omega) | exact decide_eq_true (by omega)))) | ((with_reducible refine tGuard ?_); first | ((with_reducible refine w_skip1 ?_ ?_); (focus (refine ⟨_, rfl, ?_⟩; first | (with_reducible rfl) | exact decide_eq_false (by omega) | exact decide_eq_true (by omega)))) | ((with_reducible refine w_skip0 ?_ ?_); (focus (refine ⟨_, rfl, ?_⟩; first | (with_reducible rfl) | exact decide_eq_false (by omega) | exact decide_eq_true (by omega))))) | (go_at_call 67; go_must (refine (PC.out _ (S.now M)).mono ?_; rintro e w1 ⟨rfl, hb⟩; replace M := M.call hb; clear hb)) | ((with_reducible refine tGuard ?_); refine w_strip rfl (by with_reducible rfl) ?_) | fail | ((with_reducible refine tLoad ?_); go_must (refine w_at _ _ rfl (by exact ev_tmp rfl) ?_; intro hx; (first | refine w_load M _ _ _ rfl (by first | exact at0) hx rfl (by decide +kernel) (by exact rfl) ?_ | refine w_loadR M _ _ _ rfl (by first | exact at0) hx rfl (by decide +kernel) (by kernel_rfl) ?_); clear hx)) | ((with_reducible refine tStore ?_); go_must (refine w_at2 _ _ _ rfl (by exact ev_tmp rfl) (by first | exact ev_tmp rfl | exact ev_const) ?_; intro hx hy; (first | refine w_store M _ _ _ _ rfl (by first | exact at0) hx rfl hy rfl rfl (by decide +kernel) (by first | decide | simp | (simp; omega)) ?_ | refine w_storeR M _ _ _ _ rfl (by first | exact at0) hx rfl _ hy rfl (by kernel_rfl) (by simp [Value.oneCell']) (by first | rfl | assumption) ?_); clear hx hy M; intro w1 M; (try simp only [setC] at M))) | ((with_reducible refine tBox _ ?_); (refine w_box M _ _ rfl rfl _ rfl _ rfl ?_; clear M; intro g w1 M))) <;> (try conv => arg 5; simp only [Act.put, List.setIfInBounds_toArray, setC]))
      go_ret
      exact ⟨by first | rfl | simp, M.below⟩
    · rw [decide_eq_false h4, if_neg (by decide)]
      have h4' : (64 : Int) < (s.length : Int) := by omega
      go_enter Try.func30, Try.ntmps30
      go_wp2_with ((first | ((with_reducible refine tBox (some 1) ?_); refine w_box M _ _ rfl rfl _ rfl ([.int .i64 k, .int .i64 e, .slice p l.length cap, .string (mkS s)]) rfl ?_; clear M; intro gt w1 M) | ((with_reducible refine tGuard ?_); (with_reducible refine w_stripE ?_ ?_); (focus (refine ⟨_, rfl, ?_⟩; first | (with_reducible rfl) | exact decide_eq_false (by omega) | exact decide_eq_true (by omega)))) | ((with_reducible refine tGuard ?_); first | ((with_reducible refine w_skip1 ?_ ?_); (focus (refine ⟨_, rfl, ?_⟩; first | (with_reducible rfl) | exact decide_eq_false (by omega) | exact decide_eq_true (by omega)))) | ((with_reducible refine w_skip0 ?_ ?_); (focus (refine ⟨_, rfl, ?_⟩; first | (with_reducible rfl) | exact decide_eq_false (by omega) | exact decide_eq_true (by omega))))) | (go_at_call 67; go_must (refine (PC.out _ (S.now M)).mono ?_; rintro e w1 ⟨rfl, hb⟩; replace M := M.call hb; clear hb)) | ((with_reducible refine tGuard ?_); refine w_strip rfl (by with_reducible rfl) ?_) | fail | ((with_reducible refine tLoad ?_); go_must (refine w_at _ _ rfl (by exact ev_tmp rfl) ?_; intro hx; (first | refine w_load M _ _ _ rfl (by first | exact at0) hx rfl (by decide +kernel) (by exact rfl) ?_ | refine w_loadR M _ _ _ rfl (by first | exact at0) hx rfl (by decide +kernel) (by kernel_rfl) ?_); clear hx)) | ((with_reducible refine tStore ?_); go_must (refine w_at2 _ _ _ rfl (by exact ev_tmp rfl) (by first | exact ev_tmp rfl | exact ev_const) ?_; intro hx hy; (first | refine w_store M _ _ _ _ rfl (by first | exact at0) hx rfl hy rfl rfl (by decide +kernel) (by first | decide | simp | (simp; omega)) ?_ | refine w_storeR M _ _ _ _ rfl (by first | exact at0) hx rfl _ hy rfl (by kernel_rfl) (by simp [Value.oneCell']) (by first | rfl | assumption) ?_); clear hx hy M; intro w1 M; (try simp only [setC] at M))) | ((with_reducible refine tBox _ ?_); (refine w_box M _ _ rfl rfl _ rfl _ rfl ?_; clear M; intro g w1 M))) <;> (try conv => arg 5; simp only [Act.put, List.setIfInBounds_toArray, setC]))
      go_ret
      exact ⟨by first | rfl | simp, M.below⟩
set_option maxRecDepth 100000 in
set_option maxHeartbeats 4000000 in
theorem Great24_c (k e : Int) (l : List Mt) (s : List UInt8) (v : Value) (w : World) (S : SeesL w 2 mtV v l) (hl : l.length ≤ maxLen) (hm : ∀ x ∈ l, x.1.length ≤ maxLen) :
    Calls Try.prog 26 #[.agg #[.int .i64 k, .int .i64 e, v, .string (mkS s)]] w fun r w' => r = .returned (.bool (greatT l s)) ∧ Below w.heap.size w w' := by
  obtain ⟨p, cap, rfl, hc⟩ := S.form
  have M := Mem.start [] w
  have HY := fun k x => @greatT_at l s k x
  have HN := @greatT_no l s
  obtain ⟨R, eR⟩ : ∃ R, R = greatT l s := ⟨_, rfl⟩
  simp only [← eR] at HY HN
  rw [← eR]
  replace HY := Lib.hid HY
  replace HN := Lib.hid HN
  clear eR
  unfold maxLen at hl
  go_enter Try.func26, Try.ntmps26
  go_wp2_with ((first | ((with_reducible refine tBox (some 1) ?_); refine w_box M _ _ rfl rfl _ rfl ([.int .i64 k, .int .i64 e, .slice p l.length cap, .string (mkS s)]) rfl ?_; clear M; intro gt w1 M) | ((with_reducible refine tGuard ?_); refine w_strip rfl (by with_reducible rfl) ?_) | fail | ((with_reducible refine tLoad ?_); go_must (refine w_at _ _ rfl (by exact ev_tmp rfl) ?_; intro hx; (first | refine w_load M _ _ _ rfl (by first | exact at0) hx rfl (by decide +kernel) (by exact rfl) ?_ | refine w_loadR M _ _ _ rfl (by first | exact at0) hx rfl (by decide +kernel) (by kernel_rfl) ?_); clear hx)) | ((with_reducible refine tStore ?_); go_must (refine w_at2 _ _ _ rfl (by exact ev_tmp rfl) (by first | exact ev_tmp rfl | exact ev_const) ?_; intro hx hy; (first | refine w_store M _ _ _ _ rfl (by first | exact at0) hx rfl hy rfl rfl (by decide +kernel) (by first | decide | simp | (simp; omega)) ?_ | refine w_storeR M _ _ _ _ rfl (by first | exact at0) hx rfl _ hy rfl (by kernel_rfl) (by simp [Value.oneCell']) (by first | rfl | assumption) ?_); clear hx hy M; intro w1 M; (try simp only [setC] at M))) | ((with_reducible refine tBox _ ?_); (refine w_box M _ _ rfl rfl _ rfl _ rfl ?_; clear M; intro g w1 M))) <;> (try conv => arg 5; simp only [Act.put, List.setIfInBounds_toArray, setC]))
  go_loopw [3] (fun iv wr => ∃ j : Nat, j ≤ l.length ∧ j ≤ 301 ∧ iv = .int .i64 j ∧ Hid (∀ (i : Nat) (x : Mt), i < j → l[i]? = some x → ¬ 3000 < x.1.length) ∧ Mem [] w wr [.row gt [.int .i64 k, .int .i64 e, .slice p l.length cap, .string (mkS s)]]) (fun iv _ => l.length - (intOf iv).toNat)
  case atStart => exact ⟨0, by omega, by omega, rfl, Lib.hid (by omega), M⟩
  case round =>
    clear M
    obtain ⟨j, hj, hj3, rfl, HK, M⟩ := hrel
    by_cases hlt : j < l.length ∧ j ≤ 300
    · obtain ⟨hlt, hj300⟩ := hlt
      obtain ⟨g, so, rfl⟩ := S.addr (by omega)
      obtain ⟨⟨a, b⟩, hx⟩ : ∃ x, l[j]? = some x := ⟨_, List.getElem?_eq_getElem hlt⟩
      have ha := hm (a, b) (List.mem_of_getElem? hx)
      unfold maxLen at ha
      simp only at ha
      have HX := Lib.hid hx; clear hx
      have hi1 : (j : Int) < (l.length : Int) := by omega
      have hi2 : (j : Int) ≤ 300 := by omega
      by_cases h1 : 3000 < a.length
      · have er : R = true := HY.out j (a, b) HX.out hj300 h1
        subst er
        have h1' : (3000 : Int) < (a.length : Int) := by omega
        go_wp2_with ((first | ((with_reducible refine tGuard ?_); (with_reducible refine w_stripE ?_ ?_); (focus (refine ⟨_, rfl, ?_⟩; first | (with_reducible rfl) | exact decide_eq_false (by omega) | exact decide_eq_true (by omega)))) | ((with_reducible refine tGuard ?_); first | ((with_reducible refine w_skip1 ?_ ?_); (focus (refine ⟨_, rfl, ?_⟩; first | (with_reducible rfl) | exact decide_eq_false (by omega) | exact decide_eq_true (by omega)))) | ((with_reducible refine w_skip0 ?_ ?_); (focus (refine ⟨_, rfl, ?_⟩; first | (with_reducible rfl) | exact decide_eq_false (by omega) | exact decide_eq_true (by omega))))) | ((with_reducible refine tLoad ?_); refine w_at _ _ rfl (by exact ev_tmp rfl) ?_; intro hx; first | (refine w_seeA M S HX.out _ _ rfl hx rfl (by decide +kernel) (by first | (with_reducible rfl) | omega) (by kernel_rfl) ?_; clear hx) | (refine w_see M S HX.out _ _ rfl hx rfl (by decide +kernel) 0 (by first | (with_reducible rfl) | omega) rfl ?_; clear hx) | (refine w_see M S HX.out _ _ rfl hx rfl (by decide +kernel) 1 (by first | (with_reducible rfl) | omega) rfl ?_; clear hx) | (refine w_see M S HX.out _ _ rfl hx rfl (by decide +kernel) 2 (by first | (with_reducible rfl) | omega) rfl ?_; clear hx)) | ((with_reducible refine tGuard ?_); refine w_strip rfl (by with_reducible rfl) ?_) | fail | ((with_reducible refine tLoad ?_); go_must (refine w_at _ _ rfl (by exact ev_tmp rfl) ?_; intro hx; (first | refine w_load M _ _ _ rfl (by first | exact at0) hx rfl (by decide +kernel) (by exact rfl) ?_ | refine w_loadR M _ _ _ rfl (by first | exact at0) hx rfl (by decide +kernel) (by kernel_rfl) ?_); clear hx)) | ((with_reducible refine tStore ?_); go_must (refine w_at2 _ _ _ rfl (by exact ev_tmp rfl) (by first | exact ev_tmp rfl | exact ev_const) ?_; intro hx hy; (first | refine w_store M _ _ _ _ rfl (by first | exact at0) hx rfl hy rfl rfl (by decide +kernel) (by first | decide | simp | (simp; omega)) ?_ | refine w_storeR M _ _ _ _ rfl (by first | exact at0) hx rfl _ hy rfl (by kernel_rfl) (by simp [Value.oneCell']) (by first | rfl | assumption) ?_); clear hx hy M; intro w1 M; (try simp only [setC] at M))) | ((with_reducible refine tBox _ ?_); (refine w_box M _ _ rfl rfl _ rfl _ rfl ?_; clear M; intro g w1 M))) <;> (try conv => arg 5; simp only [Act.put, List.setIfInBounds_toArray, setC]))
        go_ret
        exact ⟨rfl, M.below⟩
      · have h1' : ¬ (3000 : Int) < (a.length : Int) := by omega
        go_wp2_with ((first | ((with_reducible refine tGuard ?_); (with_reducible refine w_stripE ?_ ?_); (focus (refine ⟨_, rfl, ?_⟩; first | (with_reducible rfl) | exact decide_eq_false (by omega) | exact decide_eq_true (by omega)))) | ((with_reducible refine tGuard ?_); first | ((with_reducible refine w_skip1 ?_ ?_); (focus (refine ⟨_, rfl, ?_⟩; first | (with_reducible rfl) | exact decide_eq_false (by omega) | exact decide_eq_true (by omega)))) | ((with_reducible refine w_skip0 ?_ ?_); (focus (refine ⟨_, rfl, ?_⟩; first | (with_reducible rfl) | exact decide_eq_false (by omega) | exact decide_eq_true (by omega))))) | ((with_reducible refine tLoad ?_); refine w_at _ _ rfl (by exact ev_tmp rfl) ?_; intro hx; first | (refine w_seeA M S HX.out _ _ rfl hx rfl (by decide +kernel) (by first | (with_reducible rfl) | omega) (by kernel_rfl) ?_; clear hx) | (refine w_see M S HX.out _ _ rfl hx rfl (by decide +kernel) 0 (by first | (with_reducible rfl) | omega) rfl ?_; clear hx) | (refine w_see M S HX.out _ _ rfl hx rfl (by decide +kernel) 1 (by first | (with_reducible rfl) | omega) rfl ?_; clear hx) | (refine w_see M S HX.out _ _ rfl hx rfl (by decide +kernel) 2 (by first | (with_reducible rfl) | omega) rfl ?_; clear hx)) | ((with_reducible refine tGuard ?_); refine w_strip rfl (by with_reducible rfl) ?_) | fail | ((with_reducible refine tLoad ?_); go_must (refine w_at _ _ rfl (by exact ev_tmp rfl) ?_; intro hx; (first | refine w_load M _ _ _ rfl (by first | exact at0) hx rfl (by decide +kernel) (by exact rfl) ?_ | refine w_loadR M _ _ _ rfl (by first | exact at0) hx rfl (by decide +kernel) (by kernel_rfl) ?_); clear hx)) | ((with_reducible refine tStore ?_); go_must (refine w_at2 _ _ _ rfl (by exact ev_tmp rfl) (by first | exact ev_tmp rfl | exact ev_const) ?_; intro hx hy; (first | refine w_store M _ _ _ _ rfl (by first | exact at0) hx rfl hy rfl rfl (by decide +kernel) (by first | decide | simp | (simp; omega)) ?_ | refine w_storeR M _ _ _ _ rfl (by first | exact at0) hx rfl _ hy rfl (by kernel_rfl) (by simp [Value.oneCell']) (by first | rfl | assumption) ?_); clear hx hy M; intro w1 M; (try simp only [setC] at M))) | ((with_reducible refine tBox _ ?_); (refine w_box M _ _ rfl rfl _ rfl _ rfl ?_; clear M; intro g w1 M))) <;> (try conv => arg 5; simp only [Act.put, List.setIfInBounds_toArray, setC]))
        go_roundw
        case rel => exact ⟨j + 1, by omega, by omega, by go_num, Lib.hid fun i x hi hx => by
          rcases Nat.lt_succ_iff_lt_or_eq.1 hi with hi | rfl
          · exact HK.out i x hi hx
          · have := HX.out; rw [hx] at this; cases this; exact h1, M⟩
        case measure => simp [intOf]; omega
    · have er := HN.out fun i x hi hx => HK.out i x (by have := (List.getElem?_eq_some_iff.1 hx).1; omega) hx
      have hq : (l.length : Int) ≤ (j : Int) ∨ ((j : Int) < (l.length : Int) ∧ (300 : Int) < (j : Int)) := by omega
      clear HY HN HK
      by_cases q1 : 300 < l.length
      rw [decide_eq_true q1, Bool.true_or] at er
      rotate_left
      rw [decide_eq_false q1, Bool.false_or] at er
      by_cases q2 : 3000 < s.length
      rw [decide_eq_true q2] at er
      rotate_left
      rw [decide_eq_false q2] at er
      rotate_left
      rotate_left
      all_goals
        subst er
        clear hlt
        rcases hq with hq | ⟨hq, hq2⟩
        all_goals first
          | (exfalso; omega)
          | (go_wp2_with ((first | ((with_reducible refine tGuard ?_); (with_reducible refine w_stripE ?_ ?_); (focus (refine ⟨_, rfl, ?_⟩; first | (with_reducible rfl) | exact decide_eq_false (by omega) | exact decide_eq_true (by omega)))) | ((with_reducible refine tGuard ?_); first | ((with_reducible refine w_skip1 ?_ ?_); (focus (refine ⟨_, rfl, ?_⟩; first | (with_reducible rfl) | exact decide_eq_false (by omega) | exact decide_eq_true (by omega)))) | ((with_reducible refine w_skip0 ?_ ?_); (focus (refine ⟨_, rfl, ?_⟩; first | (with_reducible rfl) | exact decide_eq_false (by omega) | exact decide_eq_true (by omega))))) | ((with_reducible refine tGuard ?_); refine w_strip rfl (by with_reducible rfl) ?_) | fail | ((with_reducible refine tLoad ?_); go_must (refine w_at _ _ rfl (by exact ev_tmp rfl) ?_; intro hx; (first | refine w_load M _ _ _ rfl (by first | exact at0) hx rfl (by decide +kernel) (by exact rfl) ?_ | refine w_loadR M _ _ _ rfl (by first | exact at0) hx rfl (by decide +kernel) (by kernel_rfl) ?_); clear hx)) | ((with_reducible refine tStore ?_); go_must (refine w_at2 _ _ _ rfl (by exact ev_tmp rfl) (by first | exact ev_tmp rfl | exact ev_const) ?_; intro hx hy; (first | refine w_store M _ _ _ _ rfl (by first | exact at0) hx rfl hy rfl rfl (by decide +kernel) (by first | decide | simp | (simp; omega)) ?_ | refine w_storeR M _ _ _ _ rfl (by first | exact at0) hx rfl _ hy rfl (by kernel_rfl) (by simp [Value.oneCell']) (by first | rfl | assumption) ?_); clear hx hy M; intro w1 M; (try simp only [setC] at M))) | ((with_reducible refine tBox _ ?_); (refine w_box M _ _ rfl rfl _ rfl _ rfl ?_; clear M; intro g w1 M))) <;> (try conv => arg 5; simp only [Act.put, List.setIfInBounds_toArray, setC]))
             go_ret
             exact ⟨by first | rfl | (simp; done) | (simp; omega), M.below⟩)
set_option maxRecDepth 100000 in
set_option maxHeartbeats 2000000 in
theorem own_c (k e : Int) (l : List Mt) (s : List UInt8) (v : Value) (w : World) (S : SeesL w 2 mtV v l) :
    Calls Try.prog 29 #[.agg #[.int .i64 k, .int .i64 e, v, .string (mkS s)]] w fun r w' => r = .returned (.agg #[.int .i64 k, .int .i64 e, v, .string (mkS s)]) ∧ Below w.heap.size w w' := by
  obtain ⟨p, cap, rfl, hc⟩ := S.form
  have M := Mem.start [] w
  go_enter Try.func29, Try.ntmps29
  go_wp2_with ((first | ((with_reducible refine tBox (some 1) ?_); refine w_box M _ _ rfl rfl _ rfl ([.int .i64 k, .int .i64 e, .slice p l.length cap, .string (mkS s)]) rfl ?_; clear M; intro gt w1 M) | ((with_reducible refine tAlloc (some 2) 57 ?_); refine w_alloc M _ rfl rfl (.agg #[.int .i64 0, .int .i64 0, .slice none 0 0, .string (mkS [])]) ([.int .i64 0, .int .i64 0, .slice none 0 0, .string (mkS [])]) (by kernel_rfl) rfl ?_; clear M; intro gr w1 M) | ((with_reducible refine tGuard ?_); first | refine w_strip rfl (by with_reducible rfl) ?_ | ((fail_if_success (refine w_lit false rfl (by with_reducible rfl) ?_)); (fail_if_success (refine w_lit true rfl (by with_reducible rfl) ?_)); refine w_case rfl ?_ ?_ <;> (intro hgd; rw [hgd]; try (exfalso; simp at hgd; omega)))) | fail | ((with_reducible refine tLoad ?_); go_must (refine w_at _ _ rfl (by exact ev_tmp rfl) ?_; intro hx; (first | refine w_load M _ _ _ rfl (by first | exact at0 | exact at1) hx rfl (by decide +kernel) (by exact rfl) ?_ | refine w_loadR M _ _ _ rfl (by first | exact at0 | exact at1) hx rfl (by decide +kernel) (by kernel_rfl) ?_); clear hx)) | ((with_reducible refine tStore ?_); go_must (refine w_at2 _ _ _ rfl (by exact ev_tmp rfl) (by first | exact ev_tmp rfl | exact ev_const) ?_; intro hx hy; (first | refine w_store M _ _ _ _ rfl (by first | exact at0 | exact at1) hx rfl hy rfl rfl (by decide +kernel) (by first | decide | simp | (simp; omega)) ?_ | refine w_storeR M _ _ _ _ rfl (by first | exact at0 | exact at1) hx rfl _ hy rfl (by kernel_rfl) (by simp [Value.oneCell']) (by first | rfl | assumption) ?_); clear hx hy M; intro w1 M; (try simp only [setC] at M))) | ((with_reducible refine tBox _ ?_); (refine w_box M _ _ rfl rfl _ rfl _ rfl ?_; clear M; intro g w1 M))) <;> (try conv => arg 5; simp only [Act.put, List.setIfInBounds_toArray, setC]))
  exact bodyPost_ret (results_row rfl _ _ gr 0 [.int .i64 k, .int .i64 e, .slice p l.length cap, .string (mkS s)] _ rfl (M.ok 0 _ rfl).2.1 Try.underlying57 rfl (by kernel_rfl)) rfl ⟨rfl, M.below⟩
end Go.Proofs.Ytjlkiopncclomaa

/- The walks of path.Same and token.Same. Conditions: lengths. -/
namespace Go
namespace TL
open Go.RowKit
theorem eqM_ne {l m : List Mt} (k : Nat) (x y : Mt) (h1 : l[k]? = some x) (h2 : m[k]? = some y) (h : x ≠ y) : (l == m) = false := by
  rw [beq_eq_false_iff_ne]; rintro rfl; rw [h1] at h2; cases h2; exact h rfl
theorem eqM_eq {l m : List Mt} (h0 : l.length = m.length) (h : ∀ (k : Nat), k < l.length → l[k]? = m[k]?) : (l == m) = true := by
  rw [beq_iff_eq]
  apply List.ext_getElem?
  intro k
  by_cases hk : k < l.length
  · exact h k hk
  · rw [List.getElem?_eq_none (by omega), List.getElem?_eq_none (by omega)]
theorem eqM_len {l m : List Mt} (h : l.length ≠ m.length) : (l == m) = false := by
  rw [beq_eq_false_iff_ne]; rintro rfl; exact h rfl
theorem mtV_ne {a c : List UInt8} {b d : Bool} (h : (a, b) ≠ (c, d)) : ¬ (a = c ∧ b = d) := by
  rintro ⟨rfl, rfl⟩; exact h rfl
theorem sameT_k {k e k' e' : Int} {l l' : List Mt} {s s' : List UInt8} (h : k ≠ k') : sameT k e l s k' e' l' s' = false := by unfold sameT; rw [beq_eq_false_iff_ne.2 h]; rfl
theorem sameT_e {k e k' e' : Int} {l l' : List Mt} {s s' : List UInt8} (h : e ≠ e') : sameT k e l s k' e' l' s' = false := by unfold sameT; rw [beq_eq_false_iff_ne.2 h, Bool.false_and, Bool.and_false]
theorem sameT_l {k e k' e' : Int} {l l' : List Mt} {s s' : List UInt8} (h : (l == l') = false) : sameT k e l s k' e' l' s' = false := by unfold sameT; rw [h, Bool.false_and, Bool.and_false, Bool.and_false]
theorem sameT_s {k e : Int} {l l' : List Mt} {s s' : List UInt8} (h : (l == l') = true) : sameT k e l s k e l' s' = (s == s') := by unfold sameT; rw [h, beq_self_eq_true, beq_self_eq_true]; rfl
end TL
end Go
namespace Go.Proofs.Ytjlkiopncclomaa
open Go.RowKit Go.TL
set_option maxRecDepth 100000 in
set_option maxHeartbeats 4000000 in
theorem EqualM_c (l m : List Mt) (v u : Value) (w : World) (S : SeesL w 2 mtV v l) (T : SeesL w 2 mtV u m) (hl : l.length ≤ 1000000) (_hm : m.length ≤ 1000000) :
    Calls Try.prog 100 #[v, u] w fun e w' => e = .returned (.bool (l == m)) ∧ Below w.heap.size w w' := by
  obtain ⟨p, cap, rfl, hc⟩ := S.form
  obtain ⟨q, cap', rfl, hc'⟩ := T.form
  have hne := @eqM_ne l m
  have heq := @eqM_eq l m
  have hln := @eqM_len l m
  obtain ⟨R, eR⟩ : ∃ R, R = (l == m) := ⟨_, rfl⟩
  rw [← eR] at hne heq hln ⊢
  replace hne := Lib.hid hne
  replace heq := Lib.hid heq
  replace hln := Lib.hid hln
  clear eR
  have M := Mem.start [] w
  by_cases hn : l.length = m.length
  · have hq : ((l.length : Int) != (m.length : Int)) = false := by simp; omega
    go_enter Try.func100, Try.ntmps100
    replace hn := Lib.hid hn
    go_wp2_with fail
    go_loopw [13] (fun iv wr => ∃ k : Nat, k ≤ l.length ∧ iv = .int .i64 k ∧ Hid (∀ (j : Nat), j < k → l[j]? = m[j]?) ∧ Mem [] w wr []) (fun iv _ => l.length - (intOf iv).toNat)
    case atStart => exact ⟨0, by omega, rfl, Lib.hid (by omega), M⟩
    case round =>
      clear M
      obtain ⟨k, hk, rfl, HK, M⟩ := hrel
      by_cases hlt : k < l.length
      · obtain ⟨g, so, rfl⟩ := S.addr (by omega)
        obtain ⟨g', so', rfl⟩ := T.addr (by have := hn.out; omega)
        have hkm : k < m.length := by have := hn.out; omega
        obtain ⟨⟨a, b⟩, hx⟩ : ∃ x, l[k]? = some x := ⟨_, List.getElem?_eq_getElem hlt⟩
        obtain ⟨⟨c, d⟩, hy⟩ : ∃ x, m[k]? = some x := ⟨_, List.getElem?_eq_getElem hkm⟩
        have HX := Lib.hid hx; clear hx
        have HY := Lib.hid hy; clear hy
        by_cases hab : (a, b) = (c, d)
        · simp only [Prod.mk.injEq] at hab
          obtain ⟨rfl, rfl⟩ := hab
          go_wp2_with ((first | ((with_reducible refine tLoad ?_); refine w_at _ _ rfl (by exact ev_tmp rfl) ?_; intro hx; first | (refine w_seeA M S HX.out _ _ rfl hx rfl (by decide +kernel) (by first | (with_reducible rfl) | omega) (by kernel_rfl) ?_; clear hx; (try conv => arg 5; simp only [Act.put, List.setIfInBounds_toArray, setC, mtV_eq])) | (refine w_see M S HX.out _ _ rfl hx rfl (by decide +kernel) 0 (by first | (with_reducible rfl) | omega) rfl ?_; clear hx) | (refine w_see M S HX.out _ _ rfl hx rfl (by decide +kernel) 1 (by first | (with_reducible rfl) | omega) rfl ?_; clear hx) | (refine w_see M S HX.out _ _ rfl hx rfl (by decide +kernel) 2 (by first | (with_reducible rfl) | omega) rfl ?_; clear hx) | (refine w_seeA M T HY.out _ _ rfl hx rfl (by decide +kernel) (by first | (with_reducible rfl) | omega) (by kernel_rfl) ?_; clear hx; (try conv => arg 5; simp only [Act.put, List.setIfInBounds_toArray, setC, mtV_eq])) | (refine w_see M T HY.out _ _ rfl hx rfl (by decide +kernel) 0 (by first | (with_reducible rfl) | omega) rfl ?_; clear hx) | (refine w_see M T HY.out _ _ rfl hx rfl (by decide +kernel) 1 (by first | (with_reducible rfl) | omega) rfl ?_; clear hx) | (refine w_see M T HY.out _ _ rfl hx rfl (by decide +kernel) 2 (by first | (with_reducible rfl) | omega) rfl ?_; clear hx)) | ((with_reducible show Code.wp _ (Code.region 6 _ _) _ _ _); go_must (refine region_det [(0, false), (1, false), (2, false), (4, false), (5, false), (6, false), (3, false), (7, false), (8, false)] [(19, .cells), (23, .cells)] (by kernel_rfl) (by kernel_rfl) rfl (by kernel_rfl) ?_; replace M := M.drew; simp only [reord, opAt, List.map_cons, List.map_nil, List.getElem?_toArray, List.getElem?_cons_zero, List.getElem?_cons_succ, Option.getD_some])) | ((with_reducible show Seg _ _ _ _); go_must (first | refine Seg.intro ⟨fun h => absurd rfl h, ?_⟩ | refine Seg.intro ⟨fun _ => (by repeat' (first | exact ixOk_nil M.kept | refine ixOk_cons rfl (by first | exact M.ok 0 _ rfl | exact M.ok 1 _ rfl | exact M.ok 2 _ rfl | exact M.ok 3 _ rfl) ?_)), ?_⟩ | refine Seg.intro ⟨(by repeat' (first | (with_reducible exact needs_nil) | refine needs_at rfl (by first | (show Shape.ok Shape.nums _ = true; exact nums_bs _) | rfl) ?_)), (by repeat' (first | (with_reducible exact ats_nil) | refine ats_cons (by first | exact ev_tmp rfl | rfl) ?_)), ?_⟩)) | ((with_reducible show OnlyN _ _ _ _ _); refine OnlyN.intro (by kernel_rfl) ?_) | ((with_reducible refine tGuard ?_); refine w_strip rfl (by with_reducible rfl) ?_) | fail | ((with_reducible refine tLoad ?_); go_must (refine w_at _ _ rfl (by exact ev_tmp rfl) ?_; intro hx; (first | refine w_load M _ _ _ rfl (by first | exact at0 | exact at1) hx rfl (by decide +kernel) (by exact rfl) ?_ | refine w_loadR M _ _ _ rfl (by first | exact at0 | exact at1) hx rfl (by decide +kernel) (by kernel_rfl) ?_); clear hx)) | ((with_reducible refine tStore ?_); go_must (refine w_at2 _ _ _ rfl (by exact ev_tmp rfl) (by first | exact ev_tmp rfl | exact ev_const) ?_; intro hx hy; (first | refine w_store M _ _ _ _ rfl (by first | exact at0 | exact at1) hx rfl hy rfl rfl (by decide +kernel) (by first | decide | simp | (simp; omega)) ?_ | refine w_storeR M _ _ _ _ rfl (by first | exact at0 | exact at1) hx rfl _ hy rfl (by kernel_rfl) (by simp [Value.oneCell']) (by first | rfl | assumption) ?_); clear hx hy M; intro w1 M; (try simp only [setC] at M))) | ((with_reducible refine tBox _ ?_); (refine w_box M _ _ rfl rfl _ rfl _ rfl ?_; clear M; intro g w1 M))) <;> (try conv => arg 5; simp only [Act.put, List.setIfInBounds_toArray, setC]))
          go_roundw
          case rel => exact ⟨k + 1, by omega, by go_num, Lib.hid fun j hj => by
            rcases Nat.lt_succ_iff_lt_or_eq.1 hj with hj | rfl
            · exact HK.out j hj
            · exact HX.out.trans HY.out.symm, M⟩
          case measure => simp [intOf]; omega
        · have e0 : R = false := hne.out k _ _ HX.out HY.out hab
          subst e0
          have hab := Lib.hid (mtV_ne hab)
          go_wp2_with ((first | ((with_reducible refine tLoad ?_); refine w_at _ _ rfl (by exact ev_tmp rfl) ?_; intro hx; first | (refine w_seeA M S HX.out _ _ rfl hx rfl (by decide +kernel) (by first | (with_reducible rfl) | omega) (by kernel_rfl) ?_; clear hx; (try conv => arg 5; simp only [Act.put, List.setIfInBounds_toArray, setC, mtV_eq])) | (refine w_see M S HX.out _ _ rfl hx rfl (by decide +kernel) 0 (by first | (with_reducible rfl) | omega) rfl ?_; clear hx) | (refine w_see M S HX.out _ _ rfl hx rfl (by decide +kernel) 1 (by first | (with_reducible rfl) | omega) rfl ?_; clear hx) | (refine w_see M S HX.out _ _ rfl hx rfl (by decide +kernel) 2 (by first | (with_reducible rfl) | omega) rfl ?_; clear hx) | (refine w_seeA M T HY.out _ _ rfl hx rfl (by decide +kernel) (by first | (with_reducible rfl) | omega) (by kernel_rfl) ?_; clear hx; (try conv => arg 5; simp only [Act.put, List.setIfInBounds_toArray, setC, mtV_eq])) | (refine w_see M T HY.out _ _ rfl hx rfl (by decide +kernel) 0 (by first | (with_reducible rfl) | omega) rfl ?_; clear hx) | (refine w_see M T HY.out _ _ rfl hx rfl (by decide +kernel) 1 (by first | (with_reducible rfl) | omega) rfl ?_; clear hx) | (refine w_see M T HY.out _ _ rfl hx rfl (by decide +kernel) 2 (by first | (with_reducible rfl) | omega) rfl ?_; clear hx)) | ((with_reducible show Code.wp _ (Code.region 6 _ _) _ _ _); go_must (refine region_det [(0, false), (1, false), (2, false), (4, false), (5, false), (6, false), (3, false), (7, false), (8, false)] [(19, .cells), (23, .cells)] (by kernel_rfl) (by kernel_rfl) rfl (by kernel_rfl) ?_; replace M := M.drew; simp only [reord, opAt, List.map_cons, List.map_nil, List.getElem?_toArray, List.getElem?_cons_zero, List.getElem?_cons_succ, Option.getD_some])) | ((with_reducible show Seg _ _ _ _); go_must (first | refine Seg.intro ⟨fun h => absurd rfl h, ?_⟩ | refine Seg.intro ⟨fun _ => (by repeat' (first | exact ixOk_nil M.kept | refine ixOk_cons rfl (by first | exact M.ok 0 _ rfl | exact M.ok 1 _ rfl | exact M.ok 2 _ rfl | exact M.ok 3 _ rfl) ?_)), ?_⟩ | refine Seg.intro ⟨(by repeat' (first | (with_reducible exact needs_nil) | refine needs_at rfl (by first | (show Shape.ok Shape.nums _ = true; exact nums_bs _) | rfl) ?_)), (by repeat' (first | (with_reducible exact ats_nil) | refine ats_cons (by first | exact ev_tmp rfl | rfl) ?_)), ?_⟩)) | ((with_reducible show OnlyN _ _ _ _ _); refine OnlyN.intro (by kernel_rfl) ?_) | ((with_reducible refine tGuard ?_); refine w_strip rfl (by with_reducible rfl) ?_) | fail | ((with_reducible refine tLoad ?_); go_must (refine w_at _ _ rfl (by exact ev_tmp rfl) ?_; intro hx; (first | refine w_load M _ _ _ rfl (by first | exact at0 | exact at1) hx rfl (by decide +kernel) (by exact rfl) ?_ | refine w_loadR M _ _ _ rfl (by first | exact at0 | exact at1) hx rfl (by decide +kernel) (by kernel_rfl) ?_); clear hx)) | ((with_reducible refine tStore ?_); go_must (refine w_at2 _ _ _ rfl (by exact ev_tmp rfl) (by first | exact ev_tmp rfl | exact ev_const) ?_; intro hx hy; (first | refine w_store M _ _ _ _ rfl (by first | exact at0 | exact at1) hx rfl hy rfl rfl (by decide +kernel) (by first | decide | simp | (simp; omega)) ?_ | refine w_storeR M _ _ _ _ rfl (by first | exact at0 | exact at1) hx rfl _ hy rfl (by kernel_rfl) (by simp [Value.oneCell']) (by first | rfl | assumption) ?_); clear hx hy M; intro w1 M; (try simp only [setC] at M))) | ((with_reducible refine tBox _ ?_); (refine w_box M _ _ rfl rfl _ rfl _ rfl ?_; clear M; intro g w1 M))) <;> (try conv => arg 5; simp only [Act.put, List.setIfInBounds_toArray, setC]))
          all_goals (first | exact absurd ⟨‹a = c›, ‹b = d›⟩ hab.out | (go_ret; exact ⟨rfl, M.below⟩))
      · obtain rfl : k = l.length := by omega
        have e0 : R = true := heq.out hn.out HK.out
        subst e0
        go_wp2_with fail
        go_ret
        exact ⟨rfl, M.below⟩
  · have hq : ((l.length : Int) != (m.length : Int)) = true := by simp; omega
    have e0 : R = false := hln.out hn
    subst e0
    go_enter Try.func100, Try.ntmps100
    go_wp2_with fail
    go_ret
    exact ⟨rfl, M.below⟩
set_option maxRecDepth 100000 in
theorem pathSame_c (l m : List Mt) (v u : Value) (w : World) (S : SeesL w 2 mtV v l) (T : SeesL w 2 mtV u m) (hl : l.length ≤ 1000000) (hm : m.length ≤ 1000000) :
    Calls Try.prog 68 #[v, u] w fun e w' => e = .returned (.bool (l == m)) ∧ Below w.heap.size w w' := by
  have M := Mem.start [] w
  go_enter Try.func68, Try.ntmps68
  go_wp2_with ((go_at_call 100; go_must (refine (EqualM_c l m v u _ (S.now M) (T.now M) hl hm).mono ?_; rintro e w1 ⟨rfl, hb⟩; replace M := M.call hb; clear hb)))
  go_ret
  exact ⟨rfl, M.below⟩
set_option maxRecDepth 100000 in
set_option maxHeartbeats 4000000 in
theorem tokSame_c (k e k' e' : Int) (l l' : List Mt) (s s' : List UInt8) (v v' : Value) (w : World) (S : SeesL w 2 mtV v l) (T : SeesL w 2 mtV v' l') (hl : l.length ≤ 1000000) (hl' : l'.length ≤ 1000000) :
    Calls Try.prog 31 #[.agg #[.int .i64 k, .int .i64 e, v, .string (mkS s)], .agg #[.int .i64 k', .int .i64 e', v', .string (mkS s')]] w fun r w' => r = .returned (.bool (sameT k e l s k' e' l' s')) ∧ Below w.heap.size w w' := by
  obtain ⟨p, cap, rfl, hc⟩ := S.form
  obtain ⟨p', cap', rfl, hc'⟩ := T.form
  have M := Mem.start [] w
  have PC := fun w S T => pathSame_c l l' (.slice p l.length cap) (.slice p' l'.length cap') w S T hl hl'
  by_cases h1 : k = k'
  rotate_left
  · rw [sameT_k h1]
    have h1' : (k == k') = false := beq_eq_false_iff_ne.2 h1
    clear h1
    go_enter Try.func31, Try.ntmps31
    go_wp2_with ((first | ((with_reducible refine tBox (some 2) ?_); refine w_box M _ _ rfl rfl _ rfl ([.int .i64 k, .int .i64 e, .slice p l.length cap, .string (mkS s)]) rfl ?_; clear M; intro ga w1 M) | ((with_reducible refine tBox (some 3) ?_); refine w_box M _ _ rfl rfl _ rfl ([.int .i64 k', .int .i64 e', .slice p' l'.length cap', .string (mkS s')]) rfl ?_; clear M; intro gb w1 M) | ((with_reducible refine tGuard ?_); (with_reducible refine w_stripE ?_ ?_); (focus (refine ⟨_, rfl, ?_⟩; first | (with_reducible rfl) | exact decide_eq_false (by omega) | exact decide_eq_true (by omega)))) | ((with_reducible refine tGuard ?_); first | ((with_reducible refine w_skip1 ?_ ?_); (focus (refine ⟨_, rfl, ?_⟩; first | (with_reducible rfl) | exact decide_eq_false (by omega) | exact decide_eq_true (by omega)))) | ((with_reducible refine w_skip0 ?_ ?_); (focus (refine ⟨_, rfl, ?_⟩; first | (with_reducible rfl) | exact decide_eq_false (by omega) | exact decide_eq_true (by omega))))) | ((with_reducible refine tGuard ?_); refine w_strip rfl (by with_reducible rfl) ?_) | fail | ((with_reducible refine tLoad ?_); go_must (refine w_at _ _ rfl (by exact ev_tmp rfl) ?_; intro hx; (first | refine w_load M _ _ _ rfl (by first | exact at0 | exact at1) hx rfl (by decide +kernel) (by exact rfl) ?_ | refine w_loadR M _ _ _ rfl (by first | exact at0 | exact at1) hx rfl (by decide +kernel) (by kernel_rfl) ?_); clear hx)) | ((with_reducible refine tStore ?_); go_must (refine w_at2 _ _ _ rfl (by exact ev_tmp rfl) (by first | exact ev_tmp rfl | exact ev_const) ?_; intro hx hy; (first | refine w_store M _ _ _ _ rfl (by first | exact at0 | exact at1) hx rfl hy rfl rfl (by decide +kernel) (by first | decide | simp | (simp; omega)) ?_ | refine w_storeR M _ _ _ _ rfl (by first | exact at0 | exact at1) hx rfl _ hy rfl (by kernel_rfl) (by simp [Value.oneCell']) (by first | rfl | assumption) ?_); clear hx hy M; intro w1 M; (try simp only [setC] at M))) | ((with_reducible refine tBox _ ?_); (refine w_box M _ _ rfl rfl _ rfl _ rfl ?_; clear M; intro g w1 M))) <;> (try conv => arg 5; simp only [Act.put, List.setIfInBounds_toArray, setC]))
    go_ret
    exact ⟨by first | rfl | simp, M.below⟩
  subst h1
  by_cases h2 : e = e'
  rotate_left
  · rw [sameT_e h2]
    have h2' : (e == e') = false := beq_eq_false_iff_ne.2 h2
    clear h2
    go_enter Try.func31, Try.ntmps31
    go_wp2_with ((first | ((with_reducible refine tBox (some 2) ?_); refine w_box M _ _ rfl rfl _ rfl ([.int .i64 k, .int .i64 e, .slice p l.length cap, .string (mkS s)]) rfl ?_; clear M; intro ga w1 M) | ((with_reducible refine tBox (some 3) ?_); refine w_box M _ _ rfl rfl _ rfl ([.int .i64 k, .int .i64 e', .slice p' l'.length cap', .string (mkS s')]) rfl ?_; clear M; intro gb w1 M) | ((with_reducible refine tGuard ?_); (with_reducible refine w_stripE ?_ ?_); (focus (refine ⟨_, rfl, ?_⟩; first | (with_reducible rfl) | exact decide_eq_false (by omega) | exact decide_eq_true (by omega)))) | ((with_reducible refine tGuard ?_); first | ((with_reducible refine w_skip1 ?_ ?_); (focus (refine ⟨_, rfl, ?_⟩; first | (with_reducible rfl) | exact decide_eq_false (by omega) | exact decide_eq_true (by omega)))) | ((with_reducible refine w_skip0 ?_ ?_); (focus (refine ⟨_, rfl, ?_⟩; first | (with_reducible rfl) | exact decide_eq_false (by omega) | exact decide_eq_true (by omega))))) | ((with_reducible refine tGuard ?_); refine w_strip rfl (by with_reducible rfl) ?_) | fail | ((with_reducible refine tLoad ?_); go_must (refine w_at _ _ rfl (by exact ev_tmp rfl) ?_; intro hx; (first | refine w_load M _ _ _ rfl (by first | exact at0 | exact at1) hx rfl (by decide +kernel) (by exact rfl) ?_ | refine w_loadR M _ _ _ rfl (by first | exact at0 | exact at1) hx rfl (by decide +kernel) (by kernel_rfl) ?_); clear hx)) | ((with_reducible refine tStore ?_); go_must (refine w_at2 _ _ _ rfl (by exact ev_tmp rfl) (by first | exact ev_tmp rfl | exact ev_const) ?_; intro hx hy; (first | refine w_store M _ _ _ _ rfl (by first | exact at0 | exact at1) hx rfl hy rfl rfl (by decide +kernel) (by first | decide | simp | (simp; omega)) ?_ | refine w_storeR M _ _ _ _ rfl (by first | exact at0 | exact at1) hx rfl _ hy rfl (by kernel_rfl) (by simp [Value.oneCell']) (by first | rfl | assumption) ?_); clear hx hy M; intro w1 M; (try simp only [setC] at M))) | ((with_reducible refine tBox _ ?_); (refine w_box M _ _ rfl rfl _ rfl _ rfl ?_; clear M; intro g w1 M))) <;> (try conv => arg 5; simp only [Act.put, List.setIfInBounds_toArray, setC]))
    go_ret
    exact ⟨by first | rfl | simp, M.below⟩
  subst h2
  cases hb : l == l' with
  | false =>
    rw [hb] at PC
    rw [sameT_l hb]
    replace PC := Lib.hid PC
    clear hb
    go_enter Try.func31, Try.ntmps31
    go_wp2_with ((first | ((with_reducible refine tBox (some 2) ?_); refine w_box M _ _ rfl rfl _ rfl ([.int .i64 k, .int .i64 e, .slice p l.length cap, .string (mkS s)]) rfl ?_; clear M; intro ga w1 M) | ((with_reducible refine tBox (some 3) ?_); refine w_box M _ _ rfl rfl _ rfl ([.int .i64 k, .int .i64 e, .slice p' l'.length cap', .string (mkS s')]) rfl ?_; clear M; intro gb w1 M) | ((with_reducible refine tGuard ?_); (with_reducible refine w_stripE ?_ ?_); (focus (refine ⟨_, rfl, ?_⟩; first | (with_reducible rfl) | exact decide_eq_false (by omega) | exact decide_eq_true (by omega)))) | ((with_reducible refine tGuard ?_); first | ((with_reducible refine w_skip1 ?_ ?_); (focus (refine ⟨_, rfl, ?_⟩; first | (with_reducible rfl) | exact decide_eq_false (by omega) | exact decide_eq_true (by omega)))) | ((with_reducible refine w_skip0 ?_ ?_); (focus (refine ⟨_, rfl, ?_⟩; first | (with_reducible rfl) | exact decide_eq_false (by omega) | exact decide_eq_true (by omega))))) | (go_at_call 68; go_must (refine (PC.out _ (S.now M) (T.now M)).mono ?_; rintro e w1 ⟨rfl, hb⟩; replace M := M.call hb; clear hb)) | ((with_reducible refine tGuard ?_); refine w_strip rfl (by with_reducible rfl) ?_) | fail | ((with_reducible refine tLoad ?_); go_must (refine w_at _ _ rfl (by exact ev_tmp rfl) ?_; intro hx; (first | refine w_load M _ _ _ rfl (by first | exact at0 | exact at1) hx rfl (by decide +kernel) (by exact rfl) ?_ | refine w_loadR M _ _ _ rfl (by first | exact at0 | exact at1) hx rfl (by decide +kernel) (by kernel_rfl) ?_); clear hx)) | ((with_reducible refine tStore ?_); go_must (refine w_at2 _ _ _ rfl (by exact ev_tmp rfl) (by first | exact ev_tmp rfl | exact ev_const) ?_; intro hx hy; (first | refine w_store M _ _ _ _ rfl (by first | exact at0 | exact at1) hx rfl hy rfl rfl (by decide +kernel) (by first | decide | simp | (simp; omega)) ?_ | refine w_storeR M _ _ _ _ rfl (by first | exact at0 | exact at1) hx rfl _ hy rfl (by kernel_rfl) (by simp [Value.oneCell']) (by first | rfl | assumption) ?_); clear hx hy M; intro w1 M; (try simp only [setC] at M))) | ((with_reducible refine tBox _ ?_); (refine w_box M _ _ rfl rfl _ rfl _ rfl ?_; clear M; intro g w1 M))) <;> (try conv => arg 5; simp only [Act.put, List.setIfInBounds_toArray, setC]))
    go_ret
    exact ⟨by first | rfl | simp, M.below⟩
  | true =>
    rw [hb] at PC
    rw [sameT_s hb]
    replace PC := Lib.hid PC
    clear hb
    go_enter Try.func31, Try.ntmps31
    go_wp2_with ((first | ((with_reducible refine tBox (some 2) ?_); refine w_box M _ _ rfl rfl _ rfl ([.int .i64 k, .int .i64 e, .slice p l.length cap, .string (mkS s)]) rfl ?_; clear M; intro ga w1 M) | ((with_reducible refine tBox (some 3) ?_); refine w_box M _ _ rfl rfl _ rfl ([.int .i64 k, .int .i64 e, .slice p' l'.length cap', .string (mkS s')]) rfl ?_; clear M; intro gb w1 M) | ((with_reducible refine tGuard ?_); (with_reducible refine w_stripE ?_ ?_); (focus (refine ⟨_, rfl, ?_⟩; first | (with_reducible rfl) | exact decide_eq_false (by omega) | exact decide_eq_true (by omega)))) | ((with_reducible refine tGuard ?_); first | ((with_reducible refine w_skip1 ?_ ?_); (focus (refine ⟨_, rfl, ?_⟩; first | (with_reducible rfl) | exact decide_eq_false (by omega) | exact decide_eq_true (by omega)))) | ((with_reducible refine w_skip0 ?_ ?_); (focus (refine ⟨_, rfl, ?_⟩; first | (with_reducible rfl) | exact decide_eq_false (by omega) | exact decide_eq_true (by omega))))) | (go_at_call 68; go_must (refine (PC.out _ (S.now M) (T.now M)).mono ?_; rintro e w1 ⟨rfl, hb⟩; replace M := M.call hb; clear hb)) | ((with_reducible refine tGuard ?_); refine w_strip rfl (by with_reducible rfl) ?_) | fail | ((with_reducible refine tLoad ?_); go_must (refine w_at _ _ rfl (by exact ev_tmp rfl) ?_; intro hx; (first | refine w_load M _ _ _ rfl (by first | exact at0 | exact at1) hx rfl (by decide +kernel) (by exact rfl) ?_ | refine w_loadR M _ _ _ rfl (by first | exact at0 | exact at1) hx rfl (by decide +kernel) (by kernel_rfl) ?_); clear hx)) | ((with_reducible refine tStore ?_); go_must (refine w_at2 _ _ _ rfl (by exact ev_tmp rfl) (by first | exact ev_tmp rfl | exact ev_const) ?_; intro hx hy; (first | refine w_store M _ _ _ _ rfl (by first | exact at0 | exact at1) hx rfl hy rfl rfl (by decide +kernel) (by first | decide | simp | (simp; omega)) ?_ | refine w_storeR M _ _ _ _ rfl (by first | exact at0 | exact at1) hx rfl _ hy rfl (by kernel_rfl) (by simp [Value.oneCell']) (by first | rfl | assumption) ?_); clear hx hy M; intro w1 M; (try simp only [setC] at M))) | ((with_reducible refine tBox _ ?_); (refine w_box M _ _ rfl rfl _ rfl _ rfl ?_; clear M; intro g w1 M))) <;> (try conv => arg 5; simp only [Act.put, List.setIfInBounds_toArray, setC]))
    go_ret
    exact ⟨by first | rfl | simp, M.below⟩
end Go.Proofs.Ytjlkiopncclomaa

/- The walks of token.key, token.Wrap, token.read and token.Open. Conditions: lengths. -/
namespace Go
namespace TL
open Go.RowKit
/-- A token, wrapped. -/
def wrapE (secret : List UInt8) (b : UInt32) (n : UInt64) (t : Tok) : Env :=
  ⟨0, b, n, sealL (macL secret aboutT) b n (tokB t), tagL (macL secret aboutT) 0 b n aboutT (sealL (macL secret aboutT) b n (tokB t))⟩
theorem flat_take_succ {l : List Mt} {j : Nat} {x : Mt} (h : l[j]? = some x) : (l.take (j + 1)).flatMap mtB = (l.take j).flatMap mtB ++ mtB x := by
  obtain ⟨hj, hx⟩ := List.getElem?_eq_some_iff.1 h
  rw [List.take_succ_eq_append_getElem hj, List.flatMap_append, hx]; simp
theorem right_mem {l : List Mt} (h : rightM l = true) (j : Nat) : ((l.take j).flatMap mtB).length ≤ 76 := by
  obtain ⟨_, h4, hn⟩ := rightM_of h
  have := flat_mtB_len (l := l.take j) fun x hx => hn x (List.mem_of_mem_take hx)
  rw [List.length_take] at this; omega
end TL
end Go
namespace Go.Proofs.Ytjlkiopncclomaa
open Go.RowKit Go.TL

theorem wrap_right (secret : List UInt8) (b : UInt32) (n : UInt64) {k e : Nat} {l : List Mt} {s : List UInt8} (hk : k < 9223372036854775808) (he : e < 9223372036854775808) (h : rightT k e l s = true) : rightEnv (wrapE secret b n ⟨k, e, l, s⟩) := by
  obtain ⟨_, he1, hr, hs1, hs2⟩ := rightT_of h
  obtain ⟨hl1, hl4, hn8⟩ := rightM_of hr
  have hBl := tokB_len (t := ⟨k, e, l, s⟩) hk he hl4 hn8 hs2
  have hsl : (sealL (macL secret aboutT) b n (tokB ⟨k, e, l, s⟩)).length = (tokB ⟨k, e, l, s⟩).length := by unfold sealL; rw [streamL_len]
  refine ⟨Nat.zero_le _, ?_, macL_len _ _⟩
  show (sealL (macL secret aboutT) b n (tokB ⟨k, e, l, s⟩)).length ≤ 8192
  omega

set_option maxRecDepth 1000000 in
theorem mtT : SliceT Try.prog 51 99 2 24 := ⟨Try.underlying51, ⟨_, _, rfl, rfl, rfl, rfl, rfl⟩, by omega⟩
set_option maxRecDepth 100000 in
set_option maxHeartbeats 2000000 in
theorem tokKey_c (secret : List UInt8) (w : World) (hs : secret.length ≤ 1000000) :
    Calls Try.prog 63 #[.string (mkS secret)] w fun e w' => e = .returned (.agg (bs (macL secret aboutT)).toArray) ∧ Below w.heap.size w w' := by
  have M := Mem.start [] w
  have TC : ∀ w, Calls Try.prog 43 #[.string (mkS secret), .string (mkS [116, 111, 107, 101, 110])] w fun e w' => e = .returned (.agg (bs (macL secret aboutT)).toArray) ∧ Below w.heap.size w w' := fun w => Tag_c secret aboutT w (by omega) (by decide)
  have hr : (macL secret aboutT).length = 32 := macL_len _ _
  obtain ⟨r, er⟩ : ∃ r, r = macL secret aboutT := ⟨_, rfl⟩
  rw [← er] at TC hr
  rw [← er]
  replace TC := Lib.hid TC
  clear er
  go_enter Try.func63, Try.ntmps63
  go_wp2_with ((first | ((with_reducible refine tAlloc (some 2) 23 ?_); refine w_alloc M _ rfl rfl (.agg (Array.replicate 32 (.int .u8 0))) (bs (List.replicate 32 (0 : UInt8))) (by kernel_rfl) rfl ?_; clear M; intro gr w1 M) | (go_at_call 43; go_must (refine (TC.out _).mono ?_; rintro e w1 ⟨rfl, hb⟩; replace M := M.call hb; clear hb)) | ((with_reducible refine tGuard ?_); first | refine w_strip rfl (by with_reducible rfl) ?_ | ((fail_if_success (refine w_lit false rfl (by with_reducible rfl) ?_)); (fail_if_success (refine w_lit true rfl (by with_reducible rfl) ?_)); refine w_case rfl ?_ ?_ <;> (intro hgd; rw [hgd]; try (exfalso; simp at hgd; omega)))) | ((with_reducible refine tConv _ 45 9 ?_); go_must (first | refine w_stringW M _ _ _ _ _ rfl rfl (by first | exact at0) rfl (by first | assumption | exact lenI | exact lenS ‹_› | rfl) (by decide) Try.underlying45 Try.underlying5 Try.underlying9 ?_ | refine w_string M _ _ _ _ _ rfl rfl (by first | exact at0) (by first | rfl | (simp; done) | assumption) rfl Try.underlying45 Try.underlying5 Try.underlying9 ?_)) | ((with_reducible refine tLoad ?_); go_must (refine w_at _ _ rfl (by exact ev_tmp rfl) ?_; intro hx; (first | refine w_load M _ _ _ rfl (by first | exact at0) hx rfl (by decide +kernel) (by exact rfl) ?_ | refine w_loadB M _ _ _ rfl (by first | exact at0) hx rfl (by decide +kernel) (by first | assumption | omega | (simp; omega)) ?_ | refine w_loadH M _ _ _ rfl (by first | exact at0) hx rfl (by decide +kernel) (by first | assumption | exact lenI | exact lenS ‹_› | rfl) (by decide +kernel) ?_ | refine w_loadR M _ _ _ rfl (by first | exact at0) hx rfl (by decide +kernel) (by kernel_rfl) ?_); clear hx)) | ((with_reducible refine tStore ?_); go_must (refine w_at2 _ _ _ rfl (by exact ev_tmp rfl) (by first | exact ev_tmp rfl | exact ev_const) ?_; intro hx hy; (first | refine w_storeB M _ _ _ _ rfl (by first | exact at0) hx rfl hy (by decide +kernel) (by first | assumption | omega | (simp; omega)) ?_ | refine w_storeH M _ _ _ _ rfl (by first | exact at0) hx rfl hy (by first | assumption | exact lenI | exact lenS ‹_› | rfl) (by decide +kernel) (by first | assumption | exact lenI | exact lenS ‹_› | rfl) ?_ | refine w_store M _ _ _ _ rfl (by first | exact at0) hx rfl hy rfl rfl (by decide +kernel) (by first | decide | simp | (simp; omega)) ?_ | refine w_storeR M _ _ _ _ rfl (by first | exact at0) hx rfl _ hy rfl (by kernel_rfl) (by simp [Value.oneCell']) (by first | rfl | assumption) ?_); clear hx hy M; intro w1 M; (try simp only [setC] at M))) | ((with_reducible refine tBox _ ?_); (refine w_box M _ _ rfl rfl _ rfl _ rfl ?_; clear M; intro g w1 M))) <;> (try conv => arg 5; simp only [Act.put, List.setIfInBounds_toArray, setC]))
  exact bodyPost_ret (results_row rfl _ _ gr 0 (bs r) _ rfl (M.ok 0 _ rfl).2.1 Try.underlying23 rfl (by rw [bs_length, hr]; kernel_rfl)) rfl ⟨rfl, M.below⟩
set_option maxRecDepth 100000 in
set_option maxHeartbeats 2000000 in
theorem Wrap_no (secret : List UInt8) (b : UInt32) (n : UInt64) (k e : Int) (l : List Mt) (s : List UInt8) (v : Value) (w : World) (S : SeesL w 2 mtV v l) (hl : l.length ≤ 1000000) (hm : ∀ x ∈ l, x.1.length ≤ 1000000000) (h : rightT k e l s = false) :
    Calls Try.prog 27 #[.string (mkS secret), .int .u32 (I32 b), .int .u64 (I64 n), .agg #[.int .i64 k, .int .i64 e, v, .string (mkS s)]] w fun r w' => r = .returned (.tuple #[.string (mkS []), .int .i64 1]) ∧ Below w.heap.size w w' := by
  obtain ⟨p, cap, rfl, hc⟩ := S.form
  have M := Mem.start [] w
  have RC := fun w S => tokRight_c k e l s (.slice p l.length cap) w S hl hm
  rw [h, if_neg (by decide)] at RC
  replace RC := Lib.hid RC
  clear h
  go_enter Try.func27, Try.ntmps27
  go_wp2_with ((first | ((with_reducible refine tBox (some 7) ?_); refine w_box M _ _ rfl rfl _ rfl ([.int .i64 k, .int .i64 e, .slice p l.length cap, .string (mkS s)]) rfl ?_; clear M; intro gt w1 M) | (go_at_call 30; go_must (refine (RC.out _ (S.now M)).mono ?_; rintro e w1 ⟨rfl, hb⟩; replace M := M.call hb; clear hb)) | ((with_reducible refine tGuard ?_); first | refine w_strip rfl (by with_reducible rfl) ?_ | ((fail_if_success (refine w_lit false rfl (by with_reducible rfl) ?_)); (fail_if_success (refine w_lit true rfl (by with_reducible rfl) ?_)); refine w_case rfl ?_ ?_ <;> (intro hgd; rw [hgd]; try (exfalso; simp at hgd; omega)))) | fail | ((with_reducible refine tLoad ?_); go_must (refine w_at _ _ rfl (by exact ev_tmp rfl) ?_; intro hx; (first | refine w_load M _ _ _ rfl (by first | exact at0) hx rfl (by decide +kernel) (by exact rfl) ?_ | refine w_loadR M _ _ _ rfl (by first | exact at0) hx rfl (by decide +kernel) (by kernel_rfl) ?_); clear hx)) | ((with_reducible refine tStore ?_); go_must (refine w_at2 _ _ _ rfl (by exact ev_tmp rfl) (by first | exact ev_tmp rfl | exact ev_const) ?_; intro hx hy; (first | refine w_store M _ _ _ _ rfl (by first | exact at0) hx rfl hy rfl rfl (by decide +kernel) (by first | decide | simp | (simp; omega)) ?_ | refine w_storeR M _ _ _ _ rfl (by first | exact at0) hx rfl _ hy rfl (by kernel_rfl) (by simp [Value.oneCell']) (by first | rfl | assumption) ?_); clear hx hy M; intro w1 M; (try simp only [setC] at M))) | ((with_reducible refine tBox _ ?_); (refine w_box M _ _ rfl rfl _ rfl _ rfl ?_; clear M; intro g w1 M))) <;> (try conv => arg 5; simp only [Act.put, List.setIfInBounds_toArray, setC]))
  go_ret2
  exact ⟨rfl, M.below⟩
set_option maxRecDepth 100000 in
set_option maxHeartbeats 8000000 in
theorem Wrap_ok (secret : List UInt8) (b : UInt32) (n : UInt64) (k e : Nat) (l : List Mt) (s : List UInt8) (v : Value) (w : World) (S : SeesL w 2 mtV v l) (hsec : secret.length ≤ 1000000) (hk : k < 9223372036854775808) (he : e < 9223372036854775808) (h : rightT k e l s = true) :
    Calls Try.prog 27 #[.string (mkS secret), .int .u32 (I32 b), .int .u64 (I64 n), .agg #[.int .i64 k, .int .i64 e, v, .string (mkS s)]] w fun r w' => r = .returned (.tuple #[.string (mkS (envB (wrapE secret b n ⟨k, e, l, s⟩))), .int .i64 0]) ∧ Below w.heap.size w w' := by
  obtain ⟨_, he1, hr, hs1, hs2⟩ := rightT_of h
  obtain ⟨hl1, hl4, hn8⟩ := rightM_of hr
  obtain ⟨p, cap, rfl, hc⟩ := S.form
  have M := Mem.start [] w
  have RC := fun w S => tokRight_c k e l s (.slice p l.length cap) w S (by omega) (fun x hx => by have := hn8 x hx; omega)
  rw [h, if_pos rfl] at RC
  have hBl := tokB_len (t := ⟨k, e, l, s⟩) hk he hl4 hn8 hs2
  have hB := tokB_eq ⟨k, e, l, s⟩
  have KC := fun w => tokKey_c secret w hsec
  have hK := macL_len secret aboutT
  have hw : wrapE secret b n ⟨k, e, l, s⟩ = ⟨0, b, n, sealL (macL secret aboutT) b n (tokB ⟨k, e, l, s⟩), tagL (macL secret aboutT) 0 b n aboutT (sealL (macL secret aboutT) b n (tokB ⟨k, e, l, s⟩))⟩ := rfl
  obtain ⟨B, eB⟩ : ∃ B, B = tokB ⟨k, e, l, s⟩ := ⟨_, rfl⟩
  rw [← eB] at hBl hB hw
  obtain ⟨K, eK⟩ : ∃ K, K = macL secret aboutT := ⟨_, rfl⟩
  rw [← eK] at hK KC hw
  have CC : ∀ w, Calls Try.prog 15 #[.agg (bs K).toArray, .int .i64 0, .int .u32 (I32 b), .int .u64 (I64 n), .string (mkS [116, 111, 107, 101, 110]), .string (mkS B)] w fun r w' => r = .returned (.tuple #[.agg (envC 0 b n (sealL K b n B) (tagL K 0 b n aboutT (sealL K b n B))).toArray, .int .i64 0]) ∧ Below w.heap.size w w' := fun w => Close_ok K 0 b n aboutT B w hK (by omega) (by omega) (by decide)
  have hsl : (sealL K b n B).length = B.length := by unfold sealL; rw [streamL_len]
  have ht : (tagL K 0 b n aboutT (sealL K b n B)).length = 32 := macL_len _ _
  obtain ⟨d, ed⟩ : ∃ d, d = sealL K b n B := ⟨_, rfl⟩
  rw [← ed] at CC hsl ht hw
  obtain ⟨t, et⟩ : ∃ t, t = tagL K 0 b n aboutT d := ⟨_, rfl⟩
  rw [← et] at CC ht hw
  have BC : ∀ w, Calls Try.prog 21 #[.agg (envC 0 b n d t).toArray] w fun r w' => r = .returned (.tuple #[.string (mkS (headL 0 b n ++ (textL d ++ t))), .int .i64 0]) ∧ Below w.heap.size w w' := fun w => SealBytes_ok 0 b n d t w ht (by unfold rightE; simp; omega)
  rw [envB_head 0 b n d t, ← hw] at BC
  obtain ⟨E, eE⟩ : ∃ E, E = envB (wrapE secret b n ⟨k, e, l, s⟩) := ⟨_, rfl⟩
  rw [← eE] at BC
  rw [← eE]
  have hn1 := numL_length_le k (by omega)
  have hn2 := numL_length_le e (by omega)
  have hn3 := numL_length_le l.length (by omega)
  have hn4 := right_mem hr
  obtain ⟨N, eN⟩ : ∃ N, N = numL k ++ numL e ++ numL l.length := ⟨_, rfl⟩
  have hN : N.length ≤ 30 := by rw [eN]; simp only [List.length_append]; omega
  have hB' : B = N ++ l.flatMap mtB ++ textL s := by rw [hB, eN]
  replace hB' := Lib.hid fun _ : Unit => hB'
  have EN := Lib.hid fun _ : Unit => eN
  have HS := Lib.hid fun j x (h : l[j]? = some x) => flat_take_succ h
  replace RC := Lib.hid RC
  replace KC := Lib.hid KC
  replace CC := Lib.hid CC
  replace BC := Lib.hid BC
  replace hn4 := Lib.hid hn4
  clear eB eK ed et eE eN hw hsl h hr hB
  have e1 := I64_nat k (by omega)
  have e2 := I64_nat e (by omega)
  have e3 := I64_nat l.length (by omega)
  go_enter Try.func27, Try.ntmps27
  go_wp2_with ((first | ((with_reducible refine tBox (some 7) ?_); refine w_box M _ _ rfl rfl _ rfl ([.int .i64 k, .int .i64 e, .slice p l.length cap, .string (mkS s)]) rfl ?_; clear M; intro gt w1 M) | (go_at_call 30; go_must (refine (RC.out _ (S.now M)).mono ?_; rintro e w1 ⟨rfl, hb⟩; replace M := M.call hb; clear hb)) | (((with_reducible refine tAlloc (some 11) 81 ?_); refine w_alloc M _ rfl rfl (.agg #[.slice none 0 0]) ([.slice none 0 0]) (by kernel_rfl) rfl ?_; clear M; intro go w1 M); replace M := M.outNew) | (go_at_call 61; go_must (first | (with_reducible refine (Num_c _ _ [] k (k : Int) rfl _ (by omega) (by simp) (M.ok 0 _ rfl)).mono ?_) | (with_reducible refine (Num_c _ _ ([] ++ numL k) e (e : Int) rfl _ (by omega) (by first | omega | (simp only [List.length_append, List.length_nil]; omega)) (M.ok 0 _ rfl)).mono ?_) | (with_reducible refine (Num_c _ _ ([] ++ numL k ++ numL e) l.length (l.length : Int) rfl _ (by omega) (by first | omega | (simp only [List.length_append, List.length_nil]; omega)) (M.ok 0 _ rfl)).mono ?_)); rintro r w2 ⟨rfl, v1, U⟩; replace M := M.upd 0 rfl U; clear U; simp only [setC] at M) | ((with_reducible refine tGuard ?_); first | refine w_strip rfl (by with_reducible rfl) ?_ | ((fail_if_success (refine w_lit false rfl (by with_reducible rfl) ?_)); (fail_if_success (refine w_lit true rfl (by with_reducible rfl) ?_)); refine w_case rfl ?_ ?_ <;> (intro hgd; rw [hgd]; try (exfalso; simp at hgd; omega)))) | fail | ((with_reducible refine tLoad ?_); go_must (refine w_at _ _ rfl (by exact ev_tmp rfl) ?_; intro hx; (first | refine w_load M _ _ _ rfl (by first | exact at0 | exact at1) hx rfl (by decide +kernel) (by exact rfl) ?_ | refine w_loadR M _ _ _ rfl (by first | exact at0 | exact at1) hx rfl (by decide +kernel) (by kernel_rfl) ?_); clear hx)) | ((with_reducible refine tStore ?_); go_must (refine w_at2 _ _ _ rfl (by exact ev_tmp rfl) (by first | exact ev_tmp rfl | exact ev_const) ?_; intro hx hy; (first | refine w_store M _ _ _ _ rfl (by first | exact at0 | exact at1) hx rfl hy rfl rfl (by decide +kernel) (by first | decide | simp | (simp; omega)) ?_ | refine w_storeR M _ _ _ _ rfl (by first | exact at0 | exact at1) hx rfl _ hy rfl (by kernel_rfl) (by simp [Value.oneCell']) (by first | rfl | assumption) ?_); clear hx hy M; intro w1 M; (try simp only [setC] at M))) | ((with_reducible refine tBox _ ?_); (refine w_box M _ _ rfl rfl _ rfl _ rfl ?_; clear M; intro g w1 M))) <;> (try conv => arg 5; simp only [Act.put, List.setIfInBounds_toArray, setC]))
  rw [List.nil_append, ← EN.out ()] at M
  go_loopw [38] (fun iv wr => ∃ (j : Nat) (v9 : Value), j ≤ l.length ∧ iv = .int .i64 j ∧ Mem [] w wr [outC go v9 (N ++ (l.take j).flatMap mtB), .row gt [.int .i64 k, .int .i64 e, .slice p l.length cap, .string (mkS s)]]) (fun iv _ => l.length - (intOf iv).toNat)
  case atStart => exact ⟨0, _, by omega, rfl, by simpa using M⟩
  case round =>
    clear M
    obtain ⟨j, v9, hj, rfl, M⟩ := hrel
    have hnj := hn4.out j
    by_cases hlt : j < l.length
    · obtain ⟨g, so, rfl⟩ := S.addr (by omega)
      obtain ⟨⟨a, sh⟩, hx⟩ : ∃ x, l[j]? = some x := ⟨_, List.getElem?_eq_getElem hlt⟩
      have ha := hn8 (a, sh) (List.mem_of_getElem? hx)
      simp only at ha
      have EJ := HS.out j _ hx
      have HX := Lib.hid hx
      have hta : (textL a).length ≤ 18 := by unfold textL; have := numL_length_le a.length (by omega); simp; omega
      obtain ⟨q, eq⟩ : ∃ q, q = N ++ (l.take j).flatMap mtB := ⟨_, rfl⟩
      have hq : q.length ≤ 110 := by rw [eq, List.length_append]; omega
      rw [← eq] at M
      have EQ : N ++ (l.take (j + 1)).flatMap mtB = q ++ textL a ++ [shipB (a, sh)] := by rw [EJ, eq]; unfold mtB; simp only [List.append_assoc]
      replace EQ := Lib.hid fun _ : Unit => EQ
      have TC := fun g v w h => Out_Text_c g v q a w (by omega) (by omega) h
      have YC := fun g v w h => Out_Byte_c g v (q ++ textL a) (shipB (a, sh)) w (by rw [List.length_append]; omega) h
      clear hx EJ eq hnj
      cases sh with
      | false =>
        have YC' : ∀ g v w, (outC g v (q ++ textL a)).ok w → Calls Try.prog 62 #[.pointer (some ⟨g, 0, none⟩), .int .u8 0] w fun e w' => e = .returned (.tuple #[]) ∧ ∃ v', Upd w (outC g v (q ++ textL a)) w' (outC g v' (q ++ textL a ++ [shipB (a, false)])) := YC
        replace YC' := Lib.hid YC'
        replace TC := Lib.hid TC
        clear YC
        go_wp2_with ((first | ((with_reducible refine tLoad ?_); refine w_at _ _ rfl (by exact ev_tmp rfl) ?_; intro hx; first | (refine w_seeA M S HX.out _ _ rfl hx rfl (by decide +kernel) (by first | (with_reducible rfl) | omega) (by kernel_rfl) ?_; clear hx; (try conv => arg 5; simp only [Act.put, List.setIfInBounds_toArray, setC, mtV_eq])) | (refine w_see M S HX.out _ _ rfl hx rfl (by decide +kernel) 0 (by first | (with_reducible rfl) | omega) rfl ?_; clear hx) | (refine w_see M S HX.out _ _ rfl hx rfl (by decide +kernel) 1 (by first | (with_reducible rfl) | omega) rfl ?_; clear hx) | (refine w_see M S HX.out _ _ rfl hx rfl (by decide +kernel) 2 (by first | (with_reducible rfl) | omega) rfl ?_; clear hx)) | ((with_reducible refine tAlloc (some 13) 99 ?_); refine w_alloc M _ rfl rfl (.agg #[.string (mkS []), .bool false]) (mtV ([], false)) (by kernel_rfl) rfl ?_; clear M; intro gm w1 M) | (go_at_call 48; go_must (refine (TC.out _ _ _ (M.ok 1 _ rfl)).mono ?_; rintro r w2 ⟨rfl, v1, U⟩; replace M := M.upd 1 rfl U; clear U; simp only [setC] at M)) | (go_at_call 62; go_must (refine (YC'.out _ _ _ (M.ok 1 _ rfl)).mono ?_; rintro r w2 ⟨rfl, v2, U⟩; replace M := M.upd 1 rfl U; clear U; simp only [setC] at M)) | ((with_reducible refine tGuard ?_); first | refine w_strip rfl (by with_reducible rfl) ?_ | ((fail_if_success (refine w_lit false rfl (by with_reducible rfl) ?_)); (fail_if_success (refine w_lit true rfl (by with_reducible rfl) ?_)); refine w_case rfl ?_ ?_ <;> (intro hgd; rw [hgd]; try (exfalso; simp at hgd; omega)))) | fail | ((with_reducible refine tLoad ?_); go_must (refine w_at _ _ rfl (by exact ev_tmp rfl) ?_; intro hx; (first | refine w_load M _ _ _ rfl (by first | exact at0 | exact at1 | exact at2) hx rfl (by decide +kernel) (by exact rfl) ?_ | refine w_loadR M _ _ _ rfl (by first | exact at0 | exact at1 | exact at2) hx rfl (by decide +kernel) (by kernel_rfl) ?_); clear hx)) | ((with_reducible refine tStore ?_); go_must (refine w_at2 _ _ _ rfl (by exact ev_tmp rfl) (by first | exact ev_tmp rfl | exact ev_const) ?_; intro hx hy; (first | refine w_store M _ _ _ _ rfl (by first | exact at0 | exact at1 | exact at2) hx rfl hy rfl rfl (by decide +kernel) (by first | decide | simp | (simp; omega)) ?_ | refine w_storeR M _ _ _ _ rfl (by first | exact at0 | exact at1 | exact at2) hx rfl _ hy rfl (by kernel_rfl) (by simp [Value.oneCell']) (by first | rfl | assumption) ?_); clear hx hy M; intro w1 M; (try simp only [setC] at M))) | ((with_reducible refine tBox _ ?_); (refine w_box M _ _ rfl rfl _ rfl _ rfl ?_; clear M; intro g w1 M))) <;> (try conv => arg 5; simp only [Act.put, List.setIfInBounds_toArray, setC]))
        go_roundw
        case rel => exact ⟨j + 1, _, by omega, by go_num, by rw [EQ.out ()]; exact M.tail⟩
        case measure => simp [intOf]; omega
      | true =>
        have YC' : ∀ g v w, (outC g v (q ++ textL a)).ok w → Calls Try.prog 62 #[.pointer (some ⟨g, 0, none⟩), .int .u8 1] w fun e w' => e = .returned (.tuple #[]) ∧ ∃ v', Upd w (outC g v (q ++ textL a)) w' (outC g v' (q ++ textL a ++ [shipB (a, true)])) := YC
        replace YC' := Lib.hid YC'
        replace TC := Lib.hid TC
        clear YC
        go_wp2_with ((first | ((with_reducible refine tLoad ?_); refine w_at _ _ rfl (by exact ev_tmp rfl) ?_; intro hx; first | (refine w_seeA M S HX.out _ _ rfl hx rfl (by decide +kernel) (by first | (with_reducible rfl) | omega) (by kernel_rfl) ?_; clear hx; (try conv => arg 5; simp only [Act.put, List.setIfInBounds_toArray, setC, mtV_eq])) | (refine w_see M S HX.out _ _ rfl hx rfl (by decide +kernel) 0 (by first | (with_reducible rfl) | omega) rfl ?_; clear hx) | (refine w_see M S HX.out _ _ rfl hx rfl (by decide +kernel) 1 (by first | (with_reducible rfl) | omega) rfl ?_; clear hx) | (refine w_see M S HX.out _ _ rfl hx rfl (by decide +kernel) 2 (by first | (with_reducible rfl) | omega) rfl ?_; clear hx)) | ((with_reducible refine tAlloc (some 13) 99 ?_); refine w_alloc M _ rfl rfl (.agg #[.string (mkS []), .bool false]) (mtV ([], false)) (by kernel_rfl) rfl ?_; clear M; intro gm w1 M) | (go_at_call 48; go_must (refine (TC.out _ _ _ (M.ok 1 _ rfl)).mono ?_; rintro r w2 ⟨rfl, v1, U⟩; replace M := M.upd 1 rfl U; clear U; simp only [setC] at M)) | (go_at_call 62; go_must (refine (YC'.out _ _ _ (M.ok 1 _ rfl)).mono ?_; rintro r w2 ⟨rfl, v2, U⟩; replace M := M.upd 1 rfl U; clear U; simp only [setC] at M)) | ((with_reducible refine tGuard ?_); first | refine w_strip rfl (by with_reducible rfl) ?_ | ((fail_if_success (refine w_lit false rfl (by with_reducible rfl) ?_)); (fail_if_success (refine w_lit true rfl (by with_reducible rfl) ?_)); refine w_case rfl ?_ ?_ <;> (intro hgd; rw [hgd]; try (exfalso; simp at hgd; omega)))) | fail | ((with_reducible refine tLoad ?_); go_must (refine w_at _ _ rfl (by exact ev_tmp rfl) ?_; intro hx; (first | refine w_load M _ _ _ rfl (by first | exact at0 | exact at1 | exact at2) hx rfl (by decide +kernel) (by exact rfl) ?_ | refine w_loadR M _ _ _ rfl (by first | exact at0 | exact at1 | exact at2) hx rfl (by decide +kernel) (by kernel_rfl) ?_); clear hx)) | ((with_reducible refine tStore ?_); go_must (refine w_at2 _ _ _ rfl (by exact ev_tmp rfl) (by first | exact ev_tmp rfl | exact ev_const) ?_; intro hx hy; (first | refine w_store M _ _ _ _ rfl (by first | exact at0 | exact at1 | exact at2) hx rfl hy rfl rfl (by decide +kernel) (by first | decide | simp | (simp; omega)) ?_ | refine w_storeR M _ _ _ _ rfl (by first | exact at0 | exact at1 | exact at2) hx rfl _ hy rfl (by kernel_rfl) (by simp [Value.oneCell']) (by first | rfl | assumption) ?_); clear hx hy M; intro w1 M; (try simp only [setC] at M))) | ((with_reducible refine tBox _ ?_); (refine w_box M _ _ rfl rfl _ rfl _ rfl ?_; clear M; intro g w1 M))) <;> (try conv => arg 5; simp only [Act.put, List.setIfInBounds_toArray, setC]))
        go_roundw
        case rel => exact ⟨j + 1, _, by omega, by go_num, by rw [EQ.out ()]; exact M.tail⟩
        case measure => simp [intOf]; omega
    · obtain rfl : j = l.length := by omega
      rw [List.take_of_length_le (Nat.le_refl _)] at M hnj
      have TC := fun g v w h => Out_Text_c g v (N ++ l.flatMap mtB) s w (by omega) (by rw [List.length_append]; omega) h
      rw [← hB'.out ()] at TC
      replace TC := Lib.hid TC
      clear hnj
      go_wp2_with ((first | (go_at_call 48; go_must (refine (TC.out _ _ _ (M.ok 0 _ rfl)).mono ?_; rintro r w2 ⟨rfl, v1, U⟩; replace M := M.upd 0 rfl U; clear U; simp only [setC] at M)) | (go_at_call 63; go_must (refine (KC.out _).mono ?_; rintro e w1 ⟨rfl, hb⟩; replace M := M.call hb; clear hb)) | (go_at_call 49; go_must (refine (Out_String_c _ _ _ _ (M.ok 0 _ rfl)).mono ?_; rintro e w1 ⟨rfl, rfl⟩)) | (go_at_call 15; go_must (refine (CC.out _).mono ?_; rintro e w1 ⟨rfl, hb⟩; replace M := M.call hb; clear hb)) | (go_at_call 21; go_must (refine (BC.out _).mono ?_; rintro e w1 ⟨rfl, hb⟩; replace M := M.call hb; clear hb)) | ((with_reducible refine tAlloc (some 15) 29 ?_); refine w_alloc M _ rfl rfl (.agg (envC 0 0 0 [] zeroT).toArray) (envC 0 0 0 [] zeroT) (by kernel_rfl) rfl ?_; clear M; intro gx w1 M) | ((with_reducible refine tLoad ?_); refine w_at _ _ rfl (by exact ev_tmp rfl) ?_; intro hx; (first | refine w_loadE M _ _ _ rfl (by first | exact at0) hx rfl (by decide +kernel) (by decide +kernel) (by first | assumption | exact zeroT_len | exact macL_len _ _) ?_ | refine w_loadTag M _ _ _ rfl (by first | exact at0) hx rfl (by decide +kernel) (by decide +kernel) (by first | assumption | exact zeroT_len | exact macL_len _ _) ?_); clear hx) | ((with_reducible refine tStore ?_); refine w_at2 _ _ _ rfl (by first | exact ev_tmp rfl | exact ev_const) (by first | exact ev_tmp rfl | exact ev_const) ?_; intro hx hy; (first | refine w_storeE M _ _ _ _ rfl (by first | exact at0) hx rfl hy rfl (by decide +kernel) (by first | assumption | exact zeroT_len | exact macL_len _ _) (by first | assumption | exact zeroT_len | exact macL_len _ _) ?_ | refine w_storeE (k := 0) (b := 0) (n := 0) (d := []) (tg := zeroT) M _ _ _ _ rfl (by first | exact at0) hx rfl hy rfl (by decide +kernel) zeroT_len (by first | assumption | exact zeroT_len | exact macL_len _ _) ?_ | refine w_storeE (tg := zeroT) M _ _ _ _ rfl (by first | exact at0) hx rfl hy rfl (by decide +kernel) zeroT_len (by first | assumption | exact zeroT_len | exact macL_len _ _) ?_ | refine w_storeTag M _ _ _ _ rfl (by first | exact at0) hx rfl hy (by decide +kernel) (by first | assumption | exact zeroT_len | exact macL_len _ _) (by first | assumption | exact zeroT_len | exact macL_len _ _) ?_ | refine w_storeData M _ _ _ _ rfl (by first | exact at0) hx rfl hy (by decide +kernel) ?_ | refine w_storeNum M _ _ _ _ rfl (by first | exact at0) hx rfl hy (by decide +kernel) ?_); clear hx hy M; intro w1 M; (try simp only [setC] at M)) | ((with_reducible refine tConv _ 45 9 ?_); (first | refine w_stringTag M _ _ _ _ _ rfl rfl (by first | exact at0) rfl (by first | assumption | exact zeroT_len | exact macL_len _ _) Try.underlying45 Try.underlying5 Try.underlying9 ?_)) | ((with_reducible refine tGuard ?_); first | refine w_strip rfl (by with_reducible rfl) ?_ | ((fail_if_success (refine w_lit false rfl (by with_reducible rfl) ?_)); (fail_if_success (refine w_lit true rfl (by with_reducible rfl) ?_)); refine w_case rfl ?_ ?_ <;> (intro hgd; rw [hgd]; try (exfalso; simp at hgd; omega)))) | fail | ((with_reducible refine tLoad ?_); go_must (refine w_at _ _ rfl (by exact ev_tmp rfl) ?_; intro hx; (first | refine w_load M _ _ _ rfl (by first | exact at0 | exact at1 | exact at2) hx rfl (by decide +kernel) (by exact rfl) ?_ | refine w_loadR M _ _ _ rfl (by first | exact at0 | exact at1 | exact at2) hx rfl (by decide +kernel) (by kernel_rfl) ?_); clear hx)) | ((with_reducible refine tStore ?_); go_must (refine w_at2 _ _ _ rfl (by exact ev_tmp rfl) (by first | exact ev_tmp rfl | exact ev_const) ?_; intro hx hy; (first | refine w_store M _ _ _ _ rfl (by first | exact at0 | exact at1 | exact at2) hx rfl hy rfl rfl (by decide +kernel) (by first | decide | simp | (simp; omega)) ?_ | refine w_storeR M _ _ _ _ rfl (by first | exact at0 | exact at1 | exact at2) hx rfl _ hy rfl (by kernel_rfl) (by simp [Value.oneCell']) (by first | rfl | assumption) ?_); clear hx hy M; intro w1 M; (try simp only [setC] at M))) | ((with_reducible refine tBox _ ?_); (refine w_box M _ _ rfl rfl _ rfl _ rfl ?_; clear M; intro g w1 M))) <;> (try conv => arg 5; simp only [Act.put, List.setIfInBounds_toArray, setC]))
      go_ret2
      exact ⟨rfl, M.below⟩
set_option maxRecDepth 100000 in
set_option maxHeartbeats 8000000 in
theorem tokRead_c (k e : Nat) (l : List Mt) (s : List UInt8) (w : World) (hk : k < 9223372036854775808) (he : e < 9223372036854775808) (h : rightT k e l s = true) :
    Calls Try.prog 69 #[.string (mkS (tokB ⟨k, e, l, s⟩))] w fun r w' => ∃ p c, r = .returned (.tuple #[.agg #[.int .i64 k, .int .i64 e, .slice p l.length c, .string (mkS s)], .int .i64 0]) ∧ Mem [] w w' [.sl 2 (.slice p l.length c) l.length (l.flatMap mtV)] := by
  obtain ⟨_, he1, hr, hs1, hs2⟩ := rightT_of h
  obtain ⟨hl1, hl4, hn8⟩ := rightM_of hr
  have M := Mem.start [] w
  have RC := fun v w S => tokRight_c k e l s v w S (by omega) (fun x hx => by have := hn8 x hx; omega)
  rw [h, if_pos rfl] at RC
  have hBl := tokB_len (t := ⟨k, e, l, s⟩) hk he hl4 hn8 hs2
  obtain ⟨B, eB⟩ : ∃ B, B = tokB ⟨k, e, l, s⟩ := ⟨_, rfl⟩
  rw [← eB] at hBl ⊢
  have f0 : (InS.mk B 0 0).fit := by unfold InS.fit; simp only; omega
  obtain ⟨x1, ex1⟩ : ∃ x1 : InS, (InS.mk B 0 0).most 9223372036854775807 = (k, x1) ∧ ∃ k1, x1 = ⟨numL e ++ (numL l.length ++ (l.flatMap mtB ++ textL s)), k1, 0⟩ := ⟨_, by rw [eB]; unfold tokB; exact most_num (by simp only; omega) (by simp only; omega), _, rfl⟩
  obtain ⟨ex1, k1, rfl⟩ := ex1
  have f1 := InS.most_fit f0 9223372036854775807
  rw [ex1] at f1
  obtain ⟨x2, ex2⟩ : ∃ x2 : InS, (InS.mk (numL e ++ (numL l.length ++ (l.flatMap mtB ++ textL s))) k1 0).most 9223372036854775807 = (e, x2) ∧ ∃ k2, x2 = ⟨numL l.length ++ (l.flatMap mtB ++ textL s), k2, 0⟩ := ⟨_, most_num (by omega) (by omega), _, rfl⟩
  obtain ⟨ex2, k2, rfl⟩ := ex2
  have f2 := InS.most_fit f1 9223372036854775807
  rw [ex2] at f2
  obtain ⟨x3, ex3⟩ : ∃ x3 : InS, (InS.mk (numL l.length ++ (l.flatMap mtB ++ textL s)) k2 0).most 4 = (l.length, x3) ∧ ∃ k3, x3 = tokS ⟨k, e, l, s⟩ k3 0 := ⟨_, most_num hl4 (by omega), _, rfl⟩
  obtain ⟨ex3, k3, rfl⟩ := ex3
  have f3 := InS.most_fit f2 4
  rw [ex3] at f3
  have Q1 := fun g (w : World) h => Most_c g (InS.mk B 0 0) w h f0 9223372036854775807 9223372036854775807 rfl (by omega)
  have Q2 := fun g (w : World) h => Most_c g _ w h f1 9223372036854775807 9223372036854775807 rfl (by omega)
  have Q3 := fun g (w : World) h => Most_c g _ w h f2 4 4 rfl (by omega)
  rw [ex1] at Q1
  rw [ex2] at Q2
  rw [ex3] at Q3
  simp only at Q1 Q2 Q3 f3
  obtain ⟨y1, ey1⟩ : ∃ y : InS, y = ⟨numL e ++ (numL l.length ++ (l.flatMap mtB ++ textL s)), k1, 0⟩ := ⟨_, rfl⟩
  rw [← ey1] at Q1 Q2
  obtain ⟨y2, ey2⟩ : ∃ y : InS, y = ⟨numL l.length ++ (l.flatMap mtB ++ textL s), k2, 0⟩ := ⟨_, rfl⟩
  rw [← ey2] at Q2 Q3
  replace Q1 := Lib.hid Q1
  replace Q2 := Lib.hid Q2
  replace Q3 := Lib.hid Q3
  replace RC := Lib.hid RC
  clear ey1 ey2 ex1 ex2 ex3 f0 f1 f2 eB
  go_enter Try.func69, Try.ntmps69
  go_wp2_with ((first | ((with_reducible refine tAlloc (some 2) 53 ?_); refine w_alloc M _ rfl rfl (.agg #[.int .i64 0, .int .i64 0, .slice none 0 0, .string (mkS [])]) ([.int .i64 0, .int .i64 0, .slice none 0 0, .string (mkS [])]) (by kernel_rfl) rfl ?_; clear M; intro gr w1 M) | ((with_reducible refine tAlloc (some 5) 53 ?_); refine w_alloc M _ rfl rfl (.agg #[.int .i64 0, .int .i64 0, .slice none 0 0, .string (mkS [])]) ([.int .i64 0, .int .i64 0, .slice none 0 0, .string (mkS [])]) (by kernel_rfl) rfl ?_; clear M; intro gt w1 M) | (go_at_call 50; go_must (refine (packOf_c B _).mono ?_; rintro r w1 ⟨gi, rfl, MP⟩; replace M := M.join MP; clear MP; simp only [List.cons_append, List.nil_append] at M)) | (go_at_call 51; go_must (first | (with_reducible refine (Q1.out _ _ (M.ok 0 _ rfl)).mono ?_; rintro r w1 ⟨rfl, U⟩; replace M := M.upd 0 rfl U; clear U; simp only [setC] at M) | (with_reducible refine (Q2.out _ _ (M.ok 0 _ rfl)).mono ?_; rintro r w1 ⟨rfl, U⟩; replace M := M.upd 0 rfl U; clear U; simp only [setC] at M) | (with_reducible refine (Q3.out _ _ (M.ok 1 _ rfl)).mono ?_; rintro r w1 ⟨rfl, U⟩; replace M := M.upd 1 rfl U; clear U; simp only [setC] at M))) | ((with_reducible refine tGuard ?_); first | refine w_strip rfl (by with_reducible rfl) ?_ | ((fail_if_success (refine w_lit false rfl (by with_reducible rfl) ?_)); (fail_if_success (refine w_lit true rfl (by with_reducible rfl) ?_)); refine w_case rfl ?_ ?_ <;> (intro hgd; rw [hgd]; try (exfalso; simp at hgd; omega)))) | fail | ((with_reducible refine tLoad ?_); go_must (refine w_at _ _ rfl (by exact ev_tmp rfl) ?_; intro hx; (first | refine w_load M _ _ _ rfl (by first | exact at0 | exact at1 | exact at2) hx rfl (by decide +kernel) (by exact rfl) ?_ | refine w_loadR M _ _ _ rfl (by first | exact at0 | exact at1 | exact at2) hx rfl (by decide +kernel) (by kernel_rfl) ?_); clear hx)) | ((with_reducible refine tStore ?_); go_must (refine w_at2 _ _ _ rfl (by exact ev_tmp rfl) (by first | exact ev_tmp rfl | exact ev_const) ?_; intro hx hy; (first | refine w_store M _ _ _ _ rfl (by first | exact at0 | exact at1 | exact at2) hx rfl hy rfl rfl (by decide +kernel) (by first | decide | simp | (simp; omega)) ?_ | refine w_storeR M _ _ _ _ rfl (by first | exact at0 | exact at1 | exact at2) hx rfl _ hy rfl (by kernel_rfl) (by simp [Value.oneCell']) (by first | rfl | assumption) ?_); clear hx hy M; intro w1 M; (try simp only [setC] at M))) | ((with_reducible refine tBox _ ?_); (refine w_box M _ _ rfl rfl _ rfl _ rfl ?_; clear M; intro g w1 M))) <;> (try conv => arg 5; simp only [Act.put, List.setIfInBounds_toArray, setC]))
  replace M := M.nil 2
  go_loopw [20] (fun iv wr => ∃ (j : Nat) (p : Option Addr) (c kk : Nat), j ≤ l.length ∧ iv = .int .i64 j ∧ (tokS ⟨k, e, l, s⟩ kk j).fit ∧ Mem [] w wr [.sl 2 (.slice p j c) j ((l.take j).flatMap mtV), .row gt [.int .i64 k, .int .i64 e, .slice p j c, .string (mkS [])], .row gi (inV (tokS ⟨k, e, l, s⟩ kk j)), .row gr [.int .i64 0, .int .i64 0, .slice none 0 0, .string (mkS [])]]) (fun iv _ => l.length - (intOf iv).toNat)
  case atStart => exact ⟨0, none, 0, k3, by omega, rfl, f3, M⟩
  case round =>
    clear M f3
    obtain ⟨j, p, c, kk, hj, rfl, f3, M⟩ := hrel
    by_cases hlt : j < l.length
    · obtain ⟨⟨a, sh⟩, hx⟩ : ∃ x, l[j]? = some x := ⟨_, List.getElem?_eq_getElem hlt⟩
      have ha := hn8 (a, sh) (List.mem_of_getElem? hx)
      obtain ⟨k', k'', E1, E2⟩ := tok_mount (t := ⟨k, e, l, s⟩) (k := kk) hx ha
      have f4 := InS.text_fit f3 8
      rw [E1] at f4
      have f5 := InS.byte_fit f4
      rw [E2] at f5
      simp only at f5
      have TC := fun g (w : World) h => In_Text_c g (tokS ⟨k, e, l, s⟩ kk j) w h f3 8 8 rfl (by omega)
      have YC := fun g (w : World) h => In_Byte_c g _ w h f4
      rw [E1] at TC
      rw [E2] at YC
      simp only at TC YC
      have he0 : (tokS ⟨k, e, l, s⟩ k'' (j + 1)).err = 0 := rfl
      have EJ : (l.take (j + 1)).flatMap mtV = (l.take j).flatMap mtV ++ mtV (a, sh) := by
        obtain ⟨hj', hx'⟩ := List.getElem?_eq_some_iff.1 hx
        rw [List.take_succ_eq_append_getElem hj', List.flatMap_append, hx']; simp
      obtain ⟨x0, ex0⟩ : ∃ x0, x0 = tokS ⟨k, e, l, s⟩ kk j := ⟨_, rfl⟩
      rw [← ex0] at M TC
      obtain ⟨x1, ex1⟩ : ∃ x1 : InS, x1 = ⟨shipB (a, sh) :: ((l.drop (j + 1)).flatMap mtB ++ textL s), k', 0⟩ := ⟨_, rfl⟩
      have TC' : ∀ (g : Nat) (w : World), (Chunk.row g (inV x0)).ok w → Calls Try.prog 53 #[.pointer (some ⟨g, 0, none⟩), .int .i64 8] w fun r w' => r = .returned (.string (mkS a)) ∧ Upd w (.row g (inV x0)) w' (.row g (inV x1)) := by rw [ex1]; exact TC
      obtain ⟨x2, ex2⟩ : ∃ x2, x2 = tokS ⟨k, e, l, s⟩ k'' (j + 1) := ⟨_, rfl⟩
      have YC' : ∀ (g : Nat) (w : World), (Chunk.row g (inV x1)).ok w → Calls Try.prog 54 #[.pointer (some ⟨g, 0, none⟩)] w fun r w' => r = .returned (.int .u8 ((shipB (a, sh)).toNat : Int)) ∧ Upd w (.row g (inV x1)) w' (.row g (inV x2)) := by rw [ex1, ex2]; exact YC
      rw [← ex2] at he0
      have FC := fun g (w : World) h => Fault_ok g x2 w h he0
      replace EJ := Lib.hid fun _ : Unit => EJ
      replace TC' := Lib.hid TC'
      have EX2 := Lib.hid fun _ : Unit => ex2
      replace FC := Lib.hid FC
      clear TC YC ex0 ex1 ex2 he0 E1 E2 hx f4
      cases sh with
      | false =>
        have YC2 : ∀ (g : Nat) (w : World), (Chunk.row g (inV x1)).ok w → Calls Try.prog 54 #[.pointer (some ⟨g, 0, none⟩)] w fun r w' => r = .returned (.int .u8 0) ∧ Upd w (.row g (inV x1)) w' (.row g (inV x2)) := YC'
        replace YC2 := Lib.hid YC2
        clear YC'
        go_wp2_with ((first | (go_at_call 53; go_must (refine (TC'.out _ _ (M.ok 2 _ rfl)).mono ?_; rintro r w1 ⟨rfl, U⟩; replace M := M.upd 2 rfl U; clear U; simp only [setC] at M)) | ((with_reducible refine tAlloc (some 7) 99 ?_); refine w_alloc M _ rfl rfl (.agg #[.string (mkS []), .bool false]) ([.string (mkS []), .bool false]) (by kernel_rfl) rfl ?_; clear M; intro gm w1 M) | (go_at_call 54; go_must (refine (YC2.out _ _ (M.ok 3 _ rfl)).mono ?_; rintro r w1 ⟨rfl, U⟩; replace M := M.upd 3 rfl U; clear U; simp only [setC] at M)) | (go_at_call 91; go_must (refine (FC.out _ _ (M.ok 3 _ rfl)).mono ?_; rintro e w1 ⟨rfl, rfl⟩)) | ((with_reducible show wpList _ _ _ (Oper.mk _ (Op.buildSlice _ 1 _) _ _ _ _ :: _) _ _); go_must (refine w_buildSlice1 M mtT (by decide) _ rfl rfl (by first | exact ev_tmp rfl | exact ev_const) _ rfl rfl ?_; clear M; intro g w1 M)) | ((with_reducible refine tApp ?_); go_must (refine w_append_new M 1 mtT _ _ rfl rfl rfl rfl rfl rfl (by first | decide | (intro q hq; simp at hq; subst hq; rfl) | (intro q hq; simp at hq; rcases hq with rfl | rfl; rfl; rfl) | (intro q hq; simp at hq; rcases hq with rfl | rfl | rfl <;> rfl)) (by decide) (by first | (simp only [maxLen]; omega) | (simp [maxLen]; omega)) (by first | omega | (simp; omega)) ?_; clear M; intro q cap w1 M; (try simp only [setC] at M))) | ((with_reducible refine tGuard ?_); first | refine w_strip rfl (by with_reducible rfl) ?_ | ((fail_if_success (refine w_lit false rfl (by with_reducible rfl) ?_)); (fail_if_success (refine w_lit true rfl (by with_reducible rfl) ?_)); refine w_case rfl ?_ ?_ <;> (intro hgd; rw [hgd]; try (exfalso; simp at hgd; omega)))) | fail | ((with_reducible refine tLoad ?_); go_must (refine w_at _ _ rfl (by exact ev_tmp rfl) ?_; intro hx; (first | refine w_load M _ _ _ rfl (by first | exact at0 | exact at1 | exact at2 | exact at3 | exact at4) hx rfl (by decide +kernel) (by exact rfl) ?_ | refine w_loadR M _ _ _ rfl (by first | exact at0 | exact at1 | exact at2 | exact at3 | exact at4) hx rfl (by decide +kernel) (by kernel_rfl) ?_); clear hx)) | ((with_reducible refine tStore ?_); go_must (refine w_at2 _ _ _ rfl (by exact ev_tmp rfl) (by first | exact ev_tmp rfl | exact ev_const) ?_; intro hx hy; (first | refine w_store M _ _ _ _ rfl (by first | exact at0 | exact at1 | exact at2 | exact at3 | exact at4) hx rfl hy rfl rfl (by decide +kernel) (by first | decide | simp | (simp; omega)) ?_ | refine w_storeR M _ _ _ _ rfl (by first | exact at0 | exact at1 | exact at2 | exact at3 | exact at4) hx rfl _ hy rfl (by kernel_rfl) (by simp [Value.oneCell']) (by first | rfl | assumption) ?_); clear hx hy M; intro w1 M; (try simp only [setC] at M))) | ((with_reducible refine tBox _ ?_); (refine w_box M _ _ rfl rfl _ rfl _ rfl ?_; clear M; intro g w1 M))) <;> (try conv => arg 5; simp only [Act.put, List.setIfInBounds_toArray, setC]))
        go_roundw
        case rel => exact ⟨j + 1, q, cap, k'', by omega, by go_num, f5, by rw [EJ.out (), ← EX2.out ()]; exact M.tail⟩
        case measure => simp [intOf]; omega
      | true =>
        have YC2 : ∀ (g : Nat) (w : World), (Chunk.row g (inV x1)).ok w → Calls Try.prog 54 #[.pointer (some ⟨g, 0, none⟩)] w fun r w' => r = .returned (.int .u8 1) ∧ Upd w (.row g (inV x1)) w' (.row g (inV x2)) := YC'
        replace YC2 := Lib.hid YC2
        clear YC'
        go_wp2_with ((first | (go_at_call 53; go_must (refine (TC'.out _ _ (M.ok 2 _ rfl)).mono ?_; rintro r w1 ⟨rfl, U⟩; replace M := M.upd 2 rfl U; clear U; simp only [setC] at M)) | ((with_reducible refine tAlloc (some 7) 99 ?_); refine w_alloc M _ rfl rfl (.agg #[.string (mkS []), .bool false]) ([.string (mkS []), .bool false]) (by kernel_rfl) rfl ?_; clear M; intro gm w1 M) | (go_at_call 54; go_must (refine (YC2.out _ _ (M.ok 3 _ rfl)).mono ?_; rintro r w1 ⟨rfl, U⟩; replace M := M.upd 3 rfl U; clear U; simp only [setC] at M)) | (go_at_call 91; go_must (refine (FC.out _ _ (M.ok 3 _ rfl)).mono ?_; rintro e w1 ⟨rfl, rfl⟩)) | ((with_reducible show wpList _ _ _ (Oper.mk _ (Op.buildSlice _ 1 _) _ _ _ _ :: _) _ _); go_must (refine w_buildSlice1 M mtT (by decide) _ rfl rfl (by first | exact ev_tmp rfl | exact ev_const) _ rfl rfl ?_; clear M; intro g w1 M)) | ((with_reducible refine tApp ?_); go_must (refine w_append_new M 1 mtT _ _ rfl rfl rfl rfl rfl rfl (by first | decide | (intro q hq; simp at hq; subst hq; rfl) | (intro q hq; simp at hq; rcases hq with rfl | rfl; rfl; rfl) | (intro q hq; simp at hq; rcases hq with rfl | rfl | rfl <;> rfl)) (by decide) (by first | (simp only [maxLen]; omega) | (simp [maxLen]; omega)) (by first | omega | (simp; omega)) ?_; clear M; intro q cap w1 M; (try simp only [setC] at M))) | ((with_reducible refine tGuard ?_); first | refine w_strip rfl (by with_reducible rfl) ?_ | ((fail_if_success (refine w_lit false rfl (by with_reducible rfl) ?_)); (fail_if_success (refine w_lit true rfl (by with_reducible rfl) ?_)); refine w_case rfl ?_ ?_ <;> (intro hgd; rw [hgd]; try (exfalso; simp at hgd; omega)))) | fail | ((with_reducible refine tLoad ?_); go_must (refine w_at _ _ rfl (by exact ev_tmp rfl) ?_; intro hx; (first | refine w_load M _ _ _ rfl (by first | exact at0 | exact at1 | exact at2 | exact at3 | exact at4) hx rfl (by decide +kernel) (by exact rfl) ?_ | refine w_loadR M _ _ _ rfl (by first | exact at0 | exact at1 | exact at2 | exact at3 | exact at4) hx rfl (by decide +kernel) (by kernel_rfl) ?_); clear hx)) | ((with_reducible refine tStore ?_); go_must (refine w_at2 _ _ _ rfl (by exact ev_tmp rfl) (by first | exact ev_tmp rfl | exact ev_const) ?_; intro hx hy; (first | refine w_store M _ _ _ _ rfl (by first | exact at0 | exact at1 | exact at2 | exact at3 | exact at4) hx rfl hy rfl rfl (by decide +kernel) (by first | decide | simp | (simp; omega)) ?_ | refine w_storeR M _ _ _ _ rfl (by first | exact at0 | exact at1 | exact at2 | exact at3 | exact at4) hx rfl _ hy rfl (by kernel_rfl) (by simp [Value.oneCell']) (by first | rfl | assumption) ?_); clear hx hy M; intro w1 M; (try simp only [setC] at M))) | ((with_reducible refine tBox _ ?_); (refine w_box M _ _ rfl rfl _ rfl _ rfl ?_; clear M; intro g w1 M))) <;> (try conv => arg 5; simp only [Act.put, List.setIfInBounds_toArray, setC]))
        go_roundw
        case rel => exact ⟨j + 1, q, cap, k'', by omega, by go_num, f5, by rw [EJ.out (), ← EX2.out ()]; exact M.tail⟩
        case measure => simp [intOf]; omega
    · obtain rfl : j = l.length := by omega
      rw [List.take_of_length_le (Nat.le_refl _)] at M
      obtain ⟨kf, E4⟩ : ∃ kf, InS.text (tokS ⟨k, e, l, s⟩ kk l.length) 64 = (s, ⟨[], kf, 0⟩) := by
        have := text_text (m := 64) (k := kk) (t := s) (r := []) hs2 (by omega)
        rw [List.append_nil] at this
        refine ⟨kk + (textL s).length, ?_⟩
        unfold tokS
        simp only
        rw [List.drop_eq_nil_of_le (Nat.le_refl _), List.flatMap_nil, List.nil_append]
        exact this
      have TC := fun g (w : World) h => In_Text_c g (tokS ⟨k, e, l, s⟩ kk l.length) w h f3 64 64 rfl (by omega)
      have f4 := InS.text_fit f3 64
      rw [E4] at f4 TC
      simp only at TC f4
      have EC : ∀ (g : Nat) (w : World), (Chunk.row g (inV ⟨[], kf, 0⟩)).ok w → Calls Try.prog 55 #[.pointer (some ⟨g, 0, none⟩)] w fun r w' => r = .returned (.int .i64 0) ∧ Below w.heap.size w w' := fun g w h => End_c g ⟨[], kf, 0⟩ w h f4
      obtain ⟨x0, ex0⟩ : ∃ x0, x0 = tokS ⟨k, e, l, s⟩ kk l.length := ⟨_, rfl⟩
      rw [← ex0] at M TC
      obtain ⟨x1, ex1⟩ : ∃ x1 : InS, x1 = ⟨[], kf, 0⟩ := ⟨_, rfl⟩
      rw [← ex1] at TC EC
      replace TC := Lib.hid TC
      replace EC := Lib.hid EC
      clear ex0 ex1 E4 f4 f3
      go_wp2_with ((first | (go_at_call 53; go_must (refine (TC.out _ _ (M.ok 2 _ rfl)).mono ?_; rintro r w1 ⟨rfl, U⟩; replace M := M.upd 2 rfl U; clear U; simp only [setC] at M)) | (go_at_call 55; go_must (refine (EC.out _ _ (M.ok 2 _ rfl)).mono ?_; rintro e w1 ⟨rfl, hb⟩; replace M := M.call hb; clear hb)) | (go_at_call 30; go_must (refine (RC.out _ _ (SeesL.own M 0 rfl rfl mtV_len)).mono ?_; rintro e w1 ⟨rfl, hb⟩; replace M := M.call hb; clear hb)) | ((with_reducible refine tGuard ?_); first | refine w_strip rfl (by with_reducible rfl) ?_ | ((fail_if_success (refine w_lit false rfl (by with_reducible rfl) ?_)); (fail_if_success (refine w_lit true rfl (by with_reducible rfl) ?_)); refine w_case rfl ?_ ?_ <;> (intro hgd; rw [hgd]; try (exfalso; simp at hgd; omega)))) | fail | ((with_reducible refine tLoad ?_); go_must (refine w_at _ _ rfl (by exact ev_tmp rfl) ?_; intro hx; (first | refine w_load M _ _ _ rfl (by first | exact at0 | exact at1 | exact at2 | exact at3) hx rfl (by decide +kernel) (by exact rfl) ?_ | refine w_loadR M _ _ _ rfl (by first | exact at0 | exact at1 | exact at2 | exact at3) hx rfl (by decide +kernel) (by kernel_rfl) ?_); clear hx)) | ((with_reducible refine tStore ?_); go_must (refine w_at2 _ _ _ rfl (by exact ev_tmp rfl) (by first | exact ev_tmp rfl | exact ev_const) ?_; intro hx hy; (first | refine w_store M _ _ _ _ rfl (by first | exact at0 | exact at1 | exact at2 | exact at3) hx rfl hy rfl rfl (by decide +kernel) (by first | decide | simp | (simp; omega)) ?_ | refine w_storeR M _ _ _ _ rfl (by first | exact at0 | exact at1 | exact at2 | exact at3) hx rfl _ hy rfl (by kernel_rfl) (by simp [Value.oneCell']) (by first | rfl | assumption) ?_); clear hx hy M; intro w1 M; (try simp only [setC] at M))) | ((with_reducible refine tBox _ ?_); (refine w_box M _ _ rfl rfl _ rfl _ rfl ?_; clear M; intro g w1 M))) <;> (try conv => arg 5; simp only [Act.put, List.setIfInBounds_toArray, setC]))
      refine bodyPost_ret (results_two rfl _ _ gr 0 [.int .i64 k, .int .i64 e, .slice p l.length c, .string (mkS s)] _ (.int .i64 0) rfl rfl (M.ok 3 _ rfl).2.1 Try.underlying53 rfl (by kernel_rfl)) rfl ⟨p, c, rfl, M.pick _ id (fun _ _ _ _ h => h) (fun i x h => by cases i with | zero => simpa using h | succ i => simp at h)⟩
/-- What is opened of a wrapped token. -/
def OpenT (k e : Nat) (l : List Mt) (s : List UInt8) (w : World) (r : Ending) (w' : World) : Prop := ∃ p c, r = .returned (.tuple #[.agg #[.int .i64 k, .int .i64 e, .slice p l.length c, .string (mkS s)], .int .i64 0]) ∧ Mem [] w w' [.sl 2 (.slice p l.length c) l.length (l.flatMap mtV)]
set_option maxRecDepth 100000 in
set_option maxHeartbeats 4000000 in
theorem Open_wrap (secret : List UInt8) (b : UInt32) (n : UInt64) (k e : Nat) (l : List Mt) (s : List UInt8) (w : World) (hsec : secret.length ≤ 1000000) (hk : k < 9223372036854775808) (he : e < 9223372036854775808) (h : rightT k e l s = true) :
    Calls Try.prog 33 #[.string (mkS secret), .string (mkS (envB (wrapE secret b n ⟨k, e, l, s⟩)))] w (OpenT k e l s w) := by
  obtain ⟨_, he1, hr, hs1, hs2⟩ := rightT_of h
  obtain ⟨hl1, hl4, hn8⟩ := rightM_of hr
  have M := Mem.start [] w
  have hBl := tokB_len (t := ⟨k, e, l, s⟩) hk he hl4 hn8 hs2
  have KC := fun w => tokKey_c secret w hsec
  have hK := macL_len secret aboutT
  have DC := fun w => tokRead_c k e l s w hk he h
  have hw : wrapE secret b n ⟨k, e, l, s⟩ = ⟨0, b, n, sealL (macL secret aboutT) b n (tokB ⟨k, e, l, s⟩), tagL (macL secret aboutT) 0 b n aboutT (sealL (macL secret aboutT) b n (tokB ⟨k, e, l, s⟩))⟩ := rfl
  obtain ⟨B, eB⟩ : ∃ B, B = tokB ⟨k, e, l, s⟩ := ⟨_, rfl⟩
  rw [← eB] at hBl hw DC
  obtain ⟨K, eK⟩ : ∃ K, K = macL secret aboutT := ⟨_, rfl⟩
  rw [← eK] at hK KC hw
  have hsl : (sealL K b n B).length = B.length := by unfold sealL; rw [streamL_len]
  have hst : sealL K b n (sealL K b n B) = B := streamL_twice _ _ _
  have ht : (tagL K 0 b n aboutT (sealL K b n B)).length = 32 := macL_len _ _
  have hrt : rightE ((0 : Nat) : Int) (sealL K b n B) = true := rightE_of (by omega) (by omega)
  have OC := fun w => Open_ok K 0 b n (sealL K b n B) aboutT w hK hrt (by decide)
  rw [hst] at OC
  obtain ⟨d, ed⟩ : ∃ d, d = sealL K b n B := ⟨_, rfl⟩
  rw [← ed] at OC hsl ht hw hrt
  obtain ⟨t, et⟩ : ∃ t, t = tagL K 0 b n aboutT d := ⟨_, rfl⟩
  rw [← et] at OC ht hw
  have hE : rightEnv ⟨0, b, n, d, t⟩ := ⟨by show 0 ≤ 1048576; omega, by show d.length ≤ 8192; omega, ht⟩
  have hRd := read_env ⟨0, b, n, d, t⟩ hE []
  rw [List.append_nil, if_pos rfl] at hRd
  have hEl := envB_len hE
  rw [hw]
  obtain ⟨E, eE⟩ : ∃ E, E = envB ⟨0, b, n, d, t⟩ := ⟨_, rfl⟩
  rw [← eE] at hRd hEl ⊢
  have RC := fun w => sealRead_c E w hEl
  rw [hRd] at RC
  have RC' : ∀ w, Calls Try.prog 22 #[.string (mkS E)] w fun r w' => r = .returned (.tuple #[.agg (envC 0 b n d t).toArray, .int .i64 0]) ∧ Below w.heap.size w w' := RC
  have OC' : ∀ w, Calls Try.prog 16 #[.agg (bs K).toArray, .agg (envC 0 b n d t).toArray, .string (mkS [116, 111, 107, 101, 110])] w fun r w' => r = .returned (.tuple #[.string (mkS B), .int .i64 0]) ∧ Below w.heap.size w w' := OC
  replace KC := Lib.hid KC
  replace DC := Lib.hid DC
  replace RC' := Lib.hid RC'
  replace OC' := Lib.hid OC'
  clear RC OC eB eK ed et eE hw hsl hst hrt hE hRd hEl h hr
  go_enter Try.func33, Try.ntmps33
  go_wp2_with ((first | ((with_reducible refine tAlloc (some 4) 53 ?_); refine w_alloc M _ rfl rfl (.agg #[.int .i64 0, .int .i64 0, .slice none 0 0, .string (mkS [])]) ([.int .i64 0, .int .i64 0, .slice none 0 0, .string (mkS [])]) (by kernel_rfl) rfl ?_; clear M; intro gr w1 M) | ((with_reducible refine tAlloc (some 6) 29 ?_); refine w_alloc M _ rfl rfl (.agg (envC 0 0 0 [] zeroT).toArray) (envC 0 0 0 [] zeroT) (by kernel_rfl) rfl ?_; clear M; intro gx w1 M) | (go_at_call 22; go_must (refine (RC'.out _).mono ?_; rintro e w1 ⟨rfl, hb⟩; replace M := M.call hb; clear hb)) | (go_at_call 63; go_must (refine (KC.out _).mono ?_; rintro e w1 ⟨rfl, hb⟩; replace M := M.call hb; clear hb)) | (go_at_call 16; go_must (refine (OC'.out _).mono ?_; rintro e w1 ⟨rfl, hb⟩; replace M := M.call hb; clear hb)) | ((with_reducible show Code.wp _ (Code.region 6 _ _) _ _ _); go_must (have MR := M; refine region_lowc [(0, false), (2, false), (1, true), (3, true), (4, false), (5, false), (6, false), (7, false), (8, false)] [] [(2, _)] (IxOk MR [0]) 9 (by kernel_rfl) (by kernel_rfl) rfl (by kernel_rfl) (lows_cons (stab_env MR 0 rfl rfl (by decide) (by decide +kernel) (by decide +kernel) (by first | assumption | exact zeroT_len)) lows_nil) (ixOk_self MR _) ?_; replace M := M.drew; simp only [planC, opAt, List.getElem?_toArray, List.getElem?_cons_zero, List.getElem?_cons_succ, Option.getD_some])) | (go_at_call 69; go_must (refine (DC.out _).mono ?_; rintro r w1 ⟨p, c, rfl, MP⟩; replace M := M.join MP; clear MP; simp only [List.cons_append, List.nil_append] at M)) | ((with_reducible refine tLoad ?_); refine w_at _ _ rfl (by exact ev_tmp rfl) ?_; intro hx; (first | refine w_loadE M _ _ _ rfl (by first | exact at0) hx rfl (by decide +kernel) (by decide +kernel) (by first | assumption | exact zeroT_len | exact macL_len _ _) ?_ | refine w_loadTag M _ _ _ rfl (by first | exact at0) hx rfl (by decide +kernel) (by decide +kernel) (by first | assumption | exact zeroT_len | exact macL_len _ _) ?_); clear hx) | ((with_reducible refine tStore ?_); refine w_at2 _ _ _ rfl (by first | exact ev_tmp rfl | exact ev_const) (by first | exact ev_tmp rfl | exact ev_const) ?_; intro hx hy; (first | refine w_storeE M _ _ _ _ rfl (by first | exact at0) hx rfl hy rfl (by decide +kernel) (by first | assumption | exact zeroT_len | exact macL_len _ _) (by first | assumption | exact zeroT_len | exact macL_len _ _) ?_ | refine w_storeE (k := 0) (b := 0) (n := 0) (d := []) (tg := zeroT) M _ _ _ _ rfl (by first | exact at0) hx rfl hy rfl (by decide +kernel) zeroT_len (by first | assumption | exact zeroT_len | exact macL_len _ _) ?_ | refine w_storeE (tg := zeroT) M _ _ _ _ rfl (by first | exact at0) hx rfl hy rfl (by decide +kernel) zeroT_len (by first | assumption | exact zeroT_len | exact macL_len _ _) ?_ | refine w_storeTag M _ _ _ _ rfl (by first | exact at0) hx rfl hy (by decide +kernel) (by first | assumption | exact zeroT_len | exact macL_len _ _) (by first | assumption | exact zeroT_len | exact macL_len _ _) ?_ | refine w_storeData M _ _ _ _ rfl (by first | exact at0) hx rfl hy (by decide +kernel) ?_ | refine w_storeNum M _ _ _ _ rfl (by first | exact at0) hx rfl hy (by decide +kernel) ?_); clear hx hy M; intro w1 M; (try simp only [setC] at M)) | ((with_reducible refine tConv _ 45 9 ?_); (first | refine w_stringTag M _ _ _ _ _ rfl rfl (by first | exact at0) rfl (by first | assumption | exact zeroT_len | exact macL_len _ _) Try.underlying45 Try.underlying5 Try.underlying9 ?_)) | ((with_reducible show Seg _ _ _ _); go_must (first | refine Seg.intro ⟨fun h => absurd rfl h, ?_⟩ | refine Seg.intro ⟨fun _ => (by repeat' (first | exact ixOk_nil M.kept | refine ixOk_cons rfl (by first | exact M.ok 0 _ rfl | exact M.ok 1 _ rfl | exact M.ok 2 _ rfl | exact M.ok 3 _ rfl | exact M.ok 4 _ rfl) ?_)), ?_⟩ | refine Seg.intro ⟨(by repeat' (first | (with_reducible exact needs_nil) | refine needs_at rfl (by first | (show Shape.ok Shape.nums _ = true; exact nums_bs _) | rfl) ?_)), (by repeat' (first | (with_reducible exact ats_nil) | refine ats_cons (by first | exact ev_tmp rfl | rfl) ?_)), ?_⟩)) | ((with_reducible show OnlyN _ _ _ _ _); refine OnlyN.intro (by kernel_rfl) ?_) | ((with_reducible refine tGuard ?_); first | refine w_strip rfl (by with_reducible rfl) ?_ | ((fail_if_success (refine w_lit false rfl (by with_reducible rfl) ?_)); (fail_if_success (refine w_lit true rfl (by with_reducible rfl) ?_)); refine w_case rfl ?_ ?_ <;> (intro hgd; rw [hgd]; try (exfalso; simp at hgd; omega)))) | fail | ((with_reducible refine tLoad ?_); go_must (refine w_at _ _ rfl (by exact ev_tmp rfl) ?_; intro hx; (first | refine w_load M _ _ _ rfl (by first | exact at0 | exact at1 | exact at2) hx rfl (by decide +kernel) (by exact rfl) ?_ | refine w_loadR M _ _ _ rfl (by first | exact at0 | exact at1 | exact at2) hx rfl (by decide +kernel) (by kernel_rfl) ?_); clear hx)) | ((with_reducible refine tStore ?_); go_must (refine w_at2 _ _ _ rfl (by exact ev_tmp rfl) (by first | exact ev_tmp rfl | exact ev_const) ?_; intro hx hy; (first | refine w_store M _ _ _ _ rfl (by first | exact at0 | exact at1 | exact at2) hx rfl hy rfl rfl (by decide +kernel) (by first | decide | simp | (simp; omega)) ?_ | refine w_storeR M _ _ _ _ rfl (by first | exact at0 | exact at1 | exact at2) hx rfl _ hy rfl (by kernel_rfl) (by simp [Value.oneCell']) (by first | rfl | assumption) ?_); clear hx hy M; intro w1 M; (try simp only [setC] at M))) | ((with_reducible refine tBox _ ?_); (refine w_box M _ _ rfl rfl _ rfl _ rfl ?_; clear M; intro g w1 M))) <;> (try conv => arg 5; simp only [Act.put, List.setIfInBounds_toArray, setC]))
  refine bodyPost_ret (results_two rfl _ _ gr 0 [.int .i64 k, .int .i64 e, .slice p l.length c, .string (mkS s)] _ (.int .i64 0) rfl rfl (M.ok 2 _ rfl).2.1 Try.underlying53 rfl (by kernel_rfl)) rfl ⟨p, c, rfl, M.pick _ id (fun _ _ _ _ h => h) (fun i x h => by cases i with | zero => simpa using h | succ i => simp at h)⟩
end Go.Proofs.Ytjlkiopncclomaa

/- Plain: under another secret the example's tag is another. No program in this text. No conditions. -/
namespace Go
namespace TL
def exM : List Mt := [([97, 112, 112], true), ([111, 112, 115], false)]
def exD : List UInt8 := sealL (macL [120] aboutT) 1 0 (tokB ⟨3, 1, exM, [115]⟩)
theorem tok_far : (tagL (macL [121] aboutT) 0 1 0 aboutT exD == tagL (macL [120] aboutT) 0 1 0 aboutT exD) = false := by decide +kernel
end TL
end Go

/- Elements of the walk's own slice of structs. No conditions but those each law names. -/
namespace Go
namespace TL
open Go.RowKit
section
variable {α : Type} {P : Program} {ops : Array Oper} {rest : List Oper} {o : Oper} {a : Act} {w w0 : World} {Q : Exit → Act → World → Prop} {F : List Nat} {L : List Chunk} {size : Nat} {f : α → List Value} {l : List α}
theorem own_cell (M : Mem F w0 w L) (i : Nat) (hf : ∀ x, (f x).length = size) {g so n m cap : Nat} (hi : L[i]? = some (.sl size (.slice (some ⟨g, so, none⟩) m cap) n (l.flatMap f))) {k : Nat} {x : α} (hk : l[k]? = some x) {j : Nat} {val : Value} (hv : (f x)[j]? = some val) : w.cell? ⟨g, so + (k * size + j), none⟩ = some val := by
  have hj : j < size := by rw [← hf x]; exact (List.getElem?_eq_some_iff.1 hv).1
  exact M.slCell i hi ((flat_get hf l k x hk j hj).trans hv)
/-- A field of an element of the walk's own slice. -/
theorem w_own (M : Mem F w0 w L) (i : Nat) (hf : ∀ x, (f x).length = size) {g so n m cap : Nat} (hi : L[i]? = some (.sl size (.slice (some ⟨g, so, none⟩) m cap) n (l.flatMap f))) {k : Nat} {x : α} (hk : l[k]? = some x) (t : TypeId) (op : Operand) (ho : o.op = .load t op) {off : Nat} (hx : a.eval op = .pointer (some ⟨g, off, none⟩)) (hw : Region.wanted o (yielded ops a.tmps) = true)
    (ht : scalarT P t = true) (j : Nat) (hoff : off = so + (k * size + j)) {val : Value} (hv : (f x)[j]? = some val) (h : wpList P ops Q rest (a.put o.dst val) w) : wpList P ops Q (o :: rest) a w :=
  wpW hw fun _ hK => by
    subst hoff
    unfold Oper.wp execOp
    simp only [ho, hx, Instr.loadAt, Instr.sureAddr, Sem.run_bind, Sem.run_pure, Result.andThen_ok, run_loadVar_scalar ht w g _ val (own_cell M i hf hi hk hv)]
    exact hK _ _ h
/-- A whole element of it. -/
theorem w_ownA (M : Mem F w0 w L) (i : Nat) (hf : ∀ x, (f x).length = size) {g so n m cap : Nat} (hi : L[i]? = some (.sl size (.slice (some ⟨g, so, none⟩) m cap) n (l.flatMap f))) {k : Nat} {x : α} (hk : l[k]? = some x) (t : TypeId) (op : Operand) (ho : o.op = .load t op) {off : Nat} (hx : a.eval op = .pointer (some ⟨g, off, none⟩)) (hw : Region.wanted o (yielded ops a.tmps) = true)
    (ht : rowT P t = true) (hoff : off = so + k * size) (hn : (P.info? t).map (·.size) = some (f x).length) (h : wpList P ops Q rest (a.put o.dst (.agg (f x).toArray)) w) : wpList P ops Q (o :: rest) a w :=
  wpW hw fun _ hK => by
    subst hoff
    unfold rowT at ht
    cases hu : P.underlying t with
    | none => simp [hu] at ht
    | some d =>
      simp only [hu] at ht
      refine wp_load_mid t op ho g _ hx (f x) d ?_ hu ht hn (hK _ _ h)
      intro j val hv
      rw [Nat.add_assoc]
      exact own_cell M i hf hi hk hv
/-- A whole element of it, as a region's load that may come at any time. -/
theorem stab_ownA (M : Mem F w0 w L) {is : List Nat} (i : Nat) (hf : ∀ x, (f x).length = size) {g so n m cap : Nat} (hi : L[i]? = some (.sl size (.slice (some ⟨g, so, none⟩) m cap) n (l.flatMap f))) (hin : i ∈ is) {k : Nat} {x : α} (hk : l[k]? = some x) {t : TypeId} {op : Operand} (ho : o.op = .load t op) (ht : rowT P t = true) (hn : (P.info? t).map (·.size) = some (f x).length) :
    Stab P (IxOk M is) o (.pointer (some ⟨g, so + k * size, none⟩)) := by
  unfold rowT at ht
  cases hu : P.underlying t with
  | none => simp [hu] at ht
  | some d =>
    simp only [hu] at ht
    refine stab_load ho g _ (f x) d (fun w' hw j val hv => ?_) hu ht hn
    have hj : j < size := by rw [← hf x]; exact (List.getElem?_eq_some_iff.1 hv).1
    have hc := (flat_get hf l k x hk j hj).trans hv
    rw [Nat.add_assoc]
    rcases (hw.2 i hin _ hi).2 with ⟨h0, _⟩ | ⟨g', o', c, hv', _, _, _, _, hr, _⟩
    · cases h0
    · injection hv' with h1 _ _; injection h1 with h1; injection h1 with h1 h2; subst h1; subst h2; exact hr _ val hc
end
end TL
end Go
