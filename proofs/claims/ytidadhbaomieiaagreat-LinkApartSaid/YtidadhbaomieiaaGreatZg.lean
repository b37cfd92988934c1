/- Texts of this seat, put together: RingD, SealD, RingE, RingG, LinkL0, LinkA, MsgV, MsgY, MsgX, MsgA0, MsgG0, LinkL, LinkB, LinkC. Each begins with a remark that says what is proved in it, and under which conditions. -/
import Derived.Test.YtidadhbaomieiaaGreatZc
import Derived.Test.YtidadhbaomieiaaGreatZd
import Derived.Test.YtidadhbaomieiaaGreatZe
import Derived.Test.YtidadhbaomieiaaGreatZf
/- The walk of a ring's Wrap. Conditions: lengths, and the bounds of its numbers. -/
namespace Go.Proofs.YtidadhbaomieiaaGreat
open Go.RowKit Go.TL
section
variable {g : Nat} {R : RingS} {c : Chunk} {w : World}
theorem count_up {gm : Nat} (RR : (Chunk.row g (ringC R gm)).ok w) : Calls Tryz.prog 42 #[.pointer (some ⟨g, 3, none⟩), .int .u64 1] w fun e w' => e = .returned (.int .u64 (I64 (R.n + 1))) ∧ Upd w (.row g (ringC R gm)) w' (.row g (ringC { R with n := R.n + 1 } gm)) :=
  (u64Add_c ⟨g, 3, none⟩ R.n w (rowCell RR rfl) (by have := RR.2.2 3 (by simp); rw [Nat.zero_add] at this; exact this.2)).mono fun _ _ h => ⟨h.1, by rw [h.2]; exact upd_setCell RR (by simp) _⟩
set_option maxRecDepth 100000 in
set_option maxHeartbeats 4000000 in
theorem Wrap_ok (about text : List UInt8) (h : c.ok w) (I : IsRing g R c) (hm : R.m.length ≤ 1000000) (hc : R.c ≤ 1048576) (hn : R.n.toNat < 9223372036854775808) (hx : text.length ≤ 8192) (ha : about.length ≤ 100000) :
    Calls Tryz.prog 14 #[.pointer (some ⟨g, 0, none⟩), .string (mkS about), .string (mkS text)] w fun e w' => e = .returned (.tuple #[.string (mkS (envB (R.env about text))), .int .i64 0]) ∧ ∃ c', IsRing g { R with n := R.n + 1 } c' ∧ Upd w c w' c' := by
  obtain ⟨gm, K, IK, rfl⟩ := I
  obtain ⟨m, cc, bb, n⟩ := R
  simp only at hm hc hn IK ⊢
  have M : Mem (grp [.row g (ringC ⟨m, cc, bb, n⟩ gm), K]).fp w w [.row g (ringC ⟨m, cc, bb, n⟩ gm), K] := Mem.startG h
  have N0 : ∀ w' K' x, IsKeys m gm K' → Mem (grp [.row g (ringC ⟨m, cc, bb, n⟩ gm), K]).fp w w' [x, .row g (ringC ⟨m, cc, bb, n + 1⟩ gm), K'] → ∃ c', IsRing g ⟨m, cc, bb, n + 1⟩ c' ∧ Upd w (grp [.row g (ringC ⟨m, cc, bb, n⟩ gm), K]) w' c' := fun w' K' x IK' M => ⟨_, ⟨gm, K', IK', rfl⟩, M.tail.updG [] rfl⟩
  obtain ⟨F, eF⟩ : ∃ F, F = (grp [.row g (ringC ⟨m, cc, bb, n⟩ gm), K]).fp := ⟨_, rfl⟩
  rw [← eF] at M N0
  have hk : (ringK m cc).length = 32 := ringK_len _ _
  have CC := fun w => Close_ok (ringK m cc) cc bb n about text w hk hc hx ha
  have hB : headL cc bb n ++ (textL (sealL (ringK m cc) bb n text) ++ tagL (ringK m cc) cc bb n about (sealL (ringK m cc) bb n text)) = envB (RingS.env ⟨m, cc, bb, n⟩ about text) := RingS.env_bytes ⟨m, cc, bb, n⟩ about text
  have BC := fun w => SealBytes_ok cc bb n (sealL (ringK m cc) bb n text) (tagL (ringK m cc) cc bb n about (sealL (ringK m cc) bb n text)) w (macL_len _ _) (by unfold rightE; simp [sealL, streamL_len]; omega)
  rw [hB] at BC
  have ht : (tagL (ringK m cc) cc bb n about (sealL (ringK m cc) bb n text)).length = 32 := macL_len _ _
  obtain ⟨B, eB⟩ : ∃ B, B = envB (RingS.env ⟨m, cc, bb, n⟩ about text) := ⟨_, rfl⟩
  rw [← eB] at BC ⊢
  obtain ⟨d, ed⟩ : ∃ d, d = sealL (ringK m cc) bb n text := ⟨_, rfl⟩
  rw [← ed] at CC BC ht
  obtain ⟨t, et⟩ : ∃ t, t = tagL (ringK m cc) cc bb n about d := ⟨_, rfl⟩
  rw [← et] at CC BC ht
  have KC := fun (w : World) RR nR hK => ringkey_c ⟨m, cc, bb, n⟩ g gm K cc w hm RR nR hK IK
  rw [show ringU m (w64 (cc : Int)) = ringK m cc from rfl] at KC
  obtain ⟨kk, ek⟩ : ∃ k, k = ringK m cc := ⟨_, rfl⟩
  rw [← ek] at CC KC hk
  have M : Mem F w w [.row g [.string (mkS m), .int .i64 cc, .int .u32 (I32 bb), .int .u64 (I64 n), .map (some gm)], K] := M
  have NN : ∀ w1, (Chunk.row g [.string (mkS m), .int .i64 cc, .int .u32 (I32 bb), .int .u64 (I64 n), .map (some gm)]).ok w1 → _ := fun w1 RR => ringNone_no (R := ⟨m, cc, bb, n⟩) RR
  have CU : ∀ w1, (Chunk.row g [.string (mkS m), .int .i64 cc, .int .u32 (I32 bb), .int .u64 (I64 n), .map (some gm)]).ok w1 → _ := fun w1 RR => count_up (R := ⟨m, cc, bb, n⟩) RR
  have LU : ∀ w1, (Chunk.row g [.string (mkS m), .int .i64 cc, .int .u32 (I32 bb), .int .u64 (I64 n), .map (some gm)]).ok w1 → _ := fun w1 RR => u64Load_c ⟨g, 3, none⟩ (I64 n) w1 (rowCell RR rfl)
  have hn' : I64 n < 9223372036854775808 := by rw [I64_eq]; omega
  unfold ringC at KC CU
  simp only at KC CU
  obtain ⟨nn, en⟩ : ∃ nn, nn = I64 n := ⟨_, rfl⟩
  rw [← en] at hn' M NN CU LU KC CC
  replace NN := Lib.hid NN
  replace CU := Lib.hid CU
  replace LU := Lib.hid LU
  replace KC := Lib.hid KC
  replace CC := Lib.hid CC
  replace BC := Lib.hid BC
  replace N0 := Lib.hid N0
  clear eF eB ed et ek hB h hn hc en
  go_enter Tryz.func14, Tryz.ntmps14
  go_wp2_with ((first | ((with_reducible refine tGuard ?_); (with_reducible refine w_stripE ?_ ?_); (focus (refine ⟨_, rfl, ?_⟩; first | (with_reducible rfl) | exact decide_eq_false (by omega) | exact decide_eq_true (by omega)))) | ((with_reducible refine tGuard ?_); first | ((with_reducible refine w_skip1 ?_ ?_); (focus (refine ⟨_, rfl, ?_⟩; first | (with_reducible rfl) | exact decide_eq_false (by omega) | exact decide_eq_true (by omega)))) | ((with_reducible refine w_skip0 ?_ ?_); (focus (refine ⟨_, rfl, ?_⟩; first | (with_reducible rfl) | exact decide_eq_false (by omega) | exact decide_eq_true (by omega))))) | (go_at_call 37; go_must (refine (NN.out _ (M.ok 0 _ rfl)).mono ?_; rintro e w1 ⟨rfl, rfl⟩)) | (go_at_call 38; go_must (refine (LU.out _ (M.ok 0 _ rfl)).mono ?_; rintro e w1 ⟨rfl, rfl⟩)) | ((with_reducible show Code.wp _ (Code.region 6 _ _) _ _ _); go_must (have MR := M; refine region_fork (.rd 0 (.rd 1 (.rd 2 (.rd 3 (.rd 6 (.rd 7 (.rd 8 (.rd 10 (.rd 11 (.rd 12 (.rd 14 (.rd 15 (.rd 16 (.rd 4 (.rd 9 (.rd 13 (.alt 5 (.alt 17 (.rd 18 (.rd 19 (.rd 20 (.wr 21 (.wr 22 (.rd 23 .nil)))))) (.wr 21 (.wr 17 (.rd 18 (.rd 19 (.rd 20 (.wr 22 (.rd 23 .nil)))))))) (.wr 21 (.wr 5 (.wr 17 (.rd 18 (.rd 19 (.rd 20 (.wr 22 (.rd 23 .nil))))))))))))))))))))))))) [(22, .ptr), (27, .ptr), (31, .ptr)] [(4, _), (9, _), (13, _)] (IxOk MR [0]) 24 (by kernel_rfl) (by kernel_rfl) rfl (by kernel_rfl) (lowA MR 0 1 (lowA MR 0 1 (lowA MR 0 2 lows_nil))) (ixOk_self MR _) ?_; replace M := M.drew; simp only [planT, opAt, List.getElem?_toArray, List.getElem?_cons_zero, List.getElem?_cons_succ, Option.getD_some])) | (go_at_call 40; go_must (first | (with_reducible refine (KC.out _ (M.ok 0 _ at0) (M.nd 0 1 _ _ (by decide) at0 at1 g (by simp [Chunk.fp])) (M.ok 1 _ at1)).mono ?_; rintro e w1 ⟨rfl, K1, IK1, U⟩; replace M := M.upd 1 rfl U) | (with_reducible refine (KC.out _ (M.ok 1 _ at1) (M.nd 1 2 _ _ (by decide) at1 at2 g (by simp [Chunk.fp])) (M.ok 2 _ at2)).mono ?_; rintro e w1 ⟨rfl, K1, IK1, U⟩; replace M := M.upd 2 rfl U)); clear U; simp only [setC] at M) | (go_at_call 39; go_must (refine (CC.out _).mono ?_; rintro e w1 ⟨rfl, hb⟩; replace M := M.call hb; clear hb)) | (go_at_call 41; go_must (refine (BC.out _).mono ?_; rintro e w1 ⟨rfl, hb⟩; replace M := M.call hb; clear hb)) | ((with_reducible refine tAlloc (some 9) 75 ?_); refine w_alloc M _ rfl rfl (.agg (envC 0 0 0 [] zeroT).toArray) (envC 0 0 0 [] zeroT) (by kernel_rfl) rfl ?_; clear M; intro gx w1 M) | (go_at_call 42; go_must (refine (CU.out _ (M.ok 1 _ rfl)).mono ?_; rintro e w1 ⟨rfl, U⟩; replace M := M.upd 1 rfl U; clear U; simp only [setC] at M)) | ((with_reducible refine tLoad ?_); refine w_at _ _ rfl (by exact ev_tmp rfl) ?_; intro hx; (first | refine w_loadE M _ _ _ rfl (by first | exact at0) hx rfl (by decide +kernel) (by decide +kernel) (by first | assumption | exact zeroT_len | exact macL_len _ _) ?_ | refine w_loadTag M _ _ _ rfl (by first | exact at0) hx rfl (by decide +kernel) (by decide +kernel) (by first | assumption | exact zeroT_len | exact macL_len _ _) ?_); clear hx) | ((with_reducible refine tStore ?_); refine w_at2 _ _ _ rfl (by first | exact ev_tmp rfl | exact ev_const) (by first | exact ev_tmp rfl | exact ev_const) ?_; intro hx hy; (first | refine w_storeE M _ _ _ _ rfl (by first | exact at0) hx rfl hy rfl (by decide +kernel) (by first | assumption | exact zeroT_len | exact macL_len _ _) (by first | assumption | exact zeroT_len | exact macL_len _ _) ?_ | refine w_storeE (k := 0) (b := 0) (n := 0) (d := []) (tg := zeroT) M _ _ _ _ rfl (by first | exact at0) hx rfl hy rfl (by decide +kernel) zeroT_len (by first | assumption | exact zeroT_len | exact macL_len _ _) ?_ | refine w_storeE (tg := zeroT) M _ _ _ _ rfl (by first | exact at0) hx rfl hy rfl (by decide +kernel) zeroT_len (by first | assumption | exact zeroT_len | exact macL_len _ _) ?_ | refine w_storeTag M _ _ _ _ rfl (by first | exact at0) hx rfl hy (by decide +kernel) (by first | assumption | exact zeroT_len | exact macL_len _ _) (by first | assumption | exact zeroT_len | exact macL_len _ _) ?_ | refine w_storeData M _ _ _ _ rfl (by first | exact at0) hx rfl hy (by decide +kernel) ?_ | refine w_storeNum M _ _ _ _ rfl (by first | exact at0) hx rfl hy (by decide +kernel) ?_); clear hx hy M; intro w1 M; (try simp only [setC] at M)) | ((with_reducible refine tConv _ 70 9 ?_); (first | refine w_stringTag M _ _ _ _ _ rfl rfl (by first | exact at0) rfl (by first | assumption | exact zeroT_len | exact macL_len _ _) Tryz.underlying70 Tryz.underlying5 Tryz.underlying9 ?_)) | (with_reducible refine Seg.alt ?_ ?_) | ((with_reducible show Seg _ _ _ _); go_must (first | refine Seg.intro ⟨fun h => absurd rfl h, ?_⟩ | refine Seg.intro ⟨fun _ => ixA, ?_⟩ | refine Seg.intro ⟨ndA, atA, ?_⟩)) | ((with_reducible show OnlyN _ _ _ _ _); refine OnlyN.intro (by kernel_rfl) ?_) | ((with_reducible refine tGuard ?_); first | refine gdS ?_ | (refine gdC ?_ ?_ <;> (intro hgd; rw [hgd]; try (exfalso; simp at hgd; omega)))) | fail | ((with_reducible refine tLoad ?_); go_must (refine ldS ?_)) | ((with_reducible refine tStore ?_); go_must (refine stS ?_; clear M; intro w1 M; (try simp only [setC] at M))) | ((with_reducible refine tBox _ ?_); (refine bxA M ?_; clear M; intro g w1 M))) <;> (try conv => arg 5; simp only [Act.put, List.setIfInBounds_toArray, setC]))
  all_goals
    go_ret2
    exact ⟨rfl, N0.out _ _ _ IK1 M⟩
end
end Go.Proofs.YtidadhbaomieiaaGreat

/- The walk of seal.Read. Conditions: lengths. -/
namespace Go.Proofs.YtidadhbaomieiaaGreat
open Go.RowKit Go.TL
set_option maxRecDepth 100000 in
set_option maxHeartbeats 4000000 in
theorem sealRead_c (s : List UInt8) (w : World) (hs : s.length ≤ 1000000) :
    Calls Tryz.prog 30 #[.string (mkS s)] w fun e w' => e = .returned (.tuple #[.agg (envC (readS s).1.k (readS s).1.b (readS s).1.n (readS s).1.d (readS s).1.t).toArray, .int .i64 (readS s).2]) ∧ Below w.heap.size w w' := by
  have M := Mem.start [] w
  have f0 : (InS.mk s 0 0).fit := by unfold InS.fit; simp only; omega
  have f1 := InS.most_fit f0 1048576
  have f2 := InS.most_fit f1 4294967295
  have f3 := InS.most_fit f2 maxU
  have f4 := InS.text_fit f3 8192
  have hcm := InS.most_le ((InS.mk s 0 0).most 1048576 |>.2 |>.most 4294967295 |>.2) maxU
  have Q1 := fun g (w : World) h => Most_c g (InS.mk s 0 0) w h f0 1048576 1048576 rfl (by omega)
  have Q2 := fun g (w : World) h => Most_c g _ w h f1 4294967295 4294967295 rfl (by omega)
  have Q3 := fun g (w : World) h => In_Num_c g _ w h f2
  have Q4 := fun g (w : World) h => In_Text_c g _ w h f3 8192 8192 rfl (by omega)
  obtain ⟨⟨a, x1⟩, e1⟩ : ∃ R, R = (InS.mk s 0 0).most 1048576 := ⟨_, rfl⟩
  rw [← e1] at f1 f2 f3 f4 hcm Q1 Q2 Q3 Q4
  simp only at f1 f2 f3 f4 hcm Q1 Q2 Q3 Q4
  obtain ⟨⟨b, x2⟩, e2⟩ : ∃ R, R = x1.most 4294967295 := ⟨_, rfl⟩
  rw [← e2] at f2 f3 f4 hcm Q2 Q3 Q4
  simp only at f2 f3 f4 hcm Q2 Q3 Q4
  obtain ⟨⟨c, x3⟩, e3⟩ : ∃ R, R = x2.most maxU := ⟨_, rfl⟩
  rw [← e3] at f3 f4 hcm Q3 Q4
  simp only at f3 f4 hcm Q3 Q4
  obtain ⟨⟨d, x4⟩, e4⟩ : ∃ R, R = x3.text 8192 := ⟨_, rfl⟩
  rw [← e4] at f4 Q4
  simp only at f4 Q4
  have en : numsS s = ⟨a, b, c, d, x4⟩ := by unfold numsS; simp only [← e1, ← e2, ← e3, ← e4]
  rw [maxU_eq] at hcm
  have ec : (c : Int) = I64 (UInt64.ofNat c) := by rw [I64_eq, UInt64.toNat_ofNat', Nat.mod_eq_of_lt (by omega)]
  rw [ec] at Q3
  obtain ⟨nn, enn⟩ : ∃ x, x = UInt64.ofNat c := ⟨_, rfl⟩
  rw [← enn] at Q3
  obtain ⟨bb, ebb⟩ : ∃ x, x = UInt32.ofNat b := ⟨_, rfl⟩
  have hbb : w32 (b : Int) = bb := by rw [ebb]; exact w32_nat b
  have TF := fun n => tagS_fit f4 n
  have er : ∀ (x5 : InS) (t : List UInt8), (x5, t) = tagS x4 32 → readS s = if x5.fin = 0 then (⟨a, bb, nn, d, t⟩, 0) else (zeroE, x5.fin) := fun x5 t h => by unfold readS; simp only [en, ← h, ← enn, ← ebb]
  replace Q1 := Lib.hid Q1
  replace Q2 := Lib.hid Q2
  replace Q3 := Lib.hid Q3
  replace Q4 := Lib.hid Q4
  replace er := Lib.hid er
  replace TF := Lib.hid TF
  clear e1 e2 e3 e4 en ec enn ebb hcm f0 f1 f2 f3 f4
  go_enter Tryz.func30, Tryz.ntmps30
  go_wp2_with ((first | ((with_reducible refine tAlloc (some 2) 75 ?_); refine w_alloc M _ rfl rfl (.agg (envC 0 0 0 [] zeroT).toArray) (envC 0 0 0 [] zeroT) (by kernel_rfl) rfl ?_; clear M; intro gr w1 M) | ((with_reducible refine tAlloc (some 5) 75 ?_); refine w_alloc M _ rfl rfl (.agg (envC 0 0 0 [] zeroT).toArray) (envC 0 0 0 [] zeroT) (by kernel_rfl) rfl ?_; clear M; intro gx w1 M) | (go_at_call 57; go_must (refine (packOf_c s _).mono ?_; rintro e w1 ⟨gi, rfl, MP⟩; replace M := M.join MP; clear MP; simp only [List.cons_append, List.nil_append] at M)) | (go_at_call 58; go_must ((first | (with_reducible refine (Q1.out _ _ (M.ok 0 _ rfl)).mono ?_) | (with_reducible refine (Q2.out _ _ (M.ok 0 _ rfl)).mono ?_)); rintro e w1 ⟨rfl, U⟩; replace M := M.upd 0 rfl U; clear U; simp only [List.set_cons_zero] at M)) | (go_at_call 59; go_must (refine (Q3.out _ _ (M.ok 0 _ rfl)).mono ?_; rintro e w1 ⟨rfl, U⟩; replace M := M.upd 0 rfl U; clear U; simp only [List.set_cons_zero] at M)) | (go_at_call 60; go_must (refine (Q4.out _ _ (M.ok 0 _ rfl)).mono ?_; rintro e w1 ⟨rfl, U⟩; replace M := M.upd 0 rfl U; clear U; simp only [List.set_cons_zero] at M)) | ((with_reducible refine tLoad ?_); refine w_at _ _ rfl (by exact ev_tmp rfl) ?_; intro hx; (first | refine w_loadE M _ _ _ rfl (by first | exact at0) hx rfl (by decide +kernel) (by decide +kernel) (by first | assumption | exact zeroT_len | exact macL_len _ _) ?_ | refine w_loadTag M _ _ _ rfl (by first | exact at0) hx rfl (by decide +kernel) (by decide +kernel) (by first | assumption | exact zeroT_len | exact macL_len _ _) ?_); clear hx) | ((with_reducible refine tStore ?_); refine w_at2 _ _ _ rfl (by first | exact ev_tmp rfl | exact ev_const) (by first | exact ev_tmp rfl | exact ev_const) ?_; intro hx hy; (first | refine w_storeE M _ _ _ _ rfl (by first | exact at0) hx rfl hy rfl (by decide +kernel) (by first | assumption | exact zeroT_len | exact macL_len _ _) (by first | assumption | exact zeroT_len | exact macL_len _ _) ?_ | refine w_storeE (k := 0) (b := 0) (n := 0) (d := []) (tg := zeroT) M _ _ _ _ rfl (by first | exact at0) hx rfl hy rfl (by decide +kernel) zeroT_len (by first | assumption | exact zeroT_len | exact macL_len _ _) ?_ | refine w_storeE (tg := zeroT) M _ _ _ _ rfl (by first | exact at0) hx rfl hy rfl (by decide +kernel) zeroT_len (by first | assumption | exact zeroT_len | exact macL_len _ _) ?_ | refine w_storeTag M _ _ _ _ rfl (by first | exact at0) hx rfl hy (by decide +kernel) (by first | assumption | exact zeroT_len | exact macL_len _ _) (by first | assumption | exact zeroT_len | exact macL_len _ _) ?_ | refine w_storeData M _ _ _ _ rfl (by first | exact at0) hx rfl hy (by decide +kernel) ?_ | refine w_storeNum M _ _ _ _ rfl (by first | exact at0) hx rfl hy (by decide +kernel) ?_); clear hx hy M; intro w1 M; (try simp only [setC] at M)) | ((with_reducible refine tConv _ 70 9 ?_); (first | refine w_stringTag M _ _ _ _ _ rfl rfl (by first | exact at0) rfl (by first | assumption | exact zeroT_len | exact macL_len _ _) Tryz.underlying70 Tryz.underlying5 Tryz.underlying9 ?_)) | ((with_reducible refine tGuard ?_); first | refine gdS ?_ | (refine gdC ?_ ?_ <;> (intro hgd; rw [hgd]; try (exfalso; simp at hgd; omega)))) | ((with_reducible refine tConv _ 70 9 ?_); go_must (refine cvB ?_)) | ((with_reducible refine tLoad ?_); go_must (refine ldB ?_)) | ((with_reducible refine tStore ?_); go_must (refine stB ?_; clear M; intro w1 M; (try simp only [setC] at M))) | ((with_reducible refine tBox _ ?_); (refine bxA M ?_; clear M; intro g w1 M))) <;> (try conv => arg 5; simp only [Act.put, List.setIfInBounds_toArray, setC]))
  go_loopw [20] (fun kv wr => ∃ j : Nat, j ≤ 32 ∧ kv = .int .i64 j ∧ Mem [] w wr [.row gx (envC a bb nn d (tagS x4 j).2), .row gi (inV (tagS x4 j).1), .row gr (envC 0 0 0 [] zeroT)]) (fun kv _ => 32 - (intOf kv).toNat)
  case atStart => exact ⟨0, by omega, rfl, M⟩
  case round =>
    clear M
    obtain ⟨j, hj, rfl, M⟩ := hrel
    have fy := TF.out j
    have tl := tagS_len x4 j
    have TS := tagS_succ x4 j
    have ER := er.out (tagS x4 j).1 (tagS x4 j).2
    obtain ⟨⟨y, t⟩, ey⟩ : ∃ R, R = tagS x4 j := ⟨_, rfl⟩
    rw [← ey] at M fy tl TS ER
    simp only at M fy tl TS ER
    have EY := Lib.hid fun _ : Unit => ey
    clear ey
    by_cases hlt : j < 32
    · obtain ⟨q, hq⟩ := byte_has y
      have BC := fun (w : World) h => In_Byte_c gi y w h fy
      rw [hq, UInt8.ofNat_toNat] at TS
      rw [hq, show ((q.toNat : Nat) : Int) = I8 q from rfl] at BC
      obtain ⟨z, ez⟩ : ∃ z, z = y.byte.2 := ⟨_, rfl⟩
      rw [← ez] at TS BC
      replace BC := Lib.hid BC
      replace TS := Lib.hid fun _ : Unit => TS
      clear ez hq ER
      go_wp2_with ((first | (go_at_call 61; go_must (refine (BC.out _ (M.ok 1 _ rfl)).mono ?_; rintro e w1 ⟨rfl, U⟩; replace M := M.upd 1 rfl U; clear U; simp only [List.set_cons_succ, List.set_cons_zero] at M)) | ((with_reducible show wpList _ _ _ (Oper.mk _ (Op.store _ _ _) _ _ _ _ :: _) _ _); refine w_at2 _ _ _ rfl (by first | exact ev_tmp rfl | exact ev_const) (by first | exact ev_tmp rfl | exact ev_const) ?_; intro hx hy; refine w_storeTagB M 0 _ _ _ rfl rfl hx rfl hy (by decide +kernel) j (by first | rfl | omega) (by omega) ?_; clear hx hy M; intro w1 M; simp only [List.set_cons_zero] at M) | ((with_reducible refine tGuard ?_); first | refine gdS ?_ | (refine gdC ?_ ?_ <;> (intro hgd; rw [hgd]; try (exfalso; simp at hgd; omega)))) | ((with_reducible refine tConv _ 70 9 ?_); go_must (refine cvB ?_)) | ((with_reducible refine tLoad ?_); go_must (refine ldB ?_)) | ((with_reducible refine tStore ?_); go_must (refine stB ?_; clear M; intro w1 M; (try simp only [setC] at M))) | ((with_reducible refine tBox _ ?_); (refine bxA M ?_; clear M; intro g w1 M))) <;> (try conv => arg 5; simp only [Act.put, List.setIfInBounds_toArray, setC]))
      go_roundw
      case rel => exact ⟨j + 1, by omega, by go_num, by rw [TS.out ()]; exact M⟩
      case measure => simp [intOf]; omega
    · obtain rfl : j = 32 := by omega
      replace ER := ER (EY.out ())
      have EC := fun (w : World) h => End_c gi y w h fy
      by_cases hf : y.fin = 0
      · rw [if_pos hf] at ER
        rw [hf] at EC
        replace EC := Lib.hid EC
        replace ER := Lib.hid fun _ : Unit => ER
        clear hf
        go_wp2_with ((first | (go_at_call 62; go_must (refine (EC.out _ (M.ok 1 _ rfl)).mono ?_; rintro e w1 ⟨rfl, hb⟩; replace M := M.call hb; clear hb)) | ((with_reducible refine tLoad ?_); refine w_at _ _ rfl (by exact ev_tmp rfl) ?_; intro hx; (first | refine w_loadE M _ _ _ rfl (by first | exact at0 | exact at2) hx rfl (by decide +kernel) (by decide +kernel) (by first | assumption | exact zeroT_len | exact macL_len _ _) ?_ | refine w_loadTag M _ _ _ rfl (by first | exact at0 | exact at2) hx rfl (by decide +kernel) (by decide +kernel) (by first | assumption | exact zeroT_len | exact macL_len _ _) ?_); clear hx) | ((with_reducible refine tStore ?_); refine w_at2 _ _ _ rfl (by first | exact ev_tmp rfl | exact ev_const) (by first | exact ev_tmp rfl | exact ev_const) ?_; intro hx hy; (first | refine w_storeE M _ _ _ _ rfl (by first | exact at0 | exact at2) hx rfl hy rfl (by decide +kernel) (by first | assumption | exact zeroT_len | exact macL_len _ _) (by first | assumption | exact zeroT_len | exact macL_len _ _) ?_ | refine w_storeE (k := 0) (b := 0) (n := 0) (d := []) (tg := zeroT) M _ _ _ _ rfl (by first | exact at0 | exact at2) hx rfl hy rfl (by decide +kernel) zeroT_len (by first | assumption | exact zeroT_len | exact macL_len _ _) ?_ | refine w_storeE (tg := zeroT) M _ _ _ _ rfl (by first | exact at0 | exact at2) hx rfl hy rfl (by decide +kernel) zeroT_len (by first | assumption | exact zeroT_len | exact macL_len _ _) ?_ | refine w_storeTag M _ _ _ _ rfl (by first | exact at0 | exact at2) hx rfl hy (by decide +kernel) (by first | assumption | exact zeroT_len | exact macL_len _ _) (by first | assumption | exact zeroT_len | exact macL_len _ _) ?_ | refine w_storeData M _ _ _ _ rfl (by first | exact at0 | exact at2) hx rfl hy (by decide +kernel) ?_ | refine w_storeNum M _ _ _ _ rfl (by first | exact at0 | exact at2) hx rfl hy (by decide +kernel) ?_); clear hx hy M; intro w1 M; (try simp only [setC] at M)) | ((with_reducible refine tConv _ 70 9 ?_); (first | refine w_stringTag M _ _ _ _ _ rfl rfl (by first | exact at0 | exact at2) rfl (by first | assumption | exact zeroT_len | exact macL_len _ _) Tryz.underlying70 Tryz.underlying5 Tryz.underlying9 ?_)) | ((with_reducible refine tGuard ?_); first | refine gdS ?_ | (refine gdC ?_ ?_ <;> (intro hgd; rw [hgd]; try (exfalso; simp at hgd; omega)))) | ((with_reducible refine tConv _ 70 9 ?_); go_must (refine cvB ?_)) | ((with_reducible refine tLoad ?_); go_must (refine ldB ?_)) | ((with_reducible refine tStore ?_); go_must (refine stB ?_; clear M; intro w1 M; (try simp only [setC] at M))) | ((with_reducible refine tBox _ ?_); (refine bxA M ?_; clear M; intro g w1 M))) <;> (try conv => arg 5; simp only [Act.put, List.setIfInBounds_toArray, setC]))
        exact bodyPost_ret (results_two rfl _ _ gr 0 (envC a bb nn d t) _ (.int .i64 0) rfl rfl (M.ok 2 _ rfl).2.1 Tryz.underlying75 rfl (by rw [envC_len, tl]; kernel_rfl)) rfl ⟨by rw [ER.out ()]; rfl, M.below⟩
      · rw [if_neg hf] at ER
        obtain ⟨m, em⟩ : ∃ m, m = y.fin := ⟨_, rfl⟩
        rw [← em] at EC hf ER
        replace ER := Lib.hid fun _ : Unit => ER
        have hz : ((m : Int) == 0) = false := by simp; exact hf
        have hz' : ((m : Int) != 0) = true := by simp; exact hf
        replace EC := Lib.hid EC
        clear hf em
        go_wp2_with ((first | (go_at_call 62; go_must (refine (EC.out _ (M.ok 1 _ rfl)).mono ?_; rintro e w1 ⟨rfl, hb⟩; replace M := M.call hb; clear hb)) | ((with_reducible refine tLoad ?_); refine w_at _ _ rfl (by exact ev_tmp rfl) ?_; intro hx; (first | refine w_loadE M _ _ _ rfl (by first | exact at0 | exact at2) hx rfl (by decide +kernel) (by decide +kernel) (by first | assumption | exact zeroT_len | exact macL_len _ _) ?_ | refine w_loadTag M _ _ _ rfl (by first | exact at0 | exact at2) hx rfl (by decide +kernel) (by decide +kernel) (by first | assumption | exact zeroT_len | exact macL_len _ _) ?_); clear hx) | ((with_reducible refine tStore ?_); refine w_at2 _ _ _ rfl (by first | exact ev_tmp rfl | exact ev_const) (by first | exact ev_tmp rfl | exact ev_const) ?_; intro hx hy; (first | refine w_storeE M _ _ _ _ rfl (by first | exact at0 | exact at2) hx rfl hy rfl (by decide +kernel) (by first | assumption | exact zeroT_len | exact macL_len _ _) (by first | assumption | exact zeroT_len | exact macL_len _ _) ?_ | refine w_storeE (k := 0) (b := 0) (n := 0) (d := []) (tg := zeroT) M _ _ _ _ rfl (by first | exact at0 | exact at2) hx rfl hy rfl (by decide +kernel) zeroT_len (by first | assumption | exact zeroT_len | exact macL_len _ _) ?_ | refine w_storeE (tg := zeroT) M _ _ _ _ rfl (by first | exact at0 | exact at2) hx rfl hy rfl (by decide +kernel) zeroT_len (by first | assumption | exact zeroT_len | exact macL_len _ _) ?_ | refine w_storeTag M _ _ _ _ rfl (by first | exact at0 | exact at2) hx rfl hy (by decide +kernel) (by first | assumption | exact zeroT_len | exact macL_len _ _) (by first | assumption | exact zeroT_len | exact macL_len _ _) ?_ | refine w_storeData M _ _ _ _ rfl (by first | exact at0 | exact at2) hx rfl hy (by decide +kernel) ?_ | refine w_storeNum M _ _ _ _ rfl (by first | exact at0 | exact at2) hx rfl hy (by decide +kernel) ?_); clear hx hy M; intro w1 M; (try simp only [setC] at M)) | ((with_reducible refine tConv _ 70 9 ?_); (first | refine w_stringTag M _ _ _ _ _ rfl rfl (by first | exact at0 | exact at2) rfl (by first | assumption | exact zeroT_len | exact macL_len _ _) Tryz.underlying70 Tryz.underlying5 Tryz.underlying9 ?_)) | ((with_reducible refine tGuard ?_); first | refine gdS ?_ | (refine gdC ?_ ?_ <;> (intro hgd; rw [hgd]; try (exfalso; simp at hgd; omega)))) | ((with_reducible refine tConv _ 70 9 ?_); go_must (refine cvB ?_)) | ((with_reducible refine tLoad ?_); go_must (refine ldB ?_)) | ((with_reducible refine tStore ?_); go_must (refine stB ?_; clear M; intro w1 M; (try simp only [setC] at M))) | ((with_reducible refine tBox _ ?_); (refine bxA M ?_; clear M; intro g w1 M))) <;> (try conv => arg 5; simp only [Act.put, List.setIfInBounds_toArray, setC]))
        exact bodyPost_ret (results_two rfl _ _ gr 0 (envC 0 0 0 [] zeroT) _ (.int .i64 (m : Int)) rfl rfl (M.ok 2 _ rfl).2.1 Tryz.underlying75 rfl (by rw [envC_len, zeroT_len]; kernel_rfl)) rfl ⟨by rw [ER.out ()]; rfl, M.below⟩
end Go.Proofs.YtidadhbaomieiaaGreat

/- The walks of a ring's Open and Rewrap. Conditions: lengths, and the bounds of its numbers. -/
namespace Go.Proofs.YtidadhbaomieiaaGreat
open Go.RowKit Go.TL
section
variable {g : Nat} {R : RingS} {c : Chunk} {w : World}
theorem openE_c (kk : List UInt8) (x : Env) (about : List UInt8) (hk : kk.length = 32) (hx : rightEnv x) (ha : about.length ≤ 100000) : ∃ (S : List UInt8) (E : Nat),
    (∀ w : World, Calls Tryz.prog 43 #[.agg (bs kk).toArray, .agg (envC x.k x.b x.n x.d x.t).toArray, .string (mkS about)] w fun v w' => v = .returned (.tuple #[.string (mkS S), .int .i64 E]) ∧ Below w.heap.size w w') ∧
    (if x.t = tagL kk x.k x.b x.n about x.d then (sealL kk x.b x.n x.d, 0) else ([], 13)) = (S, E) := by
  obtain ⟨k, b, n, d, t⟩ := x
  obtain ⟨h1, h2, h3⟩ := hx
  simp only at h1 h2 h3 ⊢
  have h : rightE k d = true := by unfold rightE; simp; omega
  by_cases e : t = tagL kk k b n about d
  · subst e
    exact ⟨_, _, fun w => Open_ok kk k b n d about w hk h ha, if_pos rfl⟩
  · exact ⟨_, _, fun w => Open_mac kk k b n d t about w hk h3 h ha e, if_neg e⟩
set_option maxRecDepth 100000 in
set_option maxHeartbeats 4000000 in
theorem RingOpen_c (s about : List UInt8) (h : c.ok w) (I : IsRing g R c) (hm : R.m.length ≤ 1000000) (hs : s.length ≤ 1000000) (ha : about.length ≤ 100000) :
    Calls Tryz.prog 15 #[.pointer (some ⟨g, 0, none⟩), .string (mkS s), .string (mkS about)] w fun e w' => e = .returned (.tuple #[.string (mkS (openL R.m R.c s about).1), .int .i64 (openL R.m R.c s about).2]) ∧ ∃ c', IsRing g R c' ∧ Upd w c w' c' := by
  obtain ⟨gm, K, IK, rfl⟩ := I
  obtain ⟨m, cc, bb, n0⟩ := R
  simp only at hm IK ⊢
  have M : Mem (grp [.row g (ringC ⟨m, cc, bb, n0⟩ gm), K]).fp w w [.row g [.string (mkS m), .int .i64 cc, .int .u32 (I32 bb), .int .u64 (I64 n0), .map (some gm)], K] := Mem.startG h
  have N0 : ∀ w' K' x, IsKeys m gm K' → Mem (grp [.row g (ringC ⟨m, cc, bb, n0⟩ gm), K]).fp w w' [x, .row g [.string (mkS m), .int .i64 cc, .int .u32 (I32 bb), .int .u64 (I64 n0), .map (some gm)], K'] → ∃ c', IsRing g ⟨m, cc, bb, n0⟩ c' ∧ Upd w (grp [.row g (ringC ⟨m, cc, bb, n0⟩ gm), K]) w' c' := fun w' K' x IK' M => ⟨_, ⟨gm, K', IK', rfl⟩, M.tail.updG [] rfl⟩
  obtain ⟨F, eF⟩ : ∃ F, F = (grp [.row g (ringC ⟨m, cc, bb, n0⟩ gm), K]).fp := ⟨_, rfl⟩
  rw [← eF] at M N0
  have NN : ∀ w1, (Chunk.row g [.string (mkS m), .int .i64 cc, .int .u32 (I32 bb), .int .u64 (I64 n0), .map (some gm)]).ok w1 → _ := fun w1 RR => ringNone_no (R := ⟨m, cc, bb, n0⟩) RR
  obtain ⟨nn, en⟩ : ∃ nn, nn = I64 n0 := ⟨_, rfl⟩
  rw [← en] at M N0 NN
  have EN := Lib.hid fun _ : Unit => en
  clear en
  replace NN := Lib.hid NN
  replace N0 := Lib.hid N0
  clear eF h
  have RC := fun w => sealRead_c s w hs
  by_cases hz : (readS s).2 = 0
  · have hx := (read_envonly hz).2
    rw [hz, show ((0 : Nat) : Int) = 0 from rfl] at RC
    by_cases hk : cc < (readS s).1.k
    · rw [openL_far hz hk]
      simp only [show ((20 : Nat) : Int) = 20 from rfl]
      have ht := hx.2.2
      obtain ⟨⟨k, b, n, d, t⟩, ex⟩ : ∃ x, x = (readS s).1 := ⟨_, rfl⟩
      rw [← ex] at RC hk ht
      simp only at RC hk ht
      replace RC := Lib.hid RC
      have hk1 : (cc : Int) < (k : Int) := by omega
      clear ex hz hx hk
      go_enter Tryz.func15, Tryz.ntmps15
      go_wp2_with ((first | ((with_reducible refine tGuard ?_); (with_reducible refine w_stripE ?_ ?_); (focus (refine ⟨_, rfl, ?_⟩; first | (with_reducible rfl) | exact decide_eq_false (by omega) | exact decide_eq_true (by omega)))) | ((with_reducible refine tGuard ?_); first | ((with_reducible refine w_skip1 ?_ ?_); (focus (refine ⟨_, rfl, ?_⟩; first | (with_reducible rfl) | exact decide_eq_false (by omega) | exact decide_eq_true (by omega)))) | ((with_reducible refine w_skip0 ?_ ?_); (focus (refine ⟨_, rfl, ?_⟩; first | (with_reducible rfl) | exact decide_eq_false (by omega) | exact decide_eq_true (by omega))))) | (go_at_call 37; go_must (refine (NN.out _ (M.ok 0 _ rfl)).mono ?_; rintro e w1 ⟨rfl, rfl⟩)) | (go_at_call 30; go_must (refine (RC.out _).mono ?_; rintro e w1 ⟨rfl, hb⟩; replace M := M.call hb; clear hb)) | ((with_reducible refine tAlloc (some 8) 75 ?_); refine w_alloc M _ rfl rfl (.agg (envC 0 0 0 [] zeroT).toArray) (envC 0 0 0 [] zeroT) (by kernel_rfl) rfl ?_; clear M; intro gx w1 M) | ((with_reducible refine tLoad ?_); refine w_at _ _ rfl (by exact ev_tmp rfl) ?_; intro hx; (first | refine w_loadE M _ _ _ rfl (by first | exact at0) hx rfl (by decide +kernel) (by decide +kernel) (by first | assumption | exact zeroT_len | exact macL_len _ _) ?_ | refine w_loadTag M _ _ _ rfl (by first | exact at0) hx rfl (by decide +kernel) (by decide +kernel) (by first | assumption | exact zeroT_len | exact macL_len _ _) ?_); clear hx) | ((with_reducible refine tStore ?_); refine w_at2 _ _ _ rfl (by first | exact ev_tmp rfl | exact ev_const) (by first | exact ev_tmp rfl | exact ev_const) ?_; intro hx hy; (first | refine w_storeE M _ _ _ _ rfl (by first | exact at0) hx rfl hy rfl (by decide +kernel) (by first | assumption | exact zeroT_len | exact macL_len _ _) (by first | assumption | exact zeroT_len | exact macL_len _ _) ?_ | refine w_storeE (k := 0) (b := 0) (n := 0) (d := []) (tg := zeroT) M _ _ _ _ rfl (by first | exact at0) hx rfl hy rfl (by decide +kernel) zeroT_len (by first | assumption | exact zeroT_len | exact macL_len _ _) ?_ | refine w_storeE (tg := zeroT) M _ _ _ _ rfl (by first | exact at0) hx rfl hy rfl (by decide +kernel) zeroT_len (by first | assumption | exact zeroT_len | exact macL_len _ _) ?_ | refine w_storeTag M _ _ _ _ rfl (by first | exact at0) hx rfl hy (by decide +kernel) (by first | assumption | exact zeroT_len | exact macL_len _ _) (by first | assumption | exact zeroT_len | exact macL_len _ _) ?_ | refine w_storeData M _ _ _ _ rfl (by first | exact at0) hx rfl hy (by decide +kernel) ?_ | refine w_storeNum M _ _ _ _ rfl (by first | exact at0) hx rfl hy (by decide +kernel) ?_); clear hx hy M; intro w1 M; (try simp only [setC] at M)) | ((with_reducible refine tConv _ 70 9 ?_); (first | refine w_stringTag M _ _ _ _ _ rfl rfl (by first | exact at0) rfl (by first | assumption | exact zeroT_len | exact macL_len _ _) Tryz.underlying70 Tryz.underlying5 Tryz.underlying9 ?_)) | ((with_reducible show Code.wp _ (Code.region 6 _ _) _ _ _); go_must (refine region_det [(0, false), (2, false), (3, false), (4, false), (1, false), (5, false), (6, false), (7, false)] [(24, .ptr), (23, .int), (27, .int)] (by kernel_rfl) (by kernel_rfl) rfl (by kernel_rfl) ?_; replace M := M.drew; simp only [reord, opAt, List.map_cons, List.map_nil, List.getElem?_toArray, List.getElem?_cons_zero, List.getElem?_cons_succ, Option.getD_some])) | ((with_reducible show Seg _ _ _ _); go_must (first | refine Seg.intro ⟨fun h => absurd rfl h, ?_⟩ | refine Seg.intro ⟨fun _ => ixA, ?_⟩ | refine Seg.intro ⟨ndA, atA, ?_⟩)) | ((with_reducible show OnlyN _ _ _ _ _); refine OnlyN.intro (by kernel_rfl) ?_) | ((with_reducible refine tGuard ?_); first | refine gdS ?_ | (refine gdC ?_ ?_ <;> (intro hgd; rw [hgd]; try (exfalso; simp at hgd; omega)))) | fail | ((with_reducible refine tLoad ?_); go_must (refine ldS ?_)) | ((with_reducible refine tStore ?_); go_must (refine stS ?_; clear M; intro w1 M; (try simp only [setC] at M))) | ((with_reducible refine tBox _ ?_); (refine bxA M ?_; clear M; intro g w1 M))) <;> (try conv => arg 5; simp only [Act.put, List.setIfInBounds_toArray, setC]))
      go_ret2
      exact ⟨rfl, N0.out _ _ _ IK M⟩
    · have hk32 : (ringK m (readS s).1.k).length = 32 := ringK_len _ _
      obtain ⟨S, E, OC, HO⟩ := openE_c (ringK m (readS s).1.k) (readS s).1 about hk32 hx ha
      have HL : openL m cc s about = (S, E) := by
        rw [← HO]
        unfold openL
        rw [if_neg (by simpa using hz), if_neg hk]
      rw [HL]
      simp only
      have ht := hx.2.2
      have hkx := hx.1
      have KC := fun (w : World) RR nR hK => ringkey_c ⟨m, cc, bb, n0⟩ g gm K (readS s).1.k w hm RR nR hK IK
      rw [show ringU m (w64 ((readS s).1.k : Int)) = ringK m (readS s).1.k from rfl] at KC
      obtain ⟨kk, ek⟩ : ∃ k, k = ringK m (readS s).1.k := ⟨_, rfl⟩
      rw [← ek] at OC KC hk32
      obtain ⟨⟨k, b, n, d, t⟩, ex⟩ : ∃ x, x = (readS s).1 := ⟨_, rfl⟩
      rw [← ex] at RC hk ht OC KC
      unfold ringC at KC
      simp only at RC hk ht OC KC
      rw [← EN.out ()] at KC
      have hk1 : (k : Int) ≤ (cc : Int) := by omega
      replace RC := Lib.hid RC
      replace OC := Lib.hid OC
      replace KC := Lib.hid KC
      clear ex hz hx hk HO HL ek hkx
      go_enter Tryz.func15, Tryz.ntmps15
      go_wp2_with ((first | ((with_reducible refine tGuard ?_); (with_reducible refine w_stripE ?_ ?_); (focus (refine ⟨_, rfl, ?_⟩; first | (with_reducible rfl) | exact decide_eq_false (by omega) | exact decide_eq_true (by omega)))) | ((with_reducible refine tGuard ?_); first | ((with_reducible refine w_skip1 ?_ ?_); (focus (refine ⟨_, rfl, ?_⟩; first | (with_reducible rfl) | exact decide_eq_false (by omega) | exact decide_eq_true (by omega)))) | ((with_reducible refine w_skip0 ?_ ?_); (focus (refine ⟨_, rfl, ?_⟩; first | (with_reducible rfl) | exact decide_eq_false (by omega) | exact decide_eq_true (by omega))))) | (go_at_call 37; go_must (refine (NN.out _ (M.ok 0 _ rfl)).mono ?_; rintro e w1 ⟨rfl, rfl⟩)) | (go_at_call 30; go_must (refine (RC.out _).mono ?_; rintro e w1 ⟨rfl, hb⟩; replace M := M.call hb; clear hb)) | ((with_reducible refine tAlloc (some 8) 75 ?_); refine w_alloc M _ rfl rfl (.agg (envC 0 0 0 [] zeroT).toArray) (envC 0 0 0 [] zeroT) (by kernel_rfl) rfl ?_; clear M; intro gx w1 M) | ((with_reducible show Code.wp _ (Code.region 6 _ _) _ _ _); go_must (refine region_det [(0, false), (2, false), (3, false), (4, false), (1, false), (5, false), (6, false), (7, false)] [(24, .ptr), (23, .int), (27, .int)] (by kernel_rfl) (by kernel_rfl) rfl (by kernel_rfl) ?_; replace M := M.drew; simp only [reord, opAt, List.map_cons, List.map_nil, List.getElem?_toArray, List.getElem?_cons_zero, List.getElem?_cons_succ, Option.getD_some])) | ((with_reducible show Code.wp _ (Code.region 8 _ _) _ _ _); go_must (have MR := M; refine region_lowc [(0, false), (1, false), (5, false), (2, false), (4, false), (3, true), (6, true), (7, false), (8, false), (9, false), (10, false)] [] [(2, _), (4, _)] (IxOk MR [0]) 11 (by kernel_rfl) (by kernel_rfl) rfl (by kernel_rfl) (lowA MR 0 0 (lows_cons (stab_env MR 0 rfl rfl (by decide) (by decide +kernel) (by decide +kernel) (by first | assumption | exact zeroT_len)) lows_nil)) (ixOk_self MR _) ?_; replace M := M.drew; simp only [planC, opAt, List.getElem?_toArray, List.getElem?_cons_zero, List.getElem?_cons_succ, Option.getD_some])) | (go_at_call 40; go_must (with_reducible refine (KC.out _ (M.ok 1 _ at1) (M.nd 1 2 _ _ (by decide) at1 at2 g (by simp [Chunk.fp])) (M.ok 2 _ at2)).mono ?_; rintro e w1 ⟨rfl, K1, IK1, U⟩; replace M := M.upd 2 rfl U; clear U; simp only [setC] at M)) | (go_at_call 43; go_must (refine (OC.out _).mono ?_; rintro e w1 ⟨rfl, hb⟩; replace M := M.call hb; clear hb)) | ((with_reducible refine tLoad ?_); refine w_at _ _ rfl (by exact ev_tmp rfl) ?_; intro hx; (first | refine w_loadE M _ _ _ rfl (by first | exact at0) hx rfl (by decide +kernel) (by decide +kernel) (by first | assumption | exact zeroT_len | exact macL_len _ _) ?_ | refine w_loadTag M _ _ _ rfl (by first | exact at0) hx rfl (by decide +kernel) (by decide +kernel) (by first | assumption | exact zeroT_len | exact macL_len _ _) ?_); clear hx) | ((with_reducible refine tStore ?_); refine w_at2 _ _ _ rfl (by first | exact ev_tmp rfl | exact ev_const) (by first | exact ev_tmp rfl | exact ev_const) ?_; intro hx hy; (first | refine w_storeE M _ _ _ _ rfl (by first | exact at0) hx rfl hy rfl (by decide +kernel) (by first | assumption | exact zeroT_len | exact macL_len _ _) (by first | assumption | exact zeroT_len | exact macL_len _ _) ?_ | refine w_storeE (k := 0) (b := 0) (n := 0) (d := []) (tg := zeroT) M _ _ _ _ rfl (by first | exact at0) hx rfl hy rfl (by decide +kernel) zeroT_len (by first | assumption | exact zeroT_len | exact macL_len _ _) ?_ | refine w_storeE (tg := zeroT) M _ _ _ _ rfl (by first | exact at0) hx rfl hy rfl (by decide +kernel) zeroT_len (by first | assumption | exact zeroT_len | exact macL_len _ _) ?_ | refine w_storeTag M _ _ _ _ rfl (by first | exact at0) hx rfl hy (by decide +kernel) (by first | assumption | exact zeroT_len | exact macL_len _ _) (by first | assumption | exact zeroT_len | exact macL_len _ _) ?_ | refine w_storeData M _ _ _ _ rfl (by first | exact at0) hx rfl hy (by decide +kernel) ?_ | refine w_storeNum M _ _ _ _ rfl (by first | exact at0) hx rfl hy (by decide +kernel) ?_); clear hx hy M; intro w1 M; (try simp only [setC] at M)) | ((with_reducible refine tConv _ 70 9 ?_); (first | refine w_stringTag M _ _ _ _ _ rfl rfl (by first | exact at0) rfl (by first | assumption | exact zeroT_len | exact macL_len _ _) Tryz.underlying70 Tryz.underlying5 Tryz.underlying9 ?_)) | ((with_reducible show Seg _ _ _ _); go_must (first | refine Seg.intro ⟨fun h => absurd rfl h, ?_⟩ | refine Seg.intro ⟨fun _ => ixA, ?_⟩ | refine Seg.intro ⟨ndA, atA, ?_⟩)) | ((with_reducible show OnlyN _ _ _ _ _); refine OnlyN.intro (by kernel_rfl) ?_) | ((with_reducible refine tGuard ?_); first | refine gdS ?_ | (refine gdC ?_ ?_ <;> (intro hgd; rw [hgd]; try (exfalso; simp at hgd; omega)))) | fail | ((with_reducible refine tLoad ?_); go_must (refine ldS ?_)) | ((with_reducible refine tStore ?_); go_must (refine stS ?_; clear M; intro w1 M; (try simp only [setC] at M))) | ((with_reducible refine tBox _ ?_); (refine bxA M ?_; clear M; intro g w1 M))) <;> (try conv => arg 5; simp only [Act.put, List.setIfInBounds_toArray, setC]))
      go_ret2
      exact ⟨rfl, N0.out _ _ _ IK1 M⟩
  · rw [openL_bad hz]
    simp only
    have hzz := readS_zero hz
    have e1 : (readS s).1 = zeroE := by rw [hzz]
    rw [e1] at RC
    obtain ⟨e, ee⟩ : ∃ e, e = (readS s).2 := ⟨_, rfl⟩
    rw [← ee] at RC hz ⊢
    have RC' : ∀ w, Calls Tryz.prog 30 #[.string (mkS s)] w fun v w' => v = .returned (.tuple #[.agg (envC 0 0 0 [] zeroT).toArray, .int .i64 e]) ∧ Below w.heap.size w w' := RC
    replace RC := Lib.hid RC'
    have hz1 : ((e : Int) != 0) = true := by simp; exact hz
    have hz2 : ((e : Int) == 0) = false := by simp; exact hz
    clear ee hz hzz e1 RC'
    go_enter Tryz.func15, Tryz.ntmps15
    go_wp2_with ((first | ((with_reducible refine tGuard ?_); (with_reducible refine w_stripE ?_ ?_); (focus (refine ⟨_, rfl, ?_⟩; first | (with_reducible rfl) | exact decide_eq_false (by omega) | exact decide_eq_true (by omega)))) | ((with_reducible refine tGuard ?_); first | ((with_reducible refine w_skip1 ?_ ?_); (focus (refine ⟨_, rfl, ?_⟩; first | (with_reducible rfl) | exact decide_eq_false (by omega) | exact decide_eq_true (by omega)))) | ((with_reducible refine w_skip0 ?_ ?_); (focus (refine ⟨_, rfl, ?_⟩; first | (with_reducible rfl) | exact decide_eq_false (by omega) | exact decide_eq_true (by omega))))) | (go_at_call 37; go_must (refine (NN.out _ (M.ok 0 _ rfl)).mono ?_; rintro e w1 ⟨rfl, rfl⟩)) | (go_at_call 30; go_must (refine (RC.out _).mono ?_; rintro e w1 ⟨rfl, hb⟩; replace M := M.call hb; clear hb)) | ((with_reducible refine tAlloc (some 8) 75 ?_); refine w_alloc M _ rfl rfl (.agg (envC 0 0 0 [] zeroT).toArray) (envC 0 0 0 [] zeroT) (by kernel_rfl) rfl ?_; clear M; intro gx w1 M) | ((with_reducible refine tLoad ?_); refine w_at _ _ rfl (by exact ev_tmp rfl) ?_; intro hx; (first | refine w_loadE M _ _ _ rfl (by first | exact at0) hx rfl (by decide +kernel) (by decide +kernel) (by first | assumption | exact zeroT_len | exact macL_len _ _) ?_ | refine w_loadTag M _ _ _ rfl (by first | exact at0) hx rfl (by decide +kernel) (by decide +kernel) (by first | assumption | exact zeroT_len | exact macL_len _ _) ?_); clear hx) | ((with_reducible refine tStore ?_); refine w_at2 _ _ _ rfl (by first | exact ev_tmp rfl | exact ev_const) (by first | exact ev_tmp rfl | exact ev_const) ?_; intro hx hy; (first | refine w_storeE M _ _ _ _ rfl (by first | exact at0) hx rfl hy rfl (by decide +kernel) (by first | assumption | exact zeroT_len | exact macL_len _ _) (by first | assumption | exact zeroT_len | exact macL_len _ _) ?_ | refine w_storeE (k := 0) (b := 0) (n := 0) (d := []) (tg := zeroT) M _ _ _ _ rfl (by first | exact at0) hx rfl hy rfl (by decide +kernel) zeroT_len (by first | assumption | exact zeroT_len | exact macL_len _ _) ?_ | refine w_storeE (tg := zeroT) M _ _ _ _ rfl (by first | exact at0) hx rfl hy rfl (by decide +kernel) zeroT_len (by first | assumption | exact zeroT_len | exact macL_len _ _) ?_ | refine w_storeTag M _ _ _ _ rfl (by first | exact at0) hx rfl hy (by decide +kernel) (by first | assumption | exact zeroT_len | exact macL_len _ _) (by first | assumption | exact zeroT_len | exact macL_len _ _) ?_ | refine w_storeData M _ _ _ _ rfl (by first | exact at0) hx rfl hy (by decide +kernel) ?_ | refine w_storeNum M _ _ _ _ rfl (by first | exact at0) hx rfl hy (by decide +kernel) ?_); clear hx hy M; intro w1 M; (try simp only [setC] at M)) | ((with_reducible refine tConv _ 70 9 ?_); (first | refine w_stringTag M _ _ _ _ _ rfl rfl (by first | exact at0) rfl (by first | assumption | exact zeroT_len | exact macL_len _ _) Tryz.underlying70 Tryz.underlying5 Tryz.underlying9 ?_)) | ((with_reducible refine tGuard ?_); first | refine gdS ?_ | (refine gdC ?_ ?_ <;> (intro hgd; rw [hgd]; try (exfalso; simp at hgd; omega)))) | fail | ((with_reducible refine tLoad ?_); go_must (refine ldS ?_)) | ((with_reducible refine tStore ?_); go_must (refine stS ?_; clear M; intro w1 M; (try simp only [setC] at M))) | ((with_reducible refine tBox _ ?_); (refine bxA M ?_; clear M; intro g w1 M))) <;> (try conv => arg 5; simp only [Act.put, List.setIfInBounds_toArray, setC]))
    go_ret2
    exact ⟨rfl, N0.out _ _ _ IK M⟩
end
end Go.Proofs.YtidadhbaomieiaaGreat

/- The walk of layer 6's example. Conditions: none. -/
namespace Go.Proofs.YtidadhbaomieiaaGreat
open Go.RowKit Go.TL
end Go.Proofs.YtidadhbaomieiaaGreat

/- Plain: what a link's directions are. No program in this text. No conditions. -/
namespace Go
namespace TL
def linkT : List UInt8 := [108, 105, 110, 107]
def aboutK (a b : UInt8) : List UInt8 := linkT ++ [a, b]
theorem aboutK_len (a b : UInt8) : (aboutK a b).length = 6 := rfl
def masterK (seed : List UInt8) (a b : UInt8) : List UInt8 := macL seed (aboutK a b)
theorem masterK_len (seed : List UInt8) (a b : UInt8) : (masterK seed a b).length = 32 := macL_length _ _
structure LinkS where
  me : Int
  o : Int
  out : RingS
  inn : RingS
def linkOf (seed : List UInt8) (me o : Int) (a b : UInt8) (boot : UInt32) (n : UInt64) : LinkS := ⟨me, o, ⟨masterK seed a b, 0, boot, n⟩, ⟨masterK seed b a, 0, 0, 0⟩⟩
end TL
end Go

/- The walks of link.about, link.master, link.none and link.New. Conditions: the seed's length. -/
namespace Go
namespace TL
open Go.RowKit
section
variable {P : Program} {ops : Array Oper} {rest : List Oper} {o : Oper} {a : Act} {w w0 : World} {Q : Exit → Act → World → Prop} {F : List Nat} {L : List Chunk}
theorem w_build2 (M : Mem F w0 w L) {t e : TypeId} {bytes : Nat} (T : SliceT P t e 1 bytes) (x y : Operand) (ho : o.op = .buildSlice t 2 #[(0, x), (1, y)]) (hw : Region.wanted o (yielded ops a.tmps) = true) {b0 b1 : UInt8} (hx : a.eval x = .int .u8 (I8 b0)) (hy : a.eval y = .int .u8 (I8 b1))
    (h : ∀ (g : Nat) (w' : World), Mem F w0 w' (.sl 1 (.slice (some ⟨g, 0, none⟩) 2 2) 2 (bs [b0, b1]) :: L) → wpList P ops Q rest (a.put o.dst (.slice (some ⟨g, 0, none⟩) 2 2)) w') : wpList P ops Q (o :: rest) a w := by
  have T' := T
  obtain ⟨ht, ⟨i, z', hi, hz', hsize, hby, hzs⟩, hsz⟩ := T'
  refine w_buildSlice M T 2 _ ho hw ⟨by omega, by omega⟩ z' (by simp [hi, hz']) (bs [b0, b1]) ?_ fun g w' M' => h g w' ?_
  · have r4 : Array.range (2 * 1) = #[0, 1] := by decide
    rw [r4]
    simp only [List.map_toArray, List.map_cons, List.map_nil, hx, hy]
    generalize z'.cells[0 % z'.cells.size]! = c0
    generalize z'.cells[1 % z'.cells.size]! = c1
    rfl
  · have hok := M'.ok 0 _ rfl
    have := M'.upd 0 rfl (c' := .sl 1 (.slice (some ⟨g, 0, none⟩) 2 2) 2 (bs [b0, b1])) ⟨Kept.refl _ _, ⟨rfl, .inr ⟨g, 0, 2, rfl, Nat.zero_le _, hok.1, Nat.le_refl _, by simp only [maxLen]; omega, hok.2.1, hok.2.2⟩⟩, fun k hk => .inl (by simpa [Chunk.fp, Value.ownBlock] using hk)⟩
    simpa using this
end
end TL
end Go
namespace Go.Proofs.YtidadhbaomieiaaGreat
open Go.RowKit Go.TL
set_option maxRecDepth 100000 in
set_option maxHeartbeats 2000000 in
theorem about_c (a b : UInt8) (w : World) : Calls Tryz.prog 52 #[.int .i64 (I8 a), .int .i64 (I8 b)] w fun e w' => e = .returned (.string (mkS (aboutK a b))) ∧ Below w.heap.size w w' := by
  have M := Mem.start [] w
  go_enter Tryz.func52, Tryz.ntmps52
  go_wp2_with ((first | ((with_reducible show wpList _ _ _ (Oper.mk _ (Op.buildSlice 70 2 _) _ _ _ _ :: _) _ _); go_must (refine w_build2 M bytesT (b0 := a) (b1 := b) _ _ rfl rfl rfl rfl ?_; clear M; intro g w1 M)) | ((with_reducible refine tGuard ?_); first | refine gdS ?_ | (refine gdC ?_ ?_ <;> (intro hgd; rw [hgd]; try (exfalso; simp at hgd; omega)))) | ((with_reducible refine tConv _ 70 9 ?_); go_must (refine cvB ?_)) | ((with_reducible refine tLoad ?_); go_must (refine ldB ?_)) | ((with_reducible refine tStore ?_); go_must (refine stB ?_; clear M; intro w1 M; (try simp only [setC] at M))) | ((with_reducible refine tBox _ ?_); (refine bxA M ?_; clear M; intro g w1 M))) <;> (try conv => arg 5; simp only [Act.put, List.setIfInBounds_toArray, setC]))
  go_ret
  exact ⟨rfl, M.below⟩
set_option maxRecDepth 100000 in
set_option maxHeartbeats 2000000 in
theorem master_c (seed : List UInt8) (a b : UInt8) (w : World) (hs : seed.length ≤ 1000000) : Calls Tryz.prog 49 #[.string (mkS seed), .int .i64 (I8 a), .int .i64 (I8 b)] w fun e w' => e = .returned (.string (mkS (masterK seed a b))) ∧ Below w.heap.size w w' := by
  have M := Mem.start [] w
  have TC := fun w => Tag_c seed (aboutK a b) w (by omega) (by rw [aboutK_len]; omega)
  have hr : (macL seed (aboutK a b)).length = 32 := macL_len _ _
  have SE : masterK seed a b = macL seed (aboutK a b) := rfl
  have AC := fun w => about_c a b w
  obtain ⟨r, er⟩ : ∃ r, r = macL seed (aboutK a b) := ⟨_, rfl⟩
  rw [← er] at TC hr SE
  rw [SE]
  obtain ⟨k, ek⟩ : ∃ k, k = aboutK a b := ⟨_, rfl⟩
  rw [← ek] at TC AC
  replace TC := Lib.hid TC
  replace AC := Lib.hid AC
  clear er ek SE
  go_enter Tryz.func49, Tryz.ntmps49
  go_wp2_with ((first | ((with_reducible refine tAlloc (some 7) 64 ?_); refine w_alloc M _ rfl rfl (.agg (Array.replicate 32 (.int .u8 0))) (bs (List.replicate 32 (0 : UInt8))) (by kernel_rfl) rfl ?_; clear M; intro gh w1 M) | (go_at_call 52; go_must (refine (AC.out _).mono ?_; rintro e w1 ⟨rfl, hb⟩; replace M := M.call hb; clear hb)) | (go_at_call 47; go_must (refine (TC.out _).mono ?_; rintro e w1 ⟨rfl, hb⟩; replace M := M.call hb; clear hb)) | ((with_reducible refine tGuard ?_); first | refine gdS ?_ | (refine gdC ?_ ?_ <;> (intro hgd; rw [hgd]; try (exfalso; simp at hgd; omega)))) | ((with_reducible refine tConv _ 70 9 ?_); go_must (refine cvB ?_)) | ((with_reducible refine tLoad ?_); go_must (refine ldB ?_)) | ((with_reducible refine tStore ?_); go_must (refine stB ?_; clear M; intro w1 M; (try simp only [setC] at M))) | ((with_reducible refine tBox _ ?_); (refine bxA M ?_; clear M; intro g w1 M))) <;> (try conv => arg 5; simp only [Act.put, List.setIfInBounds_toArray, setC]))
  go_ret
  exact ⟨rfl, M.below⟩
abbrev linkRow (me o : Int) (go gi : Nat) : List Value := [.int .i64 me, .int .i64 o, .pointer (some ⟨go, 0, none⟩), .pointer (some ⟨gi, 0, none⟩)]
def IsLink (g : Nat) (K : LinkS) (c : Chunk) : Prop := ∃ go gi Co Ci, IsRing go K.out Co ∧ IsRing gi K.inn Ci ∧ c = grp [.row g (linkRow K.me K.o go gi), Co, Ci]
set_option maxRecDepth 100000 in
set_option maxHeartbeats 2000000 in
theorem linkNone_no {g go gi : Nat} {me o : Int} {w : World} (RR : (Chunk.row g (linkRow me o go gi)).ok w) : Calls Tryz.prog 50 #[.pointer (some ⟨g, 0, none⟩)] w fun e w' => e = .returned (.bool false) ∧ w = w' := by
  have M := Mem.start [] w
  have nR : g ∉ ([] : List Nat) := by simp
  go_enter Tryz.func50, Tryz.ntmps50
  go_wp2_with ((first | ((with_reducible refine tLoad ?_); refine w_at _ _ rfl (by exact ev_tmp rfl) ?_; intro hx; (first | refine w_rowF M RR nR _ _ rfl hx rfl (by decide +kernel) (by exact rfl) ?_); clear hx) | ((with_reducible refine tGuard ?_); first | refine gdS ?_ | (refine gdC ?_ ?_ <;> (intro hgd; rw [hgd]; try (exfalso; simp at hgd; omega)))) | fail | ((with_reducible refine tLoad ?_); go_must (refine ldS ?_)) | ((with_reducible refine tStore ?_); go_must (refine stS ?_; clear M; intro w1 M; (try simp only [setC] at M))) | ((with_reducible refine tBox _ ?_); (refine bxA M ?_; clear M; intro g w1 M))) <;> (try conv => arg 5; simp only [Act.put, List.setIfInBounds_toArray, setC]))
  go_ret
  exact ⟨rfl, rfl⟩
def EndOf (me o : Int) (a b : UInt8) : Prop := (me = 0 ∧ o = 1 ∧ a = 0 ∧ b = 1) ∨ (me = 1 ∧ o = 0 ∧ a = 1 ∧ b = 0)
set_option maxRecDepth 100000 in
set_option maxHeartbeats 4000000 in
theorem LinkNew_ok (seed : List UInt8) (me o : Int) (a b : UInt8) (boot : UInt32) (w : World) (hs : seed.length ≤ 1000000) (he : EndOf me o a b) : Calls Tryz.prog 23 #[.int .i64 me, .string (mkS seed), .int .u32 (I32 boot)] w fun e w' => ∃ g C, e = .returned (.tuple #[.pointer (some ⟨g, 0, none⟩), .int .i64 0]) ∧ IsLink g (linkOf seed me o a b boot 0) C ∧ Mem [] w w' [C] := by
  have M := Mem.start [] w
  have I0 : I8 a = me ∧ I8 b = o ∧ 0 ≤ me ∧ me < 2 ∧ 1 - me = o := by rcases he with ⟨rfl, rfl, rfl, rfl⟩ | ⟨rfl, rfl, rfl, rfl⟩ <;> decide
  obtain ⟨ia, ib, h0, h1, h2⟩ := I0
  have M1 := fun w => master_c seed a b w hs
  have M2 := fun w => master_c seed b a w hs
  rw [ia, ib] at M1 M2
  have N1 := fun w => New_ok (masterK seed a b) 0 boot w (by omega)
  have N2 : ∀ w, Calls Tryz.prog 12 #[.string (mkS (masterK seed b a)), .int .i64 0, .int .u32 0] w fun e w' => ∃ g C, e = .returned (.tuple #[.pointer (some ⟨g, 0, none⟩), .int .i64 0]) ∧ IsRing g ⟨masterK seed b a, 0, 0, 0⟩ C ∧ Mem [] w w' [C] := fun w => New_ok (masterK seed b a) 0 0 w (by omega)
  rw [show ((0 : Nat) : Int) = 0 from rfl] at N1
  unfold linkOf
  obtain ⟨k1, e1⟩ : ∃ k, k = masterK seed a b := ⟨_, rfl⟩
  obtain ⟨k2, e2⟩ : ∃ k, k = masterK seed b a := ⟨_, rfl⟩
  rw [← e1] at M1 N1 ⊢
  rw [← e2] at M2 N2 ⊢
  replace M1 := Lib.hid M1
  replace M2 := Lib.hid M2
  replace N1 := Lib.hid N1
  replace N2 := Lib.hid N2
  clear ia ib he e1 e2
  go_enter Tryz.func23, Tryz.ntmps23
  go_wp2_with ((first | ((with_reducible refine tGuard ?_); (with_reducible refine w_stripE ?_ ?_); (focus (refine ⟨_, rfl, ?_⟩; first | (with_reducible rfl) | exact decide_eq_false (by omega) | exact decide_eq_true (by omega)))) | ((with_reducible refine tGuard ?_); first | ((with_reducible refine w_skip1 ?_ ?_); (focus (refine ⟨_, rfl, ?_⟩; first | (with_reducible rfl) | exact decide_eq_false (by omega) | exact decide_eq_true (by omega)))) | ((with_reducible refine w_skip0 ?_ ?_); (focus (refine ⟨_, rfl, ?_⟩; first | (with_reducible rfl) | exact decide_eq_false (by omega) | exact decide_eq_true (by omega))))) | ((with_reducible refine tBox (some 22) ?_); refine w_box M _ _ rfl rfl _ rfl ([.int .i64 me, .int .i64 o, .pointer none, .pointer none]) rfl ?_; clear M; intro g w1 M) | ((with_reducible show Code.wp _ (Code.region 4 _ _) _ _ _); go_must (have MR := M; refine region_lowc [(0, false), (1, false), (2, false), (3, false), (5, false), (6, false), (7, false), (10, false), (4, false), (8, false), (9, true), (11, true), (12, false), (13, false), (14, false), (15, false), (16, false)] [(25, .ptr), (29, .ptr)] [(4, _), (8, _)] (IxOk MR [0]) 17 (by kernel_rfl) (by kernel_rfl) rfl (by kernel_rfl) (lowA MR 0 0 (lowA MR 0 1 lows_nil)) (ixOk_self MR _) ?_; replace M := M.drew; simp only [planC, opAt, List.getElem?_toArray, List.getElem?_cons_zero, List.getElem?_cons_succ, Option.getD_some])) | ((with_reducible show Code.wp _ (Code.region 7 _ _) _ _ _); go_must (have MR := M; refine region_lowc [(0, false), (1, false), (2, false), (3, false), (5, false), (6, false), (7, false), (4, false), (8, false), (9, true), (10, true), (11, false), (12, false), (13, false), (14, false), (15, false)] [(43, .ptr), (47, .ptr)] [(4, _), (8, _)] (IxOk MR [1]) 16 (by kernel_rfl) (by kernel_rfl) rfl (by kernel_rfl) (lowA MR 1 1 (lowA MR 1 0 lows_nil)) (ixOk_self MR _) ?_; replace M := M.drew; simp only [planC, opAt, List.getElem?_toArray, List.getElem?_cons_zero, List.getElem?_cons_succ, Option.getD_some])) | (go_at_call 49; go_must ((first | (with_reducible refine (M1.out _).mono ?_) | (with_reducible refine (M2.out _).mono ?_)); rintro e w1 ⟨rfl, hb⟩; replace M := M.call hb; clear hb)) | (go_at_call 12; go_must (first | (with_reducible refine (N1.out _).mono ?_; rintro e w1 ⟨go, Co, rfl, JO, MJ⟩) | (with_reducible refine (N2.out _).mono ?_; rintro e w1 ⟨gi, Ci, rfl, II, MJ⟩)); replace M := M.join MJ; clear MJ; simp only [List.cons_append, List.nil_append] at M) | ((with_reducible show Seg _ _ _ _); go_must (first | refine Seg.intro ⟨fun h => absurd rfl h, ?_⟩ | refine Seg.intro ⟨fun _ => ixA, ?_⟩ | refine Seg.intro ⟨ndA, atA, ?_⟩)) | ((with_reducible show OnlyN _ _ _ _ _); refine OnlyN.intro (by kernel_rfl) ?_) | ((with_reducible refine tGuard ?_); first | refine gdS ?_ | (refine gdC ?_ ?_ <;> (intro hgd; rw [hgd]; try (exfalso; simp at hgd; omega)))) | fail | ((with_reducible refine tLoad ?_); go_must (refine ldS ?_)) | ((with_reducible refine tStore ?_); go_must (refine stS ?_; clear M; intro w1 M; (try simp only [setC] at M))) | ((with_reducible refine tBox _ ?_); (refine bxA M ?_; clear M; intro g w1 M))) <;> (try conv => arg 5; simp only [Act.put, List.setIfInBounds_toArray, setC]))
  have MC : Mem [] w _ [.row g (linkRow me o go gi), Co, Ci] := M.pick _ (fun i => 2 - i) (by intro i j hi hj h; simp at hi hj; omega) (by
    intro i c h
    match i, h with
    | 0, h => simpa using h
    | 1, h => simpa using h
    | 2, h => simpa using h)
  go_ret2
  exact ⟨_, _, rfl, ⟨go, gi, Co, Ci, JO, II, rfl⟩, MC.shut [.row g (linkRow me o go gi), Co, Ci] [] rfl⟩
end Go.Proofs.YtidadhbaomieiaaGreat

/- The walk of msg.Read. Conditions: lengths. -/
namespace Go.Proofs.YtidadhbaomieiaaGreat
open Go.RowKit Go.TL
set_option maxRecDepth 100000 in
set_option maxHeartbeats 16000000 in
theorem Read_c (s : List UInt8) (w : World) (hs : s.length ≤ 1000000) : Calls Tryz.prog 53 #[.string (mkS s)] w (GivesM (readM s) w) := by
  have M := Mem.start [] w
  have hst : (inStart s).fit := by unfold inStart InS.fit; simp; omega
  obtain ⟨kb, hkb⟩ := byte_some (inStart s)
  have hfy := InS.byte_fit hst
  have YC := fun g w h => In_Byte_c g (inStart s) w h hst
  obtain ⟨y, ey⟩ : ∃ y, y = (inStart s).byte.2 := ⟨_, rfl⟩
  have hb : (inStart s).byte = (kb.toNat, y) := by rw [ey, ← hkb]
  rw [hkb, ← I8_eq, ← ey] at YC
  rw [← ey] at hfy
  have R1 := readM_err hb
  have R2 := readM_kind hb
  have R3 := readM_run hb
  obtain ⟨A, eA⟩ : ∃ A, A = readM s := ⟨_, rfl⟩
  rw [← eA] at R1 R2 R3 ⊢
  clear ey hb eA hkb
  replace R3 := Lib.hid R3
  replace YC := Lib.hid YC
  have hzk := kindM_fit kb
  by_cases hy : y.err = 0
  · have HY := Lib.hid hy
    have FC := fun w => fields_c kb w
    unfold Fields at FC
    cases hk : isK kb with
    | false =>
      have e0 := R2 hy hk
      subst e0
      rw [hk] at FC
      replace FC := Lib.hid FC
      clear R1 R2 R3 hk hy
      go_enter Tryz.func53, Tryz.ntmps53
      go_wp2_with ((first | ((with_reducible refine tAlloc (some 2) 67 ?_); refine w_alloc M _ rfl rfl (.agg (msgC zeroM).toArray) (msgC zeroM) (by kernel_rfl) rfl ?_; clear M; intro gr w1 M) | ((with_reducible refine tAlloc (some 5) 67 ?_); refine w_alloc M _ rfl rfl (.agg (msgC zeroM).toArray) (msgC zeroM) (by kernel_rfl) rfl ?_; clear M; intro gm w1 M) | (go_at_call 57; go_must (refine (packOf_c _ _).mono ?_; rintro e w1 ⟨gi, rfl, MP⟩; replace M := M.join MP; clear MP; simp only [List.cons_append, List.nil_append] at M)) | (go_at_call 61; go_must (refine (YC.out gi _ (M.ok 0 _ rfl)).mono ?_; rintro r w2 ⟨rfl, U⟩; replace M := M.upd 0 rfl U; clear U; simp only [setC] at M)) | (go_at_call 92; go_must (refine (Fault_ok gi y _ (M.ok 1 _ rfl) HY.out).mono ?_; rintro e w1 ⟨rfl, rfl⟩)) | (go_at_call 90; go_must (have hgm := (M.ok 0 _ rfl).1; have hgi := (M.ok 1 _ rfl).1; have hgr := (M.ok 2 _ rfl).1; refine (FC.out _).mono ?_; rintro e w5 ⟨b1, b2, b3, p, c, rfl, hbl, BX, SF, hso⟩; replace M := M.call hbl; clear hbl)) | ((with_reducible show wpList _ _ _ (Oper.mk _ (Op.load 5 _) _ _ _ _ :: _) _ _); refine w_at _ _ rfl (by exact ev_tmp rfl) ?_; intro hx; refine w_load M 0 _ _ rfl rfl hx rfl (by decide +kernel) (show (msgC (kindM kb))[0]? = some (.int .u8 (I8 kb)) from rfl) ?_; clear hx) | ((with_reducible refine tStore ?_); refine w_at2 _ _ _ rfl (by exact ev_tmp rfl) (by first | exact ev_tmp rfl | exact ev_const) ?_; intro hx hy; (first | refine w_storeMs (m := kindM kb) M 0 _ _ _ rfl rfl hx rfl hy rfl (by kernel_rfl) hzk zeroM_fit ?_ | refine w_storeMs (m := zeroM) M 2 _ _ _ rfl rfl hx rfl hy rfl (by kernel_rfl) zeroM_fit zeroM_fit ?_); clear hx hy M; intro w1 M; (try simp only [setC] at M)) | ((with_reducible refine tGuard ?_); refine gdS ?_) | fail | ((with_reducible refine tLoad ?_); go_must (refine ldS ?_)) | ((with_reducible refine tStore ?_); go_must (refine stS ?_; clear M; intro w1 M; (try simp only [setC] at M))) | ((with_reducible refine tBox _ ?_); (refine bxA M ?_; clear M; intro g w1 M))) <;> (try conv => arg 5; simp only [Act.put, List.setIfInBounds_toArray, setC]))
      exact bodyPost_ret (results_row2 rfl _ _ gr 0 (msgC zeroM) _ (.int .i64 ((10 : Nat) : Int)) rfl rfl (M.ok 2 _ rfl).2.1 Tryz.underlying67 rfl (by rw [zeroM_len]; kernel_rfl)) rfl (GivesM.zero M)
    | true =>
      have hn6 := fds_len kb
      replace R3 := R3.out hy hk
      rw [hk] at FC
      obtain ⟨l, el⟩ : ∃ l, l = fdsL kb := ⟨_, rfl⟩
      rw [← el] at FC R3 hn6
      replace R3 := Lib.hid R3
      replace FC := Lib.hid FC
      clear R1 R2 hk hy el
      go_enter Tryz.func53, Tryz.ntmps53
      go_wp2_with ((first | ((with_reducible refine tAlloc (some 2) 67 ?_); refine w_alloc M _ rfl rfl (.agg (msgC zeroM).toArray) (msgC zeroM) (by kernel_rfl) rfl ?_; clear M; intro gr w1 M) | ((with_reducible refine tAlloc (some 5) 67 ?_); refine w_alloc M _ rfl rfl (.agg (msgC zeroM).toArray) (msgC zeroM) (by kernel_rfl) rfl ?_; clear M; intro gm w1 M) | (go_at_call 57; go_must (refine (packOf_c _ _).mono ?_; rintro e w1 ⟨gi, rfl, MP⟩; replace M := M.join MP; clear MP; simp only [List.cons_append, List.nil_append] at M)) | (go_at_call 61; go_must (refine (YC.out gi _ (M.ok 0 _ rfl)).mono ?_; rintro r w2 ⟨rfl, U⟩; replace M := M.upd 0 rfl U; clear U; simp only [setC] at M)) | (go_at_call 92; go_must (refine (Fault_ok gi y _ (M.ok 1 _ rfl) HY.out).mono ?_; rintro e w1 ⟨rfl, rfl⟩)) | (go_at_call 90; go_must (have hgm := (M.ok 0 _ rfl).1; have hgi := (M.ok 1 _ rfl).1; have hgr := (M.ok 2 _ rfl).1; refine (FC.out _).mono ?_; rintro e w5 ⟨b1, b2, b3, p, c, rfl, hbl, BX, SF, hso⟩; replace M := M.call hbl; clear hbl)) | ((with_reducible show wpList _ _ _ (Oper.mk _ (Op.load 5 _) _ _ _ _ :: _) _ _); refine w_at _ _ rfl (by exact ev_tmp rfl) ?_; intro hx; refine w_load M 0 _ _ rfl rfl hx rfl (by decide +kernel) (show (msgC (kindM kb))[0]? = some (.int .u8 (I8 kb)) from rfl) ?_; clear hx) | ((with_reducible refine tStore ?_); refine w_at2 _ _ _ rfl (by exact ev_tmp rfl) (by first | exact ev_tmp rfl | exact ev_const) ?_; intro hx hy; (first | refine w_storeMs (m := kindM kb) M 0 _ _ _ rfl rfl hx rfl hy rfl (by kernel_rfl) hzk zeroM_fit ?_ | refine w_storeMs (m := zeroM) M 2 _ _ _ rfl rfl hx rfl hy rfl (by kernel_rfl) zeroM_fit zeroM_fit ?_); clear hx hy M; intro w1 M; (try simp only [setC] at M)) | ((with_reducible refine tGuard ?_); refine gdS ?_) | fail | ((with_reducible refine tLoad ?_); go_must (refine ldS ?_)) | ((with_reducible refine tStore ?_); go_must (refine stS ?_; clear M; intro w1 M; (try simp only [setC] at M))) | ((with_reducible refine tBox _ ?_); (refine bxA M ?_; clear M; intro g w1 M))) <;> (try conv => arg 5; simp only [Act.put, List.setIfInBounds_toArray, setC]))
      obtain ⟨n, hgm, hgi, hgr, BX, hso⟩ : ∃ n, gm < n ∧ gi < n ∧ gr < n ∧ Boxes b1 b2 b3 n w5 ∧ ∀ g, (Value.slice p l.length c).ownBlock = some g → n ≤ g := ⟨_, hgm, hgi, hgr, BX, hso⟩
      have MO : Mem [] w w5 (msK gi gm y (kindL kb) (.slice none 0 0) (.slice none 0 0) ++ [Chunk.row gr (msgC zeroM)]) := ((M.nil 2).nil 3).sel [3, 2, 0, 1, 4] _ (by decide) rfl
      clear M
      have M := MO.again0
      have hF : ∀ b, n ≤ b → b ∉ (msK gi gm y (kindL kb) (.slice none 0 0) (.slice none 0 0) ++ [Chunk.row gr (msgC zeroM)]).flatMap Chunk.fp := fun b hb h => by
        simp [msK, Chunk.fp, Value.ownBlock] at h
        omega
      have TR : ∀ (w' : World) (K : List Chunk), Mem ((msK gi gm y (kindL kb) (.slice none 0 0) (.slice none 0 0) ++ [Chunk.row gr (msgC zeroM)]).flatMap Chunk.fp) w5 w' K → Mem [] w w' K := fun w' K U => MO.turn0 U
      obtain ⟨F, eF⟩ : ∃ F, F = (msK gi gm y (kindL kb) (.slice none 0 0) (.slice none 0 0) ++ [Chunk.row gr (msgC zeroM)]).flatMap Chunk.fp := ⟨_, rfl⟩
      rw [← eF] at M hF TR
      clear eF MO
      have hFo : ∀ g, (Value.slice p l.length c).ownBlock = some g → g ∉ F := fun g h => hF g (hso g h)
      have GG := fun (L : Lm) (x : InS) (hL : L.fit) (hf : x.fit) (hp : L.prs.length ≤ 1000) (ov pv : Value) (f : Fld) (w : World) M => get_all BX hF hL hf hp gi gm ov pv [Chunk.row gr (msgC zeroM)] f w M
      replace GG := Lib.hid GG
      replace TR := Lib.hid TR
      have hLk : (kindL kb).fit := kindL_fit kb
      obtain ⟨L0, eL0⟩ : ∃ L0, L0 = kindL kb := ⟨_, rfl⟩
      have hp0 : L0.prs.length = 0 := by rw [eL0]; rfl
      rw [← eL0] at M R3 hLk
      clear eL0 BX hso hgm hgi hgr hzk FC YC
      go_loopw [41] (fun iv wr => ∃ (j : Nat) (L : Lm) (x : InS) (ov pv : Value), j ≤ l.length ∧ iv = .int .i64 j ∧ L.fit ∧ x.fit ∧ L.prs.length ≤ 48 * j ∧ Hid (runF l L0 y = runF (l.drop j) L x) ∧ Mem F w5 wr (msK gi gm x L ov pv ++ [Chunk.row gr (msgC zeroM)])) (fun iv _ => l.length - (intOf iv).toNat)
      case atStart => exact ⟨0, L0, y, _, _, by omega, rfl, hLk, hfy, by omega, Lib.hid rfl, M⟩
      case round =>
        clear M
        obtain ⟨j, L, x, ov, pv, hj, rfl, hL, hf, hpl, HR, M⟩ := hrel
        by_cases hlt : j < l.length
        · obtain ⟨ga, so, rfl⟩ := SF.addr (by omega)
          obtain ⟨f, hx⟩ : ∃ f, l[j]? = some f := ⟨_, List.getElem?_eq_getElem hlt⟩
          have ED : l.drop j = f :: l.drop (j + 1) := by obtain ⟨h, rfl⟩ := List.getElem?_eq_some_iff.1 hx; exact List.drop_eq_getElem_cons h
          have HR' := HR.out
          rw [ED] at HR'
          clear HR ED
          have SF' := SF.nowF M (fun _ => hFo)
          have HX := Lib.hid hx
          clear hx
          have hkt2 : decide ((j : Int) < (l.length : Int)) = true := decide_eq_true (by omega)
          obtain ⟨hL', hf'⟩ := Fld.get_fit hL hf f
          have hp' := Fld.get_prs (L := L) (x := x) f
          have G := fun w M => GG.out L x hL hf (by omega) ov pv f w M
          have GO := @runF_go f (l.drop (j + 1)) L x
          have GS := @runF_say f (l.drop (j + 1)) L x
          have GE := @runF_err f (l.drop (j + 1)) L x
          obtain ⟨⟨r, L', x'⟩, et⟩ : ∃ R, R = f.get L x := ⟨_, rfl⟩
          rw [← et] at hL' hf' hp' G GO GS GE
          simp only at hL' hf' hp' G
          replace GO := GO rfl
          replace GS := GS rfl
          replace GE := GE rfl
          rw [← HR'] at GO GS GE
          replace G := Lib.hid G
          clear et HR'
          by_cases hx' : x'.err = 0
          · have HX' := Lib.hid hx'
            by_cases hr : r = 0
            · subst hr
              have HN := Lib.hid fun _ : Unit => GO rfl hx'
              clear GO GS GE hx'
              cases f
              all_goals
                simp only [getN, getA] at G
                go_wp2_with ((first | ((with_reducible show wpList _ _ _ (Oper.mk _ (Op.load 175 _) _ _ _ _ :: _) _ _); go_must (refine w_at _ _ rfl (by exact ev_tmp rfl) ?_; intro hx; refine w_seeNA SF' HX.out _ _ rfl hx rfl (by decide +kernel) (by first | (with_reducible rfl) | omega) (by kernel_rfl) ?_; clear hx; (try conv => arg 5; simp only [Act.put, List.setIfInBounds_toArray, setC, fdV_num, fdV_hash, fdV_bat, fdV_prs]))) | ((with_reducible refine tAlloc (some 11) 175 ?_); refine w_alloc M _ rfl rfl (.agg #[.nilFunc, .nilFunc]) ([.nilFunc, .nilFunc]) (by kernel_rfl) rfl ?_; clear M; intro gz w1 M) | ((with_reducible show wpList _ _ _ (Oper.mk _ (Op.store 175 _ _) _ _ _ _ :: _) _ _); go_must (refine w_at2 _ _ _ rfl (by exact ev_tmp rfl) (by first | exact ev_tmp rfl | exact ev_const) ?_; intro hx hy; refine w_storeR M 0 _ _ _ rfl rfl hx rfl _ hy rfl (by kernel_rfl) (by simp [Value.oneCell']) rfl ?_; clear hx hy M; intro w1 M; (try simp only [setC] at M))) | ((first | go_at_call 165 | go_at_call 167 | go_at_call 134 | go_at_call 136); go_must (replace M := M.tail; refine (G.out _ M).mono ?_; rintro e w6 ⟨rfl, ov', pv', N⟩; clear M; have M := N; clear N)) | (go_at_call 92; go_must (refine (Fault_ok gi x' _ (M.ok 0 _ rfl) HX'.out).mono ?_; rintro e w1 ⟨rfl, rfl⟩)) | ((with_reducible refine tStore ?_); refine w_at2 _ _ _ rfl (by exact ev_tmp rfl) (by first | exact ev_tmp rfl | exact ev_const) ?_; intro hx hy; (first | refine w_storeMs (m := zeroM) M 4 _ _ _ rfl rfl hx rfl hy rfl (by kernel_rfl) zeroM_fit zeroM_fit ?_); clear hx hy M; intro w1 M; (try simp only [setC] at M)) | ((with_reducible refine tGuard ?_); refine gdS ?_) | fail | ((with_reducible refine tLoad ?_); go_must (refine ldS ?_)) | ((with_reducible refine tStore ?_); go_must (refine stS ?_; clear M; intro w1 M; (try simp only [setC] at M))) | ((with_reducible refine tBox _ ?_); (refine bxA M ?_; clear M; intro g w1 M))) <;> (try conv => arg 5; simp only [Act.put, List.setIfInBounds_toArray, setC]))
                go_roundw
                case rel => exact ⟨j + 1, L', x', _, _, by omega, by go_num, hL', hf', by omega, Lib.hid (HN.out ()), M⟩
                case measure => simp [intOf]; omega
            · have e0 := R3.out _ _ _ (GS hr hx')
              rw [if_neg hr] at e0
              subst e0
              have hz : ((r : Int) == 0) = false := by simp; exact hr
              have hz' : ((r : Int) != 0) = true := by simp; exact hr
              clear GO GS GE hx' hr R3
              cases f
              all_goals
                simp only [getN, getA] at G
                go_wp2_with ((first | ((with_reducible show wpList _ _ _ (Oper.mk _ (Op.load 175 _) _ _ _ _ :: _) _ _); go_must (refine w_at _ _ rfl (by exact ev_tmp rfl) ?_; intro hx; refine w_seeNA SF' HX.out _ _ rfl hx rfl (by decide +kernel) (by first | (with_reducible rfl) | omega) (by kernel_rfl) ?_; clear hx; (try conv => arg 5; simp only [Act.put, List.setIfInBounds_toArray, setC, fdV_num, fdV_hash, fdV_bat, fdV_prs]))) | ((with_reducible refine tAlloc (some 11) 175 ?_); refine w_alloc M _ rfl rfl (.agg #[.nilFunc, .nilFunc]) ([.nilFunc, .nilFunc]) (by kernel_rfl) rfl ?_; clear M; intro gz w1 M) | ((with_reducible show wpList _ _ _ (Oper.mk _ (Op.store 175 _ _) _ _ _ _ :: _) _ _); go_must (refine w_at2 _ _ _ rfl (by exact ev_tmp rfl) (by first | exact ev_tmp rfl | exact ev_const) ?_; intro hx hy; refine w_storeR M 0 _ _ _ rfl rfl hx rfl _ hy rfl (by kernel_rfl) (by simp [Value.oneCell']) rfl ?_; clear hx hy M; intro w1 M; (try simp only [setC] at M))) | ((first | go_at_call 165 | go_at_call 167 | go_at_call 134 | go_at_call 136); go_must (replace M := M.tail; refine (G.out _ M).mono ?_; rintro e w6 ⟨rfl, ov', pv', N⟩; clear M; have M := N; clear N)) | (go_at_call 92; go_must (refine (Fault_ok gi x' _ (M.ok 0 _ rfl) HX'.out).mono ?_; rintro e w1 ⟨rfl, rfl⟩)) | ((with_reducible refine tStore ?_); refine w_at2 _ _ _ rfl (by exact ev_tmp rfl) (by first | exact ev_tmp rfl | exact ev_const) ?_; intro hx hy; (first | refine w_storeMs (m := zeroM) M 4 _ _ _ rfl rfl hx rfl hy rfl (by kernel_rfl) zeroM_fit zeroM_fit ?_); clear hx hy M; intro w1 M; (try simp only [setC] at M)) | ((with_reducible refine tGuard ?_); refine gdS ?_) | fail | ((with_reducible refine tLoad ?_); go_must (refine ldS ?_)) | ((with_reducible refine tStore ?_); go_must (refine stS ?_; clear M; intro w1 M; (try simp only [setC] at M))) | ((with_reducible refine tBox _ ?_); (refine bxA M ?_; clear M; intro g w1 M))) <;> (try conv => arg 5; simp only [Act.put, List.setIfInBounds_toArray, setC]))
                exact bodyPost_ret (results_row2 rfl _ _ gr 0 (msgC zeroM) _ (.int .i64 (r : Int)) rfl rfl (M.ok 4 _ rfl).2.1 Tryz.underlying67 rfl (by rw [zeroM_len]; kernel_rfl)) rfl (GivesM.zero (TR.out _ _ M))
          · have e0 := R3.out _ _ _ (GE hx')
            rw [if_neg hx'] at e0
            have N := fun w h => Fault_no gi x' w h hx'
            obtain ⟨q, eq⟩ : ∃ q, q = x'.err := ⟨_, rfl⟩
            rw [← eq] at N hx' e0
            subst e0
            replace N := Lib.hid N
            have hz : ((q : Int) == 0) = false := by simp; exact hx'
            have hz' : ((q : Int) != 0) = true := by simp; exact hx'
            clear GO GS GE hx' R3 eq
            cases f
            all_goals
              simp only [getN, getA] at G
              go_wp2_with ((first | ((with_reducible show wpList _ _ _ (Oper.mk _ (Op.load 175 _) _ _ _ _ :: _) _ _); go_must (refine w_at _ _ rfl (by exact ev_tmp rfl) ?_; intro hx; refine w_seeNA SF' HX.out _ _ rfl hx rfl (by decide +kernel) (by first | (with_reducible rfl) | omega) (by kernel_rfl) ?_; clear hx; (try conv => arg 5; simp only [Act.put, List.setIfInBounds_toArray, setC, fdV_num, fdV_hash, fdV_bat, fdV_prs]))) | ((with_reducible refine tAlloc (some 11) 175 ?_); refine w_alloc M _ rfl rfl (.agg #[.nilFunc, .nilFunc]) ([.nilFunc, .nilFunc]) (by kernel_rfl) rfl ?_; clear M; intro gz w1 M) | ((with_reducible show wpList _ _ _ (Oper.mk _ (Op.store 175 _ _) _ _ _ _ :: _) _ _); go_must (refine w_at2 _ _ _ rfl (by exact ev_tmp rfl) (by first | exact ev_tmp rfl | exact ev_const) ?_; intro hx hy; refine w_storeR M 0 _ _ _ rfl rfl hx rfl _ hy rfl (by kernel_rfl) (by simp [Value.oneCell']) rfl ?_; clear hx hy M; intro w1 M; (try simp only [setC] at M))) | ((first | go_at_call 165 | go_at_call 167 | go_at_call 134 | go_at_call 136); go_must (replace M := M.tail; refine (G.out _ M).mono ?_; rintro e w6 ⟨rfl, ov', pv', N⟩; clear M; have M := N; clear N)) | (go_at_call 92; go_must (refine (N.out _ (M.ok 0 _ rfl)).mono ?_; rintro e w1 ⟨rfl, hb⟩; replace M := M.call hb; clear hb)) | ((with_reducible refine tStore ?_); refine w_at2 _ _ _ rfl (by exact ev_tmp rfl) (by first | exact ev_tmp rfl | exact ev_const) ?_; intro hx hy; (first | refine w_storeMs (m := zeroM) M 4 _ _ _ rfl rfl hx rfl hy rfl (by kernel_rfl) zeroM_fit zeroM_fit ?_); clear hx hy M; intro w1 M; (try simp only [setC] at M)) | ((with_reducible refine tGuard ?_); refine gdS ?_) | fail | ((with_reducible refine tLoad ?_); go_must (refine ldS ?_)) | ((with_reducible refine tStore ?_); go_must (refine stS ?_; clear M; intro w1 M; (try simp only [setC] at M))) | ((with_reducible refine tBox _ ?_); (refine bxA M ?_; clear M; intro g w1 M))) <;> (try conv => arg 5; simp only [Act.put, List.setIfInBounds_toArray, setC]))
              exact bodyPost_ret (results_row2 rfl _ _ gr 0 (msgC zeroM) _ (.int .i64 (q : Int)) rfl rfl (M.ok 4 _ rfl).2.1 Tryz.underlying67 rfl (by rw [zeroM_len]; kernel_rfl)) rfl (GivesM.zero (TR.out _ _ M))
        · obtain rfl : j = l.length := by omega
          have h0 : runF (l.drop l.length) L x = (0, L, x) := by rw [List.drop_length, runF_nil]
          have e0 := R3.out 0 L x (HR.out.trans h0)
          clear h0
          rw [if_pos rfl] at e0
          have E := fun w h => End_c gi x w h hf
          have hfit := sl_fit hL (M.sel [0, 1, 2, 3] (msK gi gm x L ov pv) (by decide) rfl)
          by_cases hfin : x.fin = 0
          · rw [if_pos hfin] at e0
            subst e0
            rw [hfin] at E
            replace E := Lib.hid E
            clear hfin R3 HR
            go_wp2_with ((first | (go_at_call 62; go_must (refine (E.out _ (M.ok 0 _ rfl)).mono ?_; rintro e w1 ⟨rfl, hb⟩; replace M := M.call hb; clear hb)) | ((with_reducible refine tLoad ?_); refine w_at _ _ rfl (by exact ev_tmp rfl) ?_; intro hx; refine w_loadMs M 1 _ _ rfl rfl hx rfl (by decide +kernel) (by kernel_rfl) hfit ?_; clear hx) | ((with_reducible refine tStore ?_); refine w_at2 _ _ _ rfl (by exact ev_tmp rfl) (by first | exact ev_tmp rfl | exact ev_const) ?_; intro hx hy; (first | refine w_storeMs (m := L.ms ov pv) M 4 _ _ _ rfl rfl hx rfl hy rfl (by kernel_rfl) hfit zeroM_fit ?_); clear hx hy M; intro w1 M; (try simp only [setC] at M)) | ((with_reducible refine tGuard ?_); refine gdS ?_) | fail | ((with_reducible refine tLoad ?_); go_must (refine ldS ?_)) | ((with_reducible refine tStore ?_); go_must (refine stS ?_; clear M; intro w1 M; (try simp only [setC] at M))) | ((with_reducible refine tBox _ ?_); (refine bxA M ?_; clear M; intro g w1 M))) <;> (try conv => arg 5; simp only [Act.put, List.setIfInBounds_toArray, setC]))
            exact bodyPost_ret (results_row2 rfl _ _ gr 0 (msgC (L.ms ov pv)) _ (.int .i64 ((0 : Nat) : Int)) rfl rfl (M.ok 4 _ rfl).2.1 Tryz.underlying67 rfl (by rw [msgC_len hfit]; kernel_rfl)) rfl (⟨ov, pv, rfl, (TR.out _ _ M).sel [2, 3] _ (by decide) rfl⟩)
          · rw [if_neg hfin] at e0
            obtain ⟨q, eq⟩ : ∃ q, q = x.fin := ⟨_, rfl⟩
            rw [← eq] at E hfin e0
            subst e0
            replace E := Lib.hid E
            have hz : ((q : Int) == 0) = false := by simp; exact hfin
            have hz' : ((q : Int) != 0) = true := by simp; exact hfin
            clear hfin R3 HR eq
            go_wp2_with ((first | (go_at_call 62; go_must (refine (E.out _ (M.ok 0 _ rfl)).mono ?_; rintro e w1 ⟨rfl, hb⟩; replace M := M.call hb; clear hb)) | ((with_reducible refine tStore ?_); refine w_at2 _ _ _ rfl (by exact ev_tmp rfl) (by first | exact ev_tmp rfl | exact ev_const) ?_; intro hx hy; (first | refine w_storeMs (m := zeroM) M 4 _ _ _ rfl rfl hx rfl hy rfl (by kernel_rfl) zeroM_fit zeroM_fit ?_); clear hx hy M; intro w1 M; (try simp only [setC] at M)) | ((with_reducible refine tGuard ?_); refine gdS ?_) | fail | ((with_reducible refine tLoad ?_); go_must (refine ldS ?_)) | ((with_reducible refine tStore ?_); go_must (refine stS ?_; clear M; intro w1 M; (try simp only [setC] at M))) | ((with_reducible refine tBox _ ?_); (refine bxA M ?_; clear M; intro g w1 M))) <;> (try conv => arg 5; simp only [Act.put, List.setIfInBounds_toArray, setC]))
            exact bodyPost_ret (results_row2 rfl _ _ gr 0 (msgC zeroM) _ (.int .i64 (q : Int)) rfl rfl (M.ok 4 _ rfl).2.1 Tryz.underlying67 rfl (by rw [zeroM_len]; kernel_rfl)) rfl (GivesM.zero (TR.out _ _ M))
  · have e0 := R1 hy
    subst e0
    clear R1 R2 R3
    have HY := Lib.hid hy
    obtain ⟨r, er⟩ : ∃ r, r = y.err := ⟨_, rfl⟩
    rw [← er] at hy ⊢
    have hz : ((r : Int) == 0) = false := by simp; exact hy
    have hz' : ((r : Int) != 0) = true := by simp; exact hy
    have N := fun g w h => Fault_no g y w h HY.out
    rw [← er] at N
    replace N := Lib.hid N
    clear hy er
    go_enter Tryz.func53, Tryz.ntmps53
    go_wp2_with ((first | ((with_reducible refine tAlloc (some 2) 67 ?_); refine w_alloc M _ rfl rfl (.agg (msgC zeroM).toArray) (msgC zeroM) (by kernel_rfl) rfl ?_; clear M; intro gr w1 M) | ((with_reducible refine tAlloc (some 5) 67 ?_); refine w_alloc M _ rfl rfl (.agg (msgC zeroM).toArray) (msgC zeroM) (by kernel_rfl) rfl ?_; clear M; intro gm w1 M) | (go_at_call 57; go_must (refine (packOf_c _ _).mono ?_; rintro e w1 ⟨gi, rfl, MP⟩; replace M := M.join MP; clear MP; simp only [List.cons_append, List.nil_append] at M)) | (go_at_call 61; go_must (refine (YC.out gi _ (M.ok 0 _ rfl)).mono ?_; rintro r w2 ⟨rfl, U⟩; replace M := M.upd 0 rfl U; clear U; simp only [setC] at M)) | (go_at_call 92; go_must (refine (N.out gi _ (M.ok 1 _ rfl)).mono ?_; rintro e w1 ⟨rfl, hb⟩; replace M := M.call hb; clear hb)) | ((with_reducible refine tStore ?_); refine w_at2 _ _ _ rfl (by exact ev_tmp rfl) (by first | exact ev_tmp rfl | exact ev_const) ?_; intro hx hy; (first | refine w_storeMs (m := kindM kb) M 0 _ _ _ rfl rfl hx rfl hy rfl (by kernel_rfl) hzk zeroM_fit ?_ | refine w_storeMs (m := zeroM) M 2 _ _ _ rfl rfl hx rfl hy rfl (by kernel_rfl) zeroM_fit zeroM_fit ?_); clear hx hy M; intro w1 M; (try simp only [setC] at M)) | ((with_reducible refine tGuard ?_); refine gdS ?_) | fail | ((with_reducible refine tLoad ?_); go_must (refine ldS ?_)) | ((with_reducible refine tStore ?_); go_must (refine stS ?_; clear M; intro w1 M; (try simp only [setC] at M))) | ((with_reducible refine tBox _ ?_); (refine bxA M ?_; clear M; intro g w1 M))) <;> (try conv => arg 5; simp only [Act.put, List.setIfInBounds_toArray, setC]))
    exact bodyPost_ret (results_row2 rfl _ _ gr 0 (msgC zeroM) _ (.int .i64 (r : Int)) rfl rfl (M.ok 2 _ rfl).2.1 Tryz.underlying67 rfl (by rw [zeroM_len]; kernel_rfl)) rfl (GivesM.zero M)
end Go.Proofs.YtidadhbaomieiaaGreat

/- The walk of msg.Bytes. Conditions: lengths; the numbers are int's. -/
namespace Go
namespace TL
open Go.RowKit
theorem runF_fit : ∀ (l : List Fld) (L : Lm) (x : InS), L.fit → x.fit → (runF l L x).2.1.fit
  | [], _, _, h, _ => h
  | f :: l, L, x, h, hx => by
    obtain ⟨h1, h2⟩ := Fld.get_fit h hx f
    rw [runF]
    split
    · exact runF_fit l _ _ h1 h2
    · exact h1
theorem readB_ops (s : List UInt8) : (readB s).1.2.2.length ≤ 4 := by
  obtain ⟨⟨⟨i, e, d⟩, r⟩, h⟩ : ∃ R, R = readB s := ⟨_, rfl⟩
  rw [← h]
  by_cases hr : r = 0
  · subst hr
    obtain ⟨_, h2, _⟩ := read_batonly h.symm
    exact (right_ok h2).2.2.2.1
  · have := readB_zero (s := s) (by rw [← h]; exact hr)
    rw [← h] at this
    simp only [Prod.mk.injEq] at this
    obtain ⟨_, _, rfl⟩ := this
    exact Nat.zero_le _
theorem Fld.get_ops {L : Lm} {x : InS} (h : L.ops.length ≤ 1000) (f : Fld) : (f.get L x).2.1.ops.length ≤ 1000 := by
  cases f with
  | num q =>
    have : (q.sl L ((x.most q.most).1 : Int)).ops = L.ops := by cases q <;> rfl
    show (q.sl L ((x.most q.most).1 : Int)).ops.length ≤ _
    rw [this]; exact h
  | hash q =>
    simp only [Fld.get]
    generalize hashS (q.gl L) x 32 = z
    have : (q.sl L z.2).ops = L.ops := by cases q <;> rfl
    rw [this]; exact h
  | bat =>
    simp only [Fld.get]
    generalize x.text 512 = z
    have h4 := readB_ops z.1
    generalize readB z.1 = y at h4 ⊢
    split
    · exact Nat.le_trans h4 (by omega)
    · exact h
  | prs => exact h
theorem runF_ops : ∀ (l : List Fld) (L : Lm) (x : InS), L.ops.length ≤ 1000 → (runF l L x).2.1.ops.length ≤ 1000
  | [], _, _, h => h
  | f :: l, L, x, h => by
    have h1 := Fld.get_ops (x := x) h f
    rw [runF]
    split
    · exact runF_ops l _ _ h1
    · exact h1
theorem runF_prs : ∀ (l : List Fld) (L : Lm) (x : InS), (runF l L x).2.1.prs.length ≤ L.prs.length + 48 * l.length
  | [], _, _ => Nat.le_add_right _ _
  | f :: l, L, x => by
    have h1 := Fld.get_prs (L := L) (x := x) f
    rw [runF, List.length_cons]
    split
    · have := runF_prs l (f.get L x).2.1 (f.get L x).2.2; omega
    · simp only; omega
theorem readM_form (s : List UInt8) (hs : s.length ≤ 1000000) : (readM s).1.fit ∧ (readM s).1.ops.length ≤ 1000 ∧ (readM s).1.prs.length ≤ 1000 := by
  have hst : (inStart s).fit := by unfold inStart InS.fit; simp; omega
  have hz : zeroL.fit ∧ zeroL.ops.length ≤ 1000 ∧ zeroL.prs.length ≤ 1000 := ⟨zeroL_fit, Nat.zero_le _, Nat.zero_le _⟩
  unfold readM
  simp only
  have hy := InS.byte_fit hst
  generalize (inStart s).byte = y at hy ⊢
  split
  · split
    · have h1 := runF_fit (fdsL (UInt8.ofNat y.1)) (kindL (UInt8.ofNat y.1)) y.2 (kindL_fit _) hy
      have h2 := runF_ops (fdsL (UInt8.ofNat y.1)) (kindL (UInt8.ofNat y.1)) y.2 (Nat.zero_le _)
      have h3 := runF_prs (fdsL (UInt8.ofNat y.1)) (kindL (UInt8.ofNat y.1)) y.2
      have h4 := fds_len (UInt8.ofNat y.1)
      have h5 : (kindL (UInt8.ofNat y.1)).prs.length = 0 := rfl
      generalize runF (fdsL (UInt8.ofNat y.1)) (kindL (UInt8.ofNat y.1)) y.2 = t at h1 h2 h3 ⊢
      split
      · split
        · exact ⟨h1, h2, by show t.2.1.prs.length ≤ 1000; omega⟩
        · exact hz
      · exact hz
    · exact hz
  · exact hz
theorem bytesM_kind {L : Lm} (h : isK L.k = false) : bytesM L = ([], 10) := by unfold bytesM; rw [if_neg (by rw [h]; decide)]
theorem bytesM_bad {L : Lm} (h : isK L.k = true) {j : Nat} {f : Fld} (hf : (fdsL L.k)[j]? = some f) (ho : f.ok L = false) : bytesM L = ([], 1) := by
  unfold bytesM
  rw [if_pos h, if_neg]
  rintro ⟨h1, _⟩
  rw [List.all_eq_true] at h1
  have := h1 f (List.mem_of_getElem? hf)
  rw [ho] at this; cases this
theorem bytesM_no {L : Lm} (h : isK L.k = true) (hn : readM (L.k :: (fdsL L.k).flatMap (fun f => f.put L)) ≠ (L, 0)) : bytesM L = ([], 1) := by
  unfold bytesM; rw [if_pos h, if_neg (fun h => hn h.2)]
theorem bytesM_yes {L : Lm} (h : isK L.k = true) (ho : ∀ (j : Nat) (f : Fld), (fdsL L.k)[j]? = some f → f.ok L = true) (hn : readM (L.k :: (fdsL L.k).flatMap (fun f => f.put L)) = (L, 0)) : bytesM L = (L.k :: (fdsL L.k).flatMap (fun f => f.put L), 0) := by
  unfold bytesM; rw [if_pos h, if_pos ⟨List.all_eq_true.2 fun f hf => by obtain ⟨j, hj⟩ := List.mem_iff_getElem?.1 hf; exact ho j f hj, hn⟩]
theorem puts_len {L : Lm} (hr : L.rng) (hL : L.fit) : ∀ l : List Fld, (l.flatMap (fun f => f.put L)).length ≤ l.length * 100100
  | [] => by simp
  | f :: l => by
    have h1 := f.put_len hr hL
    have h2 := puts_len hr hL l
    simp only [List.flatMap_cons, List.length_append, List.length_cons]; omega
end TL
end Go
namespace Go
namespace TL
theorem ms_fit2 {Lr : Lm} (h : Lr.fit) {F : List Nat} {w0 w : World} {ov pv : Value} {R : List Chunk} (M : Mem F w0 w (.sl 3 ov Lr.ops.length (Lr.ops.flatMap opV) :: .sl 2 pv Lr.prs.length (Lr.prs.flatMap prV) :: R)) : (Lr.ms ov pv).fit := by
  obtain ⟨op, oc, rfl⟩ := sl_form (M.ok 0 _ rfl)
  obtain ⟨pp, pc, rfl⟩ := sl_form (M.ok 1 _ rfl)
  exact Lm.ms_fit h rfl rfl
end TL
end Go
namespace Go.Proofs.YtidadhbaomieiaaGreat
open Go.RowKit Go.TL
set_option maxRecDepth 100000 in
set_option maxHeartbeats 16000000 in
theorem Bytes_c (L : Lm) (ov pv : Value) (w : World) (hL : L.fit) (hr : L.rng) (S : SeesL w 3 opV ov L.ops) (T : SeesL w 2 prV pv L.prs) :
    Calls Tryz.prog 51 #[.agg (msgC (L.ms ov pv)).toArray] w fun e w' => e = .returned (.tuple #[.string (mkS (bytesM L).1), .int .i64 (bytesM L).2]) ∧ Below w.heap.size w w' := by
  have M := Mem.start [] w
  have hmf : (L.ms ov pv).fit := by
    obtain ⟨op, oc, rfl, _⟩ := S.form
    obtain ⟨pp, pc, rfl, _⟩ := T.form
    exact Lm.ms_fit hL rfl rfl
  have HK : (msgC (L.ms ov pv))[0]? = some (.int .u8 (I8 L.k)) := rfl
  replace HK := Lib.hid HK
  have FC := fun w => fields_c L.k w
  unfold Fields at FC
  cases hk : isK L.k with
  | false =>
    rw [bytesM_kind hk]
    rw [hk] at FC
    replace FC := Lib.hid FC
    clear hk
    go_enter Tryz.func51, Tryz.ntmps51
    go_wp2_with ((first | ((with_reducible refine tBox (some 1) ?_); refine w_box M _ _ rfl rfl _ rfl (msgC (L.ms ov pv)) rfl ?_; clear M; intro gm w1 M) | (go_at_call 90; go_must (have hgm := (M.ok 0 _ rfl).1; refine (FC.out _).mono ?_; rintro e w5 ⟨b1, b2, b3, p, c, rfl, hbl, BX, SF, hso⟩; replace M := M.call hbl; clear hbl)) | ((with_reducible show wpList _ _ _ (Oper.mk _ (Op.load 5 _) _ _ _ _ :: _) _ _); refine w_at _ _ rfl (by exact ev_tmp rfl) ?_; intro hx; (first | refine w_load M 0 _ _ rfl rfl hx rfl (by decide +kernel) HK.out ?_ | refine w_load M 1 _ _ rfl rfl hx rfl (by decide +kernel) HK.out ?_); clear hx) | ((with_reducible refine tGuard ?_); refine gdS ?_) | fail | ((with_reducible refine tLoad ?_); go_must (refine ldS ?_)) | ((with_reducible refine tStore ?_); go_must (refine stS ?_; clear M; intro w1 M; (try simp only [setC] at M))) | ((with_reducible refine tBox _ ?_); (refine bxA M ?_; clear M; intro g w1 M))) <;> (try conv => arg 5; simp only [Act.put, List.setIfInBounds_toArray, setC]))
    go_ret2
    exact ⟨rfl, M.below⟩
  | true =>
    have BB := fun j f => @bytesM_bad L hk j f
    have BN := bytesM_no hk
    have BY := bytesM_yes hk
    have PL := puts_len hr hL
    have hn6 := fds_len L.k
    rw [hk] at FC
    obtain ⟨A, eA⟩ : ∃ A, A = bytesM L := ⟨_, rfl⟩
    obtain ⟨l, el⟩ : ∃ l, l = fdsL L.k := ⟨_, rfl⟩
    rw [← eA] at BB BN BY
    rw [← eA]
    rw [← el] at BB BN BY FC hn6
    replace FC := Lib.hid FC
    replace BB := Lib.hid BB
    clear eA el hk
    go_enter Tryz.func51, Tryz.ntmps51
    go_wp2_with ((first | ((with_reducible refine tBox (some 1) ?_); refine w_box M _ _ rfl rfl _ rfl (msgC (L.ms ov pv)) rfl ?_; clear M; intro gm w1 M) | (go_at_call 90; go_must (have hgm := (M.ok 0 _ rfl).1; refine (FC.out _).mono ?_; rintro e w5 ⟨b1, b2, b3, p, c, rfl, hbl, BX, SF, hso⟩; have MO := M.call hbl; clear hbl M; have M := MO.again0)) | ((with_reducible show wpList _ _ _ (Oper.mk _ (Op.load 5 _) _ _ _ _ :: _) _ _); refine w_at _ _ rfl (by exact ev_tmp rfl) ?_; intro hx; (first | refine w_load M 0 _ _ rfl rfl hx rfl (by decide +kernel) HK.out ?_ | refine w_load M 1 _ _ rfl rfl hx rfl (by decide +kernel) HK.out ?_); clear hx) | ((with_reducible refine tAlloc (some 6) 155 ?_); refine w_alloc M _ rfl rfl (.agg #[.slice none 0 0]) ([.slice none 0 0]) (by kernel_rfl) rfl ?_; clear M; intro go w1 M) | (go_at_call 91; go_must (replace M := M.outNew; refine (Out_Byte_c _ _ [] L.k _ (by simp) (M.ok 0 _ rfl)).mono ?_; rintro e w2 ⟨rfl, v1, U⟩; replace M := M.upd 0 rfl U; clear U; simp only [setC, List.nil_append] at M)) | ((with_reducible refine tGuard ?_); refine gdS ?_) | fail | ((with_reducible refine tLoad ?_); go_must (refine ldS ?_)) | ((with_reducible refine tStore ?_); go_must (refine stS ?_; clear M; intro w1 M; (try simp only [setC] at M))) | ((with_reducible refine tBox _ ?_); (refine bxA M ?_; clear M; intro g w1 M))) <;> (try conv => arg 5; simp only [Act.put, List.setIfInBounds_toArray, setC]))
    obtain ⟨n, hgm, BX, hso⟩ : ∃ n, gm < n ∧ Boxes b1 b2 b3 n w5 ∧ ∀ g, (Value.slice p l.length c).ownBlock = some g → n ≤ g := ⟨_, hgm, BX, hso⟩
    have hgw : w.heap.size ≤ gm := (MO.own 0 _ rfl gm (by simp [Chunk.fp])).resolve_left (by simp)
    have S5 := S.now MO
    have T5 := T.now MO
    have hF : ∀ b, b ≠ gm → b ∉ [Chunk.row gm (msgC (L.ms ov pv))].flatMap Chunk.fp := fun b hb h => by
      simp [Chunk.fp] at h
      exact hb h
    have TR : ∀ (w' : World) (K : List Chunk), Mem ([Chunk.row gm (msgC (L.ms ov pv))].flatMap Chunk.fp) w5 w' K → Below w.heap.size w w' := fun w' K U => (MO.turn0 U).below
    obtain ⟨F, eF⟩ : ∃ F, F = [Chunk.row gm (msgC (L.ms ov pv))].flatMap Chunk.fp := ⟨_, rfl⟩
    rw [← eF] at M hF TR
    clear eF MO FC
    have hS : 0 < L.ops.length → ∀ k, ov.ownBlock = some k → k ∉ F := fun h0 k h => hF k (by have := S.old h0 k h; omega)
    have hT : 0 < L.prs.length → ∀ k, pv.ownBlock = some k → k ∉ F := fun h0 k h => hF k (by have := T.old h0 k h; omega)
    have hFn : ∀ b, n ≤ b → b ∉ F := fun b h => hF b (by omega)
    have hFo : ∀ g, (Value.slice p l.length c).ownBlock = some g → g ∉ F := fun g h => hFn g (hso g h)
    have GG := fun (f : Fld) (v : Value) (y : List UInt8) (hy : y.length ≤ 700000) (w : World) M => put_all BX hFn hL hr go gm S5 T5 hS hT [] f v y hy w M
    replace GG := Lib.hid GG
    replace TR := Lib.hid TR
    have hTK : ∀ (j : Nat) (f : Fld), l[j]? = some f → (l.take (j + 1)).flatMap (fun f => f.put L) = (l.take j).flatMap (fun f => f.put L) ++ f.put L := fun j f h => by
      obtain ⟨hj, rfl⟩ := List.getElem?_eq_some_iff.1 h
      rw [List.take_succ_eq_append_getElem hj, List.flatMap_append, List.flatMap_cons, List.flatMap_nil, List.append_nil]
    replace hTK := Lib.hid hTK
    clear hgm BX hso hgw hF hFn
    go_loopw [25] (fun iv wr => ∃ (j : Nat) (v1 : Value), j ≤ l.length ∧ iv = .int .i64 j ∧ Hid (∀ (i : Nat) (f : Fld), i < j → l[i]? = some f → f.ok L = true) ∧ Mem F w5 wr [outC go v1 (L.k :: (l.take j).flatMap (fun f => f.put L)), Chunk.row gm (msgC (L.ms ov pv))]) (fun iv _ => l.length - (intOf iv).toNat)
    case atStart => exact ⟨0, _, by omega, rfl, Lib.hid (by omega), M⟩
    case round =>
      clear M
      obtain ⟨j, v0, hj, rfl, HO, M⟩ := hrel
      by_cases hlt : j < l.length
      · obtain ⟨ga, so, rfl⟩ := SF.addr (by omega)
        obtain ⟨f, hx⟩ : ∃ f, l[j]? = some f := ⟨_, List.getElem?_eq_getElem hlt⟩
        have SF' := SF.nowF M (fun _ => hFo)
        have HX := Lib.hid hx
        have hT1 := hTK.out j f hx
        have hB1 := BB.out j f hx
        clear hx
        have hkt2 : decide ((j : Int) < (l.length : Int)) = true := decide_eq_true (by omega)
        have hlen : (L.k :: (l.take j).flatMap (fun f => f.put L)).length ≤ 700000 := by
          have h1 := PL (l.take j)
          have h2 : (l.take j).length ≤ 6 := by rw [List.length_take]; omega
          have h3 : (l.take j).length * 100100 ≤ 600600 := by omega
          rw [List.length_cons]; omega
        obtain ⟨y, ey⟩ : ∃ y, y = L.k :: (l.take j).flatMap (fun f => f.put L) := ⟨_, rfl⟩
        have HY : L.k :: (l.take (j + 1)).flatMap (fun f => f.put L) = y ++ f.put L := by rw [hT1, ey]; rfl
        rw [← ey] at M hlen
        have G := fun w M => GG.out f v0 y hlen w M
        obtain ⟨q, eq⟩ : ∃ q, q = f.put L := ⟨_, rfl⟩
        rw [← eq] at G HY
        replace HY := Lib.hid HY
        clear ey eq hT1
        cases hb : f.ok L with
        | false =>
          have e0 := hB1 hb
          subst e0
          rw [hb] at G
          replace G := Lib.hid G
          clear hB1 hb BN BY
          cases f
          all_goals
            simp only [putN, putA] at G
            go_wp2_with ((first | ((with_reducible show wpList _ _ _ (Oper.mk _ (Op.load 175 _) _ _ _ _ :: _) _ _); go_must (refine w_at _ _ rfl (by exact ev_tmp rfl) ?_; intro hx; refine w_seeNA SF' HX.out _ _ rfl hx rfl (by decide +kernel) (by first | (with_reducible rfl) | omega) (by kernel_rfl) ?_; clear hx; (try conv => arg 5; simp only [Act.put, List.setIfInBounds_toArray, setC, fdV_num, fdV_hash, fdV_bat, fdV_prs]))) | ((with_reducible refine tAlloc (some 8) 175 ?_); refine w_alloc M _ rfl rfl (.agg #[.nilFunc, .nilFunc]) ([.nilFunc, .nilFunc]) (by kernel_rfl) rfl ?_; clear M; intro gz w1 M) | ((with_reducible show wpList _ _ _ (Oper.mk _ (Op.store 175 _ _) _ _ _ _ :: _) _ _); go_must (refine w_at2 _ _ _ rfl (by exact ev_tmp rfl) (by first | exact ev_tmp rfl | exact ev_const) ?_; intro hx hy; refine w_storeR M 0 _ _ _ rfl rfl hx rfl _ hy rfl (by kernel_rfl) (by simp [Value.oneCell']) rfl ?_; clear hx hy M; intro w1 M; (try simp only [setC] at M))) | ((first | go_at_call 164 | go_at_call 166 | go_at_call 133 | go_at_call 135); go_must (replace M := M.tail; refine (G.out _ M).mono ?_; rintro e w6 ⟨v', l', rfl, hl', N⟩; clear M; have M := N; clear N)) | ((with_reducible refine tGuard ?_); refine gdS ?_) | fail | ((with_reducible refine tLoad ?_); go_must (refine ldS ?_)) | ((with_reducible refine tStore ?_); go_must (refine stS ?_; clear M; intro w1 M; (try simp only [setC] at M))) | ((with_reducible refine tBox _ ?_); (refine bxA M ?_; clear M; intro g w1 M))) <;> (try conv => arg 5; simp only [Act.put, List.setIfInBounds_toArray, setC]))
            go_ret2
            exact ⟨rfl, TR.out _ _ M⟩
        | true =>
          rw [hb] at G
          have HB := Lib.hid hb
          replace G := Lib.hid G
          clear hB1 hb
          cases f
          all_goals
            simp only [putN, putA] at G
            go_wp2_with ((first | ((with_reducible show wpList _ _ _ (Oper.mk _ (Op.load 175 _) _ _ _ _ :: _) _ _); go_must (refine w_at _ _ rfl (by exact ev_tmp rfl) ?_; intro hx; refine w_seeNA SF' HX.out _ _ rfl hx rfl (by decide +kernel) (by first | (with_reducible rfl) | omega) (by kernel_rfl) ?_; clear hx; (try conv => arg 5; simp only [Act.put, List.setIfInBounds_toArray, setC, fdV_num, fdV_hash, fdV_bat, fdV_prs]))) | ((with_reducible refine tAlloc (some 8) 175 ?_); refine w_alloc M _ rfl rfl (.agg #[.nilFunc, .nilFunc]) ([.nilFunc, .nilFunc]) (by kernel_rfl) rfl ?_; clear M; intro gz w1 M) | ((with_reducible show wpList _ _ _ (Oper.mk _ (Op.store 175 _ _) _ _ _ _ :: _) _ _); go_must (refine w_at2 _ _ _ rfl (by exact ev_tmp rfl) (by first | exact ev_tmp rfl | exact ev_const) ?_; intro hx hy; refine w_storeR M 0 _ _ _ rfl rfl hx rfl _ hy rfl (by kernel_rfl) (by simp [Value.oneCell']) rfl ?_; clear hx hy M; intro w1 M; (try simp only [setC] at M))) | ((first | go_at_call 164 | go_at_call 166 | go_at_call 133 | go_at_call 135); go_must (replace M := M.tail; refine (G.out _ M).mono ?_; rintro e w6 ⟨v', l', rfl, hl', N⟩; clear M; have M := N; clear N)) | ((with_reducible refine tGuard ?_); refine gdS ?_) | fail | ((with_reducible refine tLoad ?_); go_must (refine ldS ?_)) | ((with_reducible refine tStore ?_); go_must (refine stS ?_; clear M; intro w1 M; (try simp only [setC] at M))) | ((with_reducible refine tBox _ ?_); (refine bxA M ?_; clear M; intro g w1 M))) <;> (try conv => arg 5; simp only [Act.put, List.setIfInBounds_toArray, setC]))
            go_roundw
            case rel => exact ⟨j + 1, v', by omega, by go_num, Lib.hid fun i f hi hf => by
              rcases Nat.lt_succ_iff_lt_or_eq.1 hi with hi | rfl
              · exact HO.out i f hi hf
              · have e := HX.out.symm.trans hf
                injection e with e
                rw [← e]; exact HB.out, by rw [HY.out, ← hl' (by first | exact rfl | trivial)]; exact M⟩
            case measure => simp [intOf]; omega
      · obtain rfl : j = l.length := by omega
        rw [List.take_length] at M
        have hlen : (L.k :: l.flatMap (fun f => f.put L)).length ≤ 700000 := by
          have h1 := PL l
          have h3 : l.length * 100100 ≤ 600600 := by omega
          rw [List.length_cons]; omega
        have BY' := BY fun j f h => HO.out j f (List.getElem?_eq_some_iff.1 h).1 h
        clear BY BB GG hTK HO
        obtain ⟨y, ey⟩ : ∃ y, y = L.k :: l.flatMap (fun f => f.put L) := ⟨_, rfl⟩
        rw [← ey] at M BY' BN hlen
        clear ey
        have RC := fun w => Read_c y w (by omega)
        obtain ⟨hRf, hRo, hRp⟩ := readM_form y (by omega)
        obtain ⟨⟨Lr, er⟩, eR⟩ : ∃ R, R = readM y := ⟨_, rfl⟩
        rw [← eR] at RC hRf hRo hRp BY' BN
        unfold GivesM at RC
        simp only at RC hRf hRo hRp
        replace RC := Lib.hid RC
        clear eR
        have SC := fun w ro rp (S1 : SeesL w 3 opV ro Lr.ops) (T1 : SeesL w 2 prV rp Lr.prs) S2 T2 => Same_c Lr L ro rp ov pv w hRf hL S1 T1 S2 T2 (by omega) (by omega) (by have := hr.o1; omega) (by have := hr.p1; omega)
        by_cases he : er = 0
        · subst he
          by_cases hs : Lr = L
          · have e0 := BY' (by rw [hs])
            subst e0
            rw [decide_eq_true hs] at SC
            replace SC := Lib.hid SC
            clear BY' BN hs
            go_wp2_with ((first | ((with_reducible refine tGuard ?_); (with_reducible refine w_stripE ?_ ?_); (focus (refine ⟨_, rfl, ?_⟩; first | (with_reducible rfl) | exact decide_eq_false (by omega) | exact decide_eq_true (by omega)))) | ((with_reducible refine tGuard ?_); first | ((with_reducible refine w_skip1 ?_ ?_); (focus (refine ⟨_, rfl, ?_⟩; first | (with_reducible rfl) | exact decide_eq_false (by omega) | exact decide_eq_true (by omega)))) | ((with_reducible refine w_skip0 ?_ ?_); (focus (refine ⟨_, rfl, ?_⟩; first | (with_reducible rfl) | exact decide_eq_false (by omega) | exact decide_eq_true (by omega))))) | (go_at_call 81; go_must (refine (Out_String_c _ _ _ _ (M.ok 0 _ rfl)).mono ?_; rintro e w1 ⟨rfl, rfl⟩)) | (go_at_call 53; go_must (refine (RC.out _).mono ?_; rintro e w7 ⟨rov, rpv, rfl, N⟩; replace M := M.join N; clear N; simp only [List.cons_append, List.nil_append] at M; have hrf := ms_fit2 hRf M)) | ((with_reducible refine tAlloc (some 10) 67 ?_); refine w_alloc M _ rfl rfl (.agg (msgC zeroM).toArray) (msgC zeroM) (by kernel_rfl) rfl ?_; clear M; intro gb w1 M) | ((with_reducible show wpList _ _ _ (Oper.mk _ (Op.load 67 _) _ _ _ _ :: _) _ _); refine w_at _ _ rfl (by exact ev_tmp rfl) ?_; intro hx; (first | refine w_loadMs M 0 _ _ rfl rfl hx rfl (by decide +kernel) (by kernel_rfl) hrf ?_ | refine w_loadMs M 4 _ _ rfl rfl hx rfl (by decide +kernel) (by kernel_rfl) hmf ?_); clear hx) | (go_at_call 28; go_must (refine (SC.out _ rov rpv (SeesL.own M 1 rfl rfl opV_len) (SeesL.own M 2 rfl rfl prV_len) (S5.nowF M hS) (T5.nowF M hT)).mono ?_; rintro e w1 ⟨rfl, hb⟩; replace M := M.call hb; clear hb)) | ((with_reducible refine tStore ?_); refine w_at2 _ _ _ rfl (by exact ev_tmp rfl) (by first | exact ev_tmp rfl | exact ev_const) ?_; intro hx hy; refine w_storeMs (m := Lr.ms rov rpv) M 0 _ _ _ rfl rfl hx rfl hy rfl (by kernel_rfl) hrf zeroM_fit ?_; clear hx hy M; intro w1 M; (try simp only [setC] at M)) | ((with_reducible refine tGuard ?_); refine gdS ?_) | fail | ((with_reducible refine tLoad ?_); go_must (refine ldS ?_)) | ((with_reducible refine tStore ?_); go_must (refine stS ?_; clear M; intro w1 M; (try simp only [setC] at M))) | ((with_reducible refine tBox _ ?_); (refine bxA M ?_; clear M; intro g w1 M))) <;> (try conv => arg 5; simp only [Act.put, List.setIfInBounds_toArray, setC]))
            go_ret2
            exact ⟨rfl, TR.out _ _ M⟩
          · have e0 := BN (by intro h; injection h with h; exact hs h)
            subst e0
            rw [decide_eq_false hs] at SC
            replace SC := Lib.hid SC
            clear BY' BN hs
            go_wp2_with ((first | ((with_reducible refine tGuard ?_); (with_reducible refine w_stripE ?_ ?_); (focus (refine ⟨_, rfl, ?_⟩; first | (with_reducible rfl) | exact decide_eq_false (by omega) | exact decide_eq_true (by omega)))) | ((with_reducible refine tGuard ?_); first | ((with_reducible refine w_skip1 ?_ ?_); (focus (refine ⟨_, rfl, ?_⟩; first | (with_reducible rfl) | exact decide_eq_false (by omega) | exact decide_eq_true (by omega)))) | ((with_reducible refine w_skip0 ?_ ?_); (focus (refine ⟨_, rfl, ?_⟩; first | (with_reducible rfl) | exact decide_eq_false (by omega) | exact decide_eq_true (by omega))))) | (go_at_call 81; go_must (refine (Out_String_c _ _ _ _ (M.ok 0 _ rfl)).mono ?_; rintro e w1 ⟨rfl, rfl⟩)) | (go_at_call 53; go_must (refine (RC.out _).mono ?_; rintro e w7 ⟨rov, rpv, rfl, N⟩; replace M := M.join N; clear N; simp only [List.cons_append, List.nil_append] at M; have hrf := ms_fit2 hRf M)) | ((with_reducible refine tAlloc (some 10) 67 ?_); refine w_alloc M _ rfl rfl (.agg (msgC zeroM).toArray) (msgC zeroM) (by kernel_rfl) rfl ?_; clear M; intro gb w1 M) | ((with_reducible show wpList _ _ _ (Oper.mk _ (Op.load 67 _) _ _ _ _ :: _) _ _); refine w_at _ _ rfl (by exact ev_tmp rfl) ?_; intro hx; (first | refine w_loadMs M 0 _ _ rfl rfl hx rfl (by decide +kernel) (by kernel_rfl) hrf ?_ | refine w_loadMs M 4 _ _ rfl rfl hx rfl (by decide +kernel) (by kernel_rfl) hmf ?_); clear hx) | (go_at_call 28; go_must (refine (SC.out _ rov rpv (SeesL.own M 1 rfl rfl opV_len) (SeesL.own M 2 rfl rfl prV_len) (S5.nowF M hS) (T5.nowF M hT)).mono ?_; rintro e w1 ⟨rfl, hb⟩; replace M := M.call hb; clear hb)) | ((with_reducible refine tStore ?_); refine w_at2 _ _ _ rfl (by exact ev_tmp rfl) (by first | exact ev_tmp rfl | exact ev_const) ?_; intro hx hy; refine w_storeMs (m := Lr.ms rov rpv) M 0 _ _ _ rfl rfl hx rfl hy rfl (by kernel_rfl) hrf zeroM_fit ?_; clear hx hy M; intro w1 M; (try simp only [setC] at M)) | ((with_reducible refine tGuard ?_); refine gdS ?_) | fail | ((with_reducible refine tLoad ?_); go_must (refine ldS ?_)) | ((with_reducible refine tStore ?_); go_must (refine stS ?_; clear M; intro w1 M; (try simp only [setC] at M))) | ((with_reducible refine tBox _ ?_); (refine bxA M ?_; clear M; intro g w1 M))) <;> (try conv => arg 5; simp only [Act.put, List.setIfInBounds_toArray, setC]))
            go_ret2
            exact ⟨rfl, TR.out _ _ M⟩
        · have e0 := BN (by intro h; injection h with _ h; exact he h)
          subst e0
          have hz : ((er : Int) == 0) = false := by simp; exact he
          have hz' : ((er : Int) != 0) = true := by simp; exact he
          clear BY' BN he SC
          go_wp2_with ((first | ((with_reducible refine tGuard ?_); (with_reducible refine w_stripE ?_ ?_); (focus (refine ⟨_, rfl, ?_⟩; first | (with_reducible rfl) | exact decide_eq_false (by omega) | exact decide_eq_true (by omega)))) | ((with_reducible refine tGuard ?_); first | ((with_reducible refine w_skip1 ?_ ?_); (focus (refine ⟨_, rfl, ?_⟩; first | (with_reducible rfl) | exact decide_eq_false (by omega) | exact decide_eq_true (by omega)))) | ((with_reducible refine w_skip0 ?_ ?_); (focus (refine ⟨_, rfl, ?_⟩; first | (with_reducible rfl) | exact decide_eq_false (by omega) | exact decide_eq_true (by omega))))) | (go_at_call 81; go_must (refine (Out_String_c _ _ _ _ (M.ok 0 _ rfl)).mono ?_; rintro e w1 ⟨rfl, rfl⟩)) | (go_at_call 53; go_must (refine (RC.out _).mono ?_; rintro e w7 ⟨rov, rpv, rfl, N⟩; replace M := M.join N; clear N; simp only [List.cons_append, List.nil_append] at M; have hrf := ms_fit2 hRf M)) | ((with_reducible refine tAlloc (some 10) 67 ?_); refine w_alloc M _ rfl rfl (.agg (msgC zeroM).toArray) (msgC zeroM) (by kernel_rfl) rfl ?_; clear M; intro gb w1 M) | ((with_reducible show wpList _ _ _ (Oper.mk _ (Op.load 67 _) _ _ _ _ :: _) _ _); refine w_at _ _ rfl (by exact ev_tmp rfl) ?_; intro hx; (first | refine w_loadMs M 0 _ _ rfl rfl hx rfl (by decide +kernel) (by kernel_rfl) hrf ?_ | refine w_loadMs M 4 _ _ rfl rfl hx rfl (by decide +kernel) (by kernel_rfl) hmf ?_); clear hx) | ((with_reducible refine tStore ?_); refine w_at2 _ _ _ rfl (by exact ev_tmp rfl) (by first | exact ev_tmp rfl | exact ev_const) ?_; intro hx hy; refine w_storeMs (m := Lr.ms rov rpv) M 0 _ _ _ rfl rfl hx rfl hy rfl (by kernel_rfl) hrf zeroM_fit ?_; clear hx hy M; intro w1 M; (try simp only [setC] at M)) | ((with_reducible refine tGuard ?_); refine gdS ?_) | fail | ((with_reducible refine tLoad ?_); go_must (refine ldS ?_)) | ((with_reducible refine tStore ?_); go_must (refine stS ?_; clear M; intro w1 M; (try simp only [setC] at M))) | ((with_reducible refine tBox _ ?_); (refine bxA M ?_; clear M; intro g w1 M))) <;> (try conv => arg 5; simp only [Act.put, List.setIfInBounds_toArray, setC]))
          go_ret2
          exact ⟨rfl, TR.out _ _ M⟩
end Go.Proofs.YtidadhbaomieiaaGreat

/- Plain theory of layer 18 (msg): a message's bytes, read, are the message; cut they end too early; what is read has just its bytes. No program in this text. No conditions but those each lemma names. -/
namespace Go
namespace TL
open Go.RowKit
/-! ### Fields, one beside the other -/
def Fld.eqv (A B : Lm) : Fld → Prop
  | .num q => q.gl A = q.gl B
  | .hash q => q.gl A = q.gl B
  | .bat => A.bi = B.bi ∧ A.be = B.be ∧ A.ops = B.ops
  | .prs => A.prs = B.prs
def Fld.cp (L : Lm) (A : Lm) : Fld → Lm
  | .num q => q.sl A (q.gl L)
  | .hash q => q.sl A (q.gl L)
  | .bat => { A with bi := L.bi, be := L.be, ops := L.ops }
  | .prs => { A with prs := L.prs }
theorem Fld.cp_other {f g : Fld} (h : f ≠ g) (L A : Lm) : f.eqv (g.cp L A) A := by
  cases g with
  | num q' =>
    cases f with
    | num q => cases q <;> cases q' <;> first | rfl | exact absurd rfl h
    | hash q => cases q <;> cases q' <;> rfl
    | bat => cases q' <;> exact ⟨rfl, rfl, rfl⟩
    | prs => cases q' <;> rfl
  | hash q' =>
    cases f with
    | num q => cases q <;> cases q' <;> rfl
    | hash q => cases q <;> cases q' <;> first | rfl | exact absurd rfl h
    | bat => cases q' <;> exact ⟨rfl, rfl, rfl⟩
    | prs => cases q' <;> rfl
  | bat =>
    cases f with
    | num q => cases q <;> rfl
    | hash q => cases q <;> rfl
    | bat => exact absurd rfl h
    | prs => rfl
  | prs =>
    cases f with
    | num q => cases q <;> rfl
    | hash q => cases q <;> rfl
    | bat => exact ⟨rfl, rfl, rfl⟩
    | prs => exact absurd rfl h
def cpAll (l : List Fld) (L A : Lm) : Lm := l.foldl (fun B f => f.cp L B) A
theorem cpAll_cons (f : Fld) (l : List Fld) (L A : Lm) : cpAll (f :: l) L A = cpAll l L (f.cp L A) := rfl
/-! ### Read back -/
theorem byte_at (b : UInt8) (r : List UInt8) (k : Nat) : InS.byte ⟨b :: r, k, 0⟩ = (b.toNat, ⟨r, k + 1, 0⟩) := rfl
theorem hashS_first (h0 : List UInt8) (x : InS) : ∀ n, n ≤ h0.length → x.err = 0 → n ≤ x.rest.length → hashS h0 x n = (⟨x.rest.drop n, x.read + n, 0⟩, x.rest.take n ++ h0.drop n)
  | 0, _, he, _ => by
    obtain ⟨r, k, e⟩ := x
    simp only at he; subst he
    simp [hashS]
  | n + 1, h1, he, h2 => by
    rw [hashS_succ, hashS_first h0 x n (by omega) he (by omega)]
    have hd : x.rest.drop n = x.rest[n] :: x.rest.drop (n + 1) := List.drop_eq_getElem_cons (by omega)
    simp only [hd, byte_at, UInt8.ofNat_toNat, Prod.mk.injEq]
    refine ⟨by rw [Nat.add_assoc], ?_⟩
    rw [List.set_append_right _ _ (by rw [List.length_take]; omega), List.length_take, Nat.min_eq_left (by omega), Nat.sub_self, List.take_succ_eq_append_getElem (by omega), List.append_assoc]
    congr 1
    rw [List.drop_eq_getElem_cons (by omega : n < h0.length)]
    rfl
theorem prS_cons (x : InS) : ∀ n, prS x (n + 1) = (((x.text 33).1, ((x.text 33).2.text 32).1) :: (prS ((x.text 33).2.text 32).2 n).1, (prS ((x.text 33).2.text 32).2 n).2)
  | 0 => rfl
  | n + 1 => by rw [prS_succ, prS_cons x n, prS_succ]; rfl
theorem prS_back : ∀ (l : List (List UInt8 × List UInt8)) (r : List UInt8) (k : Nat), l.all okP = true → ∃ k', prS ⟨l.flatMap prBm ++ r, k, 0⟩ l.length = (l, ⟨r, k', 0⟩)
  | [], r, k, _ => ⟨k, by simp [prS]⟩
  | (a, b) :: l, r, k, h => by
    rw [List.all_cons, Bool.and_eq_true] at h
    obtain ⟨h1, h2⟩ := h
    simp only [okP, Bool.and_eq_true, decide_eq_true_eq] at h1
    obtain ⟨ha, hb⟩ := h1
    have e : ((a, b) :: l).flatMap prBm ++ r = textL a ++ (textL b ++ (l.flatMap prBm ++ r)) := by simp only [List.flatMap_cons, prBm, List.append_assoc]
    rw [e, List.length_cons, prS_cons, text_text ha (by omega)]
    simp only
    rw [text_text hb (by omega)]
    simp only
    obtain ⟨k', hk⟩ := prS_back l r (k + (textL a).length + (textL b).length) h2
    rw [hk]
    exact ⟨k', rfl⟩
theorem hash_back {h0 h r : List UInt8} {k : Nat} (hh : h.length = 32) (h0l : h0.length = 32) : hashS h0 ⟨h ++ r, k, 0⟩ 32 = (⟨r, k + 32, 0⟩, h) := by
  rw [hashS_first h0 _ 32 (by omega) rfl (by simp only [List.length_append]; omega)]
  have e1 : (h ++ r).drop 32 = r := by rw [← hh, List.drop_left]
  have e2 : (h ++ r).take 32 = h := by rw [← hh, List.take_left]
  simp only [e1, e2]
  rw [List.drop_of_length_le (by omega), List.append_nil]
theorem bytes_bat {i e : Int} {ops : List Opr} (h : (bytesB i e ops).2 = 0) : rightB i e ops = 0 ∧ (bytesB i e ops).1 = batB i.toNat e.toNat ops := by
  by_cases hr : rightB i e ops = 0
  · exact ⟨hr, by rw [bytesB_ok hr]⟩
  · rw [bytesB_no hr] at h; exact absurd h hr
theorem Fld.bat_get {A : Lm} {x y : InS} {s : List UInt8} (h : x.text 512 = (s, y)) : Fld.bat.get A x = if y.err = 0 then ((readB s).2, { A with bi := (readB s).1.1, be := (readB s).1.2.1, ops := (readB s).1.2.2 }, y) else (y.err, A, y) := by
  simp only [Fld.get, h]
theorem Fld.get_back {L : Lm} (hL : L.fit) (hr : L.rng) (f : Fld) (ho : f.ok L = true) {A : Lm} (hA : A.fit) (hp : f = .prs → A.prs = []) (r : List UInt8) (k : Nat) : ∃ k', f.get A ⟨f.put L ++ r, k, 0⟩ = (0, f.cp L A, ⟨r, k', 0⟩) := by
  cases f with
  | num q =>
    simp only [Fld.ok, decide_eq_true_eq] at ho
    have hn := (hr.num q).2
    simp only [Fld.get, Fld.put, Fld.cp]
    rw [most_num (by omega) (by omega)]
    simp only
    rw [show ((q.gl L).toNat : Int) = q.gl L by omega]
    exact ⟨_, rfl⟩
  | hash q =>
    have h1 := q.gl_len hL
    have h2 := q.gl_len hA
    simp only [Fld.get, Fld.put, Fld.cp]
    rw [hash_back h1 h2]
    exact ⟨_, rfl⟩
  | bat =>
    simp only [Fld.ok, Bool.and_eq_true, beq_iff_eq, decide_eq_true_eq] at ho
    obtain ⟨h1, h2⟩ := ho
    obtain ⟨h3, h4⟩ := bytes_bat h1
    obtain ⟨g1, g2, g3, g4, _⟩ := right_ok h3
    rw [Fld.bat_get (show InS.text ⟨Fld.bat.put L ++ r, k, 0⟩ 512 = _ from text_text h2 (by omega)), if_pos rfl]
    simp only [Fld.cp]
    have hb := hr.be
    have e := read_bat (i := L.bi.toNat) (e := L.be.toNat) (ops := L.ops) (by rw [show ((L.bi.toNat : Nat) : Int) = L.bi by omega, show ((L.be.toNat : Nat) : Int) = L.be by omega]; exact h3) (by omega) []
    rw [List.append_nil, if_pos rfl] at e
    rw [h4, e]
    simp only
    rw [show ((L.bi.toNat : Nat) : Int) = L.bi by omega, show ((L.be.toNat : Nat) : Int) = L.be by omega]
    exact ⟨_, rfl⟩
  | prs =>
    simp only [Fld.ok, Bool.and_eq_true, decide_eq_true_eq] at ho
    obtain ⟨h1, h2⟩ := ho
    simp only [Fld.get, Fld.put, Fld.cp]
    rw [hp rfl, List.append_assoc, most_num h1 (by omega)]
    simp only
    obtain ⟨k', e⟩ := prS_back L.prs r (k + (numL L.prs.length).length) h2
    rw [e]
    exact ⟨_, rfl⟩
theorem Fld.say_ok {f : Fld} {A A' : Lm} {x y : InS} (h : f.get A x = (0, A', y)) (hy : y.err = 0) : Fld.say (f.get A x) = 0 := by rw [h]; unfold Fld.say; rw [if_pos hy]
theorem Fld.cp_fit {L A : Lm} (hL : L.fit) (hA : A.fit) (f : Fld) : (f.cp L A).fit := by
  cases f with
  | num q => exact q.sl_fit hA _
  | hash q => exact q.sl_fit hA (q.gl_len hL)
  | bat => exact hA
  | prs => exact hA
theorem runF_back {L : Lm} (hL : L.fit) (hr : L.rng) (r : List UInt8) : ∀ (l : List Fld), l.Nodup → (∀ f ∈ l, f.ok L = true) → ∀ (A : Lm) (k : Nat), A.fit → (.prs ∈ l → A.prs = []) → ∃ k', runF l A ⟨l.flatMap (fun f => f.put L) ++ r, k, 0⟩ = (0, cpAll l L A, ⟨r, k', 0⟩)
  | [], _, _, A, k, _, _ => ⟨k, by simp [runF, cpAll]⟩
  | f :: l, hd, ho, A, k, hA, hp => by
    obtain ⟨hf, hd⟩ := List.nodup_cons.1 hd
    obtain ⟨k1, e1⟩ := f.get_back hL hr (ho f List.mem_cons_self) hA (fun e => hp (e ▸ List.mem_cons_self)) (l.flatMap (fun f => f.put L) ++ r) k
    rw [List.flatMap_cons, List.append_assoc, runF, if_pos (Fld.say_ok e1 rfl), e1, cpAll_cons]
    refine runF_back hL hr r l hd (fun g hg => ho g (List.mem_cons_of_mem _ hg)) _ _ (f.cp_fit hL hA) fun hm => ?_
    have hne : Fld.prs ≠ f := fun e => hf (e ▸ hm)
    exact (Fld.cp_other hne L A : (f.cp L A).prs = A.prs).trans (hp (List.mem_cons_of_mem _ hm))
theorem fds_nodup (k : UInt8) : (fdsL k).Nodup := by
  unfold fdsL
  repeat' split
  all_goals simp
def onlyL (L : Lm) : Lm := cpAll (fdsL L.k) L (kindL L.k)
def bytesL (L : Lm) : List UInt8 := L.k :: (fdsL L.k).flatMap (fun f => f.put L)
def okL (L : Lm) : Bool := (fdsL L.k).all fun f => f.ok L
theorem okL_of {L : Lm} (h : okL L = true) : ∀ f ∈ fdsL L.k, f.ok L = true := List.all_eq_true.1 h
theorem readM_back {L : Lm} (hL : L.fit) (hr : L.rng) (hk : isK L.k = true) (ho : okL L = true) (r : List UInt8) : readM (bytesL L ++ r) = if r = [] then (onlyL L, 0) else (zeroL, 8) := by
  have hb : (inStart (bytesL L ++ r)).byte = (L.k.toNat, ⟨(fdsL L.k).flatMap (fun f => f.put L) ++ r, 0 + 1, 0⟩) := rfl
  obtain ⟨k', e⟩ := runF_back hL hr r (fdsL L.k) (fds_nodup _) (okL_of ho) (kindL L.k) (0 + 1) (kindL_fit _) (fun _ => rfl)
  rw [readM_run hb rfl hk 0 _ _ e, if_pos rfl]
  by_cases h : r = []
  · rw [if_pos h, if_pos (by unfold InS.fin; rw [if_pos rfl, h]; rfl)]; rfl
  · have hf : (InS.mk r k' 0).fin = 8 := by unfold InS.fin; rw [if_pos rfl, if_neg (by simpa using h)]
    rw [if_neg h, if_neg (by rw [hf]; decide), hf]
theorem bytesM_eq {L : Lm} (hL : L.fit) (hr : L.rng) : bytesM L = if isK L.k = true then (if okL L = true ∧ onlyL L = L then (bytesL L, 0) else ([], 1)) else ([], 10) := by
  unfold bytesM
  by_cases hk : isK L.k = true
  · rw [if_pos hk, if_pos hk]
    by_cases ho : okL L = true
    · have e := readM_back hL hr hk ho []
      rw [List.append_nil, if_pos rfl] at e
      have hE : readM (L.k :: (fdsL L.k).flatMap (fun f => f.put L)) = (onlyL L, 0) := e
      by_cases hs : onlyL L = L
      · rw [if_pos ⟨ho, by rw [hE, hs]⟩, if_pos ⟨ho, hs⟩]; rfl
      · rw [if_neg (fun h => hs (by have := h.2; rw [hE] at this; injection this)), if_neg (fun h => hs h.2)]
    · rw [if_neg (fun h => ho h.1), if_neg (fun h => ho h.1)]
  · rw [if_neg hk, if_neg hk]
/-! ### What is read has just its bytes -/
end TL
end Go

/- The walk of msg.Right; plain: the wake's message. Conditions: lengths; the numbers are int's. -/
namespace Go
namespace TL
open Go.RowKit
end TL
end Go
namespace Go.Proofs.YtidadhbaomieiaaGreat
open Go.RowKit Go.TL
set_option maxRecDepth 100000 in
set_option maxHeartbeats 4000000 in
theorem Right_c (L : Lm) (ov pv : Value) (w : World) (hL : L.fit) (hr : L.rng) (S : SeesL w 3 opV ov L.ops) (T : SeesL w 2 prV pv L.prs) :
    Calls Tryz.prog 33 #[.agg (msgC (L.ms ov pv)).toArray] w fun e w' => e = .returned (.int .i64 (bytesM L).2) ∧ Below w.heap.size w w' := by
  have M := Mem.start [] w
  have hmf : (L.ms ov pv).fit := by
    obtain ⟨op, oc, rfl, _⟩ := S.form
    obtain ⟨pp, pc, rfl, _⟩ := T.form
    exact Lm.ms_fit hL rfl rfl
  have BC := fun w S T => Bytes_c L ov pv w hL hr S T
  obtain ⟨⟨b, e⟩, eb⟩ : ∃ A, A = bytesM L := ⟨_, rfl⟩
  rw [← eb] at BC ⊢
  clear eb
  replace BC := Lib.hid BC
  go_enter Tryz.func33, Tryz.ntmps33
  go_wp2_with ((first | ((with_reducible refine tBox (some 1) ?_); refine w_box M _ _ rfl rfl _ rfl (msgC (L.ms ov pv)) rfl ?_; clear M; intro gm w1 M) | ((with_reducible refine tLoad ?_); refine w_at _ _ rfl (by exact ev_tmp rfl) ?_; intro hx; refine w_loadMs M 0 _ _ rfl rfl hx rfl (by decide +kernel) (by kernel_rfl) hmf ?_; clear hx) | (go_at_call 51; go_must (refine (BC.out _ (S.now M) (T.now M)).mono ?_; rintro e w1 ⟨rfl, hb⟩; replace M := M.call hb; clear hb)) | ((with_reducible refine tGuard ?_); refine gdS ?_) | fail | ((with_reducible refine tLoad ?_); go_must (refine ldS ?_)) | ((with_reducible refine tStore ?_); go_must (refine stS ?_; clear M; intro w1 M; (try simp only [setC] at M))) | ((with_reducible refine tBox _ ?_); (refine bxA M ?_; clear M; intro g w1 M))) <;> (try conv => arg 5; simp only [Act.put, List.setIfInBounds_toArray, setC]))
  go_ret
  exact ⟨rfl, M.below⟩
end Go.Proofs.YtidadhbaomieiaaGreat

/- Plain: a message that is not great is within its bounds. No program in this text. -/
namespace Go
namespace TL
theorem sumP_mem : ∀ {l : List (List UInt8 × List UInt8)}, sumP l ≤ 30000 → ∀ x ∈ l, x.1.length ≤ 30000 ∧ x.2.length ≤ 30000
  | [], _, x, h => by cases h
  | y :: l, h, x, hx => by
    rw [sumP] at h
    rcases List.mem_cons.1 hx with rfl | hx
    · omega
    · exact sumP_mem (by omega) x hx
theorem sumO_mem : ∀ {l : List Opr}, sumO l ≤ 30000 → ∀ x ∈ l, x.2.1.length ≤ 30000 ∧ x.2.2.length ≤ 30000
  | [], _, x, h => by cases h
  | y :: l, h, x, hx => by
    rw [sumO] at h
    rcases List.mem_cons.1 hx with rfl | hx
    · omega
    · exact sumO_mem (by omega) x hx
theorem prsB_sum : ∀ {l : List (List UInt8 × List UInt8)}, sumP l ≤ 30000 → (l.flatMap prBm).length ≤ l.length * 20 + sumP l
  | [], _ => by simp
  | x :: l, h => by
    rw [sumP] at h
    have h1 := prsB_sum (l := l) (by omega)
    have h2 := numL_length_le x.1.length (by omega)
    have h3 := numL_length_le x.2.length (by omega)
    simp only [List.flatMap_cons, List.length_append, List.length_cons, prBm, textL, sumP]; omega
theorem great_rng {L : Lm} (hn : ∀ q : Mf, -9223372036854775808 ≤ q.gl L ∧ q.gl L ≤ 9223372036854775807) (hb : L.be ≤ 9223372036854775807) (h : greatL L = false) : L.rng := by
  unfold greatL at h
  simp only [Bool.or_eq_false_iff, decide_eq_false_iff_not] at h
  obtain ⟨h1, h2, h3⟩ := h
  rw [List.take_of_length_le (by omega), List.take_of_length_le (by omega)] at h3
  have hp : sumP L.prs ≤ 30000 := by omega
  have ho : sumO L.ops ≤ 30000 := by omega
  have := prsB_sum hp
  exact ⟨hn, hb, by omega, fun x hx => by have := sumO_mem ho x hx; omega, by omega, fun x hx => by have := sumP_mem hp x hx; omega, by omega⟩
theorem bytesM_cases {L : Lm} (hL : L.fit) (hr : L.rng) : (∃ e, e ≠ 0 ∧ bytesM L = ([], e)) ∨ (isK L.k = true ∧ okL L = true ∧ onlyL L = L ∧ bytesM L = (bytesL L, 0)) := by
  rw [bytesM_eq hL hr]
  by_cases hk : isK L.k = true
  · rw [if_pos hk]
    by_cases ho : okL L = true ∧ onlyL L = L
    · rw [if_pos ho]; exact .inr ⟨hk, ho.1, ho.2, rfl⟩
    · rw [if_neg ho]; exact .inl ⟨1, by decide, rfl⟩
  · rw [if_neg hk]; exact .inl ⟨10, by decide, rfl⟩
end TL
end Go

/- Plain: a right message's bytes are few. No program in this text. Conditions: lengths. -/
namespace Go
namespace TL
theorem textL_short {l : List UInt8} {k : Nat} (h : l.length ≤ k) (hk : k ≤ 100000) : (textL l).length ≤ k + 10 := by
  unfold textL
  have := numL_length_le l.length (by omega)
  rw [List.length_append]; omega
theorem prB_short : ∀ {l : List (List UInt8 × List UInt8)}, l.all okP = true → (l.flatMap prBm).length ≤ l.length * 85
  | [], _ => by simp
  | x :: l, h => by
    rw [List.all_cons, Bool.and_eq_true] at h
    have h1 := prB_short h.2
    have h2 : x.1.length ≤ 33 ∧ x.2.length ≤ 32 := by have := h.1; unfold okP at this; simpa using this
    have a1 := textL_short h2.1 (by omega)
    have a2 := textL_short h2.2 (by omega)
    simp only [List.flatMap_cons, List.length_append, List.length_cons, prBm]; omega
def Fld.cap : Fld → Nat
  | .num _ => 10
  | .hash _ => 32
  | .bat => 522
  | .prs => 4090
theorem put_short {L : Lm} (hL : L.fit) (hr : L.rng) (f : Fld) (h : f.ok L = true) : (f.put L).length ≤ f.cap := by
  cases f with
  | num q =>
    have := hr.num q
    have hx : (q.gl L).toNat < 18446744073709551616 := by omega
    have := numL_length_le _ hx
    show (numL (q.gl L).toNat).length ≤ 10
    omega
  | hash q =>
    have := q.gl_len hL
    show (q.gl L).length ≤ 32
    omega
  | bat =>
    simp only [Fld.ok, Bool.and_eq_true, decide_eq_true_eq] at h
    have := textL_short h.2 (by omega)
    show (textL _).length ≤ 522
    omega
  | prs =>
    simp only [Fld.ok, Bool.and_eq_true, decide_eq_true_eq] at h
    have h1 := prB_short h.2
    have h2 := numL_length_le L.prs.length (by omega)
    have h3 := h.1
    show (numL L.prs.length ++ L.prs.flatMap prBm).length ≤ 4090
    rw [List.length_append]; omega
theorem puts_short {L : Lm} (hL : L.fit) (hr : L.rng) : ∀ l : List Fld, (∀ f ∈ l, f.ok L = true) → (l.flatMap (fun f => f.put L)).length ≤ (l.map Fld.cap).sum
  | [], _ => by simp
  | f :: l, h => by
    have h1 := put_short hL hr f (h f (by simp))
    have h2 := puts_short hL hr l fun g hg => h g (by simp [hg])
    simp only [List.flatMap_cons, List.length_append, List.map_cons, List.sum_cons]; omega
theorem bytesL_short {L : Lm} (hL : L.fit) (hr : L.rng) (hk : isK L.k = true) (ho : okL L = true) : (bytesL L).length ≤ 8192 := by
  have h := puts_short hL hr (fdsL L.k) (okL_of ho)
  have hs : ((fdsL L.k).map Fld.cap).sum ≤ 8000 := by
    rcases kinds hk with e | e | e | e | e | e | e <;> (rw [e]; decide)
  unfold bytesL
  rw [List.length_cons]; omega
end TL
end Go

/- The walks of a link's Send and Count. Conditions: lengths, and the bounds of its numbers. -/
namespace Go
namespace TL
open Go.RowKit
theorem fresh_apart {α : Type} {w0 w : World} {L : List Chunk} (M : Mem [] w0 w L) {i : Nat} {c : Chunk} (hi : L[i]? = some c) {size : Nat} {f : α → List Value} {v : Value} {l : List α} (S : SeesL w0 size f v l) : 0 < l.length → ∀ k, v.ownBlock = some k → k ∉ c.fp := by
  intro h0 k hk hc
  have h1 := M.own i c hi k hc
  rcases S.sees.2 with ⟨_, hn⟩ | ⟨g, so, cap, rfl, hlt, _⟩
  · omega
  · simp [Value.ownBlock] at hk; subst hk
    rcases h1 with h1 | h1
    · simp at h1
    · omega
end TL
end Go
namespace Go.Proofs.YtidadhbaomieiaaGreat
open Go.RowKit Go.TL
section
variable {g : Nat} {K : LinkS} {c : Chunk} {w : World}
set_option maxRecDepth 100000 in
set_option maxHeartbeats 4000000 in
theorem LinkCount_c (h : c.ok w) (I : IsLink g K c) : Calls Tryz.prog 26 #[.pointer (some ⟨g, 0, none⟩)] w fun e w' => e = .returned (.tuple #[.int .u32 (I32 K.out.b), .int .u64 (I64 K.out.n)]) ∧ Below w.heap.size w w' := by
  obtain ⟨go, gi, Co, Ci, JO, II, rfl⟩ := I
  have RR : (Chunk.row g (linkRow K.me K.o go gi)).ok w := h.2.1.1 0 _ rfl
  have RO : Co.ok w := h.2.1.1 1 _ rfl
  have M := Mem.start [] w
  have nR : g ∉ ([] : List Nat) := by simp
  have CC := Count_c RO JO
  replace CC := Lib.hid CC
  go_enter Tryz.func26, Tryz.ntmps26
  go_wp2_with ((first | (go_at_call 50; go_must (refine (linkNone_no RR).mono ?_; rintro e w1 ⟨rfl, rfl⟩)) | (go_at_call 19; go_must (refine (CC.out).mono ?_; rintro e w1 ⟨rfl, hb⟩; replace M := M.call hb; clear hb)) | ((with_reducible refine tLoad ?_); refine w_at _ _ rfl (by exact ev_tmp rfl) ?_; intro hx; (first | refine w_rowF M RR nR _ _ rfl hx rfl (by decide +kernel) (by exact rfl) ?_); clear hx) | ((with_reducible refine tGuard ?_); first | refine gdS ?_ | (refine gdC ?_ ?_ <;> (intro hgd; rw [hgd]; try (exfalso; simp at hgd; omega)))) | fail | ((with_reducible refine tLoad ?_); go_must (refine ldS ?_)) | ((with_reducible refine tStore ?_); go_must (refine stS ?_; clear M; intro w1 M; (try simp only [setC] at M))) | ((with_reducible refine tBox _ ?_); (refine bxA M ?_; clear M; intro g w1 M))) <;> (try conv => arg 5; simp only [Act.put, List.setIfInBounds_toArray, setC]))
  go_ret2
  exact ⟨rfl, M.below⟩
set_option maxRecDepth 100000 in
set_option maxHeartbeats 4000000 in
theorem Send_bad (L : Lm) (ov pv : Value) (h : c.ok w) (I : IsLink g K c) (hL : L.fit) (hr : L.rng) (S : SeesL w 3 opV ov L.ops) (T : SeesL w 2 prV pv L.prs) {e : Nat} (he : e ≠ 0) (hb : bytesM L = ([], e)) :
    Calls Tryz.prog 24 #[.pointer (some ⟨g, 0, none⟩), .agg (msgC (L.ms ov pv)).toArray] w fun r w' => r = .returned (.tuple #[.agg #[.int .i64 0, .int .i64 0, .string (mkS [])], .int .i64 e]) ∧ Below w.heap.size w w' := by
  obtain ⟨go, gi, Co, Ci, JO, II, rfl⟩ := I
  have RR : (Chunk.row g (linkRow K.me K.o go gi)).ok w := h.2.1.1 0 _ rfl
  have M := Mem.start [] w
  have hmf : (L.ms ov pv).fit := by
    obtain ⟨op, oc, rfl, _⟩ := S.form
    obtain ⟨pp, pc, rfl, _⟩ := T.form
    exact Lm.ms_fit hL rfl rfl
  have BC := fun w S T => Bytes_c L ov pv w hL hr S T
  rw [hb] at BC
  simp only at BC
  replace BC := Lib.hid BC
  have hz1 : ((e : Int) != 0) = true := by simp; exact he
  have hz2 : ((e : Int) == 0) = false := by simp; exact he
  have NN := linkNone_no RR
  clear hb he h
  go_enter Tryz.func24, Tryz.ntmps24
  go_wp2_with ((first | ((with_reducible refine tBox (some 3) ?_); refine w_box M _ _ rfl rfl _ rfl (msgC (L.ms ov pv)) rfl ?_; clear M; intro gm w1 M) | ((with_reducible refine tAlloc (some 4) 58 ?_); refine w_alloc M _ rfl rfl (.agg #[.int .i64 0, .int .i64 0, .string (mkS [])]) ([.int .i64 0, .int .i64 0, .string (mkS [])]) (by kernel_rfl) rfl ?_; clear M; intro gp w1 M) | (go_at_call 50; go_must (refine (linkNone_no (M.staysF RR (by simp))).mono ?_; rintro e w1 ⟨rfl, rfl⟩)) | ((with_reducible show wpList _ _ _ (Oper.mk _ (Op.load 67 _) _ _ _ _ :: _) _ _); refine w_at _ _ rfl (by exact ev_tmp rfl) ?_; intro hx; refine w_loadMs M 1 _ _ rfl rfl hx rfl (by decide +kernel) (by kernel_rfl) hmf ?_; clear hx) | (go_at_call 51; go_must (refine (BC.out _ (S.now M) (T.now M)).mono ?_; rintro e w1 ⟨rfl, hb⟩; replace M := M.call hb; clear hb)) | ((with_reducible refine tGuard ?_); refine gdS ?_) | fail | ((with_reducible refine tLoad ?_); go_must (refine ldS ?_)) | ((with_reducible refine tStore ?_); go_must (refine stS ?_; clear M; intro w1 M; (try simp only [setC] at M))) | ((with_reducible refine tBox _ ?_); (refine bxA M ?_; clear M; intro g w1 M))) <;> (try conv => arg 5; simp only [Act.put, List.setIfInBounds_toArray, setC]))
  exact bodyPost_ret (results_two rfl _ _ gp 0 [.int .i64 0, .int .i64 0, .string (mkS [])] _ (.int .i64 e) rfl rfl (M.ok 0 _ at0).2.1 Tryz.underlying58 rfl (by kernel_rfl)) rfl ⟨rfl, M.below⟩
set_option maxRecDepth 100000 in
set_option maxHeartbeats 4000000 in
theorem Send_ok (L : Lm) (ov pv : Value) (a b : UInt8) (h : c.ok w) (I : IsLink g K c) (he : EndOf K.me K.o a b) (hm : K.out.m.length ≤ 1000000) (hc : K.out.c ≤ 1048576) (hn : K.out.n.toNat < 9223372036854775808) (hL : L.fit) (hr : L.rng) (S : SeesL w 3 opV ov L.ops) (T : SeesL w 2 prV pv L.prs) (nS : 0 < L.ops.length → ∀ k, ov.ownBlock = some k → k ∉ c.fp) (nT : 0 < L.prs.length → ∀ k, pv.ownBlock = some k → k ∉ c.fp) (hk : isK L.k = true) (ho : okL L = true) (hb : bytesM L = (bytesL L, 0)) :
    Calls Tryz.prog 24 #[.pointer (some ⟨g, 0, none⟩), .agg (msgC (L.ms ov pv)).toArray] w fun r w' => r = .returned (.tuple #[.agg #[.int .i64 K.me, .int .i64 K.o, .string (mkS (envB (K.out.env (aboutK a b) (bytesL L))))], .int .i64 0]) ∧ ∃ c', IsLink g { K with out := { K.out with n := K.out.n + 1 } } c' ∧ Upd w c w' c' := by
  have hsh := bytesL_short hL hr hk ho
  obtain ⟨go, gi, Co, Ci, JO, II, rfl⟩ := I
  have ia : I8 a = K.me ∧ I8 b = K.o := by rcases he with ⟨h1, h2, rfl, rfl⟩ | ⟨h1, h2, rfl, rfl⟩ <;> (rw [h1, h2]; decide)
  have AC := fun w => about_c a b w
  rw [ia.1, ia.2] at AC
  have M : Mem (grp [.row g (linkRow K.me K.o go gi), Co, Ci]).fp w w [.row g (linkRow K.me K.o go gi), Co, Ci] := Mem.startG h
  have N0 : ∀ w' Co' x y, IsRing go { K.out with n := K.out.n + 1 } Co' → Mem (grp [.row g (linkRow K.me K.o go gi), Co, Ci]).fp w w' [x, y, .row g (linkRow K.me K.o go gi), Co', Ci] → ∃ c', IsLink g { K with out := { K.out with n := K.out.n + 1 } } c' ∧ Upd w (grp [.row g (linkRow K.me K.o go gi), Co, Ci]) w' c' := fun w' Co' x y JO' M => ⟨_, ⟨go, gi, Co', Ci, JO', II, rfl⟩, M.tail.tail.updG [] rfl⟩
  obtain ⟨F, eF⟩ : ∃ F, F = (grp [.row g (linkRow K.me K.o go gi), Co, Ci]).fp := ⟨_, rfl⟩
  rw [← eF] at M N0 nS nT
  have hmf : (L.ms ov pv).fit := by
    obtain ⟨op, oc, rfl, _⟩ := S.form
    obtain ⟨pp, pc, rfl, _⟩ := T.form
    exact Lm.ms_fit hL rfl rfl
  have BC := fun w S T => Bytes_c L ov pv w hL hr S T
  rw [hb] at BC
  have WC := fun (w : World) (h : Co.ok w) => Wrap_ok (aboutK a b) (bytesL L) h JO hm hc hn hsh (by rw [aboutK_len]; omega)
  obtain ⟨B, eB⟩ : ∃ B, B = envB (K.out.env (aboutK a b) (bytesL L)) := ⟨_, rfl⟩
  rw [← eB] at WC ⊢
  obtain ⟨t, et⟩ : ∃ t, t = bytesL L := ⟨_, rfl⟩
  rw [← et] at WC BC
  obtain ⟨ab, eab⟩ : ∃ x, x = aboutK a b := ⟨_, rfl⟩
  rw [← eab] at WC AC
  simp only [show ((0 : Nat) : Int) = 0 from rfl] at BC
  replace BC := Lib.hid BC
  replace WC := Lib.hid WC
  replace AC := Lib.hid AC
  replace N0 := Lib.hid N0
  clear eF eB et eab ia hb hk ho hn hc hsh he h
  go_enter Tryz.func24, Tryz.ntmps24
  go_wp2_with ((first | ((with_reducible refine tBox (some 3) ?_); refine w_box M _ _ rfl rfl _ rfl (msgC (L.ms ov pv)) rfl ?_; clear M; intro gm w1 M) | ((with_reducible refine tAlloc (some 4) 58 ?_); refine w_alloc M _ rfl rfl (.agg #[.int .i64 0, .int .i64 0, .string (mkS [])]) ([.int .i64 0, .int .i64 0, .string (mkS [])]) (by kernel_rfl) rfl ?_; clear M; intro gp w1 M) | (go_at_call 50; go_must (refine (linkNone_no (M.ok 2 _ at2)).mono ?_; rintro e w1 ⟨rfl, rfl⟩)) | ((with_reducible show Code.wp _ (Code.region 6 _ _) _ _ _); go_must (have MR := M; refine region_lowc [(0, false), (1, false), (2, false), (4, false), (5, false), (6, false), (8, false), (9, false), (10, false), (13, false), (3, false), (7, false), (11, false), (12, true), (14, true), (15, false), (16, false), (17, false), (18, false), (19, false)] [(22, .ptr), (26, .ptr), (30, .ptr)] [(3, _), (7, _), (11, _)] (IxOk MR [2]) 20 (by kernel_rfl) (by kernel_rfl) rfl (by kernel_rfl) (lowA MR 2 2 (lowA MR 2 0 (lowA MR 2 1 lows_nil))) (ixOk_self MR _) ?_; replace M := M.drew; simp only [planC, opAt, List.getElem?_toArray, List.getElem?_cons_zero, List.getElem?_cons_succ, Option.getD_some])) | ((with_reducible show Code.wp _ (Code.region 9 _ _) _ _ _); go_must (have MR := M; refine region_lowc [(0, false), (1, false), (2, false), (4, false), (5, false), (6, false), (8, false), (3, false), (7, false), (9, true), (10, true), (11, false)] [(43, .ptr), (47, .ptr)] [(3, _), (7, _)] (IxOk MR [2]) 12 (by kernel_rfl) (by kernel_rfl) rfl (by kernel_rfl) (lowA MR 2 0 (lowA MR 2 1 lows_nil)) (ixOk_self MR _) ?_; replace M := M.drew; simp only [planC, opAt, List.getElem?_toArray, List.getElem?_cons_zero, List.getElem?_cons_succ, Option.getD_some])) | ((with_reducible show wpList _ _ _ (Oper.mk _ (Op.load 67 _) _ _ _ _ :: _) _ _); refine w_at _ _ rfl (by exact ev_tmp rfl) ?_; intro hx; refine w_loadMs M 1 _ _ rfl rfl hx rfl (by decide +kernel) (by kernel_rfl) hmf ?_; clear hx) | (go_at_call 51; go_must (refine (BC.out _ (S.kept0 M.kept nS) (T.kept0 M.kept nT)).mono ?_; rintro e w1 ⟨rfl, hb⟩; replace M := M.call hb; clear hb)) | (go_at_call 52; go_must (refine (AC.out _).mono ?_; rintro e w1 ⟨rfl, hb⟩; replace M := M.call hb; clear hb)) | (go_at_call 14; go_must (refine (WC.out _ (M.ok 3 _ at3)).mono ?_; rintro e w1 ⟨rfl, Co1, IO1, U⟩; replace M := M.upd 3 at3 U; clear U; simp only [setC] at M)) | ((with_reducible show Seg _ _ _ _); go_must (first | refine Seg.intro ⟨fun h => absurd rfl h, ?_⟩ | refine Seg.intro ⟨fun _ => ixA, ?_⟩ | refine Seg.intro ⟨ndA, atA, ?_⟩)) | ((with_reducible show OnlyN _ _ _ _ _); refine OnlyN.intro (by kernel_rfl) ?_) | ((with_reducible refine tGuard ?_); refine gdS ?_) | fail | ((with_reducible refine tLoad ?_); go_must (refine ldS ?_)) | ((with_reducible refine tStore ?_); go_must (refine stS ?_; clear M; intro w1 M; (try simp only [setC] at M))) | ((with_reducible refine tBox _ ?_); (refine bxA M ?_; clear M; intro g w1 M))) <;> (try conv => arg 5; simp only [Act.put, List.setIfInBounds_toArray, setC]))
  exact bodyPost_ret (results_two rfl _ _ gp 0 [.int .i64 K.me, .int .i64 K.o, .string (mkS B)] _ (.int .i64 0) rfl rfl (M.ok 0 _ at0).2.1 Tryz.underlying58 rfl (by kernel_rfl)) rfl ⟨rfl, N0.out _ _ _ _ IO1 M⟩
end
end Go.Proofs.YtidadhbaomieiaaGreat

/- The walks of a link's Come. Conditions: lengths, and the bounds of its numbers. -/
namespace Go.Proofs.YtidadhbaomieiaaGreat
open Go.RowKit Go.TL
theorem link_out {F : List Nat} {w0 w : World} {a b x y r p q : Chunk} (M : Mem F w0 w [a, b, x, y, r, p, q]) : Mem F w0 w [a, b, grp [r, p, q]] := by
  have M1 : Mem F w0 w [r, p, q, a, b] := M.sel [4, 5, 6, 0, 1] _ (by decide) rfl
  exact (M1.shut [r, p, q] [a, b] rfl).sel [1, 2, 0] _ (by decide) rfl
section
variable {g : Nat} {K : LinkS} {c : Chunk} {w : World}
set_option maxRecDepth 100000 in
set_option maxHeartbeats 4000000 in
theorem Come_arg (fr to : Int) (data : List UInt8) (h : c.ok w) (I : IsLink g K c) (hne : to ≠ K.me ∨ fr ≠ K.o) :
    Calls Tryz.prog 25 #[.pointer (some ⟨g, 0, none⟩), .agg #[.int .i64 fr, .int .i64 to, .string (mkS data)]] w fun e w' => e = .returned (.tuple #[.agg (msgC zeroM).toArray, .int .i64 1]) ∧ Below w.heap.size w w' := by
  obtain ⟨go, gi, Co, Ci, JO, II, rfl⟩ := I
  obtain ⟨me, o, out, inn⟩ := K
  simp only at hne
  have RR : (Chunk.row g (linkRow me o go gi)).ok w := h.2.1.1 0 _ rfl
  have M := Mem.start [] w
  have nR : g ∉ ([] : List Nat) := by simp
  clear h JO II
  have hcs : (¬ to = me) ∨ (to = me ∧ ¬ fr = o) := by
    by_cases e : to = me
    · exact .inr ⟨e, fun e2 => by rcases hne with h | h <;> exact h (by assumption)⟩
    · exact .inl e
  clear hne
  rcases hcs with h1 | ⟨rfl, h2⟩
  · have h1' : (to == me) = false := by simpa using h1
    go_enter Tryz.func25, Tryz.ntmps25
    go_wp2_with ((first | ((with_reducible refine tGuard ?_); (with_reducible refine w_stripE ?_ ?_); (focus (refine ⟨_, rfl, ?_⟩; first | (with_reducible rfl) | exact decide_eq_false (by omega) | exact decide_eq_true (by omega)))) | ((with_reducible refine tGuard ?_); first | ((with_reducible refine w_skip1 ?_ ?_); (focus (refine ⟨_, rfl, ?_⟩; first | (with_reducible rfl) | exact decide_eq_false (by omega) | exact decide_eq_true (by omega)))) | ((with_reducible refine w_skip0 ?_ ?_); (focus (refine ⟨_, rfl, ?_⟩; first | (with_reducible rfl) | exact decide_eq_false (by omega) | exact decide_eq_true (by omega))))) | ((with_reducible refine tBox (some 3) ?_); refine w_box M _ _ rfl rfl _ rfl ([.int .i64 fr, .int .i64 to, .string (mkS data)]) rfl ?_; clear M; intro gp w1 M) | ((with_reducible refine tAlloc (some 4) 67 ?_); refine w_alloc M _ rfl rfl (.agg (msgC zeroM).toArray) (msgC zeroM) (by kernel_rfl) rfl ?_; clear M; intro gm w1 M) | ((with_reducible show Code.wp _ (Code.region 3 _ _) _ _ _); go_must (refine region_det [(0, false), (2, false), (3, false), (4, false), (1, false), (5, false), (6, false), (7, false), (8, false), (10, false), (11, false), (12, false), (9, false), (13, false), (14, false), (15, false), (16, false)] [(15, .ptr), (14, .int), (18, .int), (23, .ptr), (22, .int), (26, .int)] (by kernel_rfl) (by kernel_rfl) rfl (by kernel_rfl) ?_; replace M := M.drew; simp only [reord, opAt, List.map_cons, List.map_nil, List.getElem?_toArray, List.getElem?_cons_zero, List.getElem?_cons_succ, Option.getD_some])) | (go_at_call 50; go_must (refine (linkNone_no (M.staysF RR (by simp))).mono ?_; rintro e w1 ⟨rfl, rfl⟩)) | ((with_reducible show wpList _ _ _ (Oper.mk _ (Op.store 67 _ _) _ _ _ _ :: _) _ _); refine w_at2 _ _ _ rfl (by exact ev_tmp rfl) (by first | exact ev_tmp rfl | exact ev_const) ?_; intro hx hy; refine w_storeMs (m := zeroM) M 0 _ _ _ rfl rfl hx rfl hy rfl (by kernel_rfl) zeroM_fit zeroM_fit ?_; clear hx hy M; intro w1 M; (try simp only [setC] at M)) | ((with_reducible refine tLoad ?_); refine w_at _ _ rfl (by exact ev_tmp rfl) ?_; intro hx; (first | refine w_rowF M RR nR _ _ rfl hx rfl (by decide +kernel) (by exact rfl) ?_); clear hx) | ((with_reducible show Seg _ _ _ _); go_must (first | refine Seg.intro ⟨fun h => absurd rfl h, ?_⟩ | refine Seg.intro ⟨fun _ => ixA, ?_⟩ | refine Seg.intro ⟨ndA, atA, ?_⟩)) | ((with_reducible show OnlyN _ _ _ _ _); refine OnlyN.intro (by kernel_rfl) ?_) | ((with_reducible refine tGuard ?_); first | refine gdS ?_ | (refine gdC ?_ ?_ <;> (intro hgd; rw [hgd]; try (exfalso; simp at hgd; omega)))) | fail | ((with_reducible refine tLoad ?_); go_must (refine ldS ?_)) | ((with_reducible refine tStore ?_); go_must (refine stS ?_; clear M; intro w1 M; (try simp only [setC] at M))) | ((with_reducible refine tBox _ ?_); (refine bxA M ?_; clear M; intro g w1 M))) <;> (try conv => arg 5; simp only [Act.put, List.setIfInBounds_toArray, setC]))
    exact bodyPost_ret (results_two rfl _ _ gm 0 (msgC zeroM) _ (.int .i64 1) rfl rfl (M.ok 0 _ at0).2.1 Tryz.underlying67 rfl (by rw [zeroM_len]; kernel_rfl)) rfl ⟨rfl, M.below⟩
  · have h2' : (fr == o) = false := by simpa using h2
    go_enter Tryz.func25, Tryz.ntmps25
    go_wp2_with ((first | ((with_reducible refine tGuard ?_); (with_reducible refine w_stripE ?_ ?_); (focus (refine ⟨_, rfl, ?_⟩; first | (with_reducible rfl) | exact decide_eq_false (by omega) | exact decide_eq_true (by omega)))) | ((with_reducible refine tGuard ?_); first | ((with_reducible refine w_skip1 ?_ ?_); (focus (refine ⟨_, rfl, ?_⟩; first | (with_reducible rfl) | exact decide_eq_false (by omega) | exact decide_eq_true (by omega)))) | ((with_reducible refine w_skip0 ?_ ?_); (focus (refine ⟨_, rfl, ?_⟩; first | (with_reducible rfl) | exact decide_eq_false (by omega) | exact decide_eq_true (by omega))))) | ((with_reducible refine tBox (some 3) ?_); refine w_box M _ _ rfl rfl _ rfl ([.int .i64 fr, .int .i64 to, .string (mkS data)]) rfl ?_; clear M; intro gp w1 M) | ((with_reducible refine tAlloc (some 4) 67 ?_); refine w_alloc M _ rfl rfl (.agg (msgC zeroM).toArray) (msgC zeroM) (by kernel_rfl) rfl ?_; clear M; intro gm w1 M) | ((with_reducible show Code.wp _ (Code.region 3 _ _) _ _ _); go_must (refine region_det [(0, false), (2, false), (3, false), (4, false), (1, false), (5, false), (6, false), (7, false), (8, false), (10, false), (11, false), (12, false), (9, false), (13, false), (14, false), (15, false), (16, false)] [(15, .ptr), (14, .int), (18, .int), (23, .ptr), (22, .int), (26, .int)] (by kernel_rfl) (by kernel_rfl) rfl (by kernel_rfl) ?_; replace M := M.drew; simp only [reord, opAt, List.map_cons, List.map_nil, List.getElem?_toArray, List.getElem?_cons_zero, List.getElem?_cons_succ, Option.getD_some])) | (go_at_call 50; go_must (refine (linkNone_no (M.staysF RR (by simp))).mono ?_; rintro e w1 ⟨rfl, rfl⟩)) | ((with_reducible show wpList _ _ _ (Oper.mk _ (Op.store 67 _ _) _ _ _ _ :: _) _ _); refine w_at2 _ _ _ rfl (by exact ev_tmp rfl) (by first | exact ev_tmp rfl | exact ev_const) ?_; intro hx hy; refine w_storeMs (m := zeroM) M 0 _ _ _ rfl rfl hx rfl hy rfl (by kernel_rfl) zeroM_fit zeroM_fit ?_; clear hx hy M; intro w1 M; (try simp only [setC] at M)) | ((with_reducible refine tLoad ?_); refine w_at _ _ rfl (by exact ev_tmp rfl) ?_; intro hx; (first | refine w_rowF M RR nR _ _ rfl hx rfl (by decide +kernel) (by exact rfl) ?_); clear hx) | ((with_reducible show Seg _ _ _ _); go_must (first | refine Seg.intro ⟨fun h => absurd rfl h, ?_⟩ | refine Seg.intro ⟨fun _ => ixA, ?_⟩ | refine Seg.intro ⟨ndA, atA, ?_⟩)) | ((with_reducible show OnlyN _ _ _ _ _); refine OnlyN.intro (by kernel_rfl) ?_) | ((with_reducible refine tGuard ?_); first | refine gdS ?_ | (refine gdC ?_ ?_ <;> (intro hgd; rw [hgd]; try (exfalso; simp at hgd; omega)))) | fail | ((with_reducible refine tLoad ?_); go_must (refine ldS ?_)) | ((with_reducible refine tStore ?_); go_must (refine stS ?_; clear M; intro w1 M; (try simp only [setC] at M))) | ((with_reducible refine tBox _ ?_); (refine bxA M ?_; clear M; intro g w1 M))) <;> (try conv => arg 5; simp only [Act.put, List.setIfInBounds_toArray, setC]))
    exact bodyPost_ret (results_two rfl _ _ gm 0 (msgC zeroM) _ (.int .i64 1) rfl rfl (M.ok 0 _ at0).2.1 Tryz.underlying67 rfl (by rw [zeroM_len]; kernel_rfl)) rfl ⟨rfl, M.below⟩
set_option maxRecDepth 100000 in
set_option maxHeartbeats 4000000 in
theorem Come_ok (data : List UInt8) (a b : UInt8) (h : c.ok w) (I : IsLink g K c) (he : EndOf K.me K.o a b) (hm : K.inn.m.length ≤ 1000000) (hd : data.length ≤ 1000000) (hz : (openL K.inn.m K.inn.c data (aboutK b a)).2 = 0) :
    Calls Tryz.prog 25 #[.pointer (some ⟨g, 0, none⟩), .agg #[.int .i64 K.o, .int .i64 K.me, .string (mkS data)]] w fun e w' => ∃ ov pv c', e = .returned (.tuple #[.agg (msgC ((readM (openL K.inn.m K.inn.c data (aboutK b a)).1).1.ms ov pv)).toArray, .int .i64 (readM (openL K.inn.m K.inn.c data (aboutK b a)).1).2]) ∧ IsLink g K c' ∧ Mem c.fp w w' [.sl 3 ov (readM (openL K.inn.m K.inn.c data (aboutK b a)).1).1.ops.length ((readM (openL K.inn.m K.inn.c data (aboutK b a)).1).1.ops.flatMap opV), .sl 2 pv (readM (openL K.inn.m K.inn.c data (aboutK b a)).1).1.prs.length ((readM (openL K.inn.m K.inn.c data (aboutK b a)).1).1.prs.flatMap prV), c'] := by
  obtain ⟨go, gi, Co, Ci, JO, II, rfl⟩ := I
  obtain ⟨me, o, out, inn⟩ := K
  simp only at he hm hz JO II ⊢
  have ia : I8 a = me ∧ I8 b = o := by rcases he with ⟨h1, h2, rfl, rfl⟩ | ⟨h1, h2, rfl, rfl⟩ <;> (rw [h1, h2]; decide)
  have AC := fun w => about_c b a w
  rw [ia.1, ia.2] at AC
  have M : Mem (grp [.row g (linkRow me o go gi), Co, Ci]).fp w w [.row g (linkRow me o go gi), Co, Ci] := Mem.startG h
  have OC := fun (w : World) (h : Ci.ok w) => RingOpen_c data (aboutK b a) h II hm hd (by rw [aboutK_len]; omega)
  have hl := openL_len inn.m inn.c data (aboutK b a)
  obtain ⟨F, eF⟩ : ∃ F, F = (grp [.row g (linkRow me o go gi), Co, Ci]).fp := ⟨_, rfl⟩
  rw [← eF] at M ⊢
  obtain ⟨⟨t, e⟩, eo⟩ : ∃ x, x = openL inn.m inn.c data (aboutK b a) := ⟨_, rfl⟩
  rw [← eo] at OC hz hl ⊢
  simp only at OC hz hl ⊢
  rw [hz, show ((0 : Nat) : Int) = 0 from rfl] at OC
  have RC := fun w => Read_c t w (by omega)
  have hrf := (readM_form t (by omega)).1
  obtain ⟨ab, eab⟩ : ∃ x, x = aboutK b a := ⟨_, rfl⟩
  rw [← eab] at OC AC
  unfold GivesM at RC
  obtain ⟨⟨R, re⟩, er⟩ : ∃ x, x = readM t := ⟨_, rfl⟩
  rw [← er] at RC hrf ⊢
  simp only at RC hrf ⊢
  replace OC := Lib.hid OC
  replace AC := Lib.hid AC
  replace RC := Lib.hid RC
  clear eF eo eab ia hz he h er
  go_enter Tryz.func25, Tryz.ntmps25
  go_wp2_with ((first | ((with_reducible refine tGuard ?_); (with_reducible refine w_stripE ?_ ?_); (focus (refine ⟨_, rfl, ?_⟩; first | (with_reducible rfl) | exact decide_eq_false (by omega) | exact decide_eq_true (by omega)))) | ((with_reducible refine tGuard ?_); first | ((with_reducible refine w_skip1 ?_ ?_); (focus (refine ⟨_, rfl, ?_⟩; first | (with_reducible rfl) | exact decide_eq_false (by omega) | exact decide_eq_true (by omega)))) | ((with_reducible refine w_skip0 ?_ ?_); (focus (refine ⟨_, rfl, ?_⟩; first | (with_reducible rfl) | exact decide_eq_false (by omega) | exact decide_eq_true (by omega))))) | ((with_reducible refine tBox (some 3) ?_); refine w_box M _ _ rfl rfl _ rfl ([.int .i64 o, .int .i64 me, .string (mkS data)]) rfl ?_; clear M; intro gp w1 M) | ((with_reducible refine tAlloc (some 4) 67 ?_); refine w_alloc M _ rfl rfl (.agg (msgC zeroM).toArray) (msgC zeroM) (by kernel_rfl) rfl ?_; clear M; intro gm w1 M) | ((with_reducible show Code.wp _ (Code.region 3 _ _) _ _ _); go_must (refine region_det [(0, false), (2, false), (3, false), (4, false), (1, false), (5, false), (6, false), (7, false), (8, false), (10, false), (11, false), (12, false), (9, false), (13, false), (14, false), (15, false), (16, false)] [(15, .ptr), (14, .int), (18, .int), (23, .ptr), (22, .int), (26, .int)] (by kernel_rfl) (by kernel_rfl) rfl (by kernel_rfl) ?_; replace M := M.drew; simp only [reord, opAt, List.map_cons, List.map_nil, List.getElem?_toArray, List.getElem?_cons_zero, List.getElem?_cons_succ, Option.getD_some])) | ((with_reducible show Code.wp _ (Code.region 5 _ _) _ _ _); go_must (have MR := M; refine region_lowc [(0, false), (1, false), (2, false), (4, false), (6, false), (7, false), (8, false), (10, false), (11, false), (12, false), (3, false), (5, false), (9, false), (13, false), (14, true), (15, true), (16, false), (17, false), (18, false), (19, false), (20, false)] [(31, .ptr), (37, .ptr), (41, .ptr)] [(3, _), (5, _), (9, _), (13, _)] (IxOk MR [2, 1]) 21 (by kernel_rfl) (by kernel_rfl) rfl (by kernel_rfl) (lowA MR 2 3 (lowA MR 1 2 (lowA MR 2 1 (lowA MR 2 0 lows_nil)))) (ixOk_self MR _) ?_; replace M := M.drew; simp only [planC, opAt, List.getElem?_toArray, List.getElem?_cons_zero, List.getElem?_cons_succ, Option.getD_some])) | (go_at_call 50; go_must (refine (linkNone_no (M.ok 2 _ at2)).mono ?_; rintro e w1 ⟨rfl, rfl⟩)) | (go_at_call 52; go_must (refine (AC.out _).mono ?_; rintro e w1 ⟨rfl, hb⟩; replace M := M.call hb; clear hb)) | (go_at_call 15; go_must (refine (OC.out _ (M.ok 4 _ at4)).mono ?_; rintro e w1 ⟨rfl, Ci1, II1, U⟩; replace M := M.upd 4 at4 U; clear U; simp only [setC] at M)) | (go_at_call 53; go_must (refine (RC.out _).mono ?_; rintro e w7 ⟨rov, rpv, rfl, N⟩; replace M := M.join N; clear N; simp only [List.cons_append, List.nil_append] at M; have hmf := ms_fit2 hrf M)) | ((with_reducible show wpList _ _ _ (Oper.mk _ (Op.store 67 _ _) _ _ _ _ :: _) _ _); refine w_at2 _ _ _ rfl (by exact ev_tmp rfl) (by first | exact ev_tmp rfl | exact ev_const) ?_; intro hx hy; refine w_storeMs (m := R.ms rov rpv) M 2 _ _ _ rfl rfl hx rfl hy rfl (by kernel_rfl) hmf zeroM_fit ?_; clear hx hy M; intro w1 M; (try simp only [setC] at M)) | ((with_reducible show Seg _ _ _ _); go_must (first | refine Seg.intro ⟨fun h => absurd rfl h, ?_⟩ | refine Seg.intro ⟨fun _ => ixA, ?_⟩ | refine Seg.intro ⟨ndA, atA, ?_⟩)) | ((with_reducible show OnlyN _ _ _ _ _); refine OnlyN.intro (by kernel_rfl) ?_) | ((with_reducible refine tGuard ?_); first | refine gdS ?_ | (refine gdC ?_ ?_ <;> (intro hgd; rw [hgd]; try (exfalso; simp at hgd; omega)))) | fail | ((with_reducible refine tLoad ?_); go_must (refine ldS ?_)) | ((with_reducible refine tStore ?_); go_must (refine stS ?_; clear M; intro w1 M; (try simp only [setC] at M))) | ((with_reducible refine tBox _ ?_); (refine bxA M ?_; clear M; intro g w1 M))) <;> (try conv => arg 5; simp only [Act.put, List.setIfInBounds_toArray, setC]))
  exact bodyPost_ret (results_two rfl _ _ gm 0 (msgC (R.ms rov rpv)) _ (.int .i64 re) rfl rfl (M.ok 2 _ at2).2.1 Tryz.underlying67 rfl (by rw [msgC_len hmf]; kernel_rfl)) rfl ⟨_, _, _, rfl, ⟨go, gi, Co, Ci1, JO, II1, rfl⟩, link_out M⟩
end
end Go.Proofs.YtidadhbaomieiaaGreat
