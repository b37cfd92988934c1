/- Texts of this seat, put together: RingE, RingG, RowsW, LinkL0, LinkA, MsgW, PathL, Sees, BatL, Ref12, Ref12T, BatA0, MsgF, TurnK, MsgG, MsgH, MsgL, PathN, Path, Ref11N, Ref11, BatP0, BatE0. Each begins with a remark that says what is proved in it, and under which conditions. -/
import Derived.Lib.Bytealg
import Derived.Lib.IndexLaws
import Derived.IntWalk
import Derived.OwnWalk
import Derived.Test.YtidadhbaomieiaaGreatZb
import Derived.Test.YtidadhbaomieiaaGreatZc
import Derived.Test.YtidadhbaomieiaaGreatZd
/- The walks of a ring's Open and Rewrap. Conditions: lengths, and the bounds of its numbers. -/
namespace Go.Proofs.YtidadhbaomieiaaGreat
open Go.RowKit Go.TL
section
variable {g : Nat} {R : RingS} {c : Chunk} {w : World}
/-- What seal.Open says of a right envelope. -/
theorem openE_c (kk : List UInt8) (x : Env) (about : List UInt8) (hk : kk.length = 32) (hx : rightEnv x) (ha : about.length ≤ 100000) : ∃ (S : List UInt8) (E : Nat),
    (∀ w : World, Calls Tryz.prog 43 #[.agg (bs kk).toArray, .agg (envC x.k x.b x.n x.d x.t).toArray, .string (mkS about)] w fun v w' => v = .returned (.tuple #[.string (mkS S), .int .i64 E]) ∧ Below w.heap.size w w') ∧
    (if x.t = tagL kk x.k x.b x.n about x.d then (sealL kk x.b x.n x.d, 0) else ([], 13)) = (S, E) := by
  obtain ⟨k, b, n, d, t⟩ := x
  obtain ⟨h1, h2, h3⟩ := hx
  simp only at h1 h2 h3 ⊢
  have h : rightE k d = true := by unfold rightE; simp; omega
  by_cases e : t = tagL kk k b n about d
  · subst e
    exact ⟨_, _, fun w => Open_ok kk k b n d about w hk h ha, if_pos rfl⟩
  · exact ⟨_, _, fun w => Open_mac kk k b n d t about w hk h3 h ha e, if_neg e⟩
set_option maxRecDepth 100000 in
set_option maxHeartbeats 4000000 in
theorem RingOpen_c (s about : List UInt8) (h : c.ok w) (I : IsRing g R c) (hm : R.m.length ≤ 1000000) (hs : s.length ≤ 1000000) (ha : about.length ≤ 100000) :
    Calls Tryz.prog 15 #[.pointer (some ⟨g, 0, none⟩), .string (mkS s), .string (mkS about)] w fun e w' => e = .returned (.tuple #[.string (mkS (openL R.m R.c s about).1), .int .i64 (openL R.m R.c s about).2]) ∧ ∃ c', IsRing g R c' ∧ Upd w c w' c' := by
  obtain ⟨gm, K, IK, rfl⟩ := I
  obtain ⟨m, cc, bb, n0⟩ := R
  simp only at hm IK ⊢
  have M : Mem (grp [.row g (ringC ⟨m, cc, bb, n0⟩ gm), K]).fp w w [.row g [.string (mkS m), .int .i64 cc, .int .u32 (I32 bb), .int .u64 (I64 n0), .map (some gm)], K] := Mem.startG h
  have N0 : ∀ w' K' x, IsKeys m gm K' → Mem (grp [.row g (ringC ⟨m, cc, bb, n0⟩ gm), K]).fp w w' [x, .row g [.string (mkS m), .int .i64 cc, .int .u32 (I32 bb), .int .u64 (I64 n0), .map (some gm)], K'] → ∃ c', IsRing g ⟨m, cc, bb, n0⟩ c' ∧ Upd w (grp [.row g (ringC ⟨m, cc, bb, n0⟩ gm), K]) w' c' := fun w' K' x IK' M => ⟨_, ⟨gm, K', IK', rfl⟩, M.tail.updG [] rfl⟩
  obtain ⟨F, eF⟩ : ∃ F, F = (grp [.row g (ringC ⟨m, cc, bb, n0⟩ gm), K]).fp := ⟨_, rfl⟩
  rw [← eF] at M N0
  have NN : ∀ w1, (Chunk.row g [.string (mkS m), .int .i64 cc, .int .u32 (I32 bb), .int .u64 (I64 n0), .map (some gm)]).ok w1 → _ := fun w1 RR => ringNone_no (R := ⟨m, cc, bb, n0⟩) RR
  obtain ⟨nn, en⟩ : ∃ nn, nn = I64 n0 := ⟨_, rfl⟩
  rw [← en] at M N0 NN
  have EN := Lib.hid fun _ : Unit => en
  clear en
  replace NN := Lib.hid NN
  replace N0 := Lib.hid N0
  clear eF h
  have RC := fun w => sealRead_c s w hs
  by_cases hz : (readS s).2 = 0
  · have hx := (read_envonly hz).2
    rw [hz, show ((0 : Nat) : Int) = 0 from rfl] at RC
    by_cases hk : cc < (readS s).1.k
    · rw [openL_far hz hk]
      simp only [show ((20 : Nat) : Int) = 20 from rfl]
      have ht := hx.2.2
      obtain ⟨⟨k, b, n, d, t⟩, ex⟩ : ∃ x, x = (readS s).1 := ⟨_, rfl⟩
      rw [← ex] at RC hk ht
      simp only at RC hk ht
      replace RC := Lib.hid RC
      have hk1 : (cc : Int) < (k : Int) := by omega
      clear ex hz hx hk
      go_enter Tryz.func15, Tryz.ntmps15
      go_wp2_with ((first | ((with_reducible refine tGuard ?_); (with_reducible refine w_stripE ?_ ?_); (focus (refine ⟨_, rfl, ?_⟩; first | (with_reducible rfl) | exact decide_eq_false (by omega) | exact decide_eq_true (by omega)))) | ((with_reducible refine tGuard ?_); first | ((with_reducible refine w_skip1 ?_ ?_); (focus (refine ⟨_, rfl, ?_⟩; first | (with_reducible rfl) | exact decide_eq_false (by omega) | exact decide_eq_true (by omega)))) | ((with_reducible refine w_skip0 ?_ ?_); (focus (refine ⟨_, rfl, ?_⟩; first | (with_reducible rfl) | exact decide_eq_false (by omega) | exact decide_eq_true (by omega))))) | (go_at_call 37; go_must (refine (NN.out _ (M.ok 0 _ rfl)).mono ?_; rintro e w1 ⟨rfl, rfl⟩)) | (go_at_call 30; go_must (refine (RC.out _).mono ?_; rintro e w1 ⟨rfl, hb⟩; replace M := M.call hb; clear hb)) | ((with_reducible refine tAlloc (some 8) 75 ?_); refine w_alloc M _ rfl rfl (.agg (envC 0 0 0 [] zeroT).toArray) (envC 0 0 0 [] zeroT) (by kernel_rfl) rfl ?_; clear M; intro gx w1 M) | ((with_reducible refine tLoad ?_); refine w_at _ _ rfl (by exact ev_tmp rfl) ?_; intro hx; (first | refine w_loadE M _ _ _ rfl (by first | exact at0) hx rfl (by decide +kernel) (by decide +kernel) (by first | assumption | exact zeroT_len | exact macL_len _ _) ?_ | refine w_loadTag M _ _ _ rfl (by first | exact at0) hx rfl (by decide +kernel) (by decide +kernel) (by first | assumption | exact zeroT_len | exact macL_len _ _) ?_); clear hx) | ((with_reducible refine tStore ?_); refine w_at2 _ _ _ rfl (by first | exact ev_tmp rfl | exact ev_const) (by first | exact ev_tmp rfl | exact ev_const) ?_; intro hx hy; (first | refine w_storeE M _ _ _ _ rfl (by first | exact at0) hx rfl hy rfl (by decide +kernel) (by first | assumption | exact zeroT_len | exact macL_len _ _) (by first | assumption | exact zeroT_len | exact macL_len _ _) ?_ | refine w_storeE (k := 0) (b := 0) (n := 0) (d := []) (tg := zeroT) M _ _ _ _ rfl (by first | exact at0) hx rfl hy rfl (by decide +kernel) zeroT_len (by first | assumption | exact zeroT_len | exact macL_len _ _) ?_ | refine w_storeE (tg := zeroT) M _ _ _ _ rfl (by first | exact at0) hx rfl hy rfl (by decide +kernel) zeroT_len (by first | assumption | exact zeroT_len | exact macL_len _ _) ?_ | refine w_storeTag M _ _ _ _ rfl (by first | exact at0) hx rfl hy (by decide +kernel) (by first | assumption | exact zeroT_len | exact macL_len _ _) (by first | assumption | exact zeroT_len | exact macL_len _ _) ?_ | refine w_storeData M _ _ _ _ rfl (by first | exact at0) hx rfl hy (by decide +kernel) ?_ | refine w_storeNum M _ _ _ _ rfl (by first | exact at0) hx rfl hy (by decide +kernel) ?_); clear hx hy M; intro w1 M; (try simp only [setC] at M)) | ((with_reducible refine tConv _ 70 9 ?_); (first | refine w_stringTag M _ _ _ _ _ rfl rfl (by first | exact at0) rfl (by first | assumption | exact zeroT_len | exact macL_len _ _) Tryz.underlying70 Tryz.underlying5 Tryz.underlying9 ?_)) | ((with_reducible show Code.wp _ (Code.region 6 _ _) _ _ _); go_must (refine region_det [(0, false), (2, false), (3, false), (4, false), (1, false), (5, false), (6, false), (7, false)] [(24, .ptr), (23, .int), (27, .int)] (by kernel_rfl) (by kernel_rfl) rfl (by kernel_rfl) ?_; replace M := M.drew; simp only [reord, opAt, List.map_cons, List.map_nil, List.getElem?_toArray, List.getElem?_cons_zero, List.getElem?_cons_succ, Option.getD_some])) | ((with_reducible show Seg _ _ _ _); go_must (first | refine Seg.intro ⟨fun h => absurd rfl h, ?_⟩ | refine Seg.intro ⟨fun _ => ixA, ?_⟩ | refine Seg.intro ⟨ndA, atA, ?_⟩)) | ((with_reducible show OnlyN _ _ _ _ _); refine OnlyN.intro (by kernel_rfl) ?_) | ((with_reducible refine tGuard ?_); first | refine gdS ?_ | (refine gdC ?_ ?_ <;> (intro hgd; rw [hgd]; try (exfalso; simp at hgd; omega)))) | fail | ((with_reducible refine tLoad ?_); go_must (refine ldS ?_)) | ((with_reducible refine tStore ?_); go_must (refine stS ?_; clear M; intro w1 M; (try simp only [setC] at M))) | ((with_reducible refine tBox _ ?_); (refine bxA M ?_; clear M; intro g w1 M))) <;> (try conv => arg 5; simp only [Act.put, List.setIfInBounds_toArray, setC]))
      go_ret2
      exact ⟨rfl, N0.out _ _ _ IK M⟩
    · have hk32 : (ringK m (readS s).1.k).length = 32 := ringK_len _ _
      obtain ⟨S, E, OC, HO⟩ := openE_c (ringK m (readS s).1.k) (readS s).1 about hk32 hx ha
      have HL : openL m cc s about = (S, E) := by
        rw [← HO]
        unfold openL
        rw [if_neg (by simpa using hz), if_neg hk]
      rw [HL]
      simp only
      have ht := hx.2.2
      have hkx := hx.1
      have KC := fun (w : World) RR nR hK => ringkey_c ⟨m, cc, bb, n0⟩ g gm K (readS s).1.k w hm RR nR hK IK
      rw [show ringU m (w64 ((readS s).1.k : Int)) = ringK m (readS s).1.k from rfl] at KC
      obtain ⟨kk, ek⟩ : ∃ k, k = ringK m (readS s).1.k := ⟨_, rfl⟩
      rw [← ek] at OC KC hk32
      obtain ⟨⟨k, b, n, d, t⟩, ex⟩ : ∃ x, x = (readS s).1 := ⟨_, rfl⟩
      rw [← ex] at RC hk ht OC KC
      unfold ringC at KC
      simp only at RC hk ht OC KC
      rw [← EN.out ()] at KC
      have hk1 : (k : Int) ≤ (cc : Int) := by omega
      replace RC := Lib.hid RC
      replace OC := Lib.hid OC
      replace KC := Lib.hid KC
      clear ex hz hx hk HO HL ek hkx
      go_enter Tryz.func15, Tryz.ntmps15
      go_wp2_with ((first | ((with_reducible refine tGuard ?_); (with_reducible refine w_stripE ?_ ?_); (focus (refine ⟨_, rfl, ?_⟩; first | (with_reducible rfl) | exact decide_eq_false (by omega) | exact decide_eq_true (by omega)))) | ((with_reducible refine tGuard ?_); first | ((with_reducible refine w_skip1 ?_ ?_); (focus (refine ⟨_, rfl, ?_⟩; first | (with_reducible rfl) | exact decide_eq_false (by omega) | exact decide_eq_true (by omega)))) | ((with_reducible refine w_skip0 ?_ ?_); (focus (refine ⟨_, rfl, ?_⟩; first | (with_reducible rfl) | exact decide_eq_false (by omega) | exact decide_eq_true (by omega))))) | (go_at_call 37; go_must (refine (NN.out _ (M.ok 0 _ rfl)).mono ?_; rintro e w1 ⟨rfl, rfl⟩)) | (go_at_call 30; go_must (refine (RC.out _).mono ?_; rintro e w1 ⟨rfl, hb⟩; replace M := M.call hb; clear hb)) | ((with_reducible refine tAlloc (some 8) 75 ?_); refine w_alloc M _ rfl rfl (.agg (envC 0 0 0 [] zeroT).toArray) (envC 0 0 0 [] zeroT) (by kernel_rfl) rfl ?_; clear M; intro gx w1 M) | ((with_reducible show Code.wp _ (Code.region 6 _ _) _ _ _); go_must (refine region_det [(0, false), (2, false), (3, false), (4, false), (1, false), (5, false), (6, false), (7, false)] [(24, .ptr), (23, .int), (27, .int)] (by kernel_rfl) (by kernel_rfl) rfl (by kernel_rfl) ?_; replace M := M.drew; simp only [reord, opAt, List.map_cons, List.map_nil, List.getElem?_toArray, List.getElem?_cons_zero, List.getElem?_cons_succ, Option.getD_some])) | ((with_reducible show Code.wp _ (Code.region 8 _ _) _ _ _); go_must (have MR := M; refine region_lowc [(0, false), (1, false), (5, false), (2, false), (4, false), (3, true), (6, true), (7, false), (8, false), (9, false), (10, false)] [] [(2, _), (4, _)] (IxOk MR [0]) 11 (by kernel_rfl) (by kernel_rfl) rfl (by kernel_rfl) (lowA MR 0 0 (lows_cons (stab_env MR 0 rfl rfl (by decide) (by decide +kernel) (by decide +kernel) (by first | assumption | exact zeroT_len)) lows_nil)) (ixOk_self MR _) ?_; replace M := M.drew; simp only [planC, opAt, List.getElem?_toArray, List.getElem?_cons_zero, List.getElem?_cons_succ, Option.getD_some])) | (go_at_call 40; go_must (with_reducible refine (KC.out _ (M.ok 1 _ at1) (M.nd 1 2 _ _ (by decide) at1 at2 g (by simp [Chunk.fp])) (M.ok 2 _ at2)).mono ?_; rintro e w1 ⟨rfl, K1, IK1, U⟩; replace M := M.upd 2 rfl U; clear U; simp only [setC] at M)) | (go_at_call 43; go_must (refine (OC.out _).mono ?_; rintro e w1 ⟨rfl, hb⟩; replace M := M.call hb; clear hb)) | ((with_reducible refine tLoad ?_); refine w_at _ _ rfl (by exact ev_tmp rfl) ?_; intro hx; (first | refine w_loadE M _ _ _ rfl (by first | exact at0) hx rfl (by decide +kernel) (by decide +kernel) (by first | assumption | exact zeroT_len | exact macL_len _ _) ?_ | refine w_loadTag M _ _ _ rfl (by first | exact at0) hx rfl (by decide +kernel) (by decide +kernel) (by first | assumption | exact zeroT_len | exact macL_len _ _) ?_); clear hx) | ((with_reducible refine tStore ?_); refine w_at2 _ _ _ rfl (by first | exact ev_tmp rfl | exact ev_const) (by first | exact ev_tmp rfl | exact ev_const) ?_; intro hx hy; (first | refine w_storeE M _ _ _ _ rfl (by first | exact at0) hx rfl hy rfl (by decide +kernel) (by first | assumption | exact zeroT_len | exact macL_len _ _) (by first | assumption | exact zeroT_len | exact macL_len _ _) ?_ | refine w_storeE (k := 0) (b := 0) (n := 0) (d := []) (tg := zeroT) M _ _ _ _ rfl (by first | exact at0) hx rfl hy rfl (by decide +kernel) zeroT_len (by first | assumption | exact zeroT_len | exact macL_len _ _) ?_ | refine w_storeE (tg := zeroT) M _ _ _ _ rfl (by first | exact at0) hx rfl hy rfl (by decide +kernel) zeroT_len (by first | assumption | exact zeroT_len | exact macL_len _ _) ?_ | refine w_storeTag M _ _ _ _ rfl (by first | exact at0) hx rfl hy (by decide +kernel) (by first | assumption | exact zeroT_len | exact macL_len _ _) (by first | assumption | exact zeroT_len | exact macL_len _ _) ?_ | refine w_storeData M _ _ _ _ rfl (by first | exact at0) hx rfl hy (by decide +kernel) ?_ | refine w_storeNum M _ _ _ _ rfl (by first | exact at0) hx rfl hy (by decide +kernel) ?_); clear hx hy M; intro w1 M; (try simp only [setC] at M)) | ((with_reducible refine tConv _ 70 9 ?_); (first | refine w_stringTag M _ _ _ _ _ rfl rfl (by first | exact at0) rfl (by first | assumption | exact zeroT_len | exact macL_len _ _) Tryz.underlying70 Tryz.underlying5 Tryz.underlying9 ?_)) | ((with_reducible show Seg _ _ _ _); go_must (first | refine Seg.intro ⟨fun h => absurd rfl h, ?_⟩ | refine Seg.intro ⟨fun _ => ixA, ?_⟩ | refine Seg.intro ⟨ndA, atA, ?_⟩)) | ((with_reducible show OnlyN _ _ _ _ _); refine OnlyN.intro (by kernel_rfl) ?_) | ((with_reducible refine tGuard ?_); first | refine gdS ?_ | (refine gdC ?_ ?_ <;> (intro hgd; rw [hgd]; try (exfalso; simp at hgd; omega)))) | fail | ((with_reducible refine tLoad ?_); go_must (refine ldS ?_)) | ((with_reducible refine tStore ?_); go_must (refine stS ?_; clear M; intro w1 M; (try simp only [setC] at M))) | ((with_reducible refine tBox _ ?_); (refine bxA M ?_; clear M; intro g w1 M))) <;> (try conv => arg 5; simp only [Act.put, List.setIfInBounds_toArray, setC]))
      go_ret2
      exact ⟨rfl, N0.out _ _ _ IK1 M⟩
  · rw [openL_bad hz]
    simp only
    have hzz := readS_zero hz
    have e1 : (readS s).1 = zeroE := by rw [hzz]
    rw [e1] at RC
    obtain ⟨e, ee⟩ : ∃ e, e = (readS s).2 := ⟨_, rfl⟩
    rw [← ee] at RC hz ⊢
    have RC' : ∀ w, Calls Tryz.prog 30 #[.string (mkS s)] w fun v w' => v = .returned (.tuple #[.agg (envC 0 0 0 [] zeroT).toArray, .int .i64 e]) ∧ Below w.heap.size w w' := RC
    replace RC := Lib.hid RC'
    have hz1 : ((e : Int) != 0) = true := by simp; exact hz
    have hz2 : ((e : Int) == 0) = false := by simp; exact hz
    clear ee hz hzz e1 RC'
    go_enter Tryz.func15, Tryz.ntmps15
    go_wp2_with ((first | ((with_reducible refine tGuard ?_); (with_reducible refine w_stripE ?_ ?_); (focus (refine ⟨_, rfl, ?_⟩; first | (with_reducible rfl) | exact decide_eq_false (by omega) | exact decide_eq_true (by omega)))) | ((with_reducible refine tGuard ?_); first | ((with_reducible refine w_skip1 ?_ ?_); (focus (refine ⟨_, rfl, ?_⟩; first | (with_reducible rfl) | exact decide_eq_false (by omega) | exact decide_eq_true (by omega)))) | ((with_reducible refine w_skip0 ?_ ?_); (focus (refine ⟨_, rfl, ?_⟩; first | (with_reducible rfl) | exact decide_eq_false (by omega) | exact decide_eq_true (by omega))))) | (go_at_call 37; go_must (refine (NN.out _ (M.ok 0 _ rfl)).mono ?_; rintro e w1 ⟨rfl, rfl⟩)) | (go_at_call 30; go_must (refine (RC.out _).mono ?_; rintro e w1 ⟨rfl, hb⟩; replace M := M.call hb; clear hb)) | ((with_reducible refine tAlloc (some 8) 75 ?_); refine w_alloc M _ rfl rfl (.agg (envC 0 0 0 [] zeroT).toArray) (envC 0 0 0 [] zeroT) (by kernel_rfl) rfl ?_; clear M; intro gx w1 M) | ((with_reducible refine tLoad ?_); refine w_at _ _ rfl (by exact ev_tmp rfl) ?_; intro hx; (first | refine w_loadE M _ _ _ rfl (by first | exact at0) hx rfl (by decide +kernel) (by decide +kernel) (by first | assumption | exact zeroT_len | exact macL_len _ _) ?_ | refine w_loadTag M _ _ _ rfl (by first | exact at0) hx rfl (by decide +kernel) (by decide +kernel) (by first | assumption | exact zeroT_len | exact macL_len _ _) ?_); clear hx) | ((with_reducible refine tStore ?_); refine w_at2 _ _ _ rfl (by first | exact ev_tmp rfl | exact ev_const) (by first | exact ev_tmp rfl | exact ev_const) ?_; intro hx hy; (first | refine w_storeE M _ _ _ _ rfl (by first | exact at0) hx rfl hy rfl (by decide +kernel) (by first | assumption | exact zeroT_len | exact macL_len _ _) (by first | assumption | exact zeroT_len | exact macL_len _ _) ?_ | refine w_storeE (k := 0) (b := 0) (n := 0) (d := []) (tg := zeroT) M _ _ _ _ rfl (by first | exact at0) hx rfl hy rfl (by decide +kernel) zeroT_len (by first | assumption | exact zeroT_len | exact macL_len _ _) ?_ | refine w_storeE (tg := zeroT) M _ _ _ _ rfl (by first | exact at0) hx rfl hy rfl (by decide +kernel) zeroT_len (by first | assumption | exact zeroT_len | exact macL_len _ _) ?_ | refine w_storeTag M _ _ _ _ rfl (by first | exact at0) hx rfl hy (by decide +kernel) (by first | assumption | exact zeroT_len | exact macL_len _ _) (by first | assumption | exact zeroT_len | exact macL_len _ _) ?_ | refine w_storeData M _ _ _ _ rfl (by first | exact at0) hx rfl hy (by decide +kernel) ?_ | refine w_storeNum M _ _ _ _ rfl (by first | exact at0) hx rfl hy (by decide +kernel) ?_); clear hx hy M; intro w1 M; (try simp only [setC] at M)) | ((with_reducible refine tConv _ 70 9 ?_); (first | refine w_stringTag M _ _ _ _ _ rfl rfl (by first | exact at0) rfl (by first | assumption | exact zeroT_len | exact macL_len _ _) Tryz.underlying70 Tryz.underlying5 Tryz.underlying9 ?_)) | ((with_reducible refine tGuard ?_); first | refine gdS ?_ | (refine gdC ?_ ?_ <;> (intro hgd; rw [hgd]; try (exfalso; simp at hgd; omega)))) | fail | ((with_reducible refine tLoad ?_); go_must (refine ldS ?_)) | ((with_reducible refine tStore ?_); go_must (refine stS ?_; clear M; intro w1 M; (try simp only [setC] at M))) | ((with_reducible refine tBox _ ?_); (refine bxA M ?_; clear M; intro g w1 M))) <;> (try conv => arg 5; simp only [Act.put, List.setIfInBounds_toArray, setC]))
    go_ret2
    exact ⟨rfl, N0.out _ _ _ IK M⟩
end
end Go.Proofs.YtidadhbaomieiaaGreat

/- The walk of layer 6's example. Conditions: none. -/
namespace Go.Proofs.YtidadhbaomieiaaGreat
open Go.RowKit Go.TL
set_option maxRecDepth 100000 in
set_option maxHeartbeats 4000000 in
theorem awake06_c (w : World) : Calls Tryz.prog 10 #[] w fun e w' => e = .returned (.bool true) ∧ Below w.heap.size w w' := by
  have M := Mem.start [] w
  have NC : ∀ w, Calls Tryz.prog 12 #[.string (mkS [109]), .int .i64 0, .int .u32 7] w fun e w' => ∃ g C, e = .returned (.tuple #[.pointer (some ⟨g, 0, none⟩), .int .i64 0]) ∧ IsRing g ⟨[109], 0, 7, 0⟩ C ∧ Mem [] w w' [C] := fun w => New_ok [109] 0 7 w (by decide)
  have WC := fun (g : Nat) (c : Chunk) (w : World) (h : c.ok w) (I : IsRing g ⟨[109], 0, 7, 0⟩ c) => Wrap_ok [97] [120] h I (by decide) (by decide) (by decide) (by decide) (by decide)
  have RC := fun (g : Nat) (c : Chunk) (w : World) (h : c.ok w) (I : IsRing g ⟨[109], 0, 7, 0 + 1⟩ c) => Rotate_ok h I (by decide)
  have OC := fun (g : Nat) (c : Chunk) (w : World) (h : c.ok w) (I : IsRing g ⟨[109], 0 + 1, 7, 0 + 1⟩ c) => RingOpen_c (envB (RingS.env ⟨[109], 0, 7, 0⟩ [97] [120])) [97] h I (by decide) (by have := envB_length (RingS.env_right (R := ⟨[109], 0, 7, 0⟩) [97] [120] (by decide) (by decide)); omega) (by decide)
  have HO : openL [109] (0 + 1) (envB (RingS.env ⟨[109], 0, 7, 0⟩ [97] [120])) [97] = ([120], 0) := openL_ok (R := ⟨[109], 0, 7, 0⟩) [97] [120] (by decide) (by decide) (by decide)
  have TC := fun (g : Nat) (c : Chunk) (w : World) (h : c.ok w) (I : IsRing g ⟨[109], 0 + 1, 7, 0 + 1⟩ c) => Count_c h I
  have QC := fun (g : Nat) (c : Chunk) (w : World) (h : c.ok w) (I : IsRing g ⟨[109], 0 + 1, 7, 0 + 1⟩ c) => Current_c h I
  simp only at OC WC RC TC QC
  rw [HO] at OC
  obtain ⟨B, eB⟩ : ∃ B, B = envB (RingS.env ⟨[109], 0, 7, 0⟩ [97] [120]) := ⟨_, rfl⟩
  rw [← eB] at OC WC
  rw [show I32 7 = 7 from by decide, show I64 (0 + 1) = 1 from by decide] at TC
  rw [show (((0 + 1 : Nat)) : Int) = 1 from rfl] at QC
  simp only [show ((0 : Nat) : Int) = 0 from rfl] at OC
  replace NC := Lib.hid NC
  replace WC := Lib.hid WC
  replace RC := Lib.hid RC
  replace OC := Lib.hid OC
  replace TC := Lib.hid TC
  replace QC := Lib.hid QC
  clear eB HO
  go_enter Tryz.func10, Tryz.ntmps10
  go_wp2_with ((first | ((with_reducible refine tGuard ?_); (with_reducible refine w_stripE ?_ ?_); (focus (refine ⟨_, rfl, ?_⟩; first | (with_reducible rfl) | exact decide_eq_false (by omega) | exact decide_eq_true (by omega)))) | ((with_reducible refine tGuard ?_); first | ((with_reducible refine w_skip1 ?_ ?_); (focus (refine ⟨_, rfl, ?_⟩; first | (with_reducible rfl) | exact decide_eq_false (by omega) | exact decide_eq_true (by omega)))) | ((with_reducible refine w_skip0 ?_ ?_); (focus (refine ⟨_, rfl, ?_⟩; first | (with_reducible rfl) | exact decide_eq_false (by omega) | exact decide_eq_true (by omega))))) | (go_at_call 12; go_must (refine (NC.out _).mono ?_; rintro e w1 ⟨g, c, rfl, I0, MJ⟩; replace M := M.join MJ; clear MJ; simp only [List.cons_append, List.nil_append] at M)) | (go_at_call 14; go_must (refine (WC.out _ _ _ (M.ok 0 _ at0) I0).mono ?_; rintro e w1 ⟨rfl, c1, I1, U⟩; replace M := M.upd 0 at0 U; clear U; simp only [setC] at M)) | (go_at_call 18; go_must (refine (RC.out _ _ _ (M.ok 0 _ at0) I1).mono ?_; rintro e w1 ⟨rfl, c2, I2, U⟩; replace M := M.upd 0 at0 U; clear U; simp only [setC] at M)) | (go_at_call 15; go_must (refine (OC.out _ _ _ (M.ok 0 _ at0) I2).mono ?_; rintro e w1 ⟨rfl, c3, I3, U⟩; replace M := M.upd 0 at0 U; clear U; simp only [setC] at M)) | (go_at_call 19; go_must (refine (TC.out _ _ _ (M.ok 0 _ at0) I3).mono ?_; rintro e w1 ⟨rfl, hb⟩; replace M := M.call hb; clear hb)) | (go_at_call 20; go_must (refine (QC.out _ _ _ (M.ok 0 _ at0) I3).mono ?_; rintro e w1 ⟨rfl, rfl⟩)) | ((with_reducible refine tGuard ?_); first | refine gdS ?_ | (refine gdC ?_ ?_ <;> (intro hgd; rw [hgd]; try (exfalso; simp at hgd; omega)))) | fail | ((with_reducible refine tLoad ?_); go_must (refine ldS ?_)) | ((with_reducible refine tStore ?_); go_must (refine stS ?_; clear M; intro w1 M; (try simp only [setC] at M))) | ((with_reducible refine tBox _ ?_); (refine bxA M ?_; clear M; intro g w1 M))) <;> (try conv => arg 5; simp only [Act.put, List.setIfInBounds_toArray, setC]))
  go_ret
  exact ⟨by first | rfl | simp, M.below⟩
end Go.Proofs.YtidadhbaomieiaaGreat

/- Slices of rows of bytes: each row is a slice of its own. No conditions but those each law names. -/
namespace Go
namespace TL
open Go.RowKit
/-- What rows show: each slice value, a list of bytes. -/
def InnerW (w : World) (vs : List Value) (ls : List (List UInt8)) : Prop := vs.length = ls.length ∧ ∀ (i : Nat) (v : Value) (l : List UInt8), vs[i]? = some v → ls[i]? = some l → SeesB w v l
def fpW (vs : List Value) : List Nat := vs.flatMap fun v => v.ownBlock.toList
def rowsC (vs : List Value) (ls : List (List UInt8)) : Chunk := .obj (fpW vs) (fun w => InnerW w vs ls)
theorem seesB_stay {w w' : World} {v : Value} {l : List UInt8} (S : SeesB w v l) (hs : w.heap.size ≤ w'.heap.size) (hb : ∀ k, v.ownBlock = some k → w'.heap[k]? = w.heap[k]?) : SeesB w' v l := by
  refine ⟨S.1, S.2.imp id ?_⟩
  rintro ⟨g, o, cap, rfl, hlt, hn, hc, hr⟩
  exact ⟨g, o, cap, rfl, Nat.lt_of_lt_of_le hlt hs, hn, hc, rangeAt_of_block hr (hb g rfl)⟩
theorem seesB_lt {w : World} {v : Value} {l : List UInt8} (S : SeesB w v l) : ∀ k, v.ownBlock = some k → k < w.heap.size := by
  intro k hk
  rcases S.2 with ⟨rfl, _⟩ | ⟨g, o, cap, rfl, hlt, _⟩
  · cases hk
  · cases hk; exact hlt
theorem seesB_addr {w : World} {v : Value} {l : List UInt8} (S : SeesB w v l) (h : 0 < l.length) : ∃ g so c, v = .slice (some ⟨g, so, none⟩) l.length c := by
  rcases S.2 with ⟨_, h0⟩ | ⟨g, so, c, hv, _⟩
  · omega
  · exact ⟨g, so, c, hv⟩
theorem mem_fpW {vs : List Value} {i : Nat} {v : Value} {k : Nat} (hi : vs[i]? = some v) (hk : v.ownBlock = some k) : k ∈ fpW vs := by
  unfold fpW
  exact List.mem_flatMap.2 ⟨v, List.mem_of_getElem? hi, by rw [hk]; simp⟩
theorem fpW_snoc (vs : List Value) (v : Value) : fpW (vs ++ [v]) = fpW vs ++ v.ownBlock.toList := by unfold fpW; simp
theorem rows_ok {w : World} {vs : List Value} {ls : List (List UInt8)} (h : InnerW w vs ls) : (rowsC vs ls).ok w := by
  refine ⟨fun k hk => ?_, h, fun w' hs hb => ⟨h.1, fun i v l hv hl => seesB_stay (h.2 i v l hv hl) hs fun k hk => hb k (mem_fpW hv hk)⟩⟩
  obtain ⟨v, hv, hk⟩ := List.mem_flatMap.1 hk
  obtain ⟨i, hi⟩ := List.mem_iff_getElem?.1 hv
  have hlt : i < ls.length := by rw [← h.1]; exact (List.getElem?_eq_some_iff.1 hi).1
  exact seesB_lt (h.2 i v _ hi (List.getElem?_eq_getElem hlt)) k (by simpa using hk)
theorem inner_snoc {w : World} {vs : List Value} {ls : List (List UInt8)} (h : InnerW w vs ls) {v : Value} {l : List UInt8} (S : SeesB w v l) : InnerW w (vs ++ [v]) (ls ++ [l]) := by
  refine ⟨by simp [h.1], fun i u m hu hm => ?_⟩
  by_cases e : i < vs.length
  · rw [List.getElem?_append_left e] at hu
    rw [List.getElem?_append_left (by rw [← h.1]; exact e)] at hm
    exact h.2 i u m hu hm
  · rw [List.getElem?_append_right (by omega)] at hu
    rw [List.getElem?_append_right (by rw [← h.1]; omega), ← h.1] at hm
    obtain ⟨j, ej⟩ : ∃ j, j = i - vs.length := ⟨_, rfl⟩
    rw [← ej] at hu hm
    cases j with
    | zero => simp at hu hm; subst hu; subst hm; exact S
    | succ j => simp at hu
/-- An empty row of rows. -/
theorem Mem.rows0 {F : List Nat} {w0 w : World} {L : List Chunk} (M : Mem F w0 w L) : Mem F w0 w (rowsC [] [] :: L) :=
  M.add _ (Kept.refl _ _) (rows_ok ⟨rfl, fun i v l h => by simp at h⟩) (by simp [rowsC, Chunk.fp, fpW])
/-- A piece goes into the rows. -/
theorem Mem.gather {F : List Nat} {w0 w : World} {c o d e : Chunk} {L : List Chunk} (M : Mem F w0 w (c :: o :: d :: L)) (hok : e.ok w) (hfp : ∀ k ∈ e.fp, k ∈ c.fp ∨ k ∈ d.fp) : Mem F w0 w (o :: e :: L) := by
  have key : ∀ (i : Nat) (x : Chunk), (o :: e :: L)[i]? = some x → (i = 1 ∧ x = e) ∨ (i ≠ 1 ∧ (c :: o :: d :: L)[i + 1]? = some x) := by
    intro i x hx
    match i with
    | 0 => exact .inr ⟨by omega, by simpa using hx⟩
    | 1 => exact .inl ⟨rfl, by simp at hx; exact hx.symm⟩
    | i + 2 => exact .inr ⟨by omega, by simpa using hx⟩
  have me : ∀ k ∈ e.fp, ∃ (j : Nat) (y : Chunk), (j = 0 ∨ j = 2) ∧ (c :: o :: d :: L)[j]? = some y ∧ k ∈ y.fp := fun k hk => by
    rcases hfp k hk with h | h
    · exact ⟨0, c, .inl rfl, rfl, h⟩
    · exact ⟨2, d, .inr rfl, rfl, h⟩
  refine ⟨M.kept, fun i x hx => ?_, fun i x hx k hk => ?_, fun i j x y hij hi hj k hk hk2 => ?_⟩
  · rcases key i x hx with ⟨_, rfl⟩ | ⟨_, h⟩
    · exact hok
    · exact M.ok _ x h
  · rcases key i x hx with ⟨_, rfl⟩ | ⟨_, h⟩
    · obtain ⟨j, y, _, hy, hky⟩ := me k hk
      exact M.own j y hy k hky
    · exact M.own _ x h k hk
  · rcases key i x hi with ⟨e1, rfl⟩ | ⟨n1, h1⟩ <;> rcases key j y hj with ⟨e2, rfl⟩ | ⟨n2, h2⟩
    · omega
    · obtain ⟨m, z, hm, hz, hkz⟩ := me k hk
      exact M.nd m (j + 1) z y (by omega) hz h2 k hkz hk2
    · obtain ⟨m, z, hm, hz, hkz⟩ := me k hk2
      exact M.nd (i + 1) m x z (by omega) h1 hz k hk hkz
    · exact M.nd _ _ x y (by omega) h1 h2 k hk hk2
/-- One more row: the piece that it lies in goes into the rows. -/
theorem Mem.rowIn {F : List Nat} {w0 w : World} {c o : Chunk} {vs : List Value} {ls : List (List UInt8)} {L : List Chunk} (M : Mem F w0 w (c :: o :: rowsC vs ls :: L)) {v : Value} {l : List UInt8} (S : SeesB w v l) (hv : ∀ k, v.ownBlock = some k → k ∈ c.fp) : Mem F w0 w (o :: rowsC (vs ++ [v]) (ls ++ [l]) :: L) := by
  refine M.gather (rows_ok (inner_snoc (M.ok 2 _ rfl).2.1 S)) fun k hk => ?_
  have hk' : k ∈ fpW (vs ++ [v]) := hk
  rw [fpW_snoc, List.mem_append] at hk'
  rcases hk' with h | h
  · exact .inr h
  · exact .inl (hv k (by simpa using h))
theorem own_addr {w : World} {size n m cap : Nat} {p : Option Addr} {xs : List Value} (h : (Chunk.sl size (.slice p m cap) n xs).ok w) (hn : 0 < n) : ∃ g so, p = some ⟨g, so, none⟩ := by
  rcases h.2 with ⟨_, h0⟩ | ⟨g, so, c, hv, _⟩
  · omega
  · injection hv with h1 _ _; exact ⟨g, so, h1⟩
section
variable {P : Program} {ops : Array Oper} {rest : List Oper} {o : Oper} {a : Act} {w w0 : World} {Q : Exit → Act → World → Prop} {F : List Nat} {L : List Chunk}
/-- A cell of a slice that is seen now. -/
theorem w_seenC {g so n m c : Nat} {vs : List Value} (S : Sees w 1 (.slice (some ⟨g, so, none⟩) m c) n vs) (t : TypeId) (x : Operand) (ho : o.op = .load t x) {off : Nat} (hx : a.eval x = .pointer (some ⟨g, off, none⟩)) (hw : Region.wanted o (yielded ops a.tmps) = true)
    (ht : scalarT P t = true) (k : Nat) (hoff : off = so + k) {v : Value} (hv : vs[k]? = some v) (h : wpList P ops Q rest (a.put o.dst v) w) : wpList P ops Q (o :: rest) a w :=
  wpW hw fun _ hK => by
    subst hoff
    have hc : w.cell? ⟨g, so + k, none⟩ = some v := by
      rcases S.2 with ⟨h0, _⟩ | ⟨g', o', c', hv', _, _, _, hr⟩
      · cases h0
      · injection hv' with h1 _ _; injection h1 with h1; injection h1 with h1 h2; subst h1; subst h2; exact hr k v hv
    unfold Oper.wp execOp
    simp only [ho, hx, Instr.loadAt, Instr.sureAddr, Sem.run_bind, Sem.run_pure, Result.andThen_ok, run_loadVar_scalar ht w g _ v hc]
    exact hK _ _ h
/-- A byte of a slice that is seen now. -/
theorem w_seenB {g so m c : Nat} {l : List UInt8} (S : SeesB w (.slice (some ⟨g, so, none⟩) m c) l) (t : TypeId) (x : Operand) (ho : o.op = .load t x) {off : Nat} (hx : a.eval x = .pointer (some ⟨g, off, none⟩)) (hw : Region.wanted o (yielded ops a.tmps) = true)
    (ht : scalarT P t = true) (k : Nat) (hoff : off = so + k) (hlt : k < l.length) (h : wpList P ops Q rest (a.put o.dst (.int .u8 (I8 (l.getD k 0)))) w) : wpList P ops Q (o :: rest) a w :=
  w_seenC S t x ho hx hw ht k hoff (getD_some hlt) h
/-- A slice literal of four bytes. -/
theorem w_build4 (M : Mem F w0 w L) {t e : TypeId} {bytes : Nat} (T : SliceT P t e 1 bytes) (x y z u : Operand) (ho : o.op = .buildSlice t 4 #[(0, x), (1, y), (2, z), (3, u)]) (hw : Region.wanted o (yielded ops a.tmps) = true) {b0 b1 b2 b3 : UInt8} (hx : a.eval x = .int .u8 (I8 b0)) (hy : a.eval y = .int .u8 (I8 b1)) (hz : a.eval z = .int .u8 (I8 b2)) (hu : a.eval u = .int .u8 (I8 b3))
    (h : ∀ (g : Nat) (w' : World), Mem F w0 w' (.sl 1 (.slice (some ⟨g, 0, none⟩) 4 4) 4 (bs [b0, b1, b2, b3]) :: L) → wpList P ops Q rest (a.put o.dst (.slice (some ⟨g, 0, none⟩) 4 4)) w') : wpList P ops Q (o :: rest) a w := by
  have T' := T
  obtain ⟨ht, ⟨i, z', hi, hz', hsize, hby, hzs⟩, hsz⟩ := T'
  refine w_buildSlice M T 4 _ ho hw ⟨by omega, by omega⟩ z' (by simp [hi, hz']) (bs [b0, b1, b2, b3]) ?_ fun g w' M' => h g w' ?_
  · have r4 : Array.range (4 * 1) = #[0, 1, 2, 3] := by decide
    rw [r4]
    simp only [List.map_toArray, List.map_cons, List.map_nil, hx, hy, hz, hu]
    generalize z'.cells[0 % z'.cells.size]! = c0
    generalize z'.cells[1 % z'.cells.size]! = c1
    generalize z'.cells[2 % z'.cells.size]! = c2
    generalize z'.cells[3 % z'.cells.size]! = c3
    rfl
  · have hok := M'.ok 0 _ rfl
    have := M'.upd 0 rfl (c' := .sl 1 (.slice (some ⟨g, 0, none⟩) 4 4) 4 (bs [b0, b1, b2, b3])) ⟨Kept.refl _ _, ⟨rfl, .inr ⟨g, 0, 4, rfl, Nat.zero_le _, hok.1, Nat.le_refl _, by simp only [maxLen]; omega, hok.2.1, hok.2.2⟩⟩, fun k hk => .inl (by simpa [Chunk.fp, Value.ownBlock] using hk)⟩
    simpa using this
/-- An empty slice literal. -/
theorem w_build0 (M : Mem F w0 w L) {t e : TypeId} {size bytes : Nat} (T : SliceT P t e size bytes) (ho : o.op = .buildSlice t 0 #[]) (hw : Region.wanted o (yielded ops a.tmps) = true)
    (h : ∀ (g : Nat) (w' : World), Mem F w0 w' (.sl size (.slice (some ⟨g, 0, none⟩) 0 0) 0 [] :: L) → wpList P ops Q rest (a.put o.dst (.slice (some ⟨g, 0, none⟩) 0 0)) w') : wpList P ops Q (o :: rest) a w :=
  wpW hw fun _ hK => by
    obtain ⟨ht, ⟨i, z', hi, hz', hsize, hby, hzs⟩, hsz⟩ := T
    have hr : (Instr.buildSlice t 0 #[]).run P w = .ok (.slice (some ⟨w.heap.size, 0, none⟩) 0 0) (w.alloc (.cells #[] e)) := by
      have r0 : Array.range 0 = (#[] : Array Nat) := by decide
      simp [Instr.buildSlice, run_underlying ht, sizeOf, typeInfo, hi, Instr.fill, newRow, r0]
    unfold Oper.wp execOp
    simp only [ho, Sem.run_bind]
    have e0 : (Array.map (fun x : Nat × Operand => (x.1, a.eval x.2)) #[]) = #[] := by simp
    simp only [e0, hr, Result.andThen_ok]
    refine hK _ _ (h _ _ ?_)
    have M' := M.alloc #[] e
    have hok := M'.ok 0 _ rfl
    have := M'.upd 0 rfl (c' := .sl size (.slice (some ⟨w.heap.size, 0, none⟩) 0 0) 0 []) ⟨Kept.refl _ _, ⟨by simp, .inr ⟨w.heap.size, 0, 0, rfl, Nat.zero_le _, hok.1, Nat.le_refl _, by simp only [maxLen]; omega, hok.2.1, by rw [Nat.zero_mul]; exact hok.2.2⟩⟩, fun k hk => .inl (by simpa [Chunk.fp, Value.ownBlock] using hk)⟩
    simpa using this
end
end TL
end Go

/- Plain: what a link's directions are. No program in this text. No conditions. -/
namespace Go
namespace TL
def linkT : List UInt8 := [108, 105, 110, 107]
def aboutK (a b : UInt8) : List UInt8 := linkT ++ [a, b]
theorem aboutK_len (a b : UInt8) : (aboutK a b).length = 6 := rfl
def masterK (seed : List UInt8) (a b : UInt8) : List UInt8 := macL seed (aboutK a b)
theorem masterK_len (seed : List UInt8) (a b : UInt8) : (masterK seed a b).length = 32 := macL_length _ _
/-- A link: its place, the other one, the ring of each direction. -/
structure LinkS where
  me : Int
  o : Int
  out : RingS
  inn : RingS
def linkOf (seed : List UInt8) (me o : Int) (a b : UInt8) (boot : UInt32) (n : UInt64) : LinkS := ⟨me, o, ⟨masterK seed a b, 0, boot, n⟩, ⟨masterK seed b a, 0, 0, 0⟩⟩
end TL
end Go

/- The walks of link.about, link.master, link.none and link.New. Conditions: the seed's length. -/
namespace Go
namespace TL
open Go.RowKit
section
variable {P : Program} {ops : Array Oper} {rest : List Oper} {o : Oper} {a : Act} {w w0 : World} {Q : Exit → Act → World → Prop} {F : List Nat} {L : List Chunk}
/-- A slice literal of two bytes. -/
theorem w_build2 (M : Mem F w0 w L) {t e : TypeId} {bytes : Nat} (T : SliceT P t e 1 bytes) (x y : Operand) (ho : o.op = .buildSlice t 2 #[(0, x), (1, y)]) (hw : Region.wanted o (yielded ops a.tmps) = true) {b0 b1 : UInt8} (hx : a.eval x = .int .u8 (I8 b0)) (hy : a.eval y = .int .u8 (I8 b1))
    (h : ∀ (g : Nat) (w' : World), Mem F w0 w' (.sl 1 (.slice (some ⟨g, 0, none⟩) 2 2) 2 (bs [b0, b1]) :: L) → wpList P ops Q rest (a.put o.dst (.slice (some ⟨g, 0, none⟩) 2 2)) w') : wpList P ops Q (o :: rest) a w := by
  have T' := T
  obtain ⟨ht, ⟨i, z', hi, hz', hsize, hby, hzs⟩, hsz⟩ := T'
  refine w_buildSlice M T 2 _ ho hw ⟨by omega, by omega⟩ z' (by simp [hi, hz']) (bs [b0, b1]) ?_ fun g w' M' => h g w' ?_
  · have r4 : Array.range (2 * 1) = #[0, 1] := by decide
    rw [r4]
    simp only [List.map_toArray, List.map_cons, List.map_nil, hx, hy]
    generalize z'.cells[0 % z'.cells.size]! = c0
    generalize z'.cells[1 % z'.cells.size]! = c1
    rfl
  · have hok := M'.ok 0 _ rfl
    have := M'.upd 0 rfl (c' := .sl 1 (.slice (some ⟨g, 0, none⟩) 2 2) 2 (bs [b0, b1])) ⟨Kept.refl _ _, ⟨rfl, .inr ⟨g, 0, 2, rfl, Nat.zero_le _, hok.1, Nat.le_refl _, by simp only [maxLen]; omega, hok.2.1, hok.2.2⟩⟩, fun k hk => .inl (by simpa [Chunk.fp, Value.ownBlock] using hk)⟩
    simpa using this
end
end TL
end Go
namespace Go.Proofs.YtidadhbaomieiaaGreat
open Go.RowKit Go.TL
set_option maxRecDepth 100000 in
set_option maxHeartbeats 2000000 in
theorem about_c (a b : UInt8) (w : World) : Calls Tryz.prog 52 #[.int .i64 (I8 a), .int .i64 (I8 b)] w fun e w' => e = .returned (.string (mkS (aboutK a b))) ∧ Below w.heap.size w w' := by
  have M := Mem.start [] w
  go_enter Tryz.func52, Tryz.ntmps52
  go_wp2_with ((first | ((with_reducible show wpList _ _ _ (Oper.mk _ (Op.buildSlice 70 2 _) _ _ _ _ :: _) _ _); go_must (refine w_build2 M bytesT (b0 := a) (b1 := b) _ _ rfl rfl rfl rfl ?_; clear M; intro g w1 M)) | ((with_reducible refine tGuard ?_); first | refine gdS ?_ | (refine gdC ?_ ?_ <;> (intro hgd; rw [hgd]; try (exfalso; simp at hgd; omega)))) | ((with_reducible refine tConv _ 70 9 ?_); go_must (refine cvB ?_)) | ((with_reducible refine tLoad ?_); go_must (refine ldB ?_)) | ((with_reducible refine tStore ?_); go_must (refine stB ?_; clear M; intro w1 M; (try simp only [setC] at M))) | ((with_reducible refine tBox _ ?_); (refine bxA M ?_; clear M; intro g w1 M))) <;> (try conv => arg 5; simp only [Act.put, List.setIfInBounds_toArray, setC]))
  go_ret
  exact ⟨rfl, M.below⟩
set_option maxRecDepth 100000 in
set_option maxHeartbeats 2000000 in
theorem master_c (seed : List UInt8) (a b : UInt8) (w : World) (hs : seed.length ≤ 1000000) : Calls Tryz.prog 49 #[.string (mkS seed), .int .i64 (I8 a), .int .i64 (I8 b)] w fun e w' => e = .returned (.string (mkS (masterK seed a b))) ∧ Below w.heap.size w w' := by
  have M := Mem.start [] w
  have TC := fun w => Tag_c seed (aboutK a b) w (by omega) (by rw [aboutK_len]; omega)
  have hr : (macL seed (aboutK a b)).length = 32 := macL_len _ _
  have SE : masterK seed a b = macL seed (aboutK a b) := rfl
  have AC := fun w => about_c a b w
  obtain ⟨r, er⟩ : ∃ r, r = macL seed (aboutK a b) := ⟨_, rfl⟩
  rw [← er] at TC hr SE
  rw [SE]
  obtain ⟨k, ek⟩ : ∃ k, k = aboutK a b := ⟨_, rfl⟩
  rw [← ek] at TC AC
  replace TC := Lib.hid TC
  replace AC := Lib.hid AC
  clear er ek SE
  go_enter Tryz.func49, Tryz.ntmps49
  go_wp2_with ((first | ((with_reducible refine tAlloc (some 7) 64 ?_); refine w_alloc M _ rfl rfl (.agg (Array.replicate 32 (.int .u8 0))) (bs (List.replicate 32 (0 : UInt8))) (by kernel_rfl) rfl ?_; clear M; intro gh w1 M) | (go_at_call 52; go_must (refine (AC.out _).mono ?_; rintro e w1 ⟨rfl, hb⟩; replace M := M.call hb; clear hb)) | (go_at_call 47; go_must (refine (TC.out _).mono ?_; rintro e w1 ⟨rfl, hb⟩; replace M := M.call hb; clear hb)) | ((with_reducible refine tGuard ?_); first | refine gdS ?_ | (refine gdC ?_ ?_ <;> (intro hgd; rw [hgd]; try (exfalso; simp at hgd; omega)))) | ((with_reducible refine tConv _ 70 9 ?_); go_must (refine cvB ?_)) | ((with_reducible refine tLoad ?_); go_must (refine ldB ?_)) | ((with_reducible refine tStore ?_); go_must (refine stB ?_; clear M; intro w1 M; (try simp only [setC] at M))) | ((with_reducible refine tBox _ ?_); (refine bxA M ?_; clear M; intro g w1 M))) <;> (try conv => arg 5; simp only [Act.put, List.setIfInBounds_toArray, setC]))
  go_ret
  exact ⟨rfl, M.below⟩
/-- A link's row, the link in memory. -/
abbrev linkRow (me o : Int) (go gi : Nat) : List Value := [.int .i64 me, .int .i64 o, .pointer (some ⟨go, 0, none⟩), .pointer (some ⟨gi, 0, none⟩)]
def IsLink (g : Nat) (K : LinkS) (c : Chunk) : Prop := ∃ go gi Co Ci, IsRing go K.out Co ∧ IsRing gi K.inn Ci ∧ c = grp [.row g (linkRow K.me K.o go gi), Co, Ci]
set_option maxRecDepth 100000 in
set_option maxHeartbeats 2000000 in
theorem linkNone_nil (w : World) : Calls Tryz.prog 50 #[.pointer none] w fun e w' => e = .returned (.bool true) ∧ w = w' := by
  have M := Mem.start [] w
  go_enter Tryz.func50, Tryz.ntmps50
  go_wp2_with ((first | ((with_reducible refine tGuard ?_); first | refine gdS ?_ | (refine gdC ?_ ?_ <;> (intro hgd; rw [hgd]; try (exfalso; simp at hgd; omega)))) | fail | ((with_reducible refine tLoad ?_); go_must (refine ldS ?_)) | ((with_reducible refine tStore ?_); go_must (refine stS ?_; clear M; intro w1 M; (try simp only [setC] at M))) | ((with_reducible refine tBox _ ?_); (refine bxA M ?_; clear M; intro g w1 M))) <;> (try conv => arg 5; simp only [Act.put, List.setIfInBounds_toArray, setC]))
  go_ret
  exact ⟨rfl, rfl⟩
set_option maxRecDepth 100000 in
set_option maxHeartbeats 2000000 in
theorem linkNone_no {g go gi : Nat} {me o : Int} {w : World} (RR : (Chunk.row g (linkRow me o go gi)).ok w) : Calls Tryz.prog 50 #[.pointer (some ⟨g, 0, none⟩)] w fun e w' => e = .returned (.bool false) ∧ w = w' := by
  have M := Mem.start [] w
  have nR : g ∉ ([] : List Nat) := by simp
  go_enter Tryz.func50, Tryz.ntmps50
  go_wp2_with ((first | ((with_reducible refine tLoad ?_); refine w_at _ _ rfl (by exact ev_tmp rfl) ?_; intro hx; (first | refine w_rowF M RR nR _ _ rfl hx rfl (by decide +kernel) (by exact rfl) ?_); clear hx) | ((with_reducible refine tGuard ?_); first | refine gdS ?_ | (refine gdC ?_ ?_ <;> (intro hgd; rw [hgd]; try (exfalso; simp at hgd; omega)))) | fail | ((with_reducible refine tLoad ?_); go_must (refine ldS ?_)) | ((with_reducible refine tStore ?_); go_must (refine stS ?_; clear M; intro w1 M; (try simp only [setC] at M))) | ((with_reducible refine tBox _ ?_); (refine bxA M ?_; clear M; intro g w1 M))) <;> (try conv => arg 5; simp only [Act.put, List.setIfInBounds_toArray, setC]))
  go_ret
  exact ⟨rfl, rfl⟩
/-- Which end: its place, the other's, as numbers and as bytes. -/
def EndOf (me o : Int) (a b : UInt8) : Prop := (me = 0 ∧ o = 1 ∧ a = 0 ∧ b = 1) ∨ (me = 1 ∧ o = 0 ∧ a = 1 ∧ b = 0)
set_option maxRecDepth 100000 in
set_option maxHeartbeats 4000000 in
theorem LinkNew_ok (seed : List UInt8) (me o : Int) (a b : UInt8) (boot : UInt32) (w : World) (hs : seed.length ≤ 1000000) (he : EndOf me o a b) : Calls Tryz.prog 23 #[.int .i64 me, .string (mkS seed), .int .u32 (I32 boot)] w fun e w' => ∃ g C, e = .returned (.tuple #[.pointer (some ⟨g, 0, none⟩), .int .i64 0]) ∧ IsLink g (linkOf seed me o a b boot 0) C ∧ Mem [] w w' [C] := by
  have M := Mem.start [] w
  have I0 : I8 a = me ∧ I8 b = o ∧ 0 ≤ me ∧ me < 2 ∧ 1 - me = o := by rcases he with ⟨rfl, rfl, rfl, rfl⟩ | ⟨rfl, rfl, rfl, rfl⟩ <;> decide
  obtain ⟨ia, ib, h0, h1, h2⟩ := I0
  have M1 := fun w => master_c seed a b w hs
  have M2 := fun w => master_c seed b a w hs
  rw [ia, ib] at M1 M2
  have N1 := fun w => New_ok (masterK seed a b) 0 boot w (by omega)
  have N2 : ∀ w, Calls Tryz.prog 12 #[.string (mkS (masterK seed b a)), .int .i64 0, .int .u32 0] w fun e w' => ∃ g C, e = .returned (.tuple #[.pointer (some ⟨g, 0, none⟩), .int .i64 0]) ∧ IsRing g ⟨masterK seed b a, 0, 0, 0⟩ C ∧ Mem [] w w' [C] := fun w => New_ok (masterK seed b a) 0 0 w (by omega)
  rw [show ((0 : Nat) : Int) = 0 from rfl] at N1
  unfold linkOf
  obtain ⟨k1, e1⟩ : ∃ k, k = masterK seed a b := ⟨_, rfl⟩
  obtain ⟨k2, e2⟩ : ∃ k, k = masterK seed b a := ⟨_, rfl⟩
  rw [← e1] at M1 N1 ⊢
  rw [← e2] at M2 N2 ⊢
  replace M1 := Lib.hid M1
  replace M2 := Lib.hid M2
  replace N1 := Lib.hid N1
  replace N2 := Lib.hid N2
  clear ia ib he e1 e2
  go_enter Tryz.func23, Tryz.ntmps23
  go_wp2_with ((first | ((with_reducible refine tGuard ?_); (with_reducible refine w_stripE ?_ ?_); (focus (refine ⟨_, rfl, ?_⟩; first | (with_reducible rfl) | exact decide_eq_false (by omega) | exact decide_eq_true (by omega)))) | ((with_reducible refine tGuard ?_); first | ((with_reducible refine w_skip1 ?_ ?_); (focus (refine ⟨_, rfl, ?_⟩; first | (with_reducible rfl) | exact decide_eq_false (by omega) | exact decide_eq_true (by omega)))) | ((with_reducible refine w_skip0 ?_ ?_); (focus (refine ⟨_, rfl, ?_⟩; first | (with_reducible rfl) | exact decide_eq_false (by omega) | exact decide_eq_true (by omega))))) | ((with_reducible refine tBox (some 22) ?_); refine w_box M _ _ rfl rfl _ rfl ([.int .i64 me, .int .i64 o, .pointer none, .pointer none]) rfl ?_; clear M; intro g w1 M) | ((with_reducible show Code.wp _ (Code.region 4 _ _) _ _ _); go_must (have MR := M; refine region_lowc [(0, false), (1, false), (2, false), (3, false), (5, false), (6, false), (7, false), (10, false), (4, false), (8, false), (9, true), (11, true), (12, false), (13, false), (14, false), (15, false), (16, false)] [(25, .ptr), (29, .ptr)] [(4, _), (8, _)] (IxOk MR [0]) 17 (by kernel_rfl) (by kernel_rfl) rfl (by kernel_rfl) (lowA MR 0 0 (lowA MR 0 1 lows_nil)) (ixOk_self MR _) ?_; replace M := M.drew; simp only [planC, opAt, List.getElem?_toArray, List.getElem?_cons_zero, List.getElem?_cons_succ, Option.getD_some])) | ((with_reducible show Code.wp _ (Code.region 7 _ _) _ _ _); go_must (have MR := M; refine region_lowc [(0, false), (1, false), (2, false), (3, false), (5, false), (6, false), (7, false), (4, false), (8, false), (9, true), (10, true), (11, false), (12, false), (13, false), (14, false), (15, false)] [(43, .ptr), (47, .ptr)] [(4, _), (8, _)] (IxOk MR [1]) 16 (by kernel_rfl) (by kernel_rfl) rfl (by kernel_rfl) (lowA MR 1 1 (lowA MR 1 0 lows_nil)) (ixOk_self MR _) ?_; replace M := M.drew; simp only [planC, opAt, List.getElem?_toArray, List.getElem?_cons_zero, List.getElem?_cons_succ, Option.getD_some])) | (go_at_call 49; go_must ((first | (with_reducible refine (M1.out _).mono ?_) | (with_reducible refine (M2.out _).mono ?_)); rintro e w1 ⟨rfl, hb⟩; replace M := M.call hb; clear hb)) | (go_at_call 12; go_must (first | (with_reducible refine (N1.out _).mono ?_; rintro e w1 ⟨go, Co, rfl, JO, MJ⟩) | (with_reducible refine (N2.out _).mono ?_; rintro e w1 ⟨gi, Ci, rfl, II, MJ⟩)); replace M := M.join MJ; clear MJ; simp only [List.cons_append, List.nil_append] at M) | ((with_reducible show Seg _ _ _ _); go_must (first | refine Seg.intro ⟨fun h => absurd rfl h, ?_⟩ | refine Seg.intro ⟨fun _ => ixA, ?_⟩ | refine Seg.intro ⟨ndA, atA, ?_⟩)) | ((with_reducible show OnlyN _ _ _ _ _); refine OnlyN.intro (by kernel_rfl) ?_) | ((with_reducible refine tGuard ?_); first | refine gdS ?_ | (refine gdC ?_ ?_ <;> (intro hgd; rw [hgd]; try (exfalso; simp at hgd; omega)))) | fail | ((with_reducible refine tLoad ?_); go_must (refine ldS ?_)) | ((with_reducible refine tStore ?_); go_must (refine stS ?_; clear M; intro w1 M; (try simp only [setC] at M))) | ((with_reducible refine tBox _ ?_); (refine bxA M ?_; clear M; intro g w1 M))) <;> (try conv => arg 5; simp only [Act.put, List.setIfInBounds_toArray, setC]))
  have MC : Mem [] w _ [.row g (linkRow me o go gi), Co, Ci] := M.pick _ (fun i => 2 - i) (by intro i j hi hj h; simp at hi hj; omega) (by
    intro i c h
    match i, h with
    | 0, h => simpa using h
    | 1, h => simpa using h
    | 2, h => simpa using h)
  go_ret2
  exact ⟨_, _, rfl, ⟨go, gi, Co, Ci, JO, II, rfl⟩, MC.shut [.row g (linkRow me o go gi), Co, Ci] [] rfl⟩
set_option maxRecDepth 100000 in
set_option maxHeartbeats 4000000 in
theorem LinkNew_no (seed : List UInt8) (me : Int) (boot : UInt32) (w : World) (h : me < 0 ∨ 2 ≤ me) : Calls Tryz.prog 23 #[.int .i64 me, .string (mkS seed), .int .u32 (I32 boot)] w fun e w' => e = .returned (.tuple #[.pointer none, .int .i64 1]) ∧ Below w.heap.size w w' := by
  have M := Mem.start [] w
  rcases (by omega : me < 0 ∨ (0 ≤ me ∧ 2 ≤ me)) with h1 | ⟨h1, h2⟩
  all_goals
    clear h
    go_enter Tryz.func23, Tryz.ntmps23
    go_wp2_with ((first | ((with_reducible refine tGuard ?_); (with_reducible refine w_stripE ?_ ?_); (focus (refine ⟨_, rfl, ?_⟩; first | (with_reducible rfl) | exact decide_eq_false (by omega) | exact decide_eq_true (by omega)))) | ((with_reducible refine tGuard ?_); first | ((with_reducible refine w_skip1 ?_ ?_); (focus (refine ⟨_, rfl, ?_⟩; first | (with_reducible rfl) | exact decide_eq_false (by omega) | exact decide_eq_true (by omega)))) | ((with_reducible refine w_skip0 ?_ ?_); (focus (refine ⟨_, rfl, ?_⟩; first | (with_reducible rfl) | exact decide_eq_false (by omega) | exact decide_eq_true (by omega))))) | ((with_reducible refine tGuard ?_); first | refine gdS ?_ | (refine gdC ?_ ?_ <;> (intro hgd; rw [hgd]; try (exfalso; simp at hgd; omega)))) | fail | ((with_reducible refine tLoad ?_); go_must (refine ldS ?_)) | ((with_reducible refine tStore ?_); go_must (refine stS ?_; clear M; intro w1 M; (try simp only [setC] at M))) | ((with_reducible refine tBox _ ?_); (refine bxA M ?_; clear M; intro g w1 M))) <;> (try conv => arg 5; simp only [Act.put, List.setIfInBounds_toArray, setC]))
    go_ret2
    exact ⟨rfl, M.below⟩
end Go.Proofs.YtidadhbaomieiaaGreat

/- Messages in memory: their cells, and what may be done to them. No conditions but those each law names. -/
namespace Go
namespace TL
open Go.RowKit
/-- A message. ov, pv: its operations' and its pairs' slices. -/
structure Ms where
  k : UInt8
  e : Int
  a : Int
  o : Int
  bi : Int
  be : Int
  ov : Value
  p : Int
  r : List UInt8
  v : Int
  i : Int
  lf : List UInt8
  rt : List UInt8
  pv : Value
def Ms.fit (m : Ms) : Prop := m.r.length = 32 ∧ m.lf.length = 32 ∧ m.rt.length = 32 ∧ m.ov.oneCell' = true ∧ m.pv.oneCell' = true
def zeroH : List UInt8 := List.replicate 32 0
theorem zeroH_len : zeroH.length = 32 := List.length_replicate
def zeroM : Ms := ⟨0, 0, 0, 0, 0, 0, .slice none 0 0, 0, zeroH, 0, 0, zeroH, zeroH, .slice none 0 0⟩
theorem zeroM_fit : zeroM.fit := ⟨zeroH_len, zeroH_len, zeroH_len, rfl, rfl⟩
/-- Its cells. -/
def msgC (m : Ms) : List Value := [.int .u8 (I8 m.k), .int .i64 m.e, .int .i64 m.a, .int .i64 m.o, .int .i64 m.bi, .int .i64 m.be, m.ov, .int .i64 m.p] ++ (bs m.r ++ ([.int .i64 m.v, .int .i64 m.i] ++ (bs m.lf ++ (bs m.rt ++ [m.pv]))))
theorem msgC_len {m : Ms} (h : m.fit) : (msgC m).length = 107 := by
  obtain ⟨h1, h2, h3, _⟩ := h
  unfold msgC; simp only [List.length_append, List.length_cons, List.length_nil, bs_length, h1, h2, h3]
theorem msgC_one {m : Ms} (h : m.fit) : ∀ v ∈ msgC m, v.oneCell' = true := by
  obtain ⟨_, _, _, h4, h5⟩ := h
  intro v hv
  unfold msgC at hv
  simp only [List.mem_append, List.mem_cons, List.not_mem_nil, or_false] at hv
  rcases hv with (rfl | rfl | rfl | rfl | rfl | rfl | rfl | rfl) | hv | (rfl | rfl) | hv | hv | rfl
  all_goals first | rfl | assumption | exact bs_one _ v hv
/-- The fields of one cell. -/
inductive Nf where
  | k | e | a | o | bi | be | ov | p | v | i | pv
def Nf.off : Nf → Nat
  | .k => 0 | .e => 1 | .a => 2 | .o => 3 | .bi => 4 | .be => 5 | .ov => 6 | .p => 7 | .v => 40 | .i => 41 | .pv => 106
def Nf.get (m : Ms) : Nf → Value
  | .k => .int .u8 (I8 m.k) | .e => .int .i64 m.e | .a => .int .i64 m.a | .o => .int .i64 m.o | .bi => .int .i64 m.bi | .be => .int .i64 m.be | .ov => m.ov | .p => .int .i64 m.p | .v => .int .i64 m.v | .i => .int .i64 m.i | .pv => m.pv
theorem msgC_at {m : Ms} (h : m.fit) (f : Nf) : (msgC m)[f.off]? = some (f.get m) := by
  obtain ⟨h1, h2, h3, _⟩ := h
  cases f
  case v | i | pv => simp [msgC, Nf.off, Nf.get, bs_length, h1, h2, h3]
  all_goals rfl
/-- The numbers among them. -/
inductive Mf where
  | e | a | o | p | v | i
def Mf.nf : Mf → Nf
  | .e => .e | .a => .a | .o => .o | .p => .p | .v => .v | .i => .i
def Mf.off (f : Mf) : Nat := f.nf.off
def Mf.get (m : Ms) : Mf → Int
  | .e => m.e | .a => m.a | .o => m.o | .p => m.p | .v => m.v | .i => m.i
def Mf.set (m : Ms) (x : Int) : Mf → Ms
  | .e => { m with e := x } | .a => { m with a := x } | .o => { m with o := x } | .p => { m with p := x } | .v => { m with v := x } | .i => { m with i := x }
theorem Mf.set_fit {m : Ms} (h : m.fit) (x : Int) (f : Mf) : (f.set m x).fit := by cases f <;> exact h
theorem msgC_num {m : Ms} (h : m.fit) (f : Mf) : (msgC m)[f.off]? = some (.int .i64 (f.get m)) := by
  have := msgC_at h f.nf
  cases f <;> exact this
theorem msgC_set {m : Ms} (h : m.fit) (x : Int) (f : Mf) : (msgC m).set f.off (.int .i64 x) = msgC (f.set m x) := by
  obtain ⟨h1, h2, h3, _⟩ := h
  cases f
  case v | i => simp [msgC, Mf.off, Mf.nf, Nf.off, Mf.set, bs_length, h1]
  all_goals rfl
theorem msgC_setPv {m : Ms} (h : m.fit) (x : Value) : (msgC m).set 106 x = msgC { m with pv := x } := by
  obtain ⟨h1, h2, h3, _⟩ := h
  simp [msgC, bs_length, h1, h2, h3]
/-- The hashes among the fields. -/
inductive Hf where
  | r | lf | rt
def Hf.off : Hf → Nat
  | .r => 8 | .lf => 42 | .rt => 74
def Hf.get (m : Ms) : Hf → List UInt8
  | .r => m.r | .lf => m.lf | .rt => m.rt
def Hf.set (m : Ms) (x : List UInt8) : Hf → Ms
  | .r => { m with r := x } | .lf => { m with lf := x } | .rt => { m with rt := x }
theorem Hf.len {m : Ms} (h : m.fit) (f : Hf) : (f.get m).length = 32 := by
  obtain ⟨h1, h2, h3, _⟩ := h
  cases f <;> assumption
theorem Hf.set_fit {m : Ms} (h : m.fit) {x : List UInt8} (hx : x.length = 32) (f : Hf) : (f.set m x).fit := by
  obtain ⟨h1, h2, h3, h4, h5⟩ := h
  cases f
  · exact ⟨hx, h2, h3, h4, h5⟩
  · exact ⟨h1, hx, h3, h4, h5⟩
  · exact ⟨h1, h2, hx, h4, h5⟩
theorem Hf.set_get {m : Ms} (f : Hf) : f.set m (f.get m) = m := by cases f <;> rfl
/-- What is ahead of a hash, and behind it. -/
def Hf.pre (m : Ms) : Hf → List Value
  | .r => [.int .u8 (I8 m.k), .int .i64 m.e, .int .i64 m.a, .int .i64 m.o, .int .i64 m.bi, .int .i64 m.be, m.ov, .int .i64 m.p]
  | .lf => [.int .u8 (I8 m.k), .int .i64 m.e, .int .i64 m.a, .int .i64 m.o, .int .i64 m.bi, .int .i64 m.be, m.ov, .int .i64 m.p] ++ (bs m.r ++ [.int .i64 m.v, .int .i64 m.i])
  | .rt => [.int .u8 (I8 m.k), .int .i64 m.e, .int .i64 m.a, .int .i64 m.o, .int .i64 m.bi, .int .i64 m.be, m.ov, .int .i64 m.p] ++ (bs m.r ++ ([.int .i64 m.v, .int .i64 m.i] ++ bs m.lf))
def Hf.post (m : Ms) : Hf → List Value
  | .r => [.int .i64 m.v, .int .i64 m.i] ++ (bs m.lf ++ (bs m.rt ++ [m.pv]))
  | .lf => bs m.rt ++ [m.pv]
  | .rt => [m.pv]
theorem msgC_hash (m : Ms) (x : List UInt8) (f : Hf) : msgC (f.set m x) = f.pre m ++ (bs x ++ f.post m) := by
  cases f <;> simp only [msgC, Hf.set, Hf.pre, Hf.post, List.append_assoc]
theorem Hf.pre_len {m : Ms} (h : m.fit) (f : Hf) : (f.pre m).length = f.off := by
  obtain ⟨h1, h2, h3, _⟩ := h
  cases f <;> simp only [Hf.pre, Hf.off, List.length_append, List.length_cons, List.length_nil, bs_length, h1, h2]
theorem msgC_get (m : Ms) (f : Hf) : msgC m = f.pre m ++ (bs (f.get m) ++ f.post m) := by rw [← msgC_hash, Hf.set_get]
section
variable {P : Program} {ops : Array Oper} {rest : List Oper} {o : Oper} {a : Act} {w w0 : World} {Q : Exit → Act → World → Prop} {F : List Nat} {L : List Chunk} {g : Nat} {m : Ms}
/-- The whole of it. -/
theorem w_loadMs (M : Mem F w0 w L) (i : Nat) (t : TypeId) (x : Operand) (ho : o.op = .load t x) (hi : L[i]? = some (.row g (msgC m))) (hx : a.eval x = .pointer (some ⟨g, 0, none⟩)) (hw : Region.wanted o (yielded ops a.tmps) = true)
    (ht : rowT P t = true) (hn : (P.info? t).map (·.size) = some 107) (hm : m.fit) (h : wpList P ops Q rest (a.put o.dst (.agg (msgC m).toArray)) w) : wpList P ops Q (o :: rest) a w :=
  w_loadR M i t x ho hi hx hw ht (by rw [msgC_len hm]; exact hn) h
/-- A field of one cell. -/
theorem w_loadNf (M : Mem F w0 w L) (i : Nat) (t : TypeId) (x : Operand) (ho : o.op = .load t x) (hi : L[i]? = some (.row g (msgC m))) {off : Nat} (hx : a.eval x = .pointer (some ⟨g, off, none⟩)) (hw : Region.wanted o (yielded ops a.tmps) = true)
    (ht : scalarT P t = true) (hm : m.fit) (f : Nf) (hoff : off = f.off) (h : wpList P ops Q rest (a.put o.dst (f.get m)) w) : wpList P ops Q (o :: rest) a w := by
  subst hoff
  exact w_load M i t x ho hi hx hw ht (msgC_at hm f) h
/-- A hash. -/
theorem w_loadHf (M : Mem F w0 w L) (i : Nat) (t : TypeId) (x : Operand) (ho : o.op = .load t x) (hi : L[i]? = some (.row g (msgC m))) {off : Nat} (hx : a.eval x = .pointer (some ⟨g, off, none⟩)) (hw : Region.wanted o (yielded ops a.tmps) = true)
    (ht : rowT P t = true) (hn : (P.info? t).map (·.size) = some 32) (hm : m.fit) (f : Hf) (hoff : off = f.off) (h : wpList P ops Q rest (a.put o.dst (.agg (bs (f.get m)).toArray)) w) : wpList P ops Q (o :: rest) a w :=
  w_loadA M i t x ho hi hx hw ht (f.pre m) (bs (f.get m)) (f.post m) (msgC_get m f) ((f.pre_len hm).trans hoff.symm) (by rw [bs_length, f.len hm]; exact hn) h
/-- The whole of it is stored. -/
theorem w_storeMs (M : Mem F w0 w L) (i : Nat) (t : TypeId) (x y : Operand) (ho : o.op = .store t x y) {m' : Ms} (hi : L[i]? = some (.row g (msgC m'))) (hx : a.eval x = .pointer (some ⟨g, 0, none⟩)) (hw : Region.wanted o (yielded ops a.tmps) = true)
    {C : Array Value} (hy : a.eval y = .agg C) (hC : C = (msgC m).toArray) (hn : (P.info? t).map (·.size) = some 107) (hm : m.fit) (hm' : m'.fit)
    (h : ∀ w' : World, Mem F w0 w' (L.set i (.row g (msgC m))) → wpList P ops Q rest (a.put o.dst undef) w') : wpList P ops Q (o :: rest) a w :=
  w_storeR M i t x y ho hi hx hw (msgC m) hy hC (by rw [msgC_len hm]; exact hn) (msgC_one hm) (by rw [msgC_len hm, msgC_len hm']) h
/-- A number is stored. -/
theorem w_storeMf (M : Mem F w0 w L) (i : Nat) (t : TypeId) (x y : Operand) (ho : o.op = .store t x y) (hi : L[i]? = some (.row g (msgC m))) {off : Nat} (hx : a.eval x = .pointer (some ⟨g, off, none⟩)) (hw : Region.wanted o (yielded ops a.tmps) = true)
    {z : Int} (hy : a.eval y = .int .i64 z) (hn : (P.info? t).map (·.size) = some 1) (hm : m.fit) (f : Mf) (hoff : off = f.off)
    (h : ∀ w' : World, Mem F w0 w' (L.set i (.row g (msgC (f.set m z)))) → wpList P ops Q rest (a.put o.dst undef) w') : wpList P ops Q (o :: rest) a w := by
  subst hoff
  refine w_store M i t x y ho hi hx hw hy rfl rfl hn (by rw [msgC_len hm]; cases f <;> decide) fun w' M' => h w' ?_
  rwa [msgC_set hm z f] at M'
/-- Its pairs are stored. -/
theorem w_storePv (M : Mem F w0 w L) (i : Nat) (t : TypeId) (x y : Operand) (ho : o.op = .store t x y) (hi : L[i]? = some (.row g (msgC m))) (hx : a.eval x = .pointer (some ⟨g, 106, none⟩)) (hw : Region.wanted o (yielded ops a.tmps) = true)
    {z : Value} (hy : a.eval y = z) (h1 : z.oneCell' = true) (hc : z.cells = #[z]) (hn : (P.info? t).map (·.size) = some 1) (hm : m.fit)
    (h : ∀ w' : World, Mem F w0 w' (L.set i (.row g (msgC { m with pv := z }))) → wpList P ops Q rest (a.put o.dst undef) w') : wpList P ops Q (o :: rest) a w := by
  refine w_store M i t x y ho hi hx hw hy h1 hc hn (by rw [msgC_len hm]; omega) fun w' M' => h w' ?_
  rwa [msgC_setPv hm z] at M'
/-- A byte of a hash is stored. -/
theorem w_storeHb (M : Mem F w0 w L) (i : Nat) (t : TypeId) (x y : Operand) (ho : o.op = .store t x y) (hi : L[i]? = some (.row g (msgC m))) {off : Nat} (hx : a.eval x = .pointer (some ⟨g, off, none⟩)) (hw : Region.wanted o (yielded ops a.tmps) = true)
    {b : UInt8} (hy : a.eval y = .int .u8 (I8 b)) (hn : (P.info? t).map (·.size) = some 1) (hm : m.fit) (f : Hf) (j : Nat) (hoff : off = f.off + j) (hj : j < 32)
    (h : ∀ w' : World, Mem F w0 w' (L.set i (.row g (msgC (f.set m ((f.get m).set j b))))) → wpList P ops Q rest (a.put o.dst undef) w') : wpList P ops Q (o :: rest) a w := by
  subst hoff
  have hl := f.len hm
  have hp := f.pre_len hm
  refine w_store M i t x y ho hi hx hw hy rfl rfl hn ?_ fun w' M' => h w' ?_
  · rw [msgC_len hm]; cases f <;> simp only [Hf.off] <;> omega
  · have e : (msgC m).set (f.off + j) (.int .u8 (I8 b)) = msgC (f.set m ((f.get m).set j b)) := by
      rw [msgC_hash, msgC_get m f, List.set_append_right _ _ (by omega), hp, Nat.add_sub_cancel_left, List.set_append_left _ _ (by rw [bs_length]; omega)]
      simp only [bs, List.map_set]; rfl
    rwa [e] at M'
/-- The batch. -/
theorem w_loadBt (M : Mem F w0 w L) (i : Nat) (t : TypeId) (x : Operand) (ho : o.op = .load t x) (hi : L[i]? = some (.row g (msgC m))) (hx : a.eval x = .pointer (some ⟨g, 4, none⟩)) (hw : Region.wanted o (yielded ops a.tmps) = true)
    (ht : rowT P t = true) (hn : (P.info? t).map (·.size) = some 3) (h : wpList P ops Q rest (a.put o.dst (.agg #[.int .i64 m.bi, .int .i64 m.be, m.ov])) w) : wpList P ops Q (o :: rest) a w :=
  w_loadA M i t x ho hi hx hw ht [.int .u8 (I8 m.k), .int .i64 m.e, .int .i64 m.a, .int .i64 m.o] [.int .i64 m.bi, .int .i64 m.be, m.ov] ([.int .i64 m.p] ++ (bs m.r ++ ([.int .i64 m.v, .int .i64 m.i] ++ (bs m.lf ++ (bs m.rt ++ [m.pv]))))) rfl rfl hn h
theorem w_storeBt (M : Mem F w0 w L) (i : Nat) (t : TypeId) (x y : Operand) (ho : o.op = .store t x y) (hi : L[i]? = some (.row g (msgC m))) (hx : a.eval x = .pointer (some ⟨g, 4, none⟩)) (hw : Region.wanted o (yielded ops a.tmps) = true)
    {bi be : Int} {ov : Value} (hy : a.eval y = .agg #[.int .i64 bi, .int .i64 be, ov]) (hn : (P.info? t).map (·.size) = some 3) (hov : ov.oneCell' = true)
    (h : ∀ w' : World, Mem F w0 w' (L.set i (.row g (msgC { m with bi := bi, be := be, ov := ov }))) → wpList P ops Q rest (a.put o.dst undef) w') : wpList P ops Q (o :: rest) a w :=
  w_storeA M i t x y ho hi hx hw [.int .i64 bi, .int .i64 be, ov] hy rfl hn (by intro v hv; simp only [List.mem_cons, List.not_mem_nil, or_false] at hv; rcases hv with rfl | rfl | rfl <;> first | rfl | assumption) [.int .u8 (I8 m.k), .int .i64 m.e, .int .i64 m.a, .int .i64 m.o] [.int .i64 m.bi, .int .i64 m.be, m.ov] ([.int .i64 m.p] ++ (bs m.r ++ ([.int .i64 m.v, .int .i64 m.i] ++ (bs m.lf ++ (bs m.rt ++ [m.pv]))))) rfl rfl rfl fun w' M' => h w' M'
end
end TL
end Go

/- Plain laws of layer 11 (path): a path's mount and key. No program in this text. No conditions but those each lemma names. -/
namespace Go
namespace TL
def goodN (b : UInt8) : Bool := decide (97 ≤ b.toNat ∧ b.toNat ≤ 122)
def goodK (b : UInt8) : Bool := decide (b.toNat ≠ 0 ∧ b.toNat ≠ 47)
/-- Is it a mount's name? -/
def namedL (s : List UInt8) : Bool := decide (1 ≤ s.length ∧ s.length ≤ 8) && s.all goodN
/-- Is it a key? -/
def pkeyL (s : List UInt8) : Bool := decide (1 ≤ s.length ∧ s.length ≤ 24) && s.all goodK
/-- Where the first / is; the length, if there is none. -/
def slash : List UInt8 → Nat
  | [] => 0
  | b :: l => if b.toNat = 47 then 0 else slash l + 1
/-- A path's mount and key. -/
def cutL (p : List UInt8) : List UInt8 × List UInt8 × Bool :=
  if slash p < p.length ∧ namedL (p.take (slash p)) = true ∧ pkeyL (p.drop (slash p + 1)) = true then (p.take (slash p), p.drop (slash p + 1), true) else ([], [], false)
/-- A text, cut at the first /. -/
def scutL (p : List UInt8) : List UInt8 × List UInt8 × Bool := if slash p < p.length then (p.take (slash p), p.drop (slash p + 1), true) else (p, [], false)
theorem scut_yes {p : List UInt8} (h : slash p < p.length) : scutL p = (p.take (slash p), p.drop (slash p + 1), true) := if_pos h
theorem scut_no {p : List UInt8} (h : ¬ slash p < p.length) : scutL p = (p, [], false) := if_neg h
theorem all_bad {f : UInt8 → Bool} {s : List UInt8} {k : Nat} (h : k < s.length) (hb : f (s.getD k 0) = false) : s.all f = false := by
  rw [List.all_eq_false]
  refine ⟨s[k], List.getElem_mem _, ?_⟩
  rw [List.getD_eq_getElem?_getD, List.getElem?_eq_getElem h] at hb
  simpa using hb
theorem all_good {f : UInt8 → Bool} {s : List UInt8} (h : ∀ k, k < s.length → f (s.getD k 0) = true) : s.all f = true := by
  rw [List.all_eq_true]
  intro x hx
  obtain ⟨k, hk, rfl⟩ := List.mem_iff_getElem.1 hx
  have := h k hk
  rwa [List.getD_eq_getElem?_getD, List.getElem?_eq_getElem hk] at this
theorem named_bad {s : List UInt8} {k : Nat} (h : k < s.length) (hb : goodN (s.getD k 0) = false) : namedL s = false := by unfold namedL; rw [all_bad h hb, Bool.and_false]
theorem named_good {s : List UInt8} (h : ∀ k, k < s.length → goodN (s.getD k 0) = true) : namedL s = decide (1 ≤ s.length ∧ s.length ≤ 8) := by unfold namedL; rw [all_good h, Bool.and_true]
theorem named_len {s : List UInt8} (h : ¬ (1 ≤ s.length ∧ s.length ≤ 8)) : namedL s = false := by unfold namedL; rw [decide_eq_false h, Bool.false_and]
theorem pkey_bad {s : List UInt8} {k : Nat} (h : k < s.length) (hb : goodK (s.getD k 0) = false) : pkeyL s = false := by unfold pkeyL; rw [all_bad h hb, Bool.and_false]
theorem pkey_good {s : List UInt8} (h : ∀ k, k < s.length → goodK (s.getD k 0) = true) : pkeyL s = decide (1 ≤ s.length ∧ s.length ≤ 24) := by unfold pkeyL; rw [all_good h, Bool.and_true]
theorem pkey_len {s : List UInt8} (h : ¬ (1 ≤ s.length ∧ s.length ≤ 24)) : pkeyL s = false := by unfold pkeyL; rw [decide_eq_false h, Bool.false_and]
theorem slash_le : ∀ p, slash p ≤ p.length
  | [] => Nat.le_refl _
  | b :: l => by rw [slash]; split <;> have := slash_le l <;> simp <;> omega
theorem slash_before : ∀ (p : List UInt8) (k : Nat), k < slash p → (p.getD k 0).toNat ≠ 47
  | [], k, h => by simp [slash] at h
  | b :: l, k, h => by
    by_cases hb : b.toNat = 47
    · rw [slash, if_pos hb] at h; omega
    · rw [slash, if_neg hb] at h
      cases k with
      | zero => simpa using hb
      | succ k => simpa using slash_before l k (by omega)
theorem slash_at : ∀ (p : List UInt8), slash p < p.length → (p.getD (slash p) 0).toNat = 47
  | [], h => by simp at h
  | b :: l, h => by
    by_cases hb : b.toNat = 47
    · rw [slash, if_pos hb]; simpa using hb
    · rw [slash, if_neg hb] at h ⊢
      simpa using slash_at l (by simpa using h)
theorem indexByte_slash : ∀ p : List UInt8, Lib.indexByte p 47 = if slash p < p.length then (slash p : Int) else -1
  | [] => rfl
  | b :: l => by
    have ih := indexByte_slash l
    by_cases hb : b.toNat = 47
    · have e : b = 47 := UInt8.toNat_inj.1 hb
      subst e
      rw [Lib.indexByte, slash, if_pos hb]; simp
    · have e : (b == 47) = false := by
        rw [beq_eq_false_iff_ne]; rintro rfl; exact hb rfl
      rw [Lib.indexByte, slash, if_neg hb, e, ih]
      by_cases h : slash l < l.length
      · have h2 : slash l + 1 < (b :: l).length := by simpa using h
        rw [if_pos h, if_pos h2]
        have : (((slash l : Nat) : Int) == -1) = false := by simp
        rw [this]; simp
      · have h2 : ¬ slash l + 1 < (b :: l).length := by simpa using h
        rw [if_neg h, if_neg h2]; simp
theorem indexByte_neg {l : List UInt8} {c : UInt8} : Lib.indexByte l c < 0 ↔ ∀ b ∈ l, b ≠ c := by
  have hge := Lib.indexByte_ge l c
  constructor
  · intro h b hb e
    subst e
    obtain ⟨k, hk, e⟩ := List.mem_iff_getElem.1 hb
    exact Lib.indexByte_none (by omega : Lib.indexByte l b = -1) k (by rw [List.getElem?_eq_getElem hk, e])
  · intro h
    by_cases h0 : Lib.indexByte l c < 0
    · exact h0
    · obtain ⟨o, ho⟩ := Int.eq_ofNat_of_zero_le (by omega : 0 ≤ Lib.indexByte l c)
      have := (Lib.indexByte_some ho).1
      exact absurd rfl (h c (List.mem_of_getElem? this))
theorem pkey_index (s : List UInt8) (h : 1 ≤ s.length ∧ s.length ≤ 24) : pkeyL s = (decide (Lib.indexByte s 0 < 0) && decide (Lib.indexByte s 47 < 0)) := by
  unfold pkeyL
  rw [decide_eq_true h, Bool.true_and, Bool.eq_iff_iff]
  simp only [Bool.and_eq_true, decide_eq_true_eq, indexByte_neg, List.all_eq_true, goodK]
  constructor
  · intro h2
    refine ⟨fun b hb e => (h2 b hb).1 (by rw [e]; rfl), fun b hb e => (h2 b hb).2 (by rw [e]; rfl)⟩
  · rintro ⟨h2, h3⟩ b hb
    exact ⟨fun e => h2 b hb (UInt8.toNat_inj.1 e), fun e => h3 b hb (UInt8.toNat_inj.1 e)⟩
/-- What was cut is the path, and short. -/
theorem cut_ok {p m k : List UInt8} (h : cutL p = (m, k, true)) : p = m ++ 47 :: k ∧ namedL m = true ∧ pkeyL k = true ∧ m.length ≤ 8 ∧ k.length ≤ 24 ∧ 1 ≤ m.length ∧ 1 ≤ k.length := by
  unfold cutL at h
  split at h
  · rename_i h1
    obtain ⟨h1, h2, h3⟩ := h1
    simp only [Prod.mk.injEq, and_true] at h
    obtain ⟨rfl, rfl⟩ := h
    have hs := slash_at p h1
    have e47 : p[slash p] = 47 := by
      apply UInt8.toNat_inj.1
      rw [List.getD_eq_getElem?_getD, List.getElem?_eq_getElem h1] at hs
      exact hs
    refine ⟨?_, h2, h3, ?_⟩
    · rw [← e47, ← List.drop_eq_getElem_cons h1, List.take_append_drop]
    · unfold namedL at h2; unfold pkeyL at h3
      simp only [Bool.and_eq_true, decide_eq_true_eq] at h2 h3
      omega
  · simp at h
theorem cut_err {p : List UInt8} (h : (cutL p).2.2 = false) : cutL p = ([], [], false) := by
  unfold cutL at h ⊢
  split
  · rename_i h1; rw [if_pos h1] at h; cases h
  · rfl
end TL
end Go

/- Slices of structs, as the walk reads them, by elements. No conditions but those each law names. -/
namespace Go
namespace TL
open Go.RowKit
theorem flat_len {α : Type} {f : α → List Value} {size : Nat} (hf : ∀ x, (f x).length = size) (l : List α) : (l.flatMap f).length = l.length * size := by
  induction l with
  | nil => simp
  | cons a l ih => simp only [List.flatMap_cons, List.length_append, ih, hf, List.length_cons, Nat.succ_mul]; omega
theorem flat_get {α : Type} {f : α → List Value} {size : Nat} (hf : ∀ x, (f x).length = size) : ∀ (l : List α) (k : Nat) (x : α), l[k]? = some x → ∀ j, j < size → (l.flatMap f)[k * size + j]? = (f x)[j]?
  | [], k, x, h, _, _ => by simp at h
  | a :: l, 0, x, h, j, hj => by
    simp only [List.getElem?_cons_zero, Option.some.injEq] at h; subst h
    rw [List.flatMap_cons, Nat.zero_mul, Nat.zero_add, List.getElem?_append_left (by rw [hf]; exact hj)]
  | a :: l, k + 1, x, h, j, hj => by
    rw [List.flatMap_cons, List.getElem?_append_right (by rw [hf, Nat.succ_mul]; omega), hf, Nat.succ_mul, show k * size + size + j - size = k * size + j by omega]
    exact flat_get hf l k x (by simpa using h) j hj
/-- A slice's elements, seen: each is a row of 'size' cells. -/
structure SeesL {α : Type} (w : World) (size : Nat) (f : α → List Value) (v : Value) (l : List α) : Prop where
  sees : Sees w size v l.length (l.flatMap f)
  size : ∀ x, (f x).length = size
section
variable {α : Type} {P : Program} {ops : Array Oper} {rest : List Oper} {o : Oper} {a : Act} {w w0 : World} {Q : Exit → Act → World → Prop} {L : List Chunk} {size : Nat} {f : α → List Value} {v : Value} {l : List α}
theorem SeesL.form (S : SeesL w size f v l) : ∃ p cap, v = .slice p l.length cap ∧ l.length ≤ cap := S.sees.form
theorem SeesL.addr {p : Option Addr} {n cap : Nat} (S : SeesL w size f (.slice p n cap) l) (h : 0 < l.length) : ∃ g so, p = some ⟨g, so, none⟩ := by
  rcases S.sees.2 with ⟨_, h0⟩ | ⟨g, so, c, hv, _⟩
  · omega
  · injection hv with h1 h2 h3; exact ⟨g, so, h1⟩
theorem SeesL.cell {g so n cap : Nat} (S : SeesL w size f (.slice (some ⟨g, so, none⟩) n cap) l) {k : Nat} {x : α} (hk : l[k]? = some x) {j : Nat} {val : Value} (hv : (f x)[j]? = some val) : w.cell? ⟨g, so + (k * size + j), none⟩ = some val := by
  have hj : j < size := by rw [← S.size x]; exact (List.getElem?_eq_some_iff.1 hv).1
  rcases S.sees.2 with ⟨h0, _⟩ | ⟨g', o', c, hv', _, _, _, hr⟩
  · cases h0
  · injection hv' with h1 _ _; injection h1 with h1; injection h1 with h1 h2; subst h1; subst h2
    exact hr _ _ ((flat_get S.size l k x hk j hj).trans hv)
theorem SeesL.kept {G : List Nat} {w' : World} (S : SeesL w size f v l) (h : Kept G w w') (hG : ∀ k, v.ownBlock = some k → k ∉ G) : SeesL w' size f v l := by
  refine ⟨⟨S.sees.1, S.sees.2.imp id ?_⟩, S.size⟩
  rintro ⟨g, so, cap, rfl, hlt, hn, hc, hr⟩
  exact ⟨g, so, cap, rfl, Nat.lt_of_lt_of_le hlt h.size, hn, hc, rangeAt_of_block hr (h.block g hlt (hG g rfl))⟩
theorem SeesL.below {w' : World} (S : SeesL w size f v l) (h : Below w.heap.size w w') : SeesL w' size f v l := S.kept (Kept.of_below h []) (by simp)
theorem SeesL.now (M : Mem [] w0 w L) (S : SeesL w0 size f v l) : SeesL w size f v l := S.kept M.kept (by simp)
theorem seesL_nil (size : Nat) (f : α → List Value) (hf : ∀ x, (f x).length = size) (w : World) : SeesL w size f (.slice none 0 0) [] := ⟨Sees_nil _ _, hf⟩
/-- A piece of the walk's own, seen. -/
theorem SeesL.own {F : List Nat} (M : Mem F w0 w L) (i : Nat) {n : Nat} (hi : L[i]? = some (.sl size v n (l.flatMap f))) (hn : n = l.length) (hf : ∀ x, (f x).length = size) : SeesL w size f v l := by
  subst hn; exact ⟨Own.sees (M.ok i _ hi), hf⟩
/-- A field of an element. -/
theorem w_see (M : Mem [] w0 w L) {g so n cap : Nat} (S : SeesL w0 size f (.slice (some ⟨g, so, none⟩) n cap) l) {k : Nat} {x : α} (hk : l[k]? = some x) (t : TypeId) (op : Operand) (ho : o.op = .load t op) {off : Nat} (hx : a.eval op = .pointer (some ⟨g, off, none⟩)) (hw : Region.wanted o (yielded ops a.tmps) = true)
    (ht : scalarT P t = true) (j : Nat) (hoff : off = so + (k * size + j)) {val : Value} (hv : (f x)[j]? = some val) (h : wpList P ops Q rest (a.put o.dst val) w) : wpList P ops Q (o :: rest) a w :=
  wpW hw fun _ hK => by
    subst hoff
    unfold Oper.wp execOp
    simp only [ho, hx, Instr.loadAt, Instr.sureAddr, Sem.run_bind, Sem.run_pure, Result.andThen_ok, run_loadVar_scalar ht w g _ val ((S.now M).cell hk hv)]
    exact hK _ _ h
/-- A whole element. -/
theorem w_seeA (M : Mem [] w0 w L) {g so n cap : Nat} (S : SeesL w0 size f (.slice (some ⟨g, so, none⟩) n cap) l) {k : Nat} {x : α} (hk : l[k]? = some x) (t : TypeId) (op : Operand) (ho : o.op = .load t op) {off : Nat} (hx : a.eval op = .pointer (some ⟨g, off, none⟩)) (hw : Region.wanted o (yielded ops a.tmps) = true)
    (ht : rowT P t = true) (hoff : off = so + k * size) (hn : (P.info? t).map (·.size) = some (f x).length) (h : wpList P ops Q rest (a.put o.dst (.agg (f x).toArray)) w) : wpList P ops Q (o :: rest) a w :=
  wpW hw fun _ hK => by
    subst hoff
    unfold rowT at ht
    cases hu : P.underlying t with
    | none => simp [hu] at ht
    | some d =>
      simp only [hu] at ht
      refine wp_load_mid t op ho g _ hx (f x) d ?_ hu ht hn (hK _ _ h)
      intro j val hv
      rw [Nat.add_assoc]
      exact (S.now M).cell hk hv
/-- A field of an element, as a region's load that may come at any time. -/
theorem stab_see (M : Mem [] w0 w L) {is : List Nat} {g so n cap : Nat} (S : SeesL w0 size f (.slice (some ⟨g, so, none⟩) n cap) l) {k : Nat} {x : α} (hk : l[k]? = some x) (j : Nat) {t : TypeId} {op : Operand} (ho : o.op = .load t op) (ht : scalarT P t = true) {val : Value} (hv : (f x)[j]? = some val) :
    Stab P (IxOk M is) o (.pointer (some ⟨g, so + (k * size + j), none⟩)) := by
  unfold Stab; rw [ho]
  refine ⟨val, fun w' hw => ?_⟩
  simp only [Instr.loadAt, Instr.sureAddr, Sem.run_bind, Sem.run_pure, Result.andThen_ok, run_loadVar_scalar ht w' g _ val ((S.kept hw.1 (by simp)).cell hk hv)]
theorem stab_seeA (M : Mem [] w0 w L) {is : List Nat} {g so n cap : Nat} (S : SeesL w0 size f (.slice (some ⟨g, so, none⟩) n cap) l) {k : Nat} {x : α} (hk : l[k]? = some x) {t : TypeId} {op : Operand} (ho : o.op = .load t op) (ht : rowT P t = true) (hn : (P.info? t).map (·.size) = some (f x).length) :
    Stab P (IxOk M is) o (.pointer (some ⟨g, so + k * size, none⟩)) := by
  unfold rowT at ht
  cases hu : P.underlying t with
  | none => simp [hu] at ht
  | some d =>
    simp only [hu] at ht
    refine stab_load ho g _ (f x) d (fun w' hw j val hv => ?_) hu ht hn
    rw [Nat.add_assoc]
    exact (S.kept hw.1 (by simp)).cell hk hv
end
/-- A pair's cells. -/
def prV (x : List UInt8 × List UInt8) : List Value := [.string (mkS x.1), .string (mkS x.2)]
@[go_sem] theorem prV_eq (a b : List UInt8) : prV (a, b) = [.string (mkS a), .string (mkS b)] := rfl
theorem prV_len (x : List UInt8 × List UInt8) : (prV x).length = 2 := rfl
end TL
end Go

/- Plain laws of layer 12 (batch): which operations may be, a batch's bytes, and how they are read. No program in this text. No conditions but those each lemma names. -/
namespace Go
namespace TL
open Go.RowKit
abbrev Opr : Type := UInt8 × List UInt8 × List UInt8
abbrev Mt : Type := List UInt8 × Bool
/-- An operation's cells. -/
def opV (x : Opr) : List Value := [.int .u8 (I8 x.1), .string (mkS x.2.1), .string (mkS x.2.2)]
@[go_sem] theorem opV_eq (a : UInt8) (b c : List UInt8) : opV (a, b, c) = [.int .u8 (I8 a), .string (mkS b), .string (mkS c)] := rfl
theorem opV_len (x : Opr) : (opV x).length = 3 := rfl
/-- A mount's cells. -/
def mtV (x : Mt) : List Value := [.string (mkS x.1), .bool x.2]
@[go_sem] theorem mtV_eq (a : List UInt8) (b : Bool) : mtV (a, b) = [.string (mkS a), .bool b] := rfl
theorem mtV_len (x : Mt) : (mtV x).length = 2 := rfl
/-! ### Great ones -/
def greatM (l : List Mt) : Bool := decide (100 < l.length) || l.any fun x => decide (1000 < x.1.length)
theorem greatM_at {l : List Mt} {k : Nat} {x : Mt} (h : l[k]? = some x) (hb : 1000 < x.1.length) : greatM l = true := by
  unfold greatM
  rw [Bool.or_eq_true]; right
  rw [List.any_eq_true]
  exact ⟨x, List.mem_of_getElem? h, by simpa using hb⟩
theorem greatM_no {l : List Mt} (hl : l.length ≤ 100) (h : ∀ (k : Nat) (x : Mt), l[k]? = some x → ¬ 1000 < x.1.length) : greatM l = false := by
  unfold greatM
  rw [Bool.or_eq_false_iff]
  refine ⟨by simpa using hl, ?_⟩
  rw [List.any_eq_false]
  intro x hx
  obtain ⟨k, hk⟩ := List.getElem?_of_mem hx
  simpa using h k x hk
theorem greatM_small {l : List Mt} (h : greatM l = false) : l.length ≤ 100 ∧ ∀ x ∈ l, x.1.length ≤ 1000 := by
  unfold greatM at h
  rw [Bool.or_eq_false_iff, List.any_eq_false] at h
  refine ⟨by simpa using h.1, fun x hx => ?_⟩
  have := h.2 x hx
  simp at this; omega
def greatO (l : List Opr) : Bool := decide (100 < l.length) || l.any fun x => decide (1000 < x.2.1.length) || decide (1000 < x.2.2.length)
theorem greatO_at {l : List Opr} {k : Nat} {x : Opr} (h : l[k]? = some x) (hb : 1000 < x.2.1.length ∨ 1000 < x.2.2.length) : greatO l = true := by
  unfold greatO
  rw [Bool.or_eq_true]; right
  rw [List.any_eq_true]
  exact ⟨x, List.mem_of_getElem? h, by simpa using hb⟩
theorem greatO_no {l : List Opr} (hl : l.length ≤ 100) (h : ∀ (k : Nat) (x : Opr), l[k]? = some x → ¬ (1000 < x.2.1.length ∨ 1000 < x.2.2.length)) : greatO l = false := by
  unfold greatO
  rw [Bool.or_eq_false_iff]
  refine ⟨by simpa using hl, ?_⟩
  rw [List.any_eq_false]
  intro x hx
  obtain ⟨k, hk⟩ := List.getElem?_of_mem hx
  simpa using h k x hk
theorem greatO_small {l : List Opr} (h : greatO l = false) : l.length ≤ 100 ∧ ∀ x ∈ l, x.2.1.length ≤ 1000 ∧ x.2.2.length ≤ 1000 := by
  unfold greatO at h
  rw [Bool.or_eq_false_iff, List.any_eq_false] at h
  refine ⟨by simpa using h.1, fun x hx => ?_⟩
  have := h.2 x hx
  simp at this; omega
/-! ### Mounts -/
/-- The first mount of a name. -/
def findM (l : List Mt) (m : List UInt8) : Nat := l.findIdx fun x => x.1 == m
theorem findM_at {l : List Mt} {m : List UInt8} {k : Nat} {x : Mt} (h : l[k]? = some x) (hx : x.1 = m) (hb : ∀ (j : Nat) (y : Mt), j < k → l[j]? = some y → y.1 ≠ m) : findM l m = k := by
  obtain ⟨hk, rfl⟩ := List.getElem?_eq_some_iff.1 h
  unfold findM
  rw [List.findIdx_eq hk]
  refine ⟨by simpa using hx, fun j hj => ?_⟩
  have := hb j l[j] hj (List.getElem?_eq_getElem (by omega))
  simpa using this
theorem findM_no {l : List Mt} {m : List UInt8} (hb : ∀ (j : Nat) (y : Mt), l[j]? = some y → y.1 ≠ m) : findM l m = l.length := by
  unfold findM
  rw [List.findIdx_eq_length]
  intro x hx
  obtain ⟨k, hk⟩ := List.getElem?_of_mem hx
  simpa using hb k x hk
/-- A path's mount, or why there is none. -/
def ofP (l : List Mt) (p : List UInt8) : Mt × Nat :=
  if (cutL p).2.2 = true then
    if findM l (cutL p).1 < l.length then (l.getD (findM l (cutL p).1) ([], false), 0) else (([], false), 21)
  else (([], false), 20)
theorem ofP_key {l : List Mt} {p : List UInt8} (h : (cutL p).2.2 = false) : ofP l p = (([], false), 20) := by unfold ofP; rw [if_neg (by rw [h]; decide)]
theorem ofP_no {l : List Mt} {p m k : List UInt8} (h : cutL p = (m, k, true)) (hf : findM l m = l.length) : ofP l p = (([], false), 21) := by unfold ofP; rw [h, if_pos rfl, hf, if_neg (by omega)]
theorem ofP_yes {l : List Mt} {p m k : List UInt8} {i : Nat} {x : Mt} (h : cutL p = (m, k, true)) (hf : findM l m = i) (hx : l[i]? = some x) : ofP l p = (x, 0) := by
  obtain ⟨hi, rfl⟩ := List.getElem?_eq_some_iff.1 hx
  unfold ofP; rw [h, if_pos rfl, hf, if_pos hi, List.getD_eq_getElem?_getD, hx]; rfl
/-- Is a path shipped? -/
def shipL (l : List Mt) (p : List UInt8) : Bool := (ofP l p).2 == 0 && (ofP l p).1.2
/-! ### Operations -/
/-- Why an operation may not be; of: why a path may not. -/
def opE (f : List UInt8 → Nat) (x : Opr) : Nat :=
  if x.1 = 1 ∨ x.1 = 2 then
    if f x.2.1 = 0 then
      if x.2.2.length ≤ 32 then (if x.1 = 2 ∧ x.2.2 ≠ [] then 1 else 0) else 3
    else f x.2.1
  else 10
def eachE (f : List UInt8 → Nat) : List Opr → Nat
  | [] => 0
  | x :: l => if opE f x = 0 then eachE f l else opE f x
theorem each_at {f : List UInt8 → Nat} : ∀ {l : List Opr} {k : Nat} {x : Opr}, l[k]? = some x → (∀ (j : Nat) (y : Opr), j < k → l[j]? = some y → opE f y = 0) → opE f x ≠ 0 → eachE f l = opE f x
  | [], k, x, h, _, _ => by simp at h
  | y :: l, 0, x, h, _, hx => by
    have : y = x := by simpa using h
    subst this; rw [eachE, if_neg hx]
  | y :: l, k + 1, x, h, hb, hx => by
    rw [eachE, if_pos (hb 0 y (by omega) rfl)]
    exact each_at (l := l) (k := k) (by simpa using h) (fun j z hj hz => hb (j + 1) z (by omega) (by simpa using hz)) hx
theorem each_all {f : List UInt8 → Nat} : ∀ {l : List Opr}, (∀ (j : Nat) (y : Opr), l[j]? = some y → opE f y = 0) → eachE f l = 0
  | [], _ => rfl
  | y :: l, hb => by
    rw [eachE, if_pos (hb 0 y rfl)]
    exact each_all fun j z hz => hb (j + 1) z (by simpa using hz)
theorem each_ok {f : List UInt8 → Nat} : ∀ {l : List Opr}, eachE f l = 0 → ∀ x ∈ l, opE f x = 0
  | [], _, x, hx => by cases hx
  | y :: l, h, x, hx => by
    rw [eachE] at h
    split at h
    · rename_i h0
      rcases List.mem_cons.1 hx with rfl | hx
      · exact h0
      · exact each_ok h x hx
    · rename_i h0; exact absurd h h0
theorem each_of {f : List UInt8 → Nat} {l : List Opr} (h : ∀ x ∈ l, opE f x = 0) : eachE f l = 0 := each_all fun _ y hy => h y (List.mem_of_getElem? hy)
theorem op_kind {f : List UInt8 → Nat} {x : Opr} (h : ¬ (x.1 = 1 ∨ x.1 = 2)) : opE f x = 10 := if_neg h
theorem op_path {f : List UInt8 → Nat} {x : Opr} (h : x.1 = 1 ∨ x.1 = 2) (h2 : f x.2.1 ≠ 0) : opE f x = f x.2.1 := by unfold opE; rw [if_pos h, if_neg h2]
theorem op_long {f : List UInt8 → Nat} {x : Opr} (h : x.1 = 1 ∨ x.1 = 2) (h2 : f x.2.1 = 0) (h3 : 32 < x.2.2.length) : opE f x = 3 := by unfold opE; rw [if_pos h, if_pos h2, if_neg (by omega)]
theorem op_arg {f : List UInt8 → Nat} {x : Opr} (h : x.1 = 2) (h2 : f x.2.1 = 0) (h3 : x.2.2.length ≤ 32) (h4 : x.2.2 ≠ []) : opE f x = 1 := by unfold opE; rw [if_pos (.inr h), if_pos h2, if_pos h3, if_pos ⟨h, h4⟩]
theorem op_good {f : List UInt8 → Nat} {x : Opr} (h : x.1 = 1 ∨ x.1 = 2) (h2 : f x.2.1 = 0) (h3 : x.2.2.length ≤ 32) (h4 : x.1 = 2 → x.2.2 = []) : opE f x = 0 := by
  unfold opE; rw [if_pos h, if_pos h2, if_pos h3, if_neg (fun h => h.2 (h4 h.1))]
theorem op_zero {f : List UInt8 → Nat} {x : Opr} (h : opE f x = 0) : (x.1 = 1 ∨ x.1 = 2) ∧ f x.2.1 = 0 ∧ x.2.2.length ≤ 32 ∧ (x.1 = 2 → x.2.2 = []) := by
  unfold opE at h
  split at h
  · rename_i h1
    split at h
    · rename_i h2
      split at h
      · rename_i h3
        split at h
        · cases h
        · rename_i h4
          refine ⟨h1, h2, h3, fun e => ?_⟩
          by_cases hn : x.2.2 = []
          · exact hn
          · exact absurd ⟨e, hn⟩ h4
      · cases h
    · rename_i h2; exact absurd h h2
  · cases h
def cutE (p : List UInt8) : Nat := if (cutL p).2.2 = true then 0 else 20
/-- May operations be? -/
def mayO (l : List Mt) (ops : List Opr) : Nat := if ops.length = 0 then 1 else if 4 < ops.length then 3 else eachE (fun p => (ofP l p).2) ops
/-- Is a batch right? -/
def rightB (i e : Int) (ops : List Opr) : Nat := if i < 1 ∨ 4611686018427387904 < i ∨ e < 1 then 1 else if 4 < ops.length then 3 else eachE cutE ops
theorem right_ok {i e : Int} {ops : List Opr} (h : rightB i e ops = 0) : 1 ≤ i ∧ i ≤ 4611686018427387904 ∧ 1 ≤ e ∧ ops.length ≤ 4 ∧ eachE cutE ops = 0 := by
  unfold rightB at h
  split at h
  · cases h
  · rename_i h1
    split at h
    · cases h
    · rename_i h2; exact ⟨by omega, by omega, by omega, by omega, h⟩
def opB (x : Opr) : List UInt8 := x.1 :: (textL x.2.1 ++ if x.1 = 1 then textL x.2.2 else [])
/-- A batch's bytes. -/
def batB (i e : Nat) (ops : List Opr) : List UInt8 := numL i ++ (numL e ++ (numL ops.length ++ ops.flatMap opB))
def bytesB (i e : Int) (ops : List Opr) : List UInt8 × Nat := if rightB i e ops = 0 then (batB i.toNat e.toNat ops, 0) else ([], rightB i e ops)
/-- What is shipped. -/
def filtB (l : List Mt) (ops : List Opr) : List Opr := ops.filter fun x => shipL l x.2.1
/-- A kind that is none. -/
def InS.bad (x : InS) (e : Nat) : InS := ⟨x.rest, x.read, e⟩
/-- Operations, read one behind the other. -/
def rdOps : Nat → InS → List Opr × InS
  | 0, x => ([], x)
  | n + 1, x =>
    if x.byte.2.err = 0 then
      if x.byte.1 = 1 ∨ x.byte.1 = 2 then
        ((UInt8.ofNat x.byte.1, (x.byte.2.text 33).1, if x.byte.1 = 1 then ((x.byte.2.text 33).2.text 32).1 else []) :: (rdOps n (if x.byte.1 = 1 then ((x.byte.2.text 33).2.text 32).2 else (x.byte.2.text 33).2)).1,
          (rdOps n (if x.byte.1 = 1 then ((x.byte.2.text 33).2.text 32).2 else (x.byte.2.text 33).2)).2)
      else ([], x.byte.2.bad 10)
    else ([], x.byte.2)
/-- The reader behind a batch's three numbers. -/
def nums3 (s : List UInt8) : Nat × Nat × Nat × InS :=
  let a := (InS.mk s 0 0).most 4611686018427387904
  let b := a.2.most 9223372036854775807
  let c := b.2.most 4
  (a.1, b.1, c.1, c.2)
/-- The batch of bytes, or the fault. -/
def readB (s : List UInt8) : (Nat × Nat × List Opr) × Nat :=
  let q := nums3 s
  let r := rdOps q.2.2.1 q.2.2.2
  if r.2.fin = 0 then
    if rightB q.1 q.2.1 r.1 = 0 then ((q.1, q.2.1, r.1), 0) else ((0, 0, []), rightB q.1 q.2.1 r.1)
  else ((0, 0, []), r.2.fin)
end TL
end Go

/- The walks of the reference's layer 12: a number's and a text's bytes, and how they are read. Conditions: lengths. -/
namespace Go
namespace TL
open Go.RowKit
/-- The reference's reader, its cells. -/
def irV (x : RS) : List Value := [.string (mkS x.rest), .int .i64 x.err]
theorem or12 (n k : Nat) (b : UInt8) (hn : n < 128 ^ k) (h : n + b.toNat % 128 * 128 ^ k < 18446744073709551616) :
    I64 (w64 (n : Int) ||| w64 (I64 (w64 (I8 b % 128)) * 2 ^ (7 * k))) = ((n + b.toNat % 128 * 128 ^ k : Nat) : Int) := by
  have hb := b.toNat_lt
  rw [I8_eq, show ((b.toNat : Int) % 128) = ((b.toNat % 128 : Nat) : Int) by omega, I64_nat _ (by omega)]
  have e : (128 : Nat) ^ k = 2 ^ (7 * k) := by rw [show (128 : Nat) = 2 ^ 7 from rfl, ← Nat.pow_mul]
  have e2 : (((b.toNat % 128 : Nat) : Int) * 2 ^ (7 * k)) = ((b.toNat % 128 * 2 ^ (7 * k) : Nat) : Int) := by simp
  rw [e2, w64_nat, w64_nat, I64_eq, UInt64.toNat_or, UInt64.toNat_ofNat', UInt64.toNat_ofNat', ← or_shl n _ k hn]
  rw [e] at h
  rw [Nat.mod_eq_of_lt (by omega), Nat.mod_eq_of_lt (by omega)]
theorem byte128 (m : Nat) : (w64 ((m : Int) % 128)).toUInt8 + 128 = UInt8.ofNat (m % 128 + 128) := by
  rw [show ((m : Int) % 128) = ((m % 128 : Nat) : Int) by omega, w64_nat]
  apply UInt8.toNat_inj.1
  simp
end TL
end Go
namespace Go.Proofs.YtidadhbaomieiaaGreat
open Go.RowKit Go.TL
set_option maxHeartbeats 2000000 in
theorem Num12_c (n : Nat) (a : Int) (ha : a = (n : Int)) (w : World) (h : n < 18446744073709551616) :
    Calls Tryz.prog 143 #[.int .u64 a] w fun e w' => e = .returned (.string (mkS (numL n))) ∧ Below w.heap.size w w' := by
  subst ha
  have M := Mem.start [] w
  have hn10 := numL_length_le n h
  go_enter Tryz.func143, Tryz.ntmps143
  go_wp2_with fail
  (try conv => arg 4; dsimp only [mkS_fold])
  go_loopw [0, 3] (fun nv sv wr => ∃ (m : Nat) (d : List UInt8), m < 18446744073709551616 ∧ nv = .int .u64 m ∧ sv = .string (mkS d) ∧ Hid (d ++ numL m = numL n) ∧ Mem [] w wr []) (fun nv _ _ => (intOf nv).toNat)
  case atStart => exact ⟨n, [], h, rfl, rfl, Lib.hid rfl, M⟩
  case round =>
    clear M
    obtain ⟨m, d, hm, rfl, rfl, HD, M⟩ := hrel
    have hdl : d.length ≤ 10 := by have := congrArg List.length HD.out; simp at this; omega
    by_cases h128 : m < 128
    · have h127 : (m : Int) ≤ 127 := by omega
      go_wp2_with ((first | ((with_reducible show wpList _ _ _ (Oper.mk _ (Op.buildSlice 70 1 _) _ _ _ _ :: _) _ _); go_must (refine w_buildSliceB M bytesT _ rfl rfl (by first | exact ev_tmp rfl | exact ev_const) ?_; clear M; intro g w1 M)) | ((with_reducible refine tGuard ?_); first | refine gdS ?_ | (refine gdC ?_ ?_ <;> (intro hgd; rw [hgd]; try (exfalso; simp at hgd; omega)))) | ((with_reducible refine tConv _ 70 9 ?_); go_must (refine cvB ?_)) | ((with_reducible refine tLoad ?_); go_must (refine ldB ?_)) | ((with_reducible refine tStore ?_); go_must (refine stB ?_; clear M; intro w1 M; (try simp only [setC] at M))) | ((with_reducible refine tBox _ ?_); (refine bxA M ?_; clear M; intro g w1 M))) <;> (try conv => arg 5; simp only [Act.put, List.setIfInBounds_toArray, setC]))
      go_ret
      refine ⟨?_, M.below⟩
      have e := HD.out
      rw [numL_small h128] at e
      rw [← e, ← w8_nat]; rfl
    · have h127 : (127 : Int) < m := by omega
      go_wp2_with ((first | ((with_reducible show wpList _ _ _ (Oper.mk _ (Op.buildSlice 70 1 _) _ _ _ _ :: _) _ _); go_must (refine w_buildSliceB M bytesT _ rfl rfl (by first | exact ev_tmp rfl | exact ev_const) ?_; clear M; intro g w1 M)) | ((with_reducible refine tGuard ?_); first | refine gdS ?_ | (refine gdC ?_ ?_ <;> (intro hgd; rw [hgd]; try (exfalso; simp at hgd; omega)))) | ((with_reducible refine tConv _ 70 9 ?_); go_must (refine cvB ?_)) | ((with_reducible refine tLoad ?_); go_must (refine ldB ?_)) | ((with_reducible refine tStore ?_); go_must (refine stB ?_; clear M; intro w1 M; (try simp only [setC] at M))) | ((with_reducible refine tBox _ ?_); (refine bxA M ?_; clear M; intro g w1 M))) <;> (try conv => arg 5; simp only [Act.put, List.setIfInBounds_toArray, setC]))
      go_roundw
      case rel => exact ⟨m / 128, d ++ [UInt8.ofNat (m % 128 + 128)], by omega, by rw [show ((m : Int) / 128) = ((m / 128 : Nat) : Int) by omega, I64_nat _ (by omega)], by rw [byte128], Lib.hid (by rw [← HD.out, numL_big (n := m) (by omega)]; simp), M.tail⟩
      case measure =>
        rw [show ((m : Int) / 128) = ((m / 128 : Nat) : Int) by omega, I64_nat _ (by omega)]
        simp only [intOf]; omega
set_option maxHeartbeats 1000000 in
theorem Text12_c (t : List UInt8) (w : World) (ht : t.length ≤ 1000000000) :
    Calls Tryz.prog 144 #[.string (mkS t)] w fun e w' => e = .returned (.string (mkS (textL t))) ∧ Below w.heap.size w w' := by
  have M := Mem.start [] w
  have hn := numL_length_le t.length (by omega)
  go_enter Tryz.func144, Tryz.ntmps144
  go_wp2_with ((go_at_call 143; go_must (refine (Num12_c t.length _ (I64_nat _ (by omega)) _ (by omega)).mono ?_; rintro e w1 ⟨rfl, hb⟩; replace M := M.call hb; clear hb)))
  go_ret
  exact ⟨rfl, M.below⟩
section
variable (g : Nat) (x : RS) (w : World) (h : (Chunk.row g (irV x)).ok w)
include h
set_option maxRecDepth 100000 in
set_option maxHeartbeats 4000000 in
theorem InNum12_c (m : Nat) (a : Int) (ha : a = (m : Int)) (hx : x.rest.length ≤ 1000000000) :
    Calls Tryz.prog 138 #[.pointer (some ⟨g, 0, none⟩), .int .u64 a] w fun e w' => e = .returned (.int .u64 (x.num m).1) ∧ Upd w (.row g (irV x)) w' (.row g (irV (x.num m).2)) := by
  subst ha
  obtain ⟨s, er⟩ := x
  simp only at hx
  have M := Mem.start1 (c := .row g [.string (mkS s), .int .i64 (er : Nat)]) h
  by_cases h0 : er = 0
  · subst h0
    obtain ⟨N, eN⟩ : ∃ N, N = RS.num ⟨s, 0⟩ m := ⟨_, rfl⟩
    rw [← eN]
    have EN := Lib.hid eN; clear eN
    obtain ⟨L, eL⟩ : ∃ L, L = lead s := ⟨_, rfl⟩
    have hle : L ≤ s.length := by rw [eL]; exact lead_le s
    have EL := Lib.hid eL; clear eL
    go_enter Tryz.func138, Tryz.ntmps138
    go_wp2_with ((first | ((with_reducible refine tGuard ?_); first | refine gdS ?_ | (refine gdC ?_ ?_ <;> (intro hgd; rw [hgd]; try (exfalso; simp at hgd; omega)))) | ((with_reducible refine tConv _ 70 9 ?_); go_must (refine cvB ?_)) | ((with_reducible refine tLoad ?_); go_must (refine ldB ?_)) | ((with_reducible refine tStore ?_); go_must (refine stB ?_; clear M; intro w1 M; (try simp only [setC] at M))) | ((with_reducible refine tBox _ ?_); (refine bxA M ?_; clear M; intro g w1 M))) <;> (try conv => arg 5; simp only [Act.put, List.setIfInBounds_toArray, setC]))
    go_loopw [5, 6] (fun nv iv wr => ∃ k : Nat, k ≤ L ∧ k ≤ 9 ∧ iv = .int .i64 k ∧ nv = .int .u64 (numV (s.take k)) ∧ Mem (Chunk.row g [.string (mkS s), .int .i64 ((0 : Nat) : Int)]).fp w wr [.row g [.string (mkS s), .int .i64 ((0 : Nat) : Int)]]) (fun _ iv _ => 10 - (intOf iv).toNat)
    case atStart => exact ⟨0, by omega, by omega, rfl, rfl, M⟩
    case round =>
      clear M
      obtain ⟨k, hk, hk9, rfl, rfl, M⟩ := hrel
      have hk10 : (k : Int) < 10 := by omega
      by_cases hl : k = s.length
      · have e : N = (0, ⟨s, 7⟩) := by
          rw [EN.out]; unfold RS.num
          rw [readN_short s (by rw [← EL.out]; omega) (by rw [← EL.out]; omega)]; rfl
        subst e
        have hq : ((k : Int) == (s.length : Int)) = true := by simp; omega
        go_wp2_with ((first | ((with_reducible refine tGuard ?_); first | refine gdS ?_ | (refine gdC ?_ ?_ <;> (intro hgd; rw [hgd]; try (exfalso; simp at hgd; omega)))) | ((with_reducible refine tConv _ 70 9 ?_); go_must (refine cvB ?_)) | ((with_reducible refine tLoad ?_); go_must (refine ldB ?_)) | ((with_reducible refine tStore ?_); go_must (refine stB ?_; clear M; intro w1 M; (try simp only [setC] at M))) | ((with_reducible refine tBox _ ?_); (refine bxA M ?_; clear M; intro g w1 M))) <;> (try conv => arg 5; simp only [Act.put, List.setIfInBounds_toArray, setC]))
        go_ret
        exact ⟨rfl, M.upd1 0 rfl⟩
      · have hlt : k < s.length := by omega
        have hq : ((k : Int) == (s.length : Int)) = false := by simp; omega
        by_cases h9 : k = 9 ∧ 1 < (bt s k).toNat
        · obtain ⟨rfl, h9⟩ := h9
          have e : N = (0, ⟨s, 8⟩) := by
            rw [EN.out]; unfold RS.num
            have : readN s m = (0, 0, 8) := by
              by_cases hL : 10 ≤ lead s
              · exact readN_form s hL m
              · exact readN_ten s (by rw [← EL.out] at hL ⊢; omega) (by rw [← EL.out]; rw [← EL.out] at hL; omega) h9 m
            rw [this]; rfl
          subst e
          have hc : 1 < I8 (bt s 9) := by rw [I8_eq]; omega
          clear hk hk9
          go_wp2_with ((first | ((with_reducible refine tGuard ?_); first | refine gdS ?_ | (refine gdC ?_ ?_ <;> (intro hgd; rw [hgd]; try (exfalso; simp at hgd; omega)))) | ((with_reducible refine tConv _ 70 9 ?_); go_must (refine cvB ?_)) | ((with_reducible refine tLoad ?_); go_must (refine ldB ?_)) | ((with_reducible refine tStore ?_); go_must (refine stB ?_; clear M; intro w1 M; (try simp only [setC] at M))) | ((with_reducible refine tBox _ ?_); (refine bxA M ?_; clear M; intro g w1 M))) <;> (try conv => arg 5; simp only [Act.put, List.setIfInBounds_toArray, setC]))
          go_ret
          exact ⟨rfl, M.upd1 0 rfl⟩
        · have hk57 : numV (s.take k) + (bt s k).toNat % 128 * 128 ^ k < 18446744073709551616 := by
            have h1 := numV_take_lt s k (by omega)
            by_cases e9 : k = 9
            · subst e9
              have : (bt s 9).toNat % 128 * 128 ^ 9 ≤ 1 * 128 ^ 9 := Nat.mul_le_mul_right _ (by omega)
              omega
            · have h8 : 128 ^ k ≤ 128 ^ 8 := Nat.pow_le_pow_right (by omega) (by omega)
              have : (bt s k).toNat % 128 * 128 ^ k ≤ 127 * 128 ^ 8 := Nat.mul_le_mul (by omega) h8
              omega
          have h0b : 0 ≤ I8 (bt s k) := (I8_bd _).1
          have eV := numV_take s k hlt
          have E := or12 (numV (s.take k)) k (bt s k) (numV_take_lt s k (by omega)) hk57
          rw [show (bt s k).toNat = (s.getD k 0).toNat from rfl, ← eV] at E
          obtain ⟨A, eA⟩ : ∃ A, A = numV (s.take k) := ⟨_, rfl⟩
          obtain ⟨V, eV2⟩ : ∃ V, V = numV (s.take (k + 1)) := ⟨_, rfl⟩
          have hV : V < 18446744073709551616 := by rw [eV2, eV]; exact hk57
          rw [← eA, ← eV2] at E
          rw [← eA]
          have EV := Lib.hid eV2
          clear eA eV eV2 hk57
          by_cases h128 : (bt s k).toNat < 128
          · have hc : I8 (bt s k) < 128 := by rw [I8_eq]; omega
            have eL : lead s = k := lead_stop s k (by rw [← EL.out]; exact hk) h128
            have hc9 : k = 9 → (s.getD 9 0).toNat ≤ 1 := fun e => by
              subst e
              have : ¬ 1 < (bt s 9).toNat := fun h => h9 ⟨rfl, h⟩
              unfold bt at this; omega
            have HC9 : Hid (((k : Int) == 9) = true → I8 (bt s k) ≤ 1) := Lib.hid fun e => by
              have e9 : k = 9 := by have : (k : Int) = 9 := by simpa using e
                                    omega
              have := hc9 e9
              rw [I8_bt, e9]; omega
            have RZ : Hid (0 < k → (bt s k).toNat = 0 → N = (0, ⟨s, 8⟩)) := Lib.hid fun h1 h2 => by
              rw [EN.out]; unfold RS.num
              rw [readN_zero s (by omega) (by omega) (by omega) (by rw [eL]; exact h2)]; rfl
            have RV : Hid (¬ (0 < k ∧ (bt s k).toNat = 0) → N = if m < V then (0, ⟨s, 8⟩) else (V, ⟨s.drop (k + 1), 0⟩)) := Lib.hid fun h1 => by
              rw [EN.out]; unfold RS.num
              rw [readN_val s (by omega) (by omega) (by rw [eL]; exact hc9) (by rw [eL]; exact h1), eL, ← EV.out]
              by_cases hmV : m < V
              · rw [if_pos hmV, if_pos hmV]; rfl
              · rw [if_neg hmV, if_neg hmV]; rfl
            clear eL hc9 h9 EN EV EL hk hle
            by_cases hq9 : ((k : Int) == 9) = true
            have hc1 := HC9.out hq9
            rotate_left
            rw [Bool.not_eq_true] at hq9
            have hc1 : I8 (bt s k) < 128 := hc
            rotate_left
            all_goals
              clear HC9
              by_cases hz : 0 < k ∧ (bt s k).toNat = 0
              · obtain ⟨hz1, hz2⟩ := hz
                have e := RZ.out hz1 hz2
                have hz3 : (I8 (bt s k) == 0) = true := by rw [I8_eq, hz2]; rfl
                have hz1' : (0 : Int) < (k : Int) := by omega
                subst e
                clear RV RZ
                go_wp2_with ((first | ((with_reducible refine tGuard ?_); first | refine gdS ?_ | (refine gdC ?_ ?_ <;> (intro hgd; rw [hgd]; try (exfalso; simp at hgd; omega)))) | ((with_reducible refine tConv _ 70 9 ?_); go_must (refine cvB ?_)) | ((with_reducible refine tLoad ?_); go_must (refine ldB ?_)) | ((with_reducible refine tStore ?_); go_must (refine stB ?_; clear M; intro w1 M; (try simp only [setC] at M))) | ((with_reducible refine tBox _ ?_); (refine bxA M ?_; clear M; intro g w1 M))) <;> (try conv => arg 5; simp only [Act.put, List.setIfInBounds_toArray, setC]))
                go_ret
                exact ⟨rfl, M.upd1 0 rfl⟩
              · have e := RV.out hz
                have hz3 : ((I8 (bt s k) == 0) && decide ((0 : Int) < (k : Int))) = false := by
                  rw [Bool.and_eq_false_iff]
                  by_cases hk0 : 0 < k
                  · left; rw [beq_eq_false_iff_ne, I8_eq]; omega
                  · right; simp; omega
                by_cases hmV : m < V
                · rw [if_pos hmV] at e
                  subst e
                  have hmV' : (m : Int) < (V : Int) := by omega
                  clear RV RZ
                  by_cases hb0 : (I8 (bt s k) == 0) = true
                  all_goals
                    go_wp2_with ((first | ((with_reducible refine tGuard ?_); first | refine gdS ?_ | (refine gdC ?_ ?_ <;> (intro hgd; rw [hgd]; try (exfalso; simp at hgd; omega)))) | ((with_reducible refine tConv _ 70 9 ?_); go_must (refine cvB ?_)) | ((with_reducible refine tLoad ?_); go_must (refine ldB ?_)) | ((with_reducible refine tStore ?_); go_must (refine stB ?_; clear M; intro w1 M; (try simp only [setC] at M))) | ((with_reducible refine tBox _ ?_); (refine bxA M ?_; clear M; intro g w1 M))) <;> (try conv => arg 5; simp only [Act.put, List.setIfInBounds_toArray, setC]))
                    all_goals
                      go_ret
                      exact ⟨rfl, M.upd1 0 rfl⟩
                · rw [if_neg hmV] at e
                  subst e
                  have hmV' : (V : Int) ≤ (m : Int) := by omega
                  clear RV RZ
                  by_cases hb0 : (I8 (bt s k) == 0) = true
                  · have hkk : decide (0 < k) = false := by
                      rw [decide_eq_false_iff_not]
                      intro hk0
                      have h1 : I8 (bt s k) = 0 := by simpa using hb0
                      rw [I8_eq] at h1
                      exact hz ⟨hk0, by omega⟩
                    clear hz3
                    go_wp2_with ((first | ((with_reducible refine tGuard ?_); first | refine gdS ?_ | (refine gdC ?_ ?_ <;> (intro hgd; rw [hgd]; try (exfalso; simp at hgd; omega)))) | ((with_reducible refine tConv _ 70 9 ?_); go_must (refine cvB ?_)) | ((with_reducible refine tLoad ?_); go_must (refine ldB ?_)) | ((with_reducible refine tStore ?_); go_must (refine stB ?_; clear M; intro w1 M; (try simp only [setC] at M))) | ((with_reducible refine tBox _ ?_); (refine bxA M ?_; clear M; intro g w1 M))) <;> (try conv => arg 5; simp only [Act.put, List.setIfInBounds_toArray, setC]))
                    go_ret
                    refine ⟨rfl, ?_⟩
                    have U := M.upd1 0 rfl
                    simpa [irV] using U
                  · rw [Bool.not_eq_true] at hb0
                    clear hz3
                    go_wp2_with ((first | ((with_reducible refine tGuard ?_); first | refine gdS ?_ | (refine gdC ?_ ?_ <;> (intro hgd; rw [hgd]; try (exfalso; simp at hgd; omega)))) | ((with_reducible refine tConv _ 70 9 ?_); go_must (refine cvB ?_)) | ((with_reducible refine tLoad ?_); go_must (refine ldB ?_)) | ((with_reducible refine tStore ?_); go_must (refine stB ?_; clear M; intro w1 M; (try simp only [setC] at M))) | ((with_reducible refine tBox _ ?_); (refine bxA M ?_; clear M; intro g w1 M))) <;> (try conv => arg 5; simp only [Act.put, List.setIfInBounds_toArray, setC]))
                    go_ret
                    refine ⟨rfl, ?_⟩
                    have U := M.upd1 0 rfl
                    simpa [irV] using U
          · have hk8 : k ≠ 9 := fun e => h9 ⟨e, by omega⟩
            have hq9 : ((k : Int) == 9) = false := by simp; omega
            have hc : 128 ≤ I8 (bt s k) := by rw [I8_eq]; omega
            have hkL : k < L := by
              have hne : lead s ≠ k := fun e => by
                have := lead_last s (by rw [e]; exact hlt)
                rw [e] at this
                exact h128 this
              rw [← EL.out] at hne
              omega
            go_wp2_with ((first | ((with_reducible refine tGuard ?_); first | refine gdS ?_ | (refine gdC ?_ ?_ <;> (intro hgd; rw [hgd]; try (exfalso; simp at hgd; omega)))) | ((with_reducible refine tConv _ 70 9 ?_); go_must (refine cvB ?_)) | ((with_reducible refine tLoad ?_); go_must (refine ldB ?_)) | ((with_reducible refine tStore ?_); go_must (refine stB ?_; clear M; intro w1 M; (try simp only [setC] at M))) | ((with_reducible refine tBox _ ?_); (refine bxA M ?_; clear M; intro g w1 M))) <;> (try conv => arg 5; simp only [Act.put, List.setIfInBounds_toArray, setC]))
            go_roundw
            case rel => exact ⟨k + 1, by omega, by omega, by go_num, by rw [← EV.out], M⟩
            case measure => simp [intOf]; omega
  · have e : RS.num ⟨s, er⟩ m = (0, ⟨s, er⟩) := by unfold RS.num; rw [if_neg h0]
    rw [e]
    have hz : ((er : Int) == 0) = false := by simp; exact h0
    have hz' : ((er : Int) != 0) = true := by simp; exact h0
    clear e
    go_enter Tryz.func138, Tryz.ntmps138
    go_wp2_with ((first | ((with_reducible refine tGuard ?_); first | refine gdS ?_ | (refine gdC ?_ ?_ <;> (intro hgd; rw [hgd]; try (exfalso; simp at hgd; omega)))) | ((with_reducible refine tConv _ 70 9 ?_); go_must (refine cvB ?_)) | ((with_reducible refine tLoad ?_); go_must (refine ldB ?_)) | ((with_reducible refine tStore ?_); go_must (refine stB ?_; clear M; intro w1 M; (try simp only [setC] at M))) | ((with_reducible refine tBox _ ?_); (refine bxA M ?_; clear M; intro g w1 M))) <;> (try conv => arg 5; simp only [Act.put, List.setIfInBounds_toArray, setC]))
    go_ret
    exact ⟨rfl, M.upd1 0 rfl⟩
end
end Go.Proofs.YtidadhbaomieiaaGreat

/- The walk of the reference's reader of texts (layer 12). Conditions: lengths. -/
namespace Go
namespace TL
theorem RS.num_len (x : RS) (m : Nat) : (x.num m).2.rest.length ≤ x.rest.length := by
  unfold RS.num
  split
  · simp only; split
    · simp
    · exact Nat.le_refl _
  · exact Nat.le_refl _
theorem RS.num_le (x : RS) (m : Nat) : (x.num m).1 ≤ m := by
  unfold RS.num
  split
  · exact (read_le (s := x.rest) (most := m) rfl).2.2
  · exact Nat.zero_le _
end TL
end Go
namespace Go.Proofs.YtidadhbaomieiaaGreat
open Go.RowKit Go.TL
section
variable (g : Nat) (x : RS) (w : World) (h : (Chunk.row g (irV x)).ok w)
include h
set_option maxRecDepth 100000 in
set_option maxHeartbeats 4000000 in
theorem InText12_c (m : Nat) (a : Int) (ha : a = (m : Int)) (hx : x.rest.length ≤ 1000000000) :
    Calls Tryz.prog 140 #[.pointer (some ⟨g, 0, none⟩), .int .u64 a] w fun e w' => e = .returned (.string (mkS (x.text m).1)) ∧ Upd w (.row g (irV x)) w' (.row g (irV (x.text m).2)) := by
  subst ha
  have M := Mem.start1 h
  have N := InNum12_c g x w h m _ rfl hx
  have hn := RS.num_le x m
  have hl := RS.num_len x m
  unfold RS.text
  obtain ⟨⟨n, y⟩, eN⟩ : ∃ N, N = x.num m := ⟨_, rfl⟩
  rw [← eN] at N hn hl ⊢
  simp only at N hn hl ⊢
  have N := Lib.hid N
  clear eN
  obtain ⟨s, er⟩ := y
  simp only at hl ⊢
  by_cases h0 : er = 0
  · subst h0
    rw [if_pos rfl]
    have EL := Lib.hid (I64_nat s.length (by omega))
    by_cases hq : n ≤ s.length
    · rw [if_pos hq]
      have hq' : (n : Int) ≤ (s.length : Int) := by omega
      go_enter Tryz.func140, Tryz.ntmps140
      go_wp2_with ((first | (go_at_call 138; go_must (refine (N.out).mono ?_; rintro e w1 ⟨rfl, U⟩; replace M := M.upd 0 rfl U; clear U; simp only [List.set_cons_zero, irV] at M)) | ((with_reducible refine tGuard ?_); first | refine gdS ?_ | (refine gdC ?_ ?_ <;> (intro hgd; rw [hgd]; try (exfalso; simp at hgd; omega)))) | ((with_reducible refine tConv _ 70 9 ?_); go_must (refine cvB ?_)) | ((with_reducible refine tLoad ?_); go_must (refine ldB ?_)) | ((with_reducible refine tStore ?_); go_must (refine stB ?_; clear M; intro w1 M; (try simp only [setC] at M))) | ((with_reducible refine tBox _ ?_); (refine bxA M ?_; clear M; intro g w1 M))) <;> (try conv => arg 5; simp only [Act.put, List.setIfInBounds_toArray, setC]))
      all_goals (first | (exfalso; have := EL.out; omega) | (go_ret; exact ⟨rfl, M.upd1 0 rfl⟩))
    · rw [if_neg hq]
      have hq' : (s.length : Int) < (n : Int) := by omega
      go_enter Tryz.func140, Tryz.ntmps140
      go_wp2_with ((first | (go_at_call 138; go_must (refine (N.out).mono ?_; rintro e w1 ⟨rfl, U⟩; replace M := M.upd 0 rfl U; clear U; simp only [List.set_cons_zero, irV] at M)) | ((with_reducible refine tGuard ?_); first | refine gdS ?_ | (refine gdC ?_ ?_ <;> (intro hgd; rw [hgd]; try (exfalso; simp at hgd; omega)))) | ((with_reducible refine tConv _ 70 9 ?_); go_must (refine cvB ?_)) | ((with_reducible refine tLoad ?_); go_must (refine ldB ?_)) | ((with_reducible refine tStore ?_); go_must (refine stB ?_; clear M; intro w1 M; (try simp only [setC] at M))) | ((with_reducible refine tBox _ ?_); (refine bxA M ?_; clear M; intro g w1 M))) <;> (try conv => arg 5; simp only [Act.put, List.setIfInBounds_toArray, setC]))
      all_goals (first | (exfalso; have := EL.out; omega) | (go_ret; exact ⟨rfl, M.upd1 0 rfl⟩))
  · rw [if_neg h0]
    have hz : ((er : Int) == 0) = false := by simp; exact h0
    have hz' : ((er : Int) != 0) = true := by simp; exact h0
    go_enter Tryz.func140, Tryz.ntmps140
    go_wp2_with ((first | (go_at_call 138; go_must (refine (N.out).mono ?_; rintro e w1 ⟨rfl, U⟩; replace M := M.upd 0 rfl U; clear U; simp only [List.set_cons_zero, irV] at M)) | ((with_reducible refine tGuard ?_); first | refine gdS ?_ | (refine gdC ?_ ?_ <;> (intro hgd; rw [hgd]; try (exfalso; simp at hgd; omega)))) | ((with_reducible refine tConv _ 70 9 ?_); go_must (refine cvB ?_)) | ((with_reducible refine tLoad ?_); go_must (refine ldB ?_)) | ((with_reducible refine tStore ?_); go_must (refine stB ?_; clear M; intro w1 M; (try simp only [setC] at M))) | ((with_reducible refine tBox _ ?_); (refine bxA M ?_; clear M; intro g w1 M))) <;> (try conv => arg 5; simp only [Act.put, List.setIfInBounds_toArray, setC]))
    go_ret
    exact ⟨rfl, M.upd1 0 rfl⟩
end
end Go.Proofs.YtidadhbaomieiaaGreat

/- The walks of pack.In.Byte, pack.Out.Byte and the reference's In.Byte. Conditions: lengths. -/
namespace Go
namespace TL
/-- The reference's reader reads a byte. -/
def RS.byte (x : RS) : Nat × RS := if x.err = 0 then (match x.rest with | [] => (0, ⟨[], 7⟩) | b :: r => (b.toNat, ⟨r, 0⟩)) else (0, x)
theorem Alike.byte {x : InS} {y : RS} (h : Alike x y) : x.byte.1 = y.byte.1 ∧ Alike x.byte.2 y.byte.2 := by
  obtain ⟨h1, h2⟩ := h
  unfold InS.byte RS.byte
  by_cases h0 : x.err = 0
  · rw [if_pos h0, if_pos (h1 ▸ h0), h2 h0]
    cases e : y.rest with
    | nil => simp only []; unfold InS.take; rw [if_neg (by decide)]; exact ⟨trivial, rfl, fun h => by cases h⟩
    | cons b r => simp only []; unfold InS.take; rw [if_pos rfl]; exact ⟨trivial, rfl, fun _ => by simp only [h2 h0, e]; rfl⟩
  · rw [if_neg h0, if_neg (h1 ▸ h0)]
    exact ⟨rfl, h1, fun h => absurd h h0⟩
end TL
end Go
namespace Go.Proofs.YtidadhbaomieiaaGreat
open Go.RowKit Go.TL
set_option maxRecDepth 100000 in
set_option maxHeartbeats 1000000 in
theorem Out_Byte_c (g : Nat) (v : Value) (l : List UInt8) (b : UInt8) (w : World) (hl : l.length ≤ 1000000) (ho : (outC g v l).ok w) :
    Calls Tryz.prog 91 #[.pointer (some ⟨g, 0, none⟩), .int .u8 (I8 b)] w fun e w' => e = .returned (.tuple #[]) ∧ ∃ v', Upd w (outC g v l) w' (outC g v' (l ++ [b])) := by
  have M := Mem.start1 ho
  go_enter Tryz.func91, Tryz.ntmps91
  go_wp2_with (first | ((with_reducible show wpList _ _ _ (Oper.mk _ (Op.buildSlice 70 1 _) _ _ _ _ :: _) _ _); go_must (refine w_buildSliceB M bytesT _ rfl rfl (by first | exact ev_tmp rfl | exact ev_const) ?_; clear M; intro g w1 M; (try conv => arg 5; simp only [Act.put, List.setIfInBounds_toArray, setC]))) | (go_at_call 114; go_must (refine (put_c _ _ _ _ [_] _ (M.ok 1 _ rfl) (row_sees1 (M.ok 0 _ rfl)) (by simp; omega)).mono ?_; rintro e w2 ⟨rfl, v1, U⟩; replace M := (M.upd 1 rfl U).tail; clear U)))
  simp only [List.set_cons_zero] at M
  exact bodyPost_end (results_none rfl _ _ _) rfl ⟨rfl, _, M.upd1 0 rfl⟩
section
variable (g : Nat) (x : RS) (w : World) (h : (Chunk.row g (irV x)).ok w)
include h
set_option maxRecDepth 100000 in
set_option maxHeartbeats 2000000 in
theorem InByte12_c (hf : x.rest.length ≤ 1000000000) :
    Calls Tryz.prog 139 #[.pointer (some ⟨g, 0, none⟩)] w fun e w' => e = .returned (.int .u8 x.byte.1) ∧ Upd w (.row g (irV x)) w' (.row g (irV x.byte.2)) := by
  obtain ⟨rest, err⟩ := x
  have M := Mem.start1 (c := .row g [.string (mkS rest), .int .i64 (err : Nat)]) h
  by_cases h0 : err = 0
  · subst h0
    cases rest with
    | nil =>
      go_enter Tryz.func139, Tryz.ntmps139
      go_wp2_with ((first | ((with_reducible refine tGuard ?_); refine gdS ?_) | ((with_reducible refine tConv _ 70 9 ?_); go_must (refine cvB ?_)) | ((with_reducible refine tLoad ?_); go_must (refine ldB ?_)) | ((with_reducible refine tStore ?_); go_must (refine stB ?_; clear M; intro w1 M; (try simp only [setC] at M))) | ((with_reducible refine tBox _ ?_); (refine bxA M ?_; clear M; intro g w1 M))) <;> (try conv => arg 5; simp only [Act.put, List.setIfInBounds_toArray, setC]))
      go_ret
      exact ⟨rfl, M.upd1 0 rfl⟩
    | cons b r =>
      have hb : ((b.toNat : Nat) : Int) = I8 b := (I8_eq b).symm
      have e : RS.byte ⟨b :: r, 0⟩ = (b.toNat, ⟨r, 0⟩) := rfl
      rw [e]; simp only [hb]; clear e hb
      simp only [List.length_cons] at hf
      go_enter Tryz.func139, Tryz.ntmps139
      go_wp2_with ((first | ((with_reducible refine tGuard ?_); refine gdS ?_) | ((with_reducible refine tConv _ 70 9 ?_); go_must (refine cvB ?_)) | ((with_reducible refine tLoad ?_); go_must (refine ldB ?_)) | ((with_reducible refine tStore ?_); go_must (refine stB ?_; clear M; intro w1 M; (try simp only [setC] at M))) | ((with_reducible refine tBox _ ?_); (refine bxA M ?_; clear M; intro g w1 M))) <;> (try conv => arg 5; simp only [Act.put, List.setIfInBounds_toArray, setC]))
      go_ret
      exact ⟨rfl, M.upd1 0 rfl⟩
  · have e1 : RS.byte ⟨rest, err⟩ = (0, ⟨rest, err⟩) := by unfold RS.byte; rw [if_neg h0]
    have hz : ((err : Int) == 0) = false := by simp; exact h0
    have hz' : ((err : Int) != 0) = true := by simp; exact h0
    rw [e1]; clear e1 h0
    go_enter Tryz.func139, Tryz.ntmps139
    go_wp2_with ((first | ((with_reducible refine tGuard ?_); refine gdS ?_) | ((with_reducible refine tConv _ 70 9 ?_); go_must (refine cvB ?_)) | ((with_reducible refine tLoad ?_); go_must (refine ldB ?_)) | ((with_reducible refine tStore ?_); go_must (refine stB ?_; clear M; intro w1 M; (try simp only [setC] at M))) | ((with_reducible refine tBox _ ?_); (refine bxA M ?_; clear M; intro g w1 M))) <;> (try conv => arg 5; simp only [Act.put, List.setIfInBounds_toArray, setC]))
    go_ret
    exact ⟨rfl, M.upd1 0 rfl⟩
end
end Go.Proofs.YtidadhbaomieiaaGreat

/- The walks of layer 18's fields: msg.number, msg.hash and the closures. Conditions: lengths. -/
namespace Go.Proofs.YtidadhbaomieiaaGreat
open Go.RowKit Go.TL
/-- A field that is a number: put and get, each with its two variables. -/
def numF (g1 g2 : Nat) : Value := .agg #[.func (.func 164) #[] #[.pointer (some ⟨g2, 0, none⟩), .pointer (some ⟨g1, 0, none⟩)], .func (.func 165) #[] #[.pointer (some ⟨g1, 0, none⟩), .pointer (some ⟨g2, 0, none⟩)]]
def hashF (g : Nat) : Value := .agg #[.func (.func 166) #[] #[.pointer (some ⟨g, 0, none⟩)], .func (.func 167) #[] #[.pointer (some ⟨g, 0, none⟩)]]
set_option maxRecDepth 100000 in
set_option maxHeartbeats 2000000 in
theorem msgNumber_c (most : Int) (f : Nat) (w : World) : Calls Tryz.prog 122 #[.int .i64 most, .func (.func f) #[] #[]] w fun r w' => ∃ g1 g2, r = .returned (numF g1 g2) ∧ Mem [] w w' [.row g2 [.func (.func f) #[] #[]], .row g1 [.int .i64 most]] := by
  have M := Mem.start [] w
  have hmf : ∀ (fn : Fn) (first cap : Array Value) (w : World), (Instr.makeFunc fn first cap).run Tryz.prog w = .ok (.func fn first cap) w := fun _ _ _ _ => rfl
  go_enter Tryz.func122, Tryz.ntmps122
  go_wp2_with ((first | ((with_reducible refine tBox (some 2) ?_); refine w_box M _ _ rfl rfl _ rfl ([.int .i64 most]) rfl ?_; clear M; intro g1 w1 M) | ((with_reducible refine tBox (some 3) ?_); refine w_box M _ _ rfl rfl _ rfl ([.func (.func f) #[] #[]]) rfl ?_; clear M; intro g2 w1 M) | ((with_reducible refine tAlloc (some 4) 175 ?_); refine w_alloc M _ rfl rfl (.agg #[.nilFunc, .nilFunc]) ([.nilFunc, .nilFunc]) (by kernel_rfl) rfl ?_; clear M; intro gr w1 M) | ((with_reducible refine tGuard ?_); first | refine gdS ?_ | (refine gdC ?_ ?_ <;> (intro hgd; rw [hgd]; try (exfalso; simp at hgd; omega)))) | ((with_reducible refine tConv _ 70 9 ?_); go_must (refine cvB ?_)) | ((with_reducible refine tLoad ?_); go_must (refine ldB ?_)) | ((with_reducible refine tStore ?_); go_must (refine stB ?_; clear M; intro w1 M; (try simp only [setC] at M))) | ((with_reducible refine tBox _ ?_); (refine bxA M ?_; clear M; intro g w1 M))) <;> (try conv => arg 5; simp only [Act.put, List.setIfInBounds_toArray, setC]))
  exact bodyPost_ret (results_row rfl _ _ gr 0 [.func (.func 164) #[] #[.pointer (some ⟨g2, 0, none⟩), .pointer (some ⟨g1, 0, none⟩)], .func (.func 165) #[] #[.pointer (some ⟨g1, 0, none⟩), .pointer (some ⟨g2, 0, none⟩)]] _ rfl (M.ok 0 _ rfl).2.1 Tryz.underlying175 rfl (by kernel_rfl)) rfl ⟨g1, g2, rfl, M.tail⟩
set_option maxRecDepth 100000 in
set_option maxHeartbeats 2000000 in
theorem msgHash_c (f : Nat) (w : World) : Calls Tryz.prog 129 #[.func (.func f) #[] #[]] w fun r w' => ∃ g, r = .returned (hashF g) ∧ Mem [] w w' [.row g [.func (.func f) #[] #[]]] := by
  have M := Mem.start [] w
  have hmf : ∀ (fn : Fn) (first cap : Array Value) (w : World), (Instr.makeFunc fn first cap).run Tryz.prog w = .ok (.func fn first cap) w := fun _ _ _ _ => rfl
  go_enter Tryz.func129, Tryz.ntmps129
  go_wp2_with ((first | ((with_reducible refine tBox (some 1) ?_); refine w_box M _ _ rfl rfl _ rfl ([.func (.func f) #[] #[]]) rfl ?_; clear M; intro g1 w1 M) | ((with_reducible refine tAlloc (some 2) 175 ?_); refine w_alloc M _ rfl rfl (.agg #[.nilFunc, .nilFunc]) ([.nilFunc, .nilFunc]) (by kernel_rfl) rfl ?_; clear M; intro gr w1 M) | ((with_reducible refine tGuard ?_); first | refine gdS ?_ | (refine gdC ?_ ?_ <;> (intro hgd; rw [hgd]; try (exfalso; simp at hgd; omega)))) | ((with_reducible refine tConv _ 70 9 ?_); go_must (refine cvB ?_)) | ((with_reducible refine tLoad ?_); go_must (refine ldB ?_)) | ((with_reducible refine tStore ?_); go_must (refine stB ?_; clear M; intro w1 M; (try simp only [setC] at M))) | ((with_reducible refine tBox _ ?_); (refine bxA M ?_; clear M; intro g w1 M))) <;> (try conv => arg 5; simp only [Act.put, List.setIfInBounds_toArray, setC]))
  exact bodyPost_ret (results_row rfl _ _ gr 0 [.func (.func 166) #[] #[.pointer (some ⟨g1, 0, none⟩)], .func (.func 167) #[] #[.pointer (some ⟨g1, 0, none⟩)]] _ rfl (M.ok 0 _ rfl).2.1 Tryz.underlying175 rfl (by kernel_rfl)) rfl ⟨g1, rfl, M.tail⟩
theorem at1F_c (g : Nat) (w : World) : Calls Tryz.prog 123 #[.pointer (some ⟨g, 0, none⟩)] w fun e w' => e = .returned (.pointer (some ⟨g, 1, none⟩)) ∧ w = w' := by
  go_enter Tryz.func123, Tryz.ntmps123
  go_wp2_with fail
  go_ret
  exact ⟨rfl, rfl⟩
theorem at2F_c (g : Nat) (w : World) : Calls Tryz.prog 124 #[.pointer (some ⟨g, 0, none⟩)] w fun e w' => e = .returned (.pointer (some ⟨g, 2, none⟩)) ∧ w = w' := by
  go_enter Tryz.func124, Tryz.ntmps124
  go_wp2_with fail
  go_ret
  exact ⟨rfl, rfl⟩
theorem at3F_c (g : Nat) (w : World) : Calls Tryz.prog 125 #[.pointer (some ⟨g, 0, none⟩)] w fun e w' => e = .returned (.pointer (some ⟨g, 3, none⟩)) ∧ w = w' := by
  go_enter Tryz.func125, Tryz.ntmps125
  go_wp2_with fail
  go_ret
  exact ⟨rfl, rfl⟩
theorem at4F_c (g : Nat) (w : World) : Calls Tryz.prog 126 #[.pointer (some ⟨g, 0, none⟩)] w fun e w' => e = .returned (.pointer (some ⟨g, 7, none⟩)) ∧ w = w' := by
  go_enter Tryz.func126, Tryz.ntmps126
  go_wp2_with fail
  go_ret
  exact ⟨rfl, rfl⟩
theorem at5F_c (g : Nat) (w : World) : Calls Tryz.prog 127 #[.pointer (some ⟨g, 0, none⟩)] w fun e w' => e = .returned (.pointer (some ⟨g, 40, none⟩)) ∧ w = w' := by
  go_enter Tryz.func127, Tryz.ntmps127
  go_wp2_with fail
  go_ret
  exact ⟨rfl, rfl⟩
theorem at6F_c (g : Nat) (w : World) : Calls Tryz.prog 128 #[.pointer (some ⟨g, 0, none⟩)] w fun e w' => e = .returned (.pointer (some ⟨g, 41, none⟩)) ∧ w = w' := by
  go_enter Tryz.func128, Tryz.ntmps128
  go_wp2_with fail
  go_ret
  exact ⟨rfl, rfl⟩
theorem at7F_c (g : Nat) (w : World) : Calls Tryz.prog 130 #[.pointer (some ⟨g, 0, none⟩)] w fun e w' => e = .returned (.pointer (some ⟨g, 8, none⟩)) ∧ w = w' := by
  go_enter Tryz.func130, Tryz.ntmps130
  go_wp2_with fail
  go_ret
  exact ⟨rfl, rfl⟩
theorem at8F_c (g : Nat) (w : World) : Calls Tryz.prog 131 #[.pointer (some ⟨g, 0, none⟩)] w fun e w' => e = .returned (.pointer (some ⟨g, 42, none⟩)) ∧ w = w' := by
  go_enter Tryz.func131, Tryz.ntmps131
  go_wp2_with fail
  go_ret
  exact ⟨rfl, rfl⟩
theorem at9F_c (g : Nat) (w : World) : Calls Tryz.prog 132 #[.pointer (some ⟨g, 0, none⟩)] w fun e w' => e = .returned (.pointer (some ⟨g, 74, none⟩)) ∧ w = w' := by
  go_enter Tryz.func132, Tryz.ntmps132
  go_wp2_with fail
  go_ret
  exact ⟨rfl, rfl⟩
/-- The function that tells where a number is. -/
def mfFn : Mf → Nat
  | .e => 123 | .a => 124 | .o => 125 | .p => 126 | .v => 127 | .i => 128
set_option maxRecDepth 100000 in
set_option maxHeartbeats 8000000 in
/-- A number is put. -/
theorem numPut_c (q : Mf) (most : Int) (gm g1 g2 go : Nat) (m : Ms) (v : Value) (l : List UInt8) (w : World) (hm : m.fit) (hn : 0 ≤ q.get m ∧ q.get m ≤ 9223372036854775807) (hl : l.length ≤ 1000000) (ho : (outC go v l).ok w)
    (R : (Chunk.row gm (msgC m)).ok w) (B1 : (Chunk.row g1 [.int .i64 most]).ok w) (B2 : (Chunk.row g2 [.func (.func (mfFn q)) #[] #[]]).ok w) (n0 : gm ∉ (outC go v l).fp) (n1 : g1 ∉ (outC go v l).fp) (n2 : g2 ∉ (outC go v l).fp) :
    Calls Tryz.prog 164 #[.pointer (some ⟨go, 0, none⟩), .pointer (some ⟨gm, 0, none⟩), .pointer (some ⟨g2, 0, none⟩), .pointer (some ⟨g1, 0, none⟩)] w fun e w' => e = .returned (.bool (decide (q.get m ≤ most))) ∧ ∃ v', Upd w (outC go v l) w' (outC go v' (l ++ numL (q.get m).toNat)) := by
  have M := Mem.start1 ho
  have HQ := msgC_num hm q
  obtain ⟨z, ez⟩ : ∃ z, z = q.get m := ⟨_, rfl⟩
  rw [← ez] at HQ hn ⊢
  clear ez
  obtain ⟨z, rfl⟩ : ∃ n : Nat, z = n := ⟨z.toNat, by omega⟩
  have e1 := I64_nat z (by omega)
  replace HQ := Lib.hid HQ
  cases q
  all_goals
    simp only [mfFn] at B2
    go_enter Tryz.func164, Tryz.ntmps164
    go_wp2_with ((first | ((with_reducible refine tLoad ?_); go_must (refine w_at _ _ rfl (by exact ev_tmp rfl) ?_; intro hx; (first | refine w_rowF M B2 n2 _ _ rfl hx rfl (by decide +kernel) rfl ?_ | refine w_rowF M B1 n1 _ _ rfl hx rfl (by decide +kernel) rfl ?_ | refine w_rowF M R n0 _ _ rfl hx rfl (by decide +kernel) HQ.out ?_); clear hx)) | ((first | (go_at_call 123; refine (at1F_c _ _).mono ?_) | (go_at_call 124; refine (at2F_c _ _).mono ?_) | (go_at_call 125; refine (at3F_c _ _).mono ?_) | (go_at_call 126; refine (at4F_c _ _).mono ?_) | (go_at_call 127; refine (at5F_c _ _).mono ?_) | (go_at_call 128; refine (at6F_c _ _).mono ?_)); rintro e w1 ⟨rfl, rfl⟩) | (go_at_call 113; go_must (refine (Num_c _ _ l z (z : Int) rfl _ (by omega) (by omega) (M.ok 0 _ rfl)).mono ?_; rintro r w2 ⟨rfl, v1, U⟩; replace M := M.upd 0 rfl U; clear U; simp only [setC] at M)) | ((with_reducible refine tGuard ?_); refine gdS ?_) | fail | ((with_reducible refine tLoad ?_); go_must (refine ldS ?_)) | ((with_reducible refine tStore ?_); go_must (refine stS ?_; clear M; intro w1 M; (try simp only [setC] at M))) | ((with_reducible refine tBox _ ?_); (refine bxA M ?_; clear M; intro g w1 M))) <;> (try conv => arg 5; simp only [Act.put, List.setIfInBounds_toArray, setC]))
    go_ret
    exact ⟨rfl, _, M.upd1 0 rfl⟩
end Go.Proofs.YtidadhbaomieiaaGreat

/- A callee that turns several pieces: the memory starts anew at its call, and is joined behind it. No conditions. -/
namespace Go
namespace TL
open Go.RowKit
theorem mem_fps {K : List Chunk} {i : Nat} {c : Chunk} (h : K[i]? = some c) {k : Nat} (hk : k ∈ c.fp) : k ∈ K.flatMap Chunk.fp := List.mem_flatMap.2 ⟨c, List.mem_of_getElem? h, hk⟩
/-- The pieces ahead, as they are now. -/
theorem Mem.again {F : List Nat} {w0 w : World} {K L : List Chunk} (M : Mem F w0 w (K ++ L)) : Mem (K.flatMap Chunk.fp) w w K := by
  have e : ∀ {i : Nat} {c : Chunk}, K[i]? = some c → (K ++ L)[i]? = some c := fun {i c} h => by rw [List.getElem?_append_left (List.getElem?_eq_some_iff.1 h).1]; exact h
  exact ⟨Kept.refl _ _, fun i c h => M.ok i c (e h), fun i c h k hk => .inl (mem_fps h hk), fun i j c d hij hi hj => M.nd i j c d hij (e hi) (e hj)⟩
/-- They were turned. -/
theorem Mem.turn {F : List Nat} {w0 w w' : World} {K K' L : List Chunk} (M : Mem F w0 w (K ++ L)) (U : Mem (K.flatMap Chunk.fp) w w' K') : Mem F w0 w' (K' ++ L) := by
  have el : ∀ {i : Nat} {c : Chunk}, K[i]? = some c → (K ++ L)[i]? = some c := fun {i c} h => by rw [List.getElem?_append_left (List.getElem?_eq_some_iff.1 h).1]; exact h
  have er : ∀ {i : Nat} {c : Chunk}, L[i]? = some c → (K ++ L)[K.length + i]? = some c := fun {i c} h => by rw [List.getElem?_append_right (by omega), Nat.add_sub_cancel_left]; exact h
  have fpK : ∀ k, k ∈ K.flatMap Chunk.fp → ∃ (i : Nat) (c : Chunk), K[i]? = some c ∧ k ∈ c.fp := fun k hk => by
    obtain ⟨c, hc, hk⟩ := List.mem_flatMap.1 hk
    obtain ⟨i, hi⟩ := List.mem_iff_getElem?.1 hc
    exact ⟨i, c, hi, hk⟩
  have apart : ∀ {i : Nat} {d : Chunk}, L[i]? = some d → ∀ k ∈ d.fp, k ∉ K.flatMap Chunk.fp := fun {i d} hd k hk hK => by
    obtain ⟨j, c, hj, hk'⟩ := fpK k hK
    have hjl := (List.getElem?_eq_some_iff.1 hj).1
    exact M.nd (K.length + i) j d c (by omega) (er hd) (el hj) k hk hk'
  have okL : ∀ {i : Nat} {d : Chunk}, L[i]? = some d → d.ok w' := fun {i d} hd => (M.ok _ d (er hd)).stay U.kept.size fun k hk => U.kept.block k ((M.ok _ d (er hd)).lt k hk) (apart hd k hk)
  have split : ∀ {i : Nat} {c : Chunk}, (K' ++ L)[i]? = some c → K'[i]? = some c ∨ (K'.length ≤ i ∧ L[i - K'.length]? = some c) := fun {i c} h => by
    by_cases hi : i < K'.length
    · rw [List.getElem?_append_left hi] at h; exact .inl h
    · rw [List.getElem?_append_right (by omega)] at h; exact .inr ⟨by omega, h⟩
  have ownK : ∀ {i : Nat} {c : Chunk}, K'[i]? = some c → ∀ k ∈ c.fp, k ∈ K.flatMap Chunk.fp ∨ w.heap.size ≤ k := fun {i c} h => U.own i c h
  have xap : ∀ {i j : Nat} {c d : Chunk}, K'[i]? = some c → L[j]? = some d → ∀ k ∈ c.fp, k ∉ d.fp := fun {i j c d} hi hj k hk hk2 => by
    rcases ownK hi k hk with h | h
    · exact apart hj k hk2 h
    · have := (M.ok _ d (er hj)).lt k hk2; omega
  refine ⟨M.kept.trans U.kept fun x hx => ?_, ?_, ?_, ?_⟩
  · obtain ⟨i, c, hi, hk⟩ := fpK x hx
    exact M.own i c (el hi) x hk
  · intro i c h
    rcases split h with h | ⟨_, h⟩
    · exact U.ok i c h
    · exact okL h
  · intro i c h k hk
    rcases split h with h | ⟨_, h⟩
    · rcases ownK h k hk with h' | h'
      · obtain ⟨j, d, hj, hkd⟩ := fpK k h'
        exact M.own j d (el hj) k hkd
      · exact .inr (Nat.le_trans M.kept.size h')
    · exact M.own _ c (er h) k hk
  · intro i j c d hij hi hj k hk hk2
    rcases split hi with hi | ⟨li, hi⟩ <;> rcases split hj with hj | ⟨lj, hj⟩
    · exact U.nd i j c d hij hi hj k hk hk2
    · exact xap hi hj k hk hk2
    · exact xap hj hi k hk2 hk
    · exact M.nd _ _ c d (by omega) (er hi) (er hj) k hk hk2
end TL
end Go

/- The walks of layer 18's fields that are read: a number. Conditions: lengths. -/
namespace Go.Proofs.YtidadhbaomieiaaGreat
open Go.RowKit Go.TL
set_option maxRecDepth 100000 in
set_option maxHeartbeats 8000000 in
/-- A number is read. -/
theorem numGet_c (q : Mf) (N : Nat) (gm g1 g2 gi : Nat) (m : Ms) (x : InS) (F : List Nat) (w : World) (hm : m.fit) (hf : x.fit) (hN : N < 9223372036854775808) (M : Mem F w w [.row gi (inV x), .row gm (msgC m)])
    (B1 : (Chunk.row g1 [.int .i64 (N : Int)]).ok w) (B2 : (Chunk.row g2 [.func (.func (mfFn q)) #[] #[]]).ok w) (n1 : g1 ∉ F) (n2 : g2 ∉ F) :
    Calls Tryz.prog 165 #[.pointer (some ⟨gi, 0, none⟩), .pointer (some ⟨gm, 0, none⟩), .pointer (some ⟨g1, 0, none⟩), .pointer (some ⟨g2, 0, none⟩)] w fun e w' => e = .returned (.int .i64 0) ∧ Mem F w w' [.row gi (inV (x.most N).2), .row gm (msgC (q.set m ((x.most N).1 : Int)))] := by
  have TC := fun g (w : World) h => Most_c g x w h hf N (N : Int) rfl (by omega)
  replace TC := Lib.hid TC
  cases q
  all_goals
    simp only [mfFn] at B2
    go_enter Tryz.func165, Tryz.ntmps165
    go_wp2_with ((first | ((with_reducible show Code.wp _ (Code.region 1 _ _) _ _ _); go_must (have MR := M; refine region_lowc [(1, false), (3, false), (0, false), (4, false), (2, true), (5, true), (6, false), (7, true)] [(9, .ptr)] [(0, _), (4, _)] (IxOk MR []) 7 (by kernel_rfl) (by kernel_rfl) rfl (by kernel_rfl) (lows_cons (stab_rowF MR B2 n2 0 rfl (by decide +kernel) rfl) (lows_cons (stab_rowF MR B1 n1 0 rfl (by decide +kernel) rfl) lows_nil)) (ixOk_self MR _) ?_; replace M := M.drew; simp only [planC, opAt, List.getElem?_toArray, List.getElem?_cons_zero, List.getElem?_cons_succ, Option.getD_some])) | ((with_reducible refine tLoad ?_); go_must (refine w_at _ _ rfl (by exact ev_tmp rfl) ?_; intro hx; (first | refine w_rowF M B2 n2 _ _ rfl hx rfl (by decide +kernel) rfl ?_ | refine w_rowF M B1 n1 _ _ rfl hx rfl (by decide +kernel) rfl ?_); clear hx)) | ((first | (go_at_call 123; refine (at1F_c _ _).mono ?_) | (go_at_call 124; refine (at2F_c _ _).mono ?_) | (go_at_call 125; refine (at3F_c _ _).mono ?_) | (go_at_call 126; refine (at4F_c _ _).mono ?_) | (go_at_call 127; refine (at5F_c _ _).mono ?_) | (go_at_call 128; refine (at6F_c _ _).mono ?_)); rintro e w1 ⟨rfl, rfl⟩) | (go_at_call 58; go_must (refine (TC.out _ _ (M.ok 0 _ rfl)).mono ?_; rintro r w2 ⟨rfl, U⟩; replace M := M.upd 0 rfl U; clear U; simp only [setC] at M)) | ((with_reducible refine tStore ?_); go_must (refine w_at2 _ _ _ rfl (by exact ev_tmp rfl) (by first | exact ev_tmp rfl | exact ev_const) ?_; intro hx hy; (first | refine w_storeMf M 1 _ _ _ rfl rfl hx rfl hy (by decide +kernel) hm .e rfl ?_ | refine w_storeMf M 1 _ _ _ rfl rfl hx rfl hy (by decide +kernel) hm .a rfl ?_ | refine w_storeMf M 1 _ _ _ rfl rfl hx rfl hy (by decide +kernel) hm .o rfl ?_ | refine w_storeMf M 1 _ _ _ rfl rfl hx rfl hy (by decide +kernel) hm .p rfl ?_ | refine w_storeMf M 1 _ _ _ rfl rfl hx rfl hy (by decide +kernel) hm .v rfl ?_ | refine w_storeMf M 1 _ _ _ rfl rfl hx rfl hy (by decide +kernel) hm .i rfl ?_); clear hx hy M; intro w1 M; (try simp only [setC] at M))) | ((with_reducible show Seg _ _ _ _); go_must (first | refine Seg.intro ⟨fun h => absurd rfl h, ?_⟩ | refine Seg.intro ⟨fun _ => ixA, ?_⟩ | refine Seg.intro ⟨ndA, atA, ?_⟩)) | ((with_reducible show OnlyN _ _ _ _ _); refine OnlyN.intro (by kernel_rfl) ?_) | ((with_reducible refine tGuard ?_); refine gdS ?_) | fail | ((with_reducible refine tLoad ?_); go_must (refine ldS ?_)) | ((with_reducible refine tStore ?_); go_must (refine stS ?_; clear M; intro w1 M; (try simp only [setC] at M))) | ((with_reducible refine tBox _ ?_); (refine bxA M ?_; clear M; intro g w1 M))) <;> (try conv => arg 5; simp only [Act.put, List.setIfInBounds_toArray, setC]))
    go_ret
    exact ⟨rfl, M⟩
end Go.Proofs.YtidadhbaomieiaaGreat

/- The walks of layer 18's fields: a hash is put. Conditions: lengths. -/
namespace Go
namespace TL
/-- A hash's bytes are read, one by one, over what was there. -/
def hashS (h0 : List UInt8) (x0 : InS) : Nat → InS × List UInt8
  | 0 => (x0, h0)
  | n + 1 => ((hashS h0 x0 n).1.byte.2, (hashS h0 x0 n).2.set n (UInt8.ofNat (hashS h0 x0 n).1.byte.1))
theorem hashS_succ (h0 : List UInt8) (x0 : InS) (n : Nat) : hashS h0 x0 (n + 1) = ((hashS h0 x0 n).1.byte.2, (hashS h0 x0 n).2.set n (UInt8.ofNat (hashS h0 x0 n).1.byte.1)) := rfl
theorem hashS_len {h0 : List UInt8} (h : h0.length = 32) (x0 : InS) : ∀ n, (hashS h0 x0 n).2.length = 32
  | 0 => h
  | n + 1 => by rw [hashS_succ, List.length_set]; exact hashS_len h x0 n
theorem hashS_fit (h0 : List UInt8) {x0 : InS} (h : x0.fit) : ∀ n, (hashS h0 x0 n).1.fit
  | 0 => h
  | n + 1 => InS.byte_fit (hashS_fit h0 h n)
theorem Hf.get_set {m : Ms} (x : List UInt8) (f : Hf) : f.get (f.set m x) = x := by cases f <;> rfl
theorem Hf.set_set {m : Ms} (x y : List UInt8) (f : Hf) : f.set (f.set m x) y = f.set m y := by cases f <;> rfl
theorem byte_some (x : InS) : ∃ q : UInt8, x.byte.1 = q.toNat := by
  unfold InS.byte
  split
  · split
    · exact ⟨0, rfl⟩
    · rename_i b _ _; exact ⟨b, rfl⟩
  · exact ⟨0, rfl⟩
end TL
end Go
namespace Go.Proofs.YtidadhbaomieiaaGreat
open Go.RowKit Go.TL
/-- The function that tells where a hash is. -/
def hfFn : Hf → Nat
  | .r => 130 | .lf => 131 | .rt => 132
set_option maxRecDepth 100000 in
set_option maxHeartbeats 8000000 in
/-- A hash is put. -/
theorem hashPut_c (q : Hf) (gm g1 go : Nat) (m : Ms) (v : Value) (l : List UInt8) (w : World) (hm : m.fit) (hl : l.length ≤ 900000) (ho : (outC go v l).ok w)
    (R : (Chunk.row gm (msgC m)).ok w) (B1 : (Chunk.row g1 [.func (.func (hfFn q)) #[] #[]]).ok w) (n0 : gm ∉ (outC go v l).fp) (n1 : g1 ∉ (outC go v l).fp) :
    Calls Tryz.prog 166 #[.pointer (some ⟨go, 0, none⟩), .pointer (some ⟨gm, 0, none⟩), .pointer (some ⟨g1, 0, none⟩)] w fun e w' => e = .returned (.bool true) ∧ ∃ v', Upd w (outC go v l) w' (outC go v' (l ++ q.get m)) := by
  have M := Mem.start1 ho
  have HG := msgC_get m q
  have HP := q.pre_len hm
  have hlen := q.len hm
  obtain ⟨x, ex⟩ : ∃ x, x = q.get m := ⟨_, rfl⟩
  rw [← ex] at HG hlen ⊢
  clear ex
  replace HG := Lib.hid HG
  replace HP := Lib.hid HP
  cases q
  all_goals
    simp only [hfFn] at B1
    go_enter Tryz.func166, Tryz.ntmps166
    go_wp2_with ((first | ((with_reducible refine tLoad ?_); go_must (refine w_at _ _ rfl (by exact ev_tmp rfl) ?_; intro hx; (first | refine w_rowF M B1 n1 _ _ rfl hx rfl (by decide +kernel) rfl ?_ | refine w_rowFA M R n0 _ _ rfl hx rfl (by decide +kernel) _ _ _ HG.out HP.out (by rw [bs_length, hlen]; kernel_rfl) ?_); clear hx)) | ((first | (go_at_call 130; refine (at7F_c _ _).mono ?_) | (go_at_call 131; refine (at8F_c _ _).mono ?_) | (go_at_call 132; refine (at9F_c _ _).mono ?_)); rintro e w1 ⟨rfl, rfl⟩) | ((with_reducible refine tGuard ?_); refine gdS ?_) | fail | ((with_reducible refine tLoad ?_); go_must (refine ldS ?_)) | ((with_reducible refine tStore ?_); go_must (refine stS ?_; clear M; intro w1 M; (try simp only [setC] at M))) | ((with_reducible refine tBox _ ?_); (refine bxA M ?_; clear M; intro g w1 M))) <;> (try conv => arg 5; simp only [Act.put, List.setIfInBounds_toArray, setC]))
    go_loopw [13] (fun iv wr => ∃ (j : Nat) (v1 : Value), j ≤ 32 ∧ iv = .int .i64 j ∧ Mem (outC go v l).fp w wr [outC go v1 (l ++ x.take j)]) (fun iv _ => 32 - (intOf iv).toNat)
    case atStart => exact ⟨0, v, by omega, rfl, by simpa using M⟩
    case round =>
      clear M
      obtain ⟨j, v1, hj, rfl, M⟩ := hrel
      by_cases hlt : j < 32
      · have hix : ∀ w'', (Instr.index 64 (.agg (bs x).toArray) (.int .i64 j)).run Tryz.prog w'' = .ok (.int .u8 (I8 (x.getD j 0))) w'' := fun w'' => run_index_agg _ _ 32 _ Tryz.underlying64 _ Tryz.underlying5 rfl (by kernel_rfl) j hlt _ (by rw [List.getElem?_toArray]; exact getD_some (by omega)) w''
        have EJ : l ++ x.take (j + 1) = l ++ x.take j ++ [x.getD j 0] := by
          rw [List.append_assoc, List.take_succ_eq_append_getElem (by omega), List.getD_eq_getElem?_getD, List.getElem?_eq_getElem (by omega)]; rfl
        have hq : (l ++ x.take j).length ≤ 1000000 := by rw [List.length_append, List.length_take]; omega
        obtain ⟨b, eb⟩ : ∃ b, b = x.getD j 0 := ⟨_, rfl⟩
        rw [← eb] at hix EJ
        obtain ⟨y, ey⟩ : ∃ y, y = l ++ x.take j := ⟨_, rfl⟩
        rw [← ey] at M EJ hq
        replace EJ := Lib.hid EJ
        clear eb ey
        go_wp2_with ((first | (go_at_call 91; go_must (refine (Out_Byte_c _ _ y b _ (by omega) (M.ok 0 _ rfl)).mono ?_; rintro r w2 ⟨rfl, v2, U⟩; replace M := M.upd 0 rfl U; clear U; simp only [setC] at M)) | ((with_reducible refine tGuard ?_); refine gdS ?_) | fail | ((with_reducible refine tLoad ?_); go_must (refine ldS ?_)) | ((with_reducible refine tStore ?_); go_must (refine stS ?_; clear M; intro w1 M; (try simp only [setC] at M))) | ((with_reducible refine tBox _ ?_); (refine bxA M ?_; clear M; intro g w1 M))) <;> (try conv => arg 5; simp only [Act.put, List.setIfInBounds_toArray, setC]))
        go_roundw
        case rel => exact ⟨j + 1, _, by omega, by go_num, by rw [EJ.out]; exact M⟩
        case measure => simp [intOf]; omega
      · obtain rfl : j = 32 := by omega
        rw [List.take_of_length_le (by omega)] at M
        go_wp2_with fail
        go_ret
        exact ⟨rfl, _, M.upd1 0 rfl⟩
set_option maxRecDepth 100000 in
set_option maxHeartbeats 8000000 in
/-- A hash is read. -/
theorem hashGet_c (q : Hf) (gm g1 gi : Nat) (m : Ms) (x : InS) (F : List Nat) (w : World) (hm : m.fit) (hf : x.fit) (M : Mem F w w [.row gi (inV x), .row gm (msgC m)])
    (B1 : (Chunk.row g1 [.func (.func (hfFn q)) #[] #[]]).ok w) (n1 : g1 ∉ F) :
    Calls Tryz.prog 167 #[.pointer (some ⟨gi, 0, none⟩), .pointer (some ⟨gm, 0, none⟩), .pointer (some ⟨g1, 0, none⟩)] w fun e w' => e = .returned (.int .i64 0) ∧ Mem F w w' [.row gi (inV (hashS (q.get m) x 32).1), .row gm (msgC (q.set m (hashS (q.get m) x 32).2))] := by
  have h0 := q.len hm
  obtain ⟨S, eS⟩ : ∃ S, S = hashS (q.get m) x := ⟨_, rfl⟩
  have s0 : (S 0).1 = x := by rw [eS]; rfl
  have sf : ∀ n, (S n).1.fit := fun n => by rw [eS]; exact hashS_fit _ hf n
  have sn : ∀ n, (S (n + 1)).1 = (S n).1.byte.2 := fun n => by rw [eS]; rfl
  obtain ⟨T, eT⟩ : ∃ T : Nat → Ms, T = fun n => q.set m (S n).2 := ⟨_, rfl⟩
  have t0 : T 0 = m := by rw [eT, eS]; exact q.set_get
  have tf : ∀ n, (T n).fit := fun n => by rw [eT, eS]; exact q.set_fit hm (hashS_len h0 x n)
  have tn : ∀ n (b : UInt8), (S n).1.byte.1 = b.toNat → q.set (T n) ((q.get (T n)).set n b) = T (n + 1) := fun n b hb => by
    rw [eT]
    simp only
    rw [Hf.get_set, Hf.set_set, eS, hashS_succ, ← eS, hb, UInt8.ofNat_toNat]
  have EX : q.set m (S 32).2 = T 32 := by rw [eT]
  rw [← eS, EX]
  rw [← s0, ← t0] at M
  clear eS eT EX s0 t0 hf hm h0
  replace sf := Lib.hid sf
  replace sn := Lib.hid sn
  replace tf := Lib.hid tf
  replace tn := Lib.hid tn
  cases q
  all_goals
    simp only [hfFn] at B1
    go_enter Tryz.func167, Tryz.ntmps167
    go_wp2_with ((first | ((with_reducible refine tLoad ?_); go_must (refine w_at _ _ rfl (by exact ev_tmp rfl) ?_; intro hx; (first | refine w_rowF M B1 n1 _ _ rfl hx rfl (by decide +kernel) rfl ?_); clear hx)) | ((first | (go_at_call 130; refine (at7F_c _ _).mono ?_) | (go_at_call 131; refine (at8F_c _ _).mono ?_) | (go_at_call 132; refine (at9F_c _ _).mono ?_)); rintro e w1 ⟨rfl, rfl⟩) | ((with_reducible refine tGuard ?_); refine gdS ?_) | fail | ((with_reducible refine tLoad ?_); go_must (refine ldS ?_)) | ((with_reducible refine tStore ?_); go_must (refine stS ?_; clear M; intro w1 M; (try simp only [setC] at M))) | ((with_reducible refine tBox _ ?_); (refine bxA M ?_; clear M; intro g w1 M))) <;> (try conv => arg 5; simp only [Act.put, List.setIfInBounds_toArray, setC]))
    go_loopw [11] (fun iv wr => ∃ j : Nat, j ≤ 32 ∧ iv = .int .i64 j ∧ Mem F w wr [.row gi (inV (S j).1), .row gm (msgC (T j))]) (fun iv _ => 32 - (intOf iv).toNat)
    case atStart => exact ⟨0, by omega, rfl, M⟩
    case round =>
      clear M
      obtain ⟨j, hj, rfl, M⟩ := hrel
      by_cases hlt : j < 32
      · obtain ⟨b, hb⟩ := byte_some (S j).1
        have TN := tn.out j b hb
        have hfit := tf.out j
        have YC := fun g (w : World) h => In_Byte_c g (S j).1 w h (sf.out j)
        rw [hb, ← I8_eq, ← sn.out j] at YC
        obtain ⟨y, ey⟩ : ∃ y, y = (S j).1 := ⟨_, rfl⟩
        obtain ⟨z, ez⟩ : ∃ z, z = (S (j + 1)).1 := ⟨_, rfl⟩
        obtain ⟨mj, emj⟩ : ∃ mj, mj = T j := ⟨_, rfl⟩
        rw [← ey] at M YC
        rw [← ez] at YC
        rw [← emj] at M hfit TN
        have EZ := Lib.hid fun _ : Unit => ez
        replace TN := Lib.hid TN
        replace YC := Lib.hid YC
        clear ey ez emj hb
        go_wp2_with ((first | ((with_reducible show Code.wp _ (Code.region 5 _ _) _ _ _); go_must (refine region_det [(0, false), (1, false), (2, false), (4, false), (3, true), (5, false), (6, true)] [(14, .ptr)] (by kernel_rfl) (by kernel_rfl) rfl (by kernel_rfl) ?_; replace M := M.drew; simp only [reord, opAt, List.map_cons, List.map_nil, List.getElem?_toArray, List.getElem?_cons_zero, List.getElem?_cons_succ, Option.getD_some])) | (go_at_call 61; go_must (refine (YC.out _ _ (M.ok 0 _ rfl)).mono ?_; rintro r w2 ⟨rfl, U⟩; replace M := M.upd 0 rfl U; clear U; simp only [setC] at M)) | ((with_reducible refine tStore ?_); go_must (refine w_at2 _ _ _ rfl (by exact ev_tmp rfl) (by first | exact ev_tmp rfl | exact ev_const) ?_; intro hx hy; (first | refine w_storeHb M 1 _ _ _ rfl rfl hx rfl hy (by decide +kernel) hfit .r j rfl hlt ?_ | refine w_storeHb M 1 _ _ _ rfl rfl hx rfl hy (by decide +kernel) hfit .lf j rfl hlt ?_ | refine w_storeHb M 1 _ _ _ rfl rfl hx rfl hy (by decide +kernel) hfit .rt j rfl hlt ?_); clear hx hy M; intro w1 M; (try simp only [setC] at M))) | ((with_reducible show Seg _ _ _ _); go_must (first | refine Seg.intro ⟨fun h => absurd rfl h, ?_⟩ | refine Seg.intro ⟨fun _ => ixA, ?_⟩ | refine Seg.intro ⟨ndA, atA, ?_⟩)) | ((with_reducible show OnlyN _ _ _ _ _); refine OnlyN.intro (by kernel_rfl) ?_) | ((with_reducible refine tGuard ?_); refine gdS ?_) | fail | ((with_reducible refine tLoad ?_); go_must (refine ldS ?_)) | ((with_reducible refine tStore ?_); go_must (refine stS ?_; clear M; intro w1 M; (try simp only [setC] at M))) | ((with_reducible refine tBox _ ?_); (refine bxA M ?_; clear M; intro g w1 M))) <;> (try conv => arg 5; simp only [Act.put, List.setIfInBounds_toArray, setC]))
        go_roundw
        case rel => exact ⟨j + 1, by omega, by go_num, by rw [← EZ.out (), ← TN.out]; exact M⟩
        case measure => simp [intOf]; omega
      · obtain rfl : j = 32 := by omega
        go_wp2_with fail
        go_ret
        exact ⟨rfl, M⟩
end Go.Proofs.YtidadhbaomieiaaGreat

/- Plain definitions of layer 18 (msg): a message, its fields, how they are written and read. No program in this text. No conditions but those each lemma names. -/
namespace Go
namespace TL
open Go.RowKit
/-- A message. -/
structure Lm where
  k : UInt8
  e : Int
  a : Int
  o : Int
  bi : Int
  be : Int
  ops : List Opr
  p : Int
  r : List UInt8
  v : Int
  i : Int
  lf : List UInt8
  rt : List UInt8
  prs : List (List UInt8 × List UInt8)
  deriving DecidableEq
/-- It in memory. -/
def Lm.ms (L : Lm) (ov pv : Value) : Ms := ⟨L.k, L.e, L.a, L.o, L.bi, L.be, ov, L.p, L.r, L.v, L.i, L.lf, L.rt, pv⟩
def Lm.fit (L : Lm) : Prop := L.r.length = 32 ∧ L.lf.length = 32 ∧ L.rt.length = 32
def zeroL : Lm := ⟨0, 0, 0, 0, 0, 0, [], 0, zeroH, 0, 0, zeroH, zeroH, []⟩
theorem zeroL_fit : zeroL.fit := ⟨zeroH_len, zeroH_len, zeroH_len⟩
/-- One of a kind, and no more. -/
def kindL (k : UInt8) : Lm := ⟨k, 0, 0, 0, 0, 0, [], 0, zeroH, 0, 0, zeroH, zeroH, []⟩
theorem kindL_fit (k : UInt8) : (kindL k).fit := ⟨zeroH_len, zeroH_len, zeroH_len⟩
def kindM (k : UInt8) : Ms := ⟨k, 0, 0, 0, 0, 0, .slice none 0 0, 0, zeroH, 0, 0, zeroH, zeroH, .slice none 0 0⟩
theorem kindM_fit (k : UInt8) : (kindM k).fit := ⟨zeroH_len, zeroH_len, zeroH_len, rfl, rfl⟩
theorem zeroL_ms : zeroL.ms (.slice none 0 0) (.slice none 0 0) = zeroM := rfl
theorem Lm.ms_fit {L : Lm} (h : L.fit) {ov pv : Value} (ho : ov.oneCell' = true) (hp : pv.oneCell' = true) : (L.ms ov pv).fit := ⟨h.1, h.2.1, h.2.2, ho, hp⟩
def Mf.gl (L : Lm) : Mf → Int
  | .e => L.e | .a => L.a | .o => L.o | .p => L.p | .v => L.v | .i => L.i
def Mf.sl (L : Lm) (x : Int) : Mf → Lm
  | .e => { L with e := x } | .a => { L with a := x } | .o => { L with o := x } | .p => { L with p := x } | .v => { L with v := x } | .i => { L with i := x }
def Hf.gl (L : Lm) : Hf → List UInt8
  | .r => L.r | .lf => L.lf | .rt => L.rt
def Hf.sl (L : Lm) (x : List UInt8) : Hf → Lm
  | .r => { L with r := x } | .lf => { L with lf := x } | .rt => { L with rt := x }
theorem Mf.get_ms (L : Lm) (ov pv : Value) (q : Mf) : q.get (L.ms ov pv) = q.gl L := by cases q <;> rfl
theorem Mf.set_ms (L : Lm) (ov pv : Value) (x : Int) (q : Mf) : q.set (L.ms ov pv) x = (q.sl L x).ms ov pv := by cases q <;> rfl
theorem Hf.get_ms (L : Lm) (ov pv : Value) (q : Hf) : q.get (L.ms ov pv) = q.gl L := by cases q <;> rfl
theorem Hf.set_ms (L : Lm) (ov pv : Value) (x : List UInt8) (q : Hf) : q.set (L.ms ov pv) x = (q.sl L x).ms ov pv := by cases q <;> rfl
theorem Mf.sl_fit {L : Lm} (h : L.fit) (x : Int) (q : Mf) : (q.sl L x).fit := by cases q <;> exact h
theorem Hf.sl_fit {L : Lm} (h : L.fit) {x : List UInt8} (hx : x.length = 32) (q : Hf) : (q.sl L x).fit := by
  obtain ⟨h1, h2, h3⟩ := h
  cases q
  · exact ⟨hx, h2, h3⟩
  · exact ⟨h1, hx, h3⟩
  · exact ⟨h1, h2, hx⟩
theorem Hf.gl_len {L : Lm} (h : L.fit) (q : Hf) : (q.gl L).length = 32 := by
  obtain ⟨h1, h2, h3⟩ := h
  cases q <;> assumption
/-- A number's bound. -/
def Mf.most : Mf → Nat
  | .e => 9223372036854775807 | .a => 9223372036854775807 | .o => 9223372036854775807 | .p => 9223372036854775807 | .v => 4 | .i => 15
theorem Mf.most_le (q : Mf) : q.most ≤ 9223372036854775807 := by cases q <;> decide
/-- The fields of a message's bytes. -/
inductive Fld where
  | num (q : Mf)
  | hash (q : Hf)
  | bat
  | prs
/-- Those of a kind. -/
def fdsL (k : UInt8) : List Fld :=
  if k = 1 then [.num .e] else if k = 2 then [.num .e, .num .p, .bat] else if k = 3 then [.num .e, .num .a, .num .o]
  else if k = 4 then [.num .e, .num .a, .num .o, .hash .r] else if k = 5 then [.num .e, .num .a, .num .v, .num .i]
  else if k = 6 then [.num .e, .num .a, .num .v, .num .i, .hash .lf, .hash .rt] else if k = 7 then [.num .e, .num .a, .num .i, .prs] else []
def isK (k : UInt8) : Bool := decide (1 ≤ k.toNat ∧ k.toNat ≤ 7)
theorem kinds {k : UInt8} (h : isK k = true) : k = 1 ∨ k = 2 ∨ k = 3 ∨ k = 4 ∨ k = 5 ∨ k = 6 ∨ k = 7 := by
  unfold isK at h
  have h := of_decide_eq_true h
  have hk : k = UInt8.ofNat k.toNat := UInt8.ofNat_toNat.symm
  have : k.toNat = 1 ∨ k.toNat = 2 ∨ k.toNat = 3 ∨ k.toNat = 4 ∨ k.toNat = 5 ∨ k.toNat = 6 ∨ k.toNat = 7 := by omega
  rcases this with e | e | e | e | e | e | e <;> (rw [e] at hk; subst hk; decide)
theorem fds_len (k : UInt8) : (fdsL k).length ≤ 6 := by
  unfold fdsL
  repeat' split
  all_goals decide
/-! ### Fields that are written -/
def prBm (x : List UInt8 × List UInt8) : List UInt8 := textL x.1 ++ textL x.2
def okP (x : List UInt8 × List UInt8) : Bool := decide (x.1.length ≤ 33) && decide (x.2.length ≤ 32)
def Fld.ok (L : Lm) : Fld → Bool
  | .num q => decide (0 ≤ q.gl L ∧ q.gl L ≤ q.most)
  | .hash _ => true
  | .bat => ((bytesB L.bi L.be L.ops).2 == 0) && decide ((bytesB L.bi L.be L.ops).1.length ≤ 512)
  | .prs => decide (L.prs.length ≤ 48) && L.prs.all okP
def Fld.put (L : Lm) : Fld → List UInt8
  | .num q => numL (q.gl L).toNat
  | .hash q => q.gl L
  | .bat => textL (bytesB L.bi L.be L.ops).1
  | .prs => numL L.prs.length ++ L.prs.flatMap prBm
/-! ### Fields that are read -/
/-- Pairs, read one behind the other. -/
def prS (x0 : InS) : Nat → List (List UInt8 × List UInt8) × InS
  | 0 => ([], x0)
  | n + 1 => ((prS x0 n).1 ++ [(((prS x0 n).2.text 33).1, (((prS x0 n).2.text 33).2.text 32).1)], (((prS x0 n).2.text 33).2.text 32).2)
theorem prS_zero (x0 : InS) : prS x0 0 = ([], x0) := rfl
theorem prS_succ (x0 : InS) (n : Nat) : prS x0 (n + 1) = ((prS x0 n).1 ++ [(((prS x0 n).2.text 33).1, (((prS x0 n).2.text 33).2.text 32).1)], (((prS x0 n).2.text 33).2.text 32).2) := rfl
theorem prS_len (x0 : InS) : ∀ n, (prS x0 n).1.length = n
  | 0 => rfl
  | n + 1 => by rw [prS_succ, List.length_append, prS_len x0 n]; rfl
theorem prS_fit {x0 : InS} (h : x0.fit) : ∀ n, (prS x0 n).2.fit
  | 0 => h
  | n + 1 => InS.text_fit (InS.text_fit (prS_fit h n) 33) 32
def Fld.get (L : Lm) (x : InS) : Fld → Nat × Lm × InS
  | .num q => (0, q.sl L ((x.most q.most).1 : Int), (x.most q.most).2)
  | .hash q => (0, q.sl L (hashS (q.gl L) x 32).2, (hashS (q.gl L) x 32).1)
  | .bat => if (x.text 512).2.err = 0 then ((readB (x.text 512).1).2, { L with bi := (readB (x.text 512).1).1.1, be := (readB (x.text 512).1).1.2.1, ops := (readB (x.text 512).1).1.2.2 }, (x.text 512).2)
    else ((x.text 512).2.err, L, (x.text 512).2)
  | .prs => (0, { L with prs := L.prs ++ (prS (x.most 48).2 (x.most 48).1).1 }, (prS (x.most 48).2 (x.most 48).1).2)
theorem Lm.fit_bat {L : Lm} (h : L.fit) (a b : Int) (c : List Opr) : Lm.fit { L with bi := a, be := b, ops := c } := h
theorem Lm.fit_prs {L : Lm} (h : L.fit) (c : List (List UInt8 × List UInt8)) : Lm.fit { L with prs := c } := h
theorem Fld.get_fit {L : Lm} {x : InS} (h : L.fit) (hx : x.fit) (f : Fld) : (f.get L x).2.1.fit ∧ (f.get L x).2.2.fit := by
  cases f with
  | num q => exact ⟨q.sl_fit h _, InS.most_fit hx _⟩
  | hash q =>
    have h1 := hashS_len (q.gl_len h) x 32
    have h2 := hashS_fit (q.gl L) hx 32
    simp only [Fld.get]
    generalize hashS (q.gl L) x 32 = z at h1 h2 ⊢
    exact ⟨q.sl_fit h h1, h2⟩
  | bat =>
    have h1 := InS.text_fit hx 512
    simp only [Fld.get]
    generalize x.text 512 = z at h1 ⊢
    generalize readB z.1 = y
    split
    · exact ⟨Lm.fit_bat h _ _ _, h1⟩
    · exact ⟨h, h1⟩
  | prs =>
    have h1 := InS.most_fit hx 48
    simp only [Fld.get]
    generalize x.most 48 = z at h1 ⊢
    have h2 := prS_fit h1 z.1
    generalize prS z.2 z.1 = y at h2 ⊢
    exact ⟨Lm.fit_prs h _, h2⟩
/-- What a field says, the reader's fault first. -/
def Fld.say (t : Nat × Lm × InS) : Nat := if t.2.2.err = 0 then t.1 else t.2.2.err
def runF : List Fld → Lm → InS → Nat × Lm × InS
  | [], L, x => (0, L, x)
  | f :: l, L, x => if Fld.say (f.get L x) = 0 then runF l (f.get L x).2.1 (f.get L x).2.2 else (Fld.say (f.get L x), f.get L x |>.2)
/-- The message of bytes. -/
def readM (s : List UInt8) : Lm × Nat :=
  let y := (inStart s).byte
  if y.2.err = 0 then
    if isK (UInt8.ofNat y.1) = true then
      let t := runF (fdsL (UInt8.ofNat y.1)) (kindL (UInt8.ofNat y.1)) y.2
      if t.1 = 0 then (if t.2.2.fin = 0 then (t.2.1, 0) else (zeroL, t.2.2.fin)) else (zeroL, t.1)
    else (zeroL, 10)
  else (zeroL, y.2.err)
/-- A message's bytes. -/
def bytesM (L : Lm) : List UInt8 × Nat :=
  if isK L.k = true then
    if (fdsL L.k).all (fun f => f.ok L) = true ∧ readM (L.k :: (fdsL L.k).flatMap (fun f => f.put L)) = (L, 0) then (L.k :: (fdsL L.k).flatMap (fun f => f.put L), 0)
    else ([], 1)
  else ([], 10)
end TL
end Go

/- The walk of path.named. Conditions: lengths. -/
namespace Go
namespace TL
theorem goodN_of {b : UInt8} (h1 : ¬ I8 b < 97) (h2 : ¬ 122 < I8 b) : goodN b = true := by rw [I8_eq] at h1 h2; simp [goodN]; omega
theorem badN_lo {b : UInt8} (h1 : I8 b < 97) : goodN b = false := by rw [I8_eq] at h1; simp [goodN]; omega
theorem badN_hi {b : UInt8} (h1 : 122 < I8 b) : goodN b = false := by rw [I8_eq] at h1; simp [goodN]; omega
theorem goodK_of {b : UInt8} (h1 : ¬ I8 b = 0) (h2 : ¬ I8 b = 47) : goodK b = true := by rw [I8_eq] at h1 h2; simp [goodK]; omega
theorem badK_0 {b : UInt8} (h1 : I8 b = 0) : goodK b = false := by rw [I8_eq] at h1; simp [goodK]; omega
theorem badK_47 {b : UInt8} (h1 : I8 b = 47) : goodK b = false := by rw [I8_eq] at h1; simp [goodK]; omega
end TL
end Go
namespace Go.Proofs.YtidadhbaomieiaaGreat
open Go.RowKit Go.TL
set_option maxRecDepth 100000 in
set_option maxHeartbeats 2000000 in
theorem named_c (s : List UInt8) (w : World) (hs : s.length ≤ 1000000000) :
    Calls Tryz.prog 212 #[.string (mkS s)] w fun e w' => e = .returned (.bool (namedL s)) ∧ w = w' := by
  have hbad : ∀ k, k < s.length → goodN (s.getD k 0) = false → namedL s = false := fun k h hb => named_bad h hb
  have hgood : (∀ k, k < s.length → goodN (s.getD k 0) = true) → namedL s = decide (1 ≤ s.length ∧ s.length ≤ 8) := named_good
  obtain ⟨N, eN⟩ : ∃ N, N = namedL s := ⟨_, rfl⟩
  rw [← eN] at hbad hgood ⊢
  have HB := Lib.hid hbad
  have HG := Lib.hid hgood
  clear eN hbad hgood
  go_enter Tryz.func212, Tryz.ntmps212
  go_wp2_with fail
  go_loop [6] (fun iv => ∃ k : Nat, k ≤ s.length ∧ iv = .int .i64 k ∧ Hid (∀ j, j < k → goodN (s.getD j 0) = true)) (fun iv => s.length - (intOf iv).toNat)
  case atStart => exact ⟨0, by omega, rfl, Lib.hid (by omega)⟩
  case round =>
    obtain ⟨k, hk, rfl, HK⟩ := hrel
    by_cases hlt : k < s.length
    · by_cases h1 : I8 (bt s k) < 97
      · have e : N = false := HB.out k hlt (badN_lo h1)
        subst e
        go_wp2_with fail
        go_ret
        exact ⟨rfl, rfl⟩
      · by_cases h2 : 122 < I8 (bt s k)
        · have e : N = false := HB.out k hlt (badN_hi h2)
          subst e
          replace h1 : 97 ≤ I8 (bt s k) := by omega
          go_wp2_with fail
          go_ret
          exact ⟨rfl, rfl⟩
        · have hg := Lib.hid (goodN_of h1 h2)
          replace h1 : 97 ≤ I8 (bt s k) := by omega
          replace h2 : I8 (bt s k) ≤ 122 := by omega
          go_wp2_with fail
          go_round
          case rel => exact ⟨k + 1, by omega, by go_num, Lib.hid fun j hj => by
            rcases Nat.lt_succ_iff_lt_or_eq.1 hj with hj | rfl
            · exact HK.out j hj
            · exact hg.out⟩
          case measure => simp [intOf]; omega
    · obtain rfl : k = s.length := by omega
      have e : N = decide (1 ≤ s.length ∧ s.length ≤ 8) := HG.out HK.out
      by_cases hl : 1 ≤ s.length ∧ s.length ≤ 8
      · rw [decide_eq_true hl] at e
        subst e
        obtain ⟨hl1, hl2⟩ := hl
        go_wp2_with fail
        go_ret
        exact ⟨by first | rfl | (simp <;> omega), rfl⟩
      · rw [decide_eq_false hl] at e
        subst e
        go_wp2_with fail
        all_goals
          go_ret
          exact ⟨by first | rfl | (simp <;> omega), rfl⟩
end Go.Proofs.YtidadhbaomieiaaGreat

/- The walks of package path's named, key and Cut, and of the reference's. Conditions: lengths. -/
namespace Go.Proofs.YtidadhbaomieiaaGreat
open Go.RowKit Go.TL
set_option maxRecDepth 100000 in
set_option maxHeartbeats 2000000 in
theorem key_c (s : List UInt8) (w : World) (hs : s.length ≤ 1000000000) :
    Calls Tryz.prog 213 #[.string (mkS s)] w fun e w' => e = .returned (.bool (pkeyL s)) ∧ w = w' := by
  have C : ∀ c : UInt8, Calls Tryz.prog 215 #[.string (mkS s), .int .u8 (c.toNat : Int)] w fun e w' => e = .returned (.int .i64 (Lib.indexByte s c)) ∧ w = w' := fun c =>
    (Go.Proofs.Tryz.strings_IndexByte (mkS s) c.toNat w).mono fun _ _ ⟨a, b⟩ => ⟨by rw [a, mkS_data]; simp, b.symm⟩
  have C0 := Lib.hid (C 0)
  have C47 := Lib.hid (C 47)
  clear C
  by_cases hl : 1 ≤ s.length ∧ s.length ≤ 24
  · rw [pkey_index s hl]
    obtain ⟨i0, e0⟩ : ∃ i, i = Lib.indexByte s 0 := ⟨_, rfl⟩
    obtain ⟨i4, e4⟩ : ∃ i, i = Lib.indexByte s 47 := ⟨_, rfl⟩
    rw [← e0] at C0 ⊢
    rw [← e4] at C47 ⊢
    clear e0 e4
    obtain ⟨hl1, hl2⟩ := hl
    by_cases h0 : i0 < 0
    all_goals
      go_enter Tryz.func213, Tryz.ntmps213
      go_wp2_with ((go_at_call 215; go_must ((first | refine (C0.out).mono ?_ | refine (C47.out).mono ?_); rintro e w1 ⟨rfl, rfl⟩)))
      go_ret
      exact ⟨by first | rfl | (simp [h0]; done) | (simp <;> omega), rfl⟩
  · rw [pkey_len hl]
    go_enter Tryz.func213, Tryz.ntmps213
    go_wp2_with fail
    all_goals
      go_ret
      exact ⟨rfl, rfl⟩
set_option maxRecDepth 100000 in
set_option maxHeartbeats 2000000 in
theorem sliteCut_c (p : List UInt8) (w : World) (hp : p.length ≤ 1000000000) :
    Calls Tryz.prog 214 #[.string (mkS p), .string (mkS [47])] w fun e w' => e = .returned (.tuple #[.string (mkS (scutL p).1), .string (mkS (scutL p).2.1), .bool (scutL p).2.2]) ∧ Below w.heap.size w w' := by
  have I : Calls Tryz.prog 216 #[.string (mkS p), .string (mkS [47])] w fun e w' => e = .returned (.int .i64 (if slash p < p.length then (slash p : Int) else -1)) ∧ w = w' :=
    (Go.Proofs.Tryz.stringslite_Index_one (mkS p) 47 w).mono fun _ _ ⟨a, b⟩ => ⟨by rw [a, mkS_data, indexByte_slash], b.symm⟩
  have M := Mem.start [] w
  have hsl := slash_le p
  obtain ⟨C, eC⟩ : ∃ C, C = scutL p := ⟨_, rfl⟩
  rw [← eC]
  by_cases h : slash p < p.length
  · rw [if_pos h] at I
    rw [scut_yes h] at eC
    have I := Lib.hid I
    subst eC
    go_enter Tryz.func214, Tryz.ntmps214
    go_wp2_with ((first | (go_at_call 216; go_must (refine (I.out).mono ?_; rintro e w1 ⟨rfl, rfl⟩)) | ((with_reducible show Code.wp _ (Code.region 3 _ _) _ _ _); go_must (refine region_det [(0, false), (1, false), (2, false), (3, false), (4, false), (5, false), (6, false), (7, false), (8, false), (9, false), (10, false), (11, false)] [(17, .int), (19, .int)] (by kernel_rfl) (by kernel_rfl) rfl (by kernel_rfl) ?_; replace M := M.drew; simp only [reord, opAt, List.map_cons, List.map_nil, List.getElem?_toArray, List.getElem?_cons_zero, List.getElem?_cons_succ, Option.getD_some])) | ((with_reducible show Seg _ _ _ _); go_must (first | refine Seg.intro ⟨fun h => absurd rfl h, ?_⟩ | refine Seg.intro ⟨fun _ => ixA, ?_⟩ | refine Seg.intro ⟨ndA, atA, ?_⟩)) | ((with_reducible show OnlyN _ _ _ _ _); refine OnlyN.intro (by kernel_rfl) ?_) | ((with_reducible refine tGuard ?_); first | refine gdS ?_ | (refine gdC ?_ ?_ <;> (intro hgd; rw [hgd]; try (exfalso; simp at hgd; omega)))) | ((with_reducible refine tConv _ 70 9 ?_); go_must (refine cvB ?_)) | ((with_reducible refine tLoad ?_); go_must (refine ldB ?_)) | ((with_reducible refine tStore ?_); go_must (refine stB ?_; clear M; intro w1 M; (try simp only [setC] at M))) | ((with_reducible refine tBox _ ?_); (refine bxA M ?_; clear M; intro g w1 M))) <;> (try conv => arg 5; simp only [Act.put, List.setIfInBounds_toArray, setC]))
    go_ret3
    exact ⟨rfl, M.below⟩
  · rw [if_neg h] at I
    rw [scut_no h] at eC
    have I := Lib.hid I
    subst eC
    go_enter Tryz.func214, Tryz.ntmps214
    go_wp2_with (first | (go_at_call 216; go_must (refine (I.out).mono ?_; rintro e w1 ⟨rfl, rfl⟩)))
    go_ret3
    exact ⟨rfl, M.below⟩
set_option maxRecDepth 100000 in
set_option maxHeartbeats 2000000 in
theorem strCut_c (p : List UInt8) (w : World) (hp : p.length ≤ 1000000000) :
    Calls Tryz.prog 211 #[.string (mkS p), .string (mkS [47])] w fun e w' => e = .returned (.tuple #[.string (mkS (scutL p).1), .string (mkS (scutL p).2.1), .bool (scutL p).2.2]) ∧ Below w.heap.size w w' := by
  have M := Mem.start [] w
  go_enter Tryz.func211, Tryz.ntmps211
  go_wp2_with ((go_at_call 214; go_must (refine (sliteCut_c p _ hp).mono ?_; rintro e w1 ⟨rfl, hb⟩; replace M := M.call hb; clear hb)))
  go_ret3
  exact ⟨rfl, M.below⟩
set_option maxRecDepth 100000 in
set_option maxHeartbeats 2000000 in
theorem Cut_c (p : List UInt8) (w : World) (hp : p.length ≤ 1000000000) :
    Calls Tryz.prog 203 #[.string (mkS p)] w fun e w' => e = .returned (.tuple #[.string (mkS (cutL p).1), .string (mkS (cutL p).2.1), .bool (cutL p).2.2]) ∧ Below w.heap.size w w' := by
  have M := Mem.start [] w
  have hsl := slash_le p
  obtain ⟨C, eC⟩ : ∃ C, C = cutL p := ⟨_, rfl⟩
  rw [← eC]
  unfold cutL at eC
  have S : Calls Tryz.prog 211 #[.string (mkS p), .string (mkS [47])] w fun e w' => e = .returned (.tuple #[.string (mkS (scutL p).1), .string (mkS (scutL p).2.1), .bool (scutL p).2.2]) ∧ Below w.heap.size w w' := strCut_c p w hp
  by_cases h : slash p < p.length
  · rw [scut_yes h] at S
    have S := Lib.hid S
    obtain ⟨a, ea⟩ : ∃ a, a = p.take (slash p) := ⟨_, rfl⟩
    obtain ⟨b, eb⟩ : ∃ b, b = p.drop (slash p + 1) := ⟨_, rfl⟩
    have la : a.length ≤ 1000000000 := by rw [ea]; simp; omega
    have lb : b.length ≤ 1000000000 := by rw [eb]; simp; omega
    rw [← ea, ← eb] at S eC
    clear ea eb
    have N : ∀ w, Calls Tryz.prog 212 #[.string (mkS a)] w fun e w' => e = .returned (.bool (namedL a)) ∧ w = w' := fun w => named_c a w la
    have K : ∀ w, Calls Tryz.prog 213 #[.string (mkS b)] w fun e w' => e = .returned (.bool (pkeyL b)) ∧ w = w' := fun w => key_c b w lb
    by_cases hn : namedL a = true
    · by_cases hk : pkeyL b = true
      · rw [if_pos ⟨h, hn, hk⟩] at eC
        rw [hn] at N; rw [hk] at K
        have N := Lib.hid N; have K := Lib.hid K
        subst eC
        go_enter Tryz.func203, Tryz.ntmps203
        go_wp2_with (first | (go_at_call 211; go_must (refine (S.out).mono ?_; rintro e w1 ⟨rfl, hb⟩; replace M := M.call hb; clear hb)) | (go_at_call 212; go_must (refine (N.out _).mono ?_; rintro e w1 ⟨rfl, rfl⟩)) | (go_at_call 213; go_must (refine (K.out _).mono ?_; rintro e w1 ⟨rfl, rfl⟩)))
        go_ret3
        exact ⟨rfl, M.below⟩
      · rw [if_neg (fun x => hk x.2.2)] at eC
        rw [hn] at N; rw [Bool.not_eq_true] at hk; rw [hk] at K
        have N := Lib.hid N; have K := Lib.hid K
        subst eC
        go_enter Tryz.func203, Tryz.ntmps203
        go_wp2_with (first | (go_at_call 211; go_must (refine (S.out).mono ?_; rintro e w1 ⟨rfl, hb⟩; replace M := M.call hb; clear hb)) | (go_at_call 212; go_must (refine (N.out _).mono ?_; rintro e w1 ⟨rfl, rfl⟩)) | (go_at_call 213; go_must (refine (K.out _).mono ?_; rintro e w1 ⟨rfl, rfl⟩)))
        go_ret3
        exact ⟨rfl, M.below⟩
    · rw [if_neg (fun x => hn x.2.1)] at eC
      rw [Bool.not_eq_true] at hn; rw [hn] at N
      have N := Lib.hid N
      subst eC
      go_enter Tryz.func203, Tryz.ntmps203
      go_wp2_with (first | (go_at_call 211; go_must (refine (S.out).mono ?_; rintro e w1 ⟨rfl, hb⟩; replace M := M.call hb; clear hb)) | (go_at_call 212; go_must (refine (N.out _).mono ?_; rintro e w1 ⟨rfl, rfl⟩)))
      go_ret3
      exact ⟨rfl, M.below⟩
  · rw [scut_no h] at S
    have S := Lib.hid S
    rw [if_neg (fun x => h x.1)] at eC
    subst eC
    go_enter Tryz.func203, Tryz.ntmps203
    go_wp2_with (first | (go_at_call 211; go_must (refine (S.out).mono ?_; rintro e w1 ⟨rfl, hb⟩; replace M := M.call hb; clear hb)))
    go_ret3
    exact ⟨rfl, M.below⟩
end Go.Proofs.YtidadhbaomieiaaGreat

/- The walk of the reference's layer 11 (path): Named. Conditions: lengths. -/
namespace Go.Proofs.YtidadhbaomieiaaGreat
open Go.RowKit Go.TL
set_option maxRecDepth 100000 in
set_option maxHeartbeats 2000000 in
theorem Named_c (s : List UInt8) (w : World) (hs : s.length ≤ 1000000000) :
    Calls Tryz.prog 188 #[.string (mkS s)] w fun e w' => e = .returned (.bool (namedL s)) ∧ w = w' := by
  by_cases hl : 1 ≤ s.length ∧ s.length ≤ 8
  · have hbad : ∀ k, k < s.length → goodN (s.getD k 0) = false → namedL s = false := fun k h hb => named_bad h hb
    have hgood : (∀ k, k < s.length → goodN (s.getD k 0) = true) → namedL s = true := fun h => by rw [named_good h, decide_eq_true hl]
    obtain ⟨N, eN⟩ : ∃ N, N = namedL s := ⟨_, rfl⟩
    rw [← eN] at hbad hgood ⊢
    have HB := Lib.hid hbad
    have HG := Lib.hid hgood
    clear eN hbad hgood
    obtain ⟨hl1, hl2⟩ := hl
    go_enter Tryz.func188, Tryz.ntmps188
    go_wp2_with fail
    go_loop [3] (fun iv => ∃ k : Nat, k ≤ s.length ∧ iv = .int .i64 k ∧ Hid (∀ j, j < k → goodN (s.getD j 0) = true)) (fun iv => s.length - (intOf iv).toNat)
    case atStart => exact ⟨0, by omega, rfl, Lib.hid (by omega)⟩
    case round =>
      obtain ⟨k, hk, rfl, HK⟩ := hrel
      by_cases hlt : k < s.length
      · by_cases h1 : I8 (bt s k) < 97
        · have e : N = false := HB.out k hlt (badN_lo h1)
          subst e
          go_wp2_with fail
          go_ret
          exact ⟨rfl, rfl⟩
        · by_cases h2 : 122 < I8 (bt s k)
          · have e : N = false := HB.out k hlt (badN_hi h2)
            subst e
            replace h1 : 97 ≤ I8 (bt s k) := by omega
            go_wp2_with fail
            go_ret
            exact ⟨rfl, rfl⟩
          · have hg := Lib.hid (goodN_of h1 h2)
            replace h1 : 97 ≤ I8 (bt s k) := by omega
            replace h2 : I8 (bt s k) ≤ 122 := by omega
            go_wp2_with fail
            go_round
            case rel => exact ⟨k + 1, by omega, by go_num, Lib.hid fun j hj => by
              rcases Nat.lt_succ_iff_lt_or_eq.1 hj with hj | rfl
              · exact HK.out j hj
              · exact hg.out⟩
            case measure => simp [intOf]; omega
      · obtain rfl : k = s.length := by omega
        have e : N = true := HG.out HK.out
        subst e
        go_wp2_with fail
        go_ret
        exact ⟨rfl, rfl⟩
  · rw [named_len hl]
    go_enter Tryz.func188, Tryz.ntmps188
    go_wp2_with fail
    all_goals
      go_ret
      exact ⟨rfl, rfl⟩
end Go.Proofs.YtidadhbaomieiaaGreat

/- The walks of the reference's layer 11 (path): Named, Key, Cut and Less. Conditions: lengths. -/
namespace Go.Proofs.YtidadhbaomieiaaGreat
open Go.RowKit Go.TL
set_option maxRecDepth 100000 in
set_option maxHeartbeats 2000000 in
theorem Key11_c (s : List UInt8) (w : World) (hs : s.length ≤ 1000000000) :
    Calls Tryz.prog 189 #[.string (mkS s)] w fun e w' => e = .returned (.bool (pkeyL s)) ∧ w = w' := by
  by_cases hl : 1 ≤ s.length ∧ s.length ≤ 24
  · have hbad : ∀ k, k < s.length → goodK (s.getD k 0) = false → pkeyL s = false := fun k h hb => pkey_bad h hb
    have hgood : (∀ k, k < s.length → goodK (s.getD k 0) = true) → pkeyL s = true := fun h => by rw [pkey_good h, decide_eq_true hl]
    obtain ⟨N, eN⟩ : ∃ N, N = pkeyL s := ⟨_, rfl⟩
    rw [← eN] at hbad hgood ⊢
    have HB := Lib.hid hbad
    have HG := Lib.hid hgood
    clear eN hbad hgood
    obtain ⟨hl1, hl2⟩ := hl
    go_enter Tryz.func189, Tryz.ntmps189
    go_wp2_with fail
    go_loop [3] (fun iv => ∃ k : Nat, k ≤ s.length ∧ iv = .int .i64 k ∧ Hid (∀ j, j < k → goodK (s.getD j 0) = true)) (fun iv => s.length - (intOf iv).toNat)
    case atStart => exact ⟨0, by omega, rfl, Lib.hid (by omega)⟩
    case round =>
      obtain ⟨k, hk, rfl, HK⟩ := hrel
      by_cases hlt : k < s.length
      · by_cases h1 : I8 (bt s k) = 0
        · have e : N = false := HB.out k hlt (badK_0 h1)
          subst e
          go_wp2_with fail
          go_ret
          exact ⟨rfl, rfl⟩
        · by_cases h2 : I8 (bt s k) = 47
          · have e : N = false := HB.out k hlt (badK_47 h2)
            subst e
            go_wp2_with fail
            go_ret
            exact ⟨rfl, rfl⟩
          · have hg := Lib.hid (goodK_of h1 h2)
            replace h1 : (I8 (bt s k) == 0) = false := by simp; exact h1
            replace h2 : (I8 (bt s k) == 47) = false := by simp; exact h2
            go_wp2_with fail
            go_round
            case rel => exact ⟨k + 1, by omega, by go_num, Lib.hid fun j hj => by
              rcases Nat.lt_succ_iff_lt_or_eq.1 hj with hj | rfl
              · exact HK.out j hj
              · exact hg.out⟩
            case measure => simp [intOf]; omega
      · obtain rfl : k = s.length := by omega
        have e : N = true := HG.out HK.out
        subst e
        go_wp2_with fail
        go_ret
        exact ⟨rfl, rfl⟩
  · rw [pkey_len hl]
    go_enter Tryz.func189, Tryz.ntmps189
    go_wp2_with fail
    all_goals
      go_ret
      exact ⟨rfl, rfl⟩
set_option maxRecDepth 100000 in
set_option maxHeartbeats 2000000 in
theorem Cut11_c (p : List UInt8) (w : World) (hp : p.length ≤ 1000000000) :
    Calls Tryz.prog 171 #[.string (mkS p)] w fun e w' => e = .returned (.tuple #[.string (mkS (cutL p).1), .string (mkS (cutL p).2.1), .bool (cutL p).2.2]) ∧ Below w.heap.size w w' := by
  have M := Mem.start [] w
  have hsl := slash_le p
  have hno := slash_before p
  have hat := slash_at p
  obtain ⟨C, eC⟩ : ∃ C, C = cutL p := ⟨_, rfl⟩
  rw [← eC]
  unfold cutL at eC
  obtain ⟨S, eS⟩ : ∃ S, S = slash p := ⟨_, rfl⟩
  rw [← eS] at hsl hno hat eC
  have HN := Lib.hid hno
  have HT := Lib.hid hat
  have EC := Lib.hid eC
  clear eS hno hat eC
  go_enter Tryz.func171, Tryz.ntmps171
  go_wp2_with fail
  go_loopw [5] (fun iv wr => ∃ k : Nat, k ≤ S ∧ iv = .int .i64 k ∧ Mem [] w wr []) (fun iv _ => p.length - (intOf iv).toNat)
  case atStart => exact ⟨0, by omega, rfl, M⟩
  case round =>
    clear M
    obtain ⟨k, hk, rfl, M⟩ := hrel
    by_cases hlt : k < S
    · have hb : (I8 (bt p k) == 47) = false := by
        have := HN.out k hlt
        rw [beq_eq_false_iff_ne, I8_bt]; omega
      have hkl : k < p.length := by omega
      go_wp2_with fail
      go_roundw
      case rel => exact ⟨k + 1, by omega, by go_num, M⟩
      case measure => simp [intOf]; omega
    · obtain rfl : k = S := by omega
      by_cases hl : k < p.length
      · have hb : (I8 (bt p k) == 47) = true := by
          have := HT.out hl
          rw [I8_bt, this]; rfl
        have hb' : I8 (bt p k) = 47 := by simpa using hb
        have HB' := Lib.hid hb'
        clear hb'
        obtain ⟨a, ea⟩ : ∃ a, a = p.take k := ⟨_, rfl⟩
        obtain ⟨b, eb⟩ : ∃ b, b = p.drop (k + 1) := ⟨_, rfl⟩
        have la : a.length ≤ 1000000000 := by rw [ea]; simp; omega
        have lb : b.length ≤ 1000000000 := by rw [eb]; simp; omega
        have eC := EC.out
        rw [← ea, ← eb] at eC
        have N : ∀ w, Calls Tryz.prog 188 #[.string (mkS a)] w fun e w' => e = .returned (.bool (namedL a)) ∧ w = w' := fun w => Named_c a w la
        have K : ∀ w, Calls Tryz.prog 189 #[.string (mkS b)] w fun e w' => e = .returned (.bool (pkeyL b)) ∧ w = w' := fun w => Key11_c b w lb
        have EA := Lib.hid ea; have EB := Lib.hid eb
        clear ea eb
        by_cases hn : namedL a = true
        · by_cases hkk : pkeyL b = true
          · rw [if_pos ⟨hl, hn, hkk⟩] at eC
            rw [hn] at N; rw [hkk] at K
            rw [EA.out] at N eC; rw [EB.out] at K eC
            have N := Lib.hid N; have K := Lib.hid K
            subst eC
            go_wp2_with ((first | (go_at_call 188; go_must (refine (N.out _).mono ?_; rintro e w1 ⟨rfl, rfl⟩)) | (go_at_call 189; go_must (refine (K.out _).mono ?_; rintro e w1 ⟨rfl, rfl⟩)) | ((with_reducible show Code.wp _ (Code.region 6 _ _) _ _ _); go_must (refine region_det [(0, false), (1, false), (2, false), (3, false), (4, false), (5, false), (6, false), (7, false), (8, false), (9, false)] [(31, .int)] (by kernel_rfl) (by kernel_rfl) rfl (by kernel_rfl) ?_; replace M := M.drew; simp only [reord, opAt, List.map_cons, List.map_nil, List.getElem?_toArray, List.getElem?_cons_zero, List.getElem?_cons_succ, Option.getD_some])) | ((with_reducible show Seg _ _ _ _); go_must (first | refine Seg.intro ⟨fun h => absurd rfl h, ?_⟩ | refine Seg.intro ⟨fun _ => ixA, ?_⟩ | refine Seg.intro ⟨ndA, atA, ?_⟩)) | ((with_reducible show OnlyN _ _ _ _ _); refine OnlyN.intro (by kernel_rfl) ?_) | ((with_reducible refine tGuard ?_); first | refine gdS ?_ | (refine gdC ?_ ?_ <;> (intro hgd; rw [hgd]; try (exfalso; simp at hgd; omega)))) | ((with_reducible refine tConv _ 70 9 ?_); go_must (refine cvB ?_)) | ((with_reducible refine tLoad ?_); go_must (refine ldB ?_)) | ((with_reducible refine tStore ?_); go_must (refine stB ?_; clear M; intro w1 M; (try simp only [setC] at M))) | ((with_reducible refine tBox _ ?_); (refine bxA M ?_; clear M; intro g w1 M))) <;> (try conv => arg 5; simp only [Act.put, List.setIfInBounds_toArray, setC]))
            go_ret3
            exact ⟨rfl, M.below⟩
          · rw [if_neg (fun x => hkk x.2.2)] at eC
            rw [hn] at N; rw [Bool.not_eq_true] at hkk; rw [hkk] at K
            rw [EA.out] at N; rw [EB.out] at K
            have N := Lib.hid N; have K := Lib.hid K
            subst eC
            go_wp2_with (first | (go_at_call 188; go_must (refine (N.out _).mono ?_; rintro e w1 ⟨rfl, rfl⟩)) | (go_at_call 189; go_must (refine (K.out _).mono ?_; rintro e w1 ⟨rfl, rfl⟩)))
            go_ret3
            exact ⟨rfl, M.below⟩
        · rw [if_neg (fun x => hn x.2.1)] at eC
          rw [Bool.not_eq_true] at hn; rw [hn] at N
          rw [EA.out] at N
          have N := Lib.hid N
          subst eC
          go_wp2_with (first | (go_at_call 188; go_must (refine (N.out _).mono ?_; rintro e w1 ⟨rfl, rfl⟩)))
          go_ret3
          exact ⟨rfl, M.below⟩
      · have eC := EC.out
        rw [if_neg (fun x => hl x.1)] at eC
        subst eC
        go_wp2_with fail
        go_ret3
        exact ⟨rfl, M.below⟩
end Go.Proofs.YtidadhbaomieiaaGreat

/- Plain laws of walks: a variable's one cell; a result of two, the first in memory. No conditions. -/
namespace Go
namespace TL
open Go.RowKit
/-- A variable's one cell. -/
def cellV (v : Value) : List Value := [v]
theorem SeesL.row1 {w : World} {g : Nat} {c : Value} (h : (Chunk.row g [c]).ok w) : SeesL w 1 cellV (.slice (some ⟨g, 0, none⟩) 1 1) [c] :=
  ⟨⟨rfl, .inr ⟨g, 0, 1, rfl, h.1, Nat.le_refl _, by simp only [maxLen]; omega, h.2.1⟩⟩, fun _ => rfl⟩
theorem results_row2 {P : Program} {fn : Func} {p q : Tmp} {ty : TypeId} (h : fn.results = #[.cell p ty, .tmp q]) (tmps : Array Value) (w : World) (b o : Nat) (cs : List Value) (d : TypeDesc) (z : Value)
    (hp : tmps.getD p undef = .pointer (some ⟨b, o, none⟩)) (hz : tmps.getD q undef = z) (hc : w.rangeAt b o cs) (hu : P.underlying ty = some d) (hd : d.isRow = true) (hi : (P.info? ty).map (·.size) = some cs.length) :
    (results fn tmps).run P w = .ok (.tuple #[.agg cs.toArray, z]) w := by
  have hp' : tmps[p]?.getD undef = .pointer (some ⟨b, o, none⟩) := by simpa using hp
  have hz' : tmps[q]?.getD undef = z := by simpa using hz
  simp [results, h, hp', hz', asAddr, run_loadVar_mid w b o ty cs d hc hu hd hi]
end TL
end Go

/- The walks of batch.Right's closure, and of batch.each under it. Conditions: lengths. -/
namespace Go
namespace TL
theorem I8_ne {q c : UInt8} (h : q ≠ c) : (I8 q == I8 c) = false ∧ (I8 q != I8 c) = true := by
  have : I8 q ≠ I8 c := fun e => h (by rw [I8_eq, I8_eq] at e; exact UInt8.toNat_inj.1 (by omega))
  exact ⟨by simpa using this, by simpa using this⟩
theorem each_bad {f : List UInt8 → Nat} {l : List Opr} {k : Nat} {x : Opr} {r : Nat} (h : l[k]? = some x) (hb : ∀ (j : Nat) (y : Opr), j < k → l[j]? = some y → opE f y = 0) (hx : opE f x = r) (hr : r ≠ 0) : eachE f l = r := by
  rw [each_at h hb (by rw [hx]; exact hr), hx]
end TL
end Go
namespace Go.Proofs.YtidadhbaomieiaaGreat
open Go.RowKit Go.TL
set_option maxRecDepth 100000 in
set_option maxHeartbeats 2000000 in
theorem Right1_c (p : List UInt8) (w : World) (hp : p.length ≤ 1000000000) :
    Calls Tryz.prog 202 #[.string (mkS p)] w fun e w' => e = .returned (.int .i64 (cutE p)) ∧ Below w.heap.size w w' := by
  have M := Mem.start [] w
  have C := fun w => Cut_c p w hp
  unfold cutE
  obtain ⟨⟨m, k, ok⟩, ec⟩ : ∃ c, c = cutL p := ⟨_, rfl⟩
  rw [← ec] at C ⊢
  clear ec
  simp only at C ⊢
  replace C := Lib.hid C
  cases ok with
  | true =>
    simp only [if_true]
    go_enter Tryz.func202, Tryz.ntmps202
    go_wp2_with (first | (go_at_call 203; go_must (refine (C.out _).mono ?_; rintro e w1 ⟨rfl, hb⟩; replace M := M.call hb; clear hb)))
    go_ret
    exact ⟨rfl, M.below⟩
  | false =>
    go_enter Tryz.func202, Tryz.ntmps202
    go_wp2_with (first | (go_at_call 203; go_must (refine (C.out _).mono ?_; rintro e w1 ⟨rfl, hb⟩; replace M := M.call hb; clear hb)))
    go_ret
    exact ⟨rfl, M.below⟩
set_option maxRecDepth 100000 in
set_option maxHeartbeats 8000000 in
theorem EachR_c (ops : List Opr) (v : Value) (w : World) (S : SeesL w 3 opV v ops) (hl : ops.length ≤ 1000000) (hm : ∀ x ∈ ops, x.2.1.length ≤ 100000000 ∧ x.2.2.length ≤ 100000000) :
    Calls Tryz.prog 201 #[v, .func (.func 202) #[] #[]] w fun e w' => e = .returned (.int .i64 (eachE cutE ops)) ∧ Below w.heap.size w w' := by
  obtain ⟨q, cap, rfl, hc⟩ := S.form
  have M := Mem.start [] w
  have HB := fun k x r => @each_bad cutE ops k x r
  have HG := @each_all cutE ops
  obtain ⟨R, eR⟩ : ∃ R, R = eachE cutE ops := ⟨_, rfl⟩
  rw [← eR] at HB HG ⊢
  replace HB := Lib.hid HB
  replace HG := Lib.hid HG
  clear eR
  go_enter Tryz.func201, Tryz.ntmps201
  go_wp2_with fail
  go_loopw [10] (fun iv wr => ∃ k : Nat, k ≤ ops.length ∧ iv = .int .i64 k ∧ Hid (∀ (j : Nat) (y : Opr), j < k → ops[j]? = some y → opE cutE y = 0) ∧ Mem [] w wr []) (fun iv _ => ops.length - (intOf iv).toNat)
  case atStart => exact ⟨0, by omega, rfl, Lib.hid (by omega), M⟩
  case round =>
    clear M
    obtain ⟨k, hk, rfl, HK, M⟩ := hrel
    by_cases hlt : k < ops.length
    · obtain ⟨g, so, rfl⟩ := S.addr (by omega)
      obtain ⟨⟨q, a, b⟩, hx⟩ : ∃ x, ops[k]? = some x := ⟨_, List.getElem?_eq_getElem hlt⟩
      obtain ⟨ha, hb⟩ := hm (q, a, b) (List.mem_of_getElem? hx)
      simp only at ha hb
      have C := fun w => Right1_c a w (by omega)
      have HX := Lib.hid hx
      clear hx
      by_cases hq : q = 1 ∨ q = 2
      · have HQ := Lib.hid hq
        have HI : I8 q = 1 ∨ I8 q = 2 := by rcases hq with rfl | rfl; exact .inl rfl; exact .inr rfl
        obtain ⟨n, en⟩ : ∃ n, n = cutE a := ⟨_, rfl⟩
        have EN := Lib.hid en
        try simp only at en
        rw [← en] at C
        replace C := Lib.hid C
        clear en hq
        by_cases hn : n = 0
        · subst hn
          by_cases hb32 : 32 < b.length
          · have e : R = 3 := HB.out k _ _ HX.out HK.out (op_long HQ.out EN.out.symm hb32) (by decide)
            subst e
            have hb33 : (32 : Int) < (b.length : Int) := by omega
            rcases HI with HI | HI
            all_goals
              go_wp2_with ((first | ((with_reducible refine tLoad ?_); refine w_at _ _ rfl (by exact ev_tmp rfl) ?_; intro hx; first | (refine w_seeA M S HX.out _ _ rfl hx rfl (by decide +kernel) (by first | (with_reducible rfl) | omega) (by kernel_rfl) ?_; clear hx; (try conv => arg 5; simp only [Act.put, List.setIfInBounds_toArray, setC, opV_eq])) | (refine w_see M S HX.out _ _ rfl hx rfl (by decide +kernel) 0 (by first | (with_reducible rfl) | omega) rfl ?_; clear hx) | (refine w_see M S HX.out _ _ rfl hx rfl (by decide +kernel) 1 (by first | (with_reducible rfl) | omega) rfl ?_; clear hx) | (refine w_see M S HX.out _ _ rfl hx rfl (by decide +kernel) 2 (by first | (with_reducible rfl) | omega) rfl ?_; clear hx)) | ((with_reducible refine tAlloc (some 6) 181 ?_); refine w_alloc M _ rfl rfl (.agg #[.int .u8 0, .string (mkS []), .string (mkS [])]) (opV (0, [], [])) (by kernel_rfl) rfl ?_; clear M; intro gx w1 M) | (go_at_call 202; go_must (refine (C.out _).mono ?_; rintro e w1 ⟨rfl, hb⟩; replace M := M.call hb; clear hb)) | ((with_reducible refine tGuard ?_); refine gdS ?_) | fail | ((with_reducible refine tLoad ?_); go_must (refine ldS ?_)) | ((with_reducible refine tStore ?_); go_must (refine stS ?_; clear M; intro w1 M; (try simp only [setC] at M))) | ((with_reducible refine tBox _ ?_); (refine bxA M ?_; clear M; intro g w1 M))) <;> (try conv => arg 5; simp only [Act.put, List.setIfInBounds_toArray, setC]))
              go_ret
              exact ⟨rfl, M.below⟩
          · have hb33 : (b.length : Int) ≤ 32 := by omega
            rcases HI with HI | HI
            · have hq1 : q = 1 := by
                rcases HQ.out with h | h
                · exact h
                · subst h; exact absurd HI (by decide)
              have HZ := Lib.hid (op_good (f := cutE) (x := (q, a, b)) HQ.out EN.out.symm (by simp only; omega) (fun h => by simp only at h; rw [hq1] at h; exact absurd h (by decide)))
              clear hq1
              go_wp2_with ((first | ((with_reducible refine tLoad ?_); refine w_at _ _ rfl (by exact ev_tmp rfl) ?_; intro hx; first | (refine w_seeA M S HX.out _ _ rfl hx rfl (by decide +kernel) (by first | (with_reducible rfl) | omega) (by kernel_rfl) ?_; clear hx; (try conv => arg 5; simp only [Act.put, List.setIfInBounds_toArray, setC, opV_eq])) | (refine w_see M S HX.out _ _ rfl hx rfl (by decide +kernel) 0 (by first | (with_reducible rfl) | omega) rfl ?_; clear hx) | (refine w_see M S HX.out _ _ rfl hx rfl (by decide +kernel) 1 (by first | (with_reducible rfl) | omega) rfl ?_; clear hx) | (refine w_see M S HX.out _ _ rfl hx rfl (by decide +kernel) 2 (by first | (with_reducible rfl) | omega) rfl ?_; clear hx)) | ((with_reducible refine tAlloc (some 6) 181 ?_); refine w_alloc M _ rfl rfl (.agg #[.int .u8 0, .string (mkS []), .string (mkS [])]) (opV (0, [], [])) (by kernel_rfl) rfl ?_; clear M; intro gx w1 M) | (go_at_call 202; go_must (refine (C.out _).mono ?_; rintro e w1 ⟨rfl, hb⟩; replace M := M.call hb; clear hb)) | ((with_reducible refine tGuard ?_); refine gdS ?_) | fail | ((with_reducible refine tLoad ?_); go_must (refine ldS ?_)) | ((with_reducible refine tStore ?_); go_must (refine stS ?_; clear M; intro w1 M; (try simp only [setC] at M))) | ((with_reducible refine tBox _ ?_); (refine bxA M ?_; clear M; intro g w1 M))) <;> (try conv => arg 5; simp only [Act.put, List.setIfInBounds_toArray, setC]))
              go_roundw
              case rel => exact ⟨k + 1, by omega, by go_num, Lib.hid fun j y hj hy => by
                rcases Nat.lt_succ_iff_lt_or_eq.1 hj with hj | rfl
                · exact HK.out j y hj hy
                · have := HX.out; rw [hy] at this; cases this; exact HZ.out, M.tail⟩
              case measure => simp [intOf]; omega
            · have hq2 : q = 2 := by
                rcases HQ.out with h | h
                · subst h; exact absurd HI (by decide)
                · exact h
              by_cases hbe : b = []
              · subst hbe
                have HZ := Lib.hid (op_good (f := cutE) (x := (q, a, [])) HQ.out EN.out.symm (by simp) (fun h => rfl))
                clear hq2
                go_wp2_with ((first | ((with_reducible refine tLoad ?_); refine w_at _ _ rfl (by exact ev_tmp rfl) ?_; intro hx; first | (refine w_seeA M S HX.out _ _ rfl hx rfl (by decide +kernel) (by first | (with_reducible rfl) | omega) (by kernel_rfl) ?_; clear hx; (try conv => arg 5; simp only [Act.put, List.setIfInBounds_toArray, setC, opV_eq])) | (refine w_see M S HX.out _ _ rfl hx rfl (by decide +kernel) 0 (by first | (with_reducible rfl) | omega) rfl ?_; clear hx) | (refine w_see M S HX.out _ _ rfl hx rfl (by decide +kernel) 1 (by first | (with_reducible rfl) | omega) rfl ?_; clear hx) | (refine w_see M S HX.out _ _ rfl hx rfl (by decide +kernel) 2 (by first | (with_reducible rfl) | omega) rfl ?_; clear hx)) | ((with_reducible refine tAlloc (some 6) 181 ?_); refine w_alloc M _ rfl rfl (.agg #[.int .u8 0, .string (mkS []), .string (mkS [])]) (opV (0, [], [])) (by kernel_rfl) rfl ?_; clear M; intro gx w1 M) | (go_at_call 202; go_must (refine (C.out _).mono ?_; rintro e w1 ⟨rfl, hb⟩; replace M := M.call hb; clear hb)) | ((with_reducible refine tGuard ?_); refine gdS ?_) | fail | ((with_reducible refine tLoad ?_); go_must (refine ldS ?_)) | ((with_reducible refine tStore ?_); go_must (refine stS ?_; clear M; intro w1 M; (try simp only [setC] at M))) | ((with_reducible refine tBox _ ?_); (refine bxA M ?_; clear M; intro g w1 M))) <;> (try conv => arg 5; simp only [Act.put, List.setIfInBounds_toArray, setC]))
                go_roundw
                case rel => exact ⟨k + 1, by omega, by go_num, Lib.hid fun j y hj hy => by
                  rcases Nat.lt_succ_iff_lt_or_eq.1 hj with hj | rfl
                  · exact HK.out j y hj hy
                  · have := HX.out; rw [hy] at this; cases this; exact HZ.out, M.tail⟩
                case measure => simp [intOf]; omega
              · have e : R = 1 := HB.out k _ _ HX.out HK.out (op_arg hq2 EN.out.symm (by simp only; omega) hbe) (by decide)
                subst e
                have hbe' : b.isEmpty = false := by simpa using hbe
                clear hq2 hbe
                go_wp2_with ((first | ((with_reducible refine tLoad ?_); refine w_at _ _ rfl (by exact ev_tmp rfl) ?_; intro hx; first | (refine w_seeA M S HX.out _ _ rfl hx rfl (by decide +kernel) (by first | (with_reducible rfl) | omega) (by kernel_rfl) ?_; clear hx; (try conv => arg 5; simp only [Act.put, List.setIfInBounds_toArray, setC, opV_eq])) | (refine w_see M S HX.out _ _ rfl hx rfl (by decide +kernel) 0 (by first | (with_reducible rfl) | omega) rfl ?_; clear hx) | (refine w_see M S HX.out _ _ rfl hx rfl (by decide +kernel) 1 (by first | (with_reducible rfl) | omega) rfl ?_; clear hx) | (refine w_see M S HX.out _ _ rfl hx rfl (by decide +kernel) 2 (by first | (with_reducible rfl) | omega) rfl ?_; clear hx)) | ((with_reducible refine tAlloc (some 6) 181 ?_); refine w_alloc M _ rfl rfl (.agg #[.int .u8 0, .string (mkS []), .string (mkS [])]) (opV (0, [], [])) (by kernel_rfl) rfl ?_; clear M; intro gx w1 M) | (go_at_call 202; go_must (refine (C.out _).mono ?_; rintro e w1 ⟨rfl, hb⟩; replace M := M.call hb; clear hb)) | ((with_reducible refine tGuard ?_); refine gdS ?_) | fail | ((with_reducible refine tLoad ?_); go_must (refine ldS ?_)) | ((with_reducible refine tStore ?_); go_must (refine stS ?_; clear M; intro w1 M; (try simp only [setC] at M))) | ((with_reducible refine tBox _ ?_); (refine bxA M ?_; clear M; intro g w1 M))) <;> (try conv => arg 5; simp only [Act.put, List.setIfInBounds_toArray, setC]))
                go_ret
                exact ⟨rfl, M.below⟩
        · have e : R = n := HB.out k _ _ HX.out HK.out ((op_path HQ.out (fun h0 => hn (EN.out.trans h0))).trans EN.out.symm) hn
          subst e
          have hz : ((R : Int) == 0) = false := by simp; exact hn
          have hz' : ((R : Int) != 0) = true := by simp; exact hn
          clear hn
          rcases HI with HI | HI
          all_goals
            go_wp2_with ((first | ((with_reducible refine tLoad ?_); refine w_at _ _ rfl (by exact ev_tmp rfl) ?_; intro hx; first | (refine w_seeA M S HX.out _ _ rfl hx rfl (by decide +kernel) (by first | (with_reducible rfl) | omega) (by kernel_rfl) ?_; clear hx; (try conv => arg 5; simp only [Act.put, List.setIfInBounds_toArray, setC, opV_eq])) | (refine w_see M S HX.out _ _ rfl hx rfl (by decide +kernel) 0 (by first | (with_reducible rfl) | omega) rfl ?_; clear hx) | (refine w_see M S HX.out _ _ rfl hx rfl (by decide +kernel) 1 (by first | (with_reducible rfl) | omega) rfl ?_; clear hx) | (refine w_see M S HX.out _ _ rfl hx rfl (by decide +kernel) 2 (by first | (with_reducible rfl) | omega) rfl ?_; clear hx)) | ((with_reducible refine tAlloc (some 6) 181 ?_); refine w_alloc M _ rfl rfl (.agg #[.int .u8 0, .string (mkS []), .string (mkS [])]) (opV (0, [], [])) (by kernel_rfl) rfl ?_; clear M; intro gx w1 M) | (go_at_call 202; go_must (refine (C.out _).mono ?_; rintro e w1 ⟨rfl, hb⟩; replace M := M.call hb; clear hb)) | ((with_reducible refine tGuard ?_); refine gdS ?_) | fail | ((with_reducible refine tLoad ?_); go_must (refine ldS ?_)) | ((with_reducible refine tStore ?_); go_must (refine stS ?_; clear M; intro w1 M; (try simp only [setC] at M))) | ((with_reducible refine tBox _ ?_); (refine bxA M ?_; clear M; intro g w1 M))) <;> (try conv => arg 5; simp only [Act.put, List.setIfInBounds_toArray, setC]))
            go_ret
            exact ⟨rfl, M.below⟩
      · have e : R = 10 := HB.out k _ _ HX.out HK.out (op_kind hq) (by decide)
        subst e
        obtain ⟨h1, h1'⟩ := I8_ne (q := q) (c := 1) (fun h => hq (.inl h))
        obtain ⟨h2, h2'⟩ := I8_ne (q := q) (c := 2) (fun h => hq (.inr h))
        rw [show I8 1 = 1 from rfl] at h1 h1'
        rw [show I8 2 = 2 from rfl] at h2 h2'
        clear hq C
        go_wp2_with ((first | ((with_reducible refine tLoad ?_); refine w_at _ _ rfl (by exact ev_tmp rfl) ?_; intro hx; first | (refine w_seeA M S HX.out _ _ rfl hx rfl (by decide +kernel) (by first | (with_reducible rfl) | omega) (by kernel_rfl) ?_; clear hx; (try conv => arg 5; simp only [Act.put, List.setIfInBounds_toArray, setC, opV_eq])) | (refine w_see M S HX.out _ _ rfl hx rfl (by decide +kernel) 0 (by first | (with_reducible rfl) | omega) rfl ?_; clear hx) | (refine w_see M S HX.out _ _ rfl hx rfl (by decide +kernel) 1 (by first | (with_reducible rfl) | omega) rfl ?_; clear hx) | (refine w_see M S HX.out _ _ rfl hx rfl (by decide +kernel) 2 (by first | (with_reducible rfl) | omega) rfl ?_; clear hx)) | ((with_reducible refine tAlloc (some 6) 181 ?_); refine w_alloc M _ rfl rfl (.agg #[.int .u8 0, .string (mkS []), .string (mkS [])]) (opV (0, [], [])) (by kernel_rfl) rfl ?_; clear M; intro gx w1 M) | ((with_reducible refine tGuard ?_); refine gdS ?_) | fail | ((with_reducible refine tLoad ?_); go_must (refine ldS ?_)) | ((with_reducible refine tStore ?_); go_must (refine stS ?_; clear M; intro w1 M; (try simp only [setC] at M))) | ((with_reducible refine tBox _ ?_); (refine bxA M ?_; clear M; intro g w1 M))) <;> (try conv => arg 5; simp only [Act.put, List.setIfInBounds_toArray, setC]))
        go_ret
        exact ⟨rfl, M.below⟩
    · obtain rfl : k = ops.length := by omega
      obtain rfl : R = 0 := HG.out fun j x hx => HK.out j x (List.getElem?_eq_some_iff.1 hx).1 hx
      go_wp2_with fail
      go_ret
      exact ⟨rfl, M.below⟩
end Go.Proofs.YtidadhbaomieiaaGreat
