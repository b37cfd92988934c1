/- The walk of LinkBack. Conditions: none but what every machine has. -/
import Derived.Test.YtidadhbaomieiaaGreatZh
namespace Go.Proofs.YtidadhbaomieiaaGreat
open Go.RowKit Go.TL
theorem u64_succB (n : UInt64) (q : Nat) (h : n.toNat = q) (hk : q ≤ 1000) : (n + 1).toNat = q + 1 := by
  rw [UInt64.toNat_add, show (1 : UInt64).toNat = 1 from rfl, Nat.mod_eq_of_lt (by omega)]; omega
set_option maxRecDepth 100000 in
set_option maxHeartbeats 16000000 in
theorem LinkBack_small (mb : UInt8) (me o : Int) (a b : UInt8) (he : EndOf me o a b) (hmb : (I8 mb).tmod 2 = me) (seed : List UInt8) (ba bb : UInt32) (l : List Mx) (T : List UInt8) (v tv : Value) (w : World) (S : SeesL w 107 mxV v l) (hok : ∀ x ∈ l, MxOk w x) (ST : SeesL w 1 u8V tv T) (hs : SmallL seed l) (hT : T.length ≤ 40) :
    Calls Tryz.prog 8 #[.int .u8 (I8 mb), .string (mkS seed), .int .u32 (I32 ba), .int .u32 (I32 bb), v, tv] w fun e w' => e = .returned (.bool true) ∧ Below w.heap.size w w' := by
  obtain ⟨p, cap, rfl, hc⟩ := S.form
  obtain ⟨p2, cap2, rfl, hc2⟩ := ST.form
  have M := Mem.start [] w
  obtain ⟨hseed, hlen, heach⟩ := hs
  have GC := fun w' (S' : SeesL w' 107 mxV (.slice p l.length cap) l) (hok' : ∀ x ∈ l, MxOk w' x) => great19_yes seed l (.slice p l.length cap) w' S' hok' ⟨hseed, hlen, heach⟩
  have OK' : ∀ (w' : World) (L' : List Chunk), Mem [] w w' L' → ∀ x ∈ l, MxOk w' x := fun _ _ M' x hx => by
    have h := hok x hx
    exact ⟨h.lfit, h.num, h.be, h.so.now M', h.sp.now M', h.lo, h.lp⟩
  have NA : ∀ (w : World) (z : Int), z = me → Calls Tryz.prog 23 #[.int .i64 z, .string (mkS seed), .int .u32 (I32 ba)] w fun e w' => ∃ g C, e = .returned (.tuple #[.pointer (some ⟨g, 0, none⟩), .int .i64 0]) ∧ IsLink g (linkOf seed me o a b ba 0) C ∧ Mem [] w w' [C] := fun w z hz => by subst hz; exact LinkNew_ok seed _ o a b ba w (by omega) he
  have heb : EndOf o me b a := by rcases he with ⟨h1, h2, h3, h4⟩ | ⟨h1, h2, h3, h4⟩; exact .inr ⟨h2, h1, h4, h3⟩; exact .inl ⟨h2, h1, h4, h3⟩
  have NB : ∀ (w : World) (z : Int), z = o → Calls Tryz.prog 23 #[.int .i64 z, .string (mkS seed), .int .u32 (I32 bb)] w fun e w' => ∃ g C, e = .returned (.tuple #[.pointer (some ⟨g, 0, none⟩), .int .i64 0]) ∧ IsLink g (linkOf seed o me b a bb 0) C ∧ Mem [] w w' [C] := fun w z hz => by subst hz; exact LinkNew_ok seed _ me b a bb w (by omega) heb
  have hmo : 0 ≤ me ∧ me ≤ 1 ∧ 1 - me = o := by rcases he with ⟨h1, h2, _, _⟩ | ⟨h1, h2, _, _⟩ <;> omega
  replace he := Lib.hid he
  replace heb := Lib.hid heb
  replace GC := Lib.hid GC
  replace NA := Lib.hid NA
  replace NB := Lib.hid NB
  replace OK' := Lib.hid OK'
  replace heach := Lib.hid heach
  replace hok := Lib.hid hok
  go_enter Tryz.func8, Tryz.ntmps8
  go_wp2_with ((first | ((with_reducible refine tGuard ?_); (with_reducible refine w_stripE ?_ ?_); (focus (refine ⟨_, rfl, ?_⟩; first | (with_reducible rfl) | exact decide_eq_false (by omega) | exact decide_eq_true (by omega)))) | ((with_reducible refine tGuard ?_); first | ((with_reducible refine w_skip1 ?_ ?_); (focus (refine ⟨_, rfl, ?_⟩; first | (with_reducible rfl) | exact decide_eq_false (by omega) | exact decide_eq_true (by omega)))) | ((with_reducible refine w_skip0 ?_ ?_); (focus (refine ⟨_, rfl, ?_⟩; first | (with_reducible rfl) | exact decide_eq_false (by omega) | exact decide_eq_true (by omega))))) | (go_at_call 27; go_must (refine (awake19_c _).mono ?_; rintro e w1 ⟨rfl, hb⟩; replace M := M.call hb; clear hb)) | (go_at_call 29; go_must (refine (GC.out _ (S.now M) (OK'.out _ _ M)).mono ?_; rintro e w1 ⟨rfl, hb⟩; replace M := M.call hb; clear hb)) | (go_at_call 23; go_must (first | (with_reducible refine (NA.out _ _ (by omega)).mono ?_; rintro e w1 ⟨ga, ca, rfl, IA, MJ⟩) | (with_reducible refine (NB.out _ _ (by omega)).mono ?_; rintro e w1 ⟨gb, cb, rfl, IB, MJ⟩)); replace M := M.join MJ; clear MJ; simp only [List.cons_append, List.nil_append] at M) | ((with_reducible refine tGuard ?_); first | refine gdS ?_ | (refine gdC ?_ ?_ <;> (intro hgd; rw [hgd]; try (exfalso; simp at hgd; omega)))) | fail | ((with_reducible refine tLoad ?_); go_must (refine ldS ?_)) | ((with_reducible refine tStore ?_); go_must (refine stS ?_; clear M; intro w1 M; (try simp only [setC] at M))) | ((with_reducible refine tBox _ ?_); (refine bxA M ?_; clear M; intro g w1 M))) <;> (try conv => arg 5; simp only [Act.put, List.setIfInBounds_toArray, setC]))
  replace M := (M.nil 3).nil 107
  go_loopw [18, 19, 20] (fun mv pv iv wr => ∃ (k q : Nat) (n : UInt64) (c : Chunk) (Xs : List Mx) (Ds : List (List UInt8)), k ≤ l.length ∧ iv = .int .i64 k ∧ q ≤ k ∧ n.toNat = q ∧ Hid (Xs.length = q ∧ Ds.length = q) ∧ Hid (KeptL seed a b ba l Xs Ds) ∧ IsLink ga (linkOf seed me o a b ba n) c ∧ Mem [] w wr [.sl 107 mv q (Xs.flatMap mxV), .sl 3 pv q (Ds.flatMap (pkV me o)), cb, c]) (fun _ _ iv _ => l.length - (intOf iv).toNat)
  case atStart => exact ⟨0, 0, 0, ca, [], [], by omega, rfl, by omega, by decide, Lib.hid ⟨rfl, rfl⟩, Lib.hid (fun j x D hx => by simp at hx), IA, M⟩
  case round =>
    clear M IA NA NB GC
    obtain ⟨k, q, n, c, Xs, Ds, hk, rfl, hqk, hnq, HL, HK, IC, M⟩ := hrel
    by_cases hlt : k < l.length
    · obtain ⟨g, so, rfl⟩ := S.addr (by omega)
      obtain ⟨x, hx⟩ : ∃ x, l[k]? = some x := ⟨_, List.getElem?_eq_getElem hlt⟩
      have HX := Lib.hid hx
      have hm := List.mem_of_getElem? hx
      have HM := Lib.hid hm
      have XO := hok.out x hm
      have hrng := great_rng XO.num XO.be (heach.out x hm)
      clear hx hm
      have RC : ∀ (w' : World) (L' : List Chunk), Mem [] w w' L' → Calls Tryz.prog 33 #[.agg (mxV x).toArray] w' fun e w'' => e = .returned (.int .i64 (bytesM x.L).2) ∧ Below w'.heap.size w' w'' := fun w' L' M => Right_c x.L x.ov x.pv w' XO.lfit hrng (XO.so.now M) (XO.sp.now M)
      rcases bytesM_cases XO.lfit hrng with ⟨z, hz0, eb⟩ | ⟨hk', ho, hon, eb⟩
      · have SB : ∀ (w' : World) (L' : List Chunk), Mem [] w w' L' → c.ok w' → Calls Tryz.prog 24 #[.pointer (some ⟨ga, 0, none⟩), .agg (mxV x).toArray] w' fun r w'' => r = .returned (.tuple #[.agg #[.int .i64 0, .int .i64 0, .string (mkS [])], .int .i64 z]) ∧ Below w'.heap.size w' w'' := fun w' L' M h => Send_bad x.L x.ov x.pv h IC XO.lfit hrng (XO.so.now M) (XO.sp.now M) hz0 eb
        rw [eb] at RC
        simp only at RC
        have hz : ((z : Int) != 0) = true := by simp; exact hz0
        have hz2 : ((z : Int) == 0) = false := by simp; exact hz0
        have hz3 : ((z : Int) != (z : Int)) = false := by simp
        replace SB := Lib.hid SB
        replace RC := Lib.hid RC
        clear eb XO hrng hz0
        go_wp2_with ((first | ((with_reducible refine tGuard ?_); (with_reducible refine w_stripE ?_ ?_); (focus (refine ⟨_, rfl, ?_⟩; first | (with_reducible rfl) | exact decide_eq_false (by omega) | exact decide_eq_true (by omega)))) | ((with_reducible refine tGuard ?_); first | ((with_reducible refine w_skip1 ?_ ?_); (focus (refine ⟨_, rfl, ?_⟩; first | (with_reducible rfl) | exact decide_eq_false (by omega) | exact decide_eq_true (by omega)))) | ((with_reducible refine w_skip0 ?_ ?_); (focus (refine ⟨_, rfl, ?_⟩; first | (with_reducible rfl) | exact decide_eq_false (by omega) | exact decide_eq_true (by omega))))) | ((with_reducible refine tGuard ?_); (with_reducible refine w_stripE ?_ ?_); (focus (refine ⟨_, rfl, ?_⟩; first | (simp; omega) | (simp; done)))) | ((with_reducible refine tGuard ?_); first | ((with_reducible refine w_skip1 ?_ ?_); (focus (refine ⟨_, rfl, ?_⟩; first | (simp; omega) | (simp; done)))) | ((with_reducible refine w_skip0 ?_ ?_); (focus (refine ⟨_, rfl, ?_⟩; first | (simp; omega) | (simp; done))))) | ((with_reducible show wpList _ _ _ (Oper.mk _ (Op.load 67 _) _ _ _ _ :: _) _ _); refine w_at _ _ rfl (by exact ev_tmp rfl) ?_; intro hx; refine w_seeA M S HX.out _ _ rfl hx rfl (by kernel_rfl) (by first | rfl | omega | (simp; omega)) (by rw [mxV_len]; kernel_rfl) ?_; clear hx) | (go_at_call 24; go_must (refine (SB.out _ _ M (M.ok 3 _ at3)).mono ?_; rintro e w1 ⟨rfl, hb⟩; replace M := M.call hb; clear hb)) | (go_at_call 33; go_must (refine (RC.out _ _ M).mono ?_; rintro e w1 ⟨rfl, hb⟩; replace M := M.call hb; clear hb)) | ((with_reducible refine tAlloc (some 21) 58 ?_); refine w_alloc M _ rfl rfl (.agg #[.int .i64 0, .int .i64 0, .string (mkS [])]) ([.int .i64 0, .int .i64 0, .string (mkS [])]) (by kernel_rfl) rfl ?_; clear M; intro gp w1 M) | ((with_reducible refine tGuard ?_); first | refine gdS ?_ | (refine gdC ?_ ?_ <;> (intro hgd; rw [hgd]; try (exfalso; simp at hgd; omega)))) | fail | ((with_reducible refine tLoad ?_); go_must (refine ldS ?_)) | ((with_reducible refine tStore ?_); go_must (refine stS ?_; clear M; intro w1 M; (try simp only [setC] at M))) | ((with_reducible refine tBox _ ?_); (refine bxA M ?_; clear M; intro g w1 M))) <;> (try conv => arg 5; simp only [Act.put, List.setIfInBounds_toArray, setC]))
        go_roundw
        case rel => exact ⟨k + 1, q, n, c, Xs, Ds, by omega, by go_num, by omega, hnq, HL, HK, IC, M.tail⟩
        case measure => simp [intOf]; omega
      · have hsh := bytesL_short XO.lfit hrng hk' ho
        have SC : ∀ (w' : World) (L' : List Chunk), Mem [] w w' L' → L'[3]? = some c → Calls Tryz.prog 24 #[.pointer (some ⟨ga, 0, none⟩), .agg (mxV x).toArray] w' fun r w'' => r = .returned (.tuple #[.agg #[.int .i64 me, .int .i64 o, .string (mkS (envB (RingS.env ⟨masterK seed a b, 0, ba, n⟩ (aboutK a b) (bytesL x.L))))], .int .i64 0]) ∧ ∃ c', IsLink ga (linkOf seed me o a b ba (n + 1)) c' ∧ Upd w' c w'' c' := fun w' L' M hi => Send_ok x.L x.ov x.pv a b (M.ok 3 c hi) IC he.out (by show (masterK seed a b).length ≤ _; rw [masterK_len]; decide) (by show 0 ≤ 1048576; decide) (by show n.toNat < _; omega) XO.lfit hrng (XO.so.now M) (XO.sp.now M) (fresh_apart M hi XO.so) (fresh_apart M hi XO.sp) hk' ho eb
        rw [eb] at RC
        simp only [show ((0 : Nat) : Int) = 0 from rfl] at RC
        have HK' := HK.out.snoc (HL.out.1.trans HL.out.2.symm) HM.out hk' ho hon n
        obtain ⟨D, eD⟩ : ∃ B, B = envB (RingS.env ⟨masterK seed a b, 0, ba, n⟩ (aboutK a b) (bytesL x.L)) := ⟨_, rfl⟩
        rw [← eD] at SC HK'
        have hn1 := u64_succB n q hnq (by omega)
        replace SC := Lib.hid SC
        replace RC := Lib.hid RC
        replace HK' := Lib.hid HK'
        clear eD eb XO hrng hk' ho hon hsh
        go_wp2_with ((first | ((with_reducible refine tGuard ?_); (with_reducible refine w_stripE ?_ ?_); (focus (refine ⟨_, rfl, ?_⟩; first | (with_reducible rfl) | exact decide_eq_false (by omega) | exact decide_eq_true (by omega)))) | ((with_reducible refine tGuard ?_); first | ((with_reducible refine w_skip1 ?_ ?_); (focus (refine ⟨_, rfl, ?_⟩; first | (with_reducible rfl) | exact decide_eq_false (by omega) | exact decide_eq_true (by omega)))) | ((with_reducible refine w_skip0 ?_ ?_); (focus (refine ⟨_, rfl, ?_⟩; first | (with_reducible rfl) | exact decide_eq_false (by omega) | exact decide_eq_true (by omega))))) | ((with_reducible refine tGuard ?_); (with_reducible refine w_stripE ?_ ?_); (focus (refine ⟨_, rfl, ?_⟩; first | (simp; omega) | (simp; done)))) | ((with_reducible refine tGuard ?_); first | ((with_reducible refine w_skip1 ?_ ?_); (focus (refine ⟨_, rfl, ?_⟩; first | (simp; omega) | (simp; done)))) | ((with_reducible refine w_skip0 ?_ ?_); (focus (refine ⟨_, rfl, ?_⟩; first | (simp; omega) | (simp; done))))) | ((with_reducible show wpList _ _ _ (Oper.mk _ (Op.load 67 _) _ _ _ _ :: _) _ _); refine w_at _ _ rfl (by exact ev_tmp rfl) ?_; intro hx; refine w_seeA M S HX.out _ _ rfl hx rfl (by kernel_rfl) (by first | rfl | omega | (simp; omega)) (by rw [mxV_len]; kernel_rfl) ?_; clear hx) | (go_at_call 24; go_must (refine (SC.out _ _ M at3).mono ?_; rintro e w1 ⟨rfl, c1, I1, U⟩; replace M := M.upd 3 at3 U; clear U; simp only [setC] at M)) | (go_at_call 33; go_must (refine (RC.out _ _ M).mono ?_; rintro e w1 ⟨rfl, hb⟩; replace M := M.call hb; clear hb)) | ((with_reducible refine tAlloc (some 21) 58 ?_); refine w_alloc M _ rfl rfl (.agg #[.int .i64 0, .int .i64 0, .string (mkS [])]) ([.int .i64 0, .int .i64 0, .string (mkS [])]) (by kernel_rfl) rfl ?_; clear M; intro gp w1 M) | ((with_reducible show wpList _ _ _ (Oper.mk _ (Op.buildSlice 72 1 _) _ _ _ _ :: _) _ _); go_must (refine w_buildSlice1 M msgT (by decide) _ rfl rfl (by exact ev_tmp rfl) (mxV x) rfl (mxV_len x) ?_; clear M; intro g1 w1 M)) | ((with_reducible show wpList _ _ _ (Oper.mk _ (Op.buildSlice 82 1 _) _ _ _ _ :: _) _ _); go_must (refine w_buildSlice1 M pkT (by decide) _ rfl rfl (by exact ev_tmp rfl) [.int .i64 me, .int .i64 o, .string (mkS D)] rfl rfl ?_; clear M; intro g2 w1 M)) | ((with_reducible show wpList _ _ _ (Oper.mk _ (Op.call ⟨Callee.builtin Builtin.append, _, #[72, _]⟩) _ _ _ _ :: _) _ _); go_must (refine w_append_new M 1 msgT _ _ rfl rfl rfl rfl rfl (mxV_len x) (mxV_one x) (by decide) (by simp only [maxLen]; omega) (by omega) ?_; clear M; intro q1 c1' w1 M; (try simp only [setC] at M))) | ((with_reducible show wpList _ _ _ (Oper.mk _ (Op.call ⟨Callee.builtin Builtin.append, _, #[82, _]⟩) _ _ _ _ :: _) _ _); go_must (refine w_append_new M 2 pkT _ _ rfl rfl rfl rfl rfl rfl (by intro q hq; simp at hq; rcases hq with rfl | rfl | rfl <;> rfl) (by decide) (by simp only [maxLen]; omega) (by omega) ?_; clear M; intro q2 c2' w1 M; (try simp only [setC] at M))) | ((with_reducible refine tGuard ?_); first | refine gdS ?_ | (refine gdC ?_ ?_ <;> (intro hgd; rw [hgd]; try (exfalso; simp at hgd; omega)))) | fail | ((with_reducible refine tLoad ?_); go_must (refine ldS ?_)) | ((with_reducible refine tStore ?_); go_must (refine stS ?_; clear M; intro w1 M; (try simp only [setC] at M))) | ((with_reducible refine tBox _ ?_); (refine bxA M ?_; clear M; intro g w1 M))) <;> (try conv => arg 5; simp only [Act.put, List.setIfInBounds_toArray, setC]))
        rw [snoc_mx, snoc_pk] at M
        go_roundw
        case rel => exact ⟨k + 1, q + 1, n + 1, c1, Xs ++ [x], Ds ++ [D], by omega, by go_num, by omega, hn1, Lib.hid ⟨by simp [HL.out.1], by simp [HL.out.2]⟩, HK', I1, M.tail⟩
        case measure => simp [intOf]; omega
    · obtain rfl : k = l.length := by omega
      obtain ⟨q1, c1, rfl⟩ := Own.form0 (M.ok 0 _ at0)
      obtain ⟨q2, c2, rfl⟩ := Own.form0 (M.ok 1 _ at1)
      have LC : ∀ (w : World), c.ok w → Calls Tryz.prog 26 #[.pointer (some ⟨ga, 0, none⟩)] w fun e w' => e = .returned (.tuple #[.int .u32 (I32 ba), .int .u64 (q : Int)]) ∧ Below w.heap.size w w' := fun w h => by
        have := LinkCount_c h IC
        have e : I64 (linkOf seed me o a b ba n).out.n = (q : Int) := by show ((n.toNat : Nat) : Int) = _; rw [hnq]
        rw [e] at this; exact this
      replace LC := Lib.hid LC
      have hq64 : ((q : Int) != I64 (w64 (q : Int))) = false := by rw [I64_nat q (by omega)]; simp
      go_wp2_with ((first | ((with_reducible refine tGuard ?_); (with_reducible refine w_stripE ?_ ?_); (focus (refine ⟨_, rfl, ?_⟩; first | (with_reducible rfl) | exact decide_eq_false (by omega) | exact decide_eq_true (by omega)))) | ((with_reducible refine tGuard ?_); first | ((with_reducible refine w_skip1 ?_ ?_); (focus (refine ⟨_, rfl, ?_⟩; first | (with_reducible rfl) | exact decide_eq_false (by omega) | exact decide_eq_true (by omega)))) | ((with_reducible refine w_skip0 ?_ ?_); (focus (refine ⟨_, rfl, ?_⟩; first | (with_reducible rfl) | exact decide_eq_false (by omega) | exact decide_eq_true (by omega))))) | (go_at_call 26; go_must (refine (LC.out _ (M.ok 3 _ at3)).mono ?_; rintro e w1 ⟨rfl, hb⟩; replace M := M.call hb; clear hb)) | ((with_reducible refine tGuard ?_); first | refine gdS ?_ | (refine gdC ?_ ?_ <;> (intro hgd; rw [hgd]; try (exfalso; simp at hgd; omega)))) | fail | ((with_reducible refine tLoad ?_); go_must (refine ldS ?_)) | ((with_reducible refine tStore ?_); go_must (refine stS ?_; clear M; intro w1 M; (try simp only [setC] at M))) | ((with_reducible refine tBox _ ?_); (refine bxA M ?_; clear M; intro g w1 M))) <;> (try conv => arg 5; simp only [Act.put, List.setIfInBounds_toArray, setC]))
      replace M : Mem [] w _ [cb, .sl 107 (.slice q1 q c1) q (Xs.flatMap mxV), .sl 3 (.slice q2 q c2) q (Ds.flatMap (pkV me o)), c] := M.sel [2, 0, 1, 3] _ (by decide) rfl
      go_loopw [25] (fun iv wr => ∃ (k : Nat) (c' : Chunk), k ≤ T.length + q ∧ iv = .int .i64 k ∧ IsLink gb (linkOf seed o me b a bb 0) c' ∧ Mem [] w wr [c', .sl 107 (.slice q1 q c1) q (Xs.flatMap mxV), .sl 3 (.slice q2 q c2) q (Ds.flatMap (pkV me o)), c]) (fun iv _ => T.length + q - (intOf iv).toNat)
      case atStart => exact ⟨0, cb, by omega, rfl, IB, M⟩
      case round =>
        clear M IB LC
        obtain ⟨k, c', hk2, rfl, JC, M⟩ := hrel
        by_cases hlt2 : k < T.length + q
        · by_cases hq0 : q = 0
          · subst hq0
            go_wp2_with ((first | ((with_reducible refine tGuard ?_); (with_reducible refine w_stripE ?_ ?_); (focus (refine ⟨_, rfl, ?_⟩; first | (with_reducible rfl) | exact decide_eq_false (by omega) | exact decide_eq_true (by omega)))) | ((with_reducible refine tGuard ?_); first | ((with_reducible refine w_skip1 ?_ ?_); (focus (refine ⟨_, rfl, ?_⟩; first | (with_reducible rfl) | exact decide_eq_false (by omega) | exact decide_eq_true (by omega)))) | ((with_reducible refine w_skip0 ?_ ?_); (focus (refine ⟨_, rfl, ?_⟩; first | (with_reducible rfl) | exact decide_eq_false (by omega) | exact decide_eq_true (by omega))))) | ((with_reducible refine tGuard ?_); first | refine gdS ?_ | (refine gdC ?_ ?_ <;> (intro hgd; rw [hgd]; try (exfalso; simp at hgd; omega)))) | fail | ((with_reducible refine tLoad ?_); go_must (refine ldS ?_)) | ((with_reducible refine tStore ?_); go_must (refine stS ?_; clear M; intro w1 M; (try simp only [setC] at M))) | ((with_reducible refine tBox _ ?_); (refine bxA M ?_; clear M; intro g w1 M))) <;> (try conv => arg 5; simp only [Act.put, List.setIfInBounds_toArray, setC]))
            go_ret
            exact ⟨by first | rfl | simp, M.below⟩
          · obtain ⟨b1, o1, rfl⟩ := M.slAddr 1 at1 (by omega)
            obtain ⟨b2, o2, rfl⟩ := M.slAddr 2 at2 (by omega)
            by_cases hkt : k < T.length
            · obtain ⟨g3, so3, rfl⟩ := ST.addr (by omega)
              obtain ⟨y, hy⟩ : ∃ y, T[k]? = some y := ⟨_, List.getElem?_eq_getElem hkt⟩
              have HY := Lib.hid hy
              have hmod := modW y q (by omega)
              obtain ⟨j, ej⟩ : ∃ j, j = y.toNat % q := ⟨_, rfl⟩
              have hj : j < q := by rw [ej]; exact Nat.mod_lt _ (by omega)
              rw [← ej] at hmod
              clear ej hy
              obtain ⟨x, hxm⟩ : ∃ x, Xs[j]? = some x := ⟨_, List.getElem?_eq_getElem (by rw [HL.out.1]; exact hj)⟩
              obtain ⟨D, hD⟩ : ∃ x, Ds[j]? = some x := ⟨_, List.getElem?_eq_getElem (by rw [HL.out.2]; exact hj)⟩
              obtain ⟨hm, hk', ho, hon, n', eD⟩ := HK.out j x D hxm hD
              have XO := hok.out x hm
              have hrng := great_rng XO.num XO.be (heach.out x hm)
              have hsh := bytesL_short XO.lfit hrng hk' ho
              have hop := link_open seed a b ba n' (bytesL x.L) hsh
              have hln := link_len seed a b ba n' (bytesL x.L) hsh
              rw [← eD] at hop hln
              have CC : ∀ (w : World), c'.ok w → Calls Tryz.prog 25 #[.pointer (some ⟨gb, 0, none⟩), .agg (pkV me o D).toArray] w fun e w' => ∃ ov pv c'', e = .returned (.tuple #[.agg (msgC (x.L.ms ov pv)).toArray, .int .i64 0]) ∧ IsLink gb (linkOf seed o me b a bb 0) c'' ∧ Mem c'.fp w w' [.sl 3 ov x.L.ops.length (x.L.ops.flatMap opV), .sl 2 pv x.L.prs.length (x.L.prs.flatMap prV), c''] := fun w h => by
                have := Come_ok D b a h JC heb.out (by show (masterK seed a b).length ≤ _; rw [masterK_len]; decide) (by omega) (by show (openL (masterK seed a b) 0 D (aboutK a b)).2 = 0; rw [hop])
                have hop2 : openL (linkOf seed o me b a bb 0).inn.m (linkOf seed o me b a bb 0).inn.c D (aboutK a b) = (bytesL x.L, 0) := hop
                rw [hop2, read_right XO.lfit hrng hk' ho hon] at this
                exact this
              have SM : ∀ (ov pv : Value) (w' : World) (L' : List Chunk), Mem [] w w' L' → SeesL w' 3 opV ov x.L.ops → SeesL w' 2 prV pv x.L.prs → Calls Tryz.prog 28 #[.agg (msgC (x.L.ms ov pv)).toArray, .agg (mxV x).toArray] w' fun r w'' => r = .returned (.bool true) ∧ Below w'.heap.size w' w'' := fun ov pv w' L' M S1 T1 => by
                have := Same_c x.L x.L ov pv x.ov x.pv w' XO.lfit XO.lfit S1 T1 (XO.so.now M) (XO.sp.now M) (by have := hrng.o1; omega) (by have := hrng.p1; omega) (by have := hrng.o1; omega) (by have := hrng.p1; omega)
                rw [decide_eq_true rfl] at this; exact this
              have hwf := XO.lfit
              have HXM := Lib.hid hxm
              have HD := Lib.hid hD
              replace CC := Lib.hid CC
              replace SM := Lib.hid SM
              clear hxm hD hm hk' ho hon eD XO hrng hsh hop hln
              go_wp2_with ((first | ((with_reducible refine tGuard ?_); (with_reducible refine w_stripE ?_ ?_); (focus (refine ⟨_, rfl, ?_⟩; first | (with_reducible rfl) | exact decide_eq_false (by omega) | exact decide_eq_true (by omega)))) | ((with_reducible refine tGuard ?_); first | ((with_reducible refine w_skip1 ?_ ?_); (focus (refine ⟨_, rfl, ?_⟩; first | (with_reducible rfl) | exact decide_eq_false (by omega) | exact decide_eq_true (by omega)))) | ((with_reducible refine w_skip0 ?_ ?_); (focus (refine ⟨_, rfl, ?_⟩; first | (with_reducible rfl) | exact decide_eq_false (by omega) | exact decide_eq_true (by omega))))) | ((with_reducible refine tGuard ?_); (with_reducible refine w_stripE ?_ ?_); (focus (refine ⟨_, rfl, ?_⟩; first | (simp; omega) | (simp; done)))) | ((with_reducible refine tGuard ?_); first | ((with_reducible refine w_skip1 ?_ ?_); (focus (refine ⟨_, rfl, ?_⟩; first | (simp; omega) | (simp; done)))) | ((with_reducible refine w_skip0 ?_ ?_); (focus (refine ⟨_, rfl, ?_⟩; first | (simp; omega) | (simp; done))))) | ((with_reducible refine tLoad ?_); refine w_at _ _ rfl (by exact ev_tmp rfl) ?_; intro hx; first | (refine w_seeA M ST HY.out _ _ rfl hx rfl (by decide +kernel) (by first | (with_reducible rfl) | omega) (by kernel_rfl) ?_; clear hx; (try conv => arg 5; simp only [Act.put, List.setIfInBounds_toArray, setC, u8V])) | (refine w_see M ST HY.out _ _ rfl hx rfl (by decide +kernel) 0 (by first | (with_reducible rfl) | omega) rfl ?_; clear hx) | (refine w_see M ST HY.out _ _ rfl hx rfl (by decide +kernel) 1 (by first | (with_reducible rfl) | omega) rfl ?_; clear hx) | (refine w_see M ST HY.out _ _ rfl hx rfl (by decide +kernel) 2 (by first | (with_reducible rfl) | omega) rfl ?_; clear hx)) | ((with_reducible show Code.wp _ (Code.region 32 _ _) _ _ _); rw [hmod]) | ((with_reducible show wpList _ _ _ (Oper.mk _ (Op.load 58 _) _ _ _ _ :: _) _ _); refine w_at _ _ rfl (by exact ev_tmp rfl) ?_; go_must (intro hx; refine w_ownA M 2 (pkV_len me o) rfl HD.out _ _ rfl hx rfl (by decide +kernel) (by first | rfl | omega) (by kernel_rfl) ?_; clear hx)) | (go_at_call 25; go_must (refine (CC.out _ (M.ok 0 _ at0)).mono ?_; rintro e w1 ⟨rov, rpv, c2', rfl, J1, U⟩; replace M := turn1 M U; clear U; simp only [List.cons_append, List.nil_append] at M; have hrf := ms_fit2 hwf M)) | ((with_reducible refine tAlloc (some 27) 67 ?_); refine w_alloc M _ rfl rfl (.agg (msgC zeroM).toArray) (msgC zeroM) (by kernel_rfl) rfl ?_; clear M; intro gm w1 M) | ((with_reducible show Code.wp _ (Code.region 33 _ _) _ _ _); go_must (have MR := M; refine region_lowc [(0, false), (1, false), (2, false), (4, false), (5, false), (6, false), (3, false), (7, false), (8, true), (9, false), (10, false)] [(145, .int)] [(3, _), (7, _)] (IxOk MR [0, 4]) 11 (by kernel_rfl) (by kernel_rfl) rfl (by kernel_rfl) (lows_cons (stab_ixR MR 0 rfl rfl (by decide) (by decide +kernel) (by rw [(msgC_len hrf)]; kernel_rfl)) (lows_cons (stab_ownA MR 4 mxV_len rfl (by decide) HXM.out rfl (by decide +kernel) (by rw [mxV_len]; kernel_rfl)) lows_nil)) (ixOk_self MR _) ?_; replace M := M.drew; simp only [planC, opAt, List.getElem?_toArray, List.getElem?_cons_zero, List.getElem?_cons_succ, Option.getD_some])) | ((with_reducible show wpList _ _ _ (Oper.mk _ (Op.load 67 _) _ _ _ _ :: _) _ _); refine w_at _ _ rfl (by exact ev_tmp rfl) ?_; intro hx; (first | refine w_loadMs M 0 _ _ rfl rfl hx rfl (by decide +kernel) (by kernel_rfl) hrf ?_ | refine w_ownA M 4 mxV_len rfl HXM.out _ _ rfl hx rfl (by decide +kernel) (by first | rfl | omega) (by rw [mxV_len]; kernel_rfl) ?_); clear hx) | ((with_reducible show wpList _ _ _ (Oper.mk _ (Op.store 67 _ _) _ _ _ _ :: _) _ _); refine w_at2 _ _ _ rfl (by exact ev_tmp rfl) (by first | exact ev_tmp rfl | exact ev_const) ?_; intro hx hy; refine w_storeMs (m := x.L.ms rov rpv) M 0 _ _ _ rfl rfl hx rfl hy rfl (by kernel_rfl) hrf zeroM_fit ?_; clear hx hy M; intro w1 M; (try simp only [setC] at M)) | (go_at_call 28; go_must (refine (SM.out _ _ _ _ M (SeesL.own M 1 rfl rfl opV_len) (SeesL.own M 2 rfl rfl prV_len)).mono ?_; rintro e w1 ⟨rfl, hb⟩; replace M := M.call hb; clear hb)) | ((with_reducible show Seg _ _ _ _); go_must (first | refine Seg.intro ⟨fun h => absurd rfl h, ?_⟩ | refine Seg.intro ⟨fun _ => ixA, ?_⟩ | refine Seg.intro ⟨ndA, atA, ?_⟩)) | ((with_reducible show OnlyN _ _ _ _ _); refine OnlyN.intro (by kernel_rfl) ?_) | ((with_reducible refine tGuard ?_); first | refine gdS ?_ | (refine gdC ?_ ?_ <;> (intro hgd; rw [hgd]; try (exfalso; simp at hgd; omega)))) | fail | ((with_reducible refine tLoad ?_); go_must (refine ldS ?_)) | ((with_reducible refine tStore ?_); go_must (refine stS ?_; clear M; intro w1 M; (try simp only [setC] at M))) | ((with_reducible refine tBox _ ?_); (refine bxA M ?_; clear M; intro g w1 M))) <;> (try conv => arg 5; simp only [Act.put, List.setIfInBounds_toArray, setC]))
              go_roundw
              case rel => exact ⟨k + 1, c2', by omega, by go_num, J1, M.tail.tail.tail⟩
              case measure => simp [intOf]; omega
            · have hmod := modN k q (by omega)
              obtain ⟨j, ej⟩ : ∃ j, j = k % q := ⟨_, rfl⟩
              have hj : j < q := by rw [ej]; exact Nat.mod_lt _ (by omega)
              rw [← ej] at hmod
              clear ej
              obtain ⟨x, hxm⟩ : ∃ x, Xs[j]? = some x := ⟨_, List.getElem?_eq_getElem (by rw [HL.out.1]; exact hj)⟩
              obtain ⟨D, hD⟩ : ∃ x, Ds[j]? = some x := ⟨_, List.getElem?_eq_getElem (by rw [HL.out.2]; exact hj)⟩
              obtain ⟨hm, hk', ho, hon, n', eD⟩ := HK.out j x D hxm hD
              have XO := hok.out x hm
              have hrng := great_rng XO.num XO.be (heach.out x hm)
              have hsh := bytesL_short XO.lfit hrng hk' ho
              have hop := link_open seed a b ba n' (bytesL x.L) hsh
              have hln := link_len seed a b ba n' (bytesL x.L) hsh
              rw [← eD] at hop hln
              have CC : ∀ (w : World), c'.ok w → Calls Tryz.prog 25 #[.pointer (some ⟨gb, 0, none⟩), .agg (pkV me o D).toArray] w fun e w' => ∃ ov pv c'', e = .returned (.tuple #[.agg (msgC (x.L.ms ov pv)).toArray, .int .i64 0]) ∧ IsLink gb (linkOf seed o me b a bb 0) c'' ∧ Mem c'.fp w w' [.sl 3 ov x.L.ops.length (x.L.ops.flatMap opV), .sl 2 pv x.L.prs.length (x.L.prs.flatMap prV), c''] := fun w h => by
                have := Come_ok D b a h JC heb.out (by show (masterK seed a b).length ≤ _; rw [masterK_len]; decide) (by omega) (by show (openL (masterK seed a b) 0 D (aboutK a b)).2 = 0; rw [hop])
                have hop2 : openL (linkOf seed o me b a bb 0).inn.m (linkOf seed o me b a bb 0).inn.c D (aboutK a b) = (bytesL x.L, 0) := hop
                rw [hop2, read_right XO.lfit hrng hk' ho hon] at this
                exact this
              have SM : ∀ (ov pv : Value) (w' : World) (L' : List Chunk), Mem [] w w' L' → SeesL w' 3 opV ov x.L.ops → SeesL w' 2 prV pv x.L.prs → Calls Tryz.prog 28 #[.agg (msgC (x.L.ms ov pv)).toArray, .agg (mxV x).toArray] w' fun r w'' => r = .returned (.bool true) ∧ Below w'.heap.size w' w'' := fun ov pv w' L' M S1 T1 => by
                have := Same_c x.L x.L ov pv x.ov x.pv w' XO.lfit XO.lfit S1 T1 (XO.so.now M) (XO.sp.now M) (by have := hrng.o1; omega) (by have := hrng.p1; omega) (by have := hrng.o1; omega) (by have := hrng.p1; omega)
                rw [decide_eq_true rfl] at this; exact this
              have hwf := XO.lfit
              have HXM := Lib.hid hxm
              have HD := Lib.hid hD
              replace CC := Lib.hid CC
              replace SM := Lib.hid SM
              clear hxm hD hm hk' ho hon eD XO hrng hsh hop hln
              go_wp2_with ((first | ((with_reducible refine tGuard ?_); (with_reducible refine w_stripE ?_ ?_); (focus (refine ⟨_, rfl, ?_⟩; first | (with_reducible rfl) | exact decide_eq_false (by omega) | exact decide_eq_true (by omega)))) | ((with_reducible refine tGuard ?_); first | ((with_reducible refine w_skip1 ?_ ?_); (focus (refine ⟨_, rfl, ?_⟩; first | (with_reducible rfl) | exact decide_eq_false (by omega) | exact decide_eq_true (by omega)))) | ((with_reducible refine w_skip0 ?_ ?_); (focus (refine ⟨_, rfl, ?_⟩; first | (with_reducible rfl) | exact decide_eq_false (by omega) | exact decide_eq_true (by omega))))) | ((with_reducible refine tGuard ?_); (with_reducible refine w_stripE ?_ ?_); (focus (refine ⟨_, rfl, ?_⟩; first | (simp; omega) | (simp; done)))) | ((with_reducible refine tGuard ?_); first | ((with_reducible refine w_skip1 ?_ ?_); (focus (refine ⟨_, rfl, ?_⟩; first | (simp; omega) | (simp; done)))) | ((with_reducible refine w_skip0 ?_ ?_); (focus (refine ⟨_, rfl, ?_⟩; first | (simp; omega) | (simp; done))))) | ((with_reducible show Code.wp _ (Code.region 32 _ _) _ _ _); rw [hmod]) | ((with_reducible show wpList _ _ _ (Oper.mk _ (Op.load 58 _) _ _ _ _ :: _) _ _); refine w_at _ _ rfl (by exact ev_tmp rfl) ?_; go_must (intro hx; refine w_ownA M 2 (pkV_len me o) rfl HD.out _ _ rfl hx rfl (by decide +kernel) (by first | rfl | omega) (by kernel_rfl) ?_; clear hx)) | (go_at_call 25; go_must (refine (CC.out _ (M.ok 0 _ at0)).mono ?_; rintro e w1 ⟨rov, rpv, c2', rfl, J1, U⟩; replace M := turn1 M U; clear U; simp only [List.cons_append, List.nil_append] at M; have hrf := ms_fit2 hwf M)) | ((with_reducible refine tAlloc (some 27) 67 ?_); refine w_alloc M _ rfl rfl (.agg (msgC zeroM).toArray) (msgC zeroM) (by kernel_rfl) rfl ?_; clear M; intro gm w1 M) | ((with_reducible show Code.wp _ (Code.region 33 _ _) _ _ _); go_must (have MR := M; refine region_lowc [(0, false), (1, false), (2, false), (4, false), (5, false), (6, false), (3, false), (7, false), (8, true), (9, false), (10, false)] [(145, .int)] [(3, _), (7, _)] (IxOk MR [0, 4]) 11 (by kernel_rfl) (by kernel_rfl) rfl (by kernel_rfl) (lows_cons (stab_ixR MR 0 rfl rfl (by decide) (by decide +kernel) (by rw [(msgC_len hrf)]; kernel_rfl)) (lows_cons (stab_ownA MR 4 mxV_len rfl (by decide) HXM.out rfl (by decide +kernel) (by rw [mxV_len]; kernel_rfl)) lows_nil)) (ixOk_self MR _) ?_; replace M := M.drew; simp only [planC, opAt, List.getElem?_toArray, List.getElem?_cons_zero, List.getElem?_cons_succ, Option.getD_some])) | ((with_reducible show wpList _ _ _ (Oper.mk _ (Op.load 67 _) _ _ _ _ :: _) _ _); refine w_at _ _ rfl (by exact ev_tmp rfl) ?_; intro hx; (first | refine w_loadMs M 0 _ _ rfl rfl hx rfl (by decide +kernel) (by kernel_rfl) hrf ?_ | refine w_ownA M 4 mxV_len rfl HXM.out _ _ rfl hx rfl (by decide +kernel) (by first | rfl | omega) (by rw [mxV_len]; kernel_rfl) ?_); clear hx) | ((with_reducible show wpList _ _ _ (Oper.mk _ (Op.store 67 _ _) _ _ _ _ :: _) _ _); refine w_at2 _ _ _ rfl (by exact ev_tmp rfl) (by first | exact ev_tmp rfl | exact ev_const) ?_; intro hx hy; refine w_storeMs (m := x.L.ms rov rpv) M 0 _ _ _ rfl rfl hx rfl hy rfl (by kernel_rfl) hrf zeroM_fit ?_; clear hx hy M; intro w1 M; (try simp only [setC] at M)) | (go_at_call 28; go_must (refine (SM.out _ _ _ _ M (SeesL.own M 1 rfl rfl opV_len) (SeesL.own M 2 rfl rfl prV_len)).mono ?_; rintro e w1 ⟨rfl, hb⟩; replace M := M.call hb; clear hb)) | ((with_reducible show Seg _ _ _ _); go_must (first | refine Seg.intro ⟨fun h => absurd rfl h, ?_⟩ | refine Seg.intro ⟨fun _ => ixA, ?_⟩ | refine Seg.intro ⟨ndA, atA, ?_⟩)) | ((with_reducible show OnlyN _ _ _ _ _); refine OnlyN.intro (by kernel_rfl) ?_) | ((with_reducible refine tGuard ?_); first | refine gdS ?_ | (refine gdC ?_ ?_ <;> (intro hgd; rw [hgd]; try (exfalso; simp at hgd; omega)))) | fail | ((with_reducible refine tLoad ?_); go_must (refine ldS ?_)) | ((with_reducible refine tStore ?_); go_must (refine stS ?_; clear M; intro w1 M; (try simp only [setC] at M))) | ((with_reducible refine tBox _ ?_); (refine bxA M ?_; clear M; intro g w1 M))) <;> (try conv => arg 5; simp only [Act.put, List.setIfInBounds_toArray, setC]))
              go_roundw
              case rel => exact ⟨k + 1, c2', by omega, by go_num, J1, M.tail.tail.tail⟩
              case measure => simp [intOf]; omega
        · obtain rfl : k = T.length + q := by omega
          go_wp2_with ((first | ((with_reducible refine tGuard ?_); (with_reducible refine w_stripE ?_ ?_); (focus (refine ⟨_, rfl, ?_⟩; first | (with_reducible rfl) | exact decide_eq_false (by omega) | exact decide_eq_true (by omega)))) | ((with_reducible refine tGuard ?_); first | ((with_reducible refine w_skip1 ?_ ?_); (focus (refine ⟨_, rfl, ?_⟩; first | (with_reducible rfl) | exact decide_eq_false (by omega) | exact decide_eq_true (by omega)))) | ((with_reducible refine w_skip0 ?_ ?_); (focus (refine ⟨_, rfl, ?_⟩; first | (with_reducible rfl) | exact decide_eq_false (by omega) | exact decide_eq_true (by omega))))) | ((with_reducible refine tGuard ?_); first | refine gdS ?_ | (refine gdC ?_ ?_ <;> (intro hgd; rw [hgd]; try (exfalso; simp at hgd; omega)))) | fail | ((with_reducible refine tLoad ?_); go_must (refine ldS ?_)) | ((with_reducible refine tStore ?_); go_must (refine stS ?_; clear M; intro w1 M; (try simp only [setC] at M))) | ((with_reducible refine tBox _ ?_); (refine bxA M ?_; clear M; intro g w1 M))) <;> (try conv => arg 5; simp only [Act.put, List.setIfInBounds_toArray, setC]))
          go_ret
          exact ⟨by first | rfl | simp, M.below⟩
set_option maxRecDepth 100000 in
set_option maxHeartbeats 4000000 in
theorem LinkBack_great (mb : UInt8) (seed : List UInt8) (ba bb : UInt32) (l : List Mx) (T : List UInt8) (v tv : Value) (w : World) (S : SeesL w 107 mxV v l) (hok : ∀ x ∈ l, MxOk w x) (ST : SeesL w 1 u8V tv T) (h : ¬ (SmallL seed l ∧ T.length ≤ 40)) :
    Calls Tryz.prog 8 #[.int .u8 (I8 mb), .string (mkS seed), .int .u32 (I32 ba), .int .u32 (I32 bb), v, tv] w fun e w' => e = .returned (.bool true) ∧ Below w.heap.size w w' := by
  obtain ⟨p, cap, rfl, hc⟩ := S.form
  obtain ⟨p2, cap2, rfl, hc2⟩ := ST.form
  have M := Mem.start [] w
  have OK' : ∀ (w' : World) (L' : List Chunk), Mem [] w w' L' → ∀ x ∈ l, MxOk w' x := fun _ _ M' x hx => by
    have h := hok x hx
    exact ⟨h.lfit, h.num, h.be, h.so.now M', h.sp.now M', h.lo, h.lp⟩
  have GC : ∃ bo : Bool, (bo = true ∨ 40 < T.length) ∧ ∀ w' (S' : SeesL w' 107 mxV (.slice p l.length cap) l) (hok' : ∀ x ∈ l, MxOk w' x), Calls Tryz.prog 29 #[.string (mkS seed), .slice p l.length cap] w' fun e w'' => e = .returned (.bool bo) ∧ Below w'.heap.size w' w'' := by
    by_cases hs : SmallL seed l
    · exact ⟨false, .inr (by by_cases h2 : T.length ≤ 40; exact absurd ⟨hs, h2⟩ h; omega), fun w' S' hok' => great19_yes seed l _ w' S' hok' hs⟩
    · exact ⟨true, .inl rfl, fun w' S' hok' => great19_no seed l _ w' S' hok' hs⟩
  obtain ⟨bo, hbo, GC⟩ := GC
  replace GC := Lib.hid GC
  replace OK' := Lib.hid OK'
  clear hok h
  have hcs : bo = true ∨ (bo = false ∧ 40 < T.length) := by
    cases bo
    · exact .inr ⟨rfl, hbo.resolve_left (by decide)⟩
    · exact .inl rfl
  clear hbo
  rcases hcs with rfl | ⟨rfl, hbo⟩
  all_goals
    go_enter Tryz.func8, Tryz.ntmps8
    go_wp2_with ((first | ((with_reducible refine tGuard ?_); (with_reducible refine w_stripE ?_ ?_); (focus (refine ⟨_, rfl, ?_⟩; first | (with_reducible rfl) | exact decide_eq_false (by omega) | exact decide_eq_true (by omega)))) | ((with_reducible refine tGuard ?_); first | ((with_reducible refine w_skip1 ?_ ?_); (focus (refine ⟨_, rfl, ?_⟩; first | (with_reducible rfl) | exact decide_eq_false (by omega) | exact decide_eq_true (by omega)))) | ((with_reducible refine w_skip0 ?_ ?_); (focus (refine ⟨_, rfl, ?_⟩; first | (with_reducible rfl) | exact decide_eq_false (by omega) | exact decide_eq_true (by omega))))) | (go_at_call 27; go_must (refine (awake19_c _).mono ?_; rintro e w1 ⟨rfl, hb⟩; replace M := M.call hb; clear hb)) | (go_at_call 29; go_must (refine (GC.out _ (S.now M) (OK'.out _ _ M)).mono ?_; rintro e w1 ⟨rfl, hb⟩; replace M := M.call hb; clear hb)) | ((with_reducible refine tGuard ?_); first | refine gdS ?_ | (refine gdC ?_ ?_ <;> (intro hgd; rw [hgd]; try (exfalso; simp at hgd; omega)))) | fail | ((with_reducible refine tLoad ?_); go_must (refine ldS ?_)) | ((with_reducible refine tStore ?_); go_must (refine stS ?_; clear M; intro w1 M; (try simp only [setC] at M))) | ((with_reducible refine tBox _ ?_); (refine bxA M ?_; clear M; intro g w1 M))) <;> (try conv => arg 5; simp only [Act.put, List.setIfInBounds_toArray, setC]))
    go_ret
    exact ⟨by first | rfl | simp, M.below⟩
theorem LinkBack_any (mb : UInt8) (seed : List UInt8) (ba bb : UInt32) (l : List Mx) (T : List UInt8) (v tv : Value) (w : World) (S : SeesL w 107 mxV v l) (hok : ∀ x ∈ l, MxOk w x) (ST : SeesL w 1 u8V tv T) :
    Calls Tryz.prog 8 #[.int .u8 (I8 mb), .string (mkS seed), .int .u32 (I32 ba), .int .u32 (I32 bb), v, tv] w fun e w' => e = .returned (.bool true) ∧ Below w.heap.size w w' := by
  by_cases h : SmallL seed l ∧ T.length ≤ 40
  · have hmb := modB mb 2 (by omega)
    rcases (by omega : mb.toNat % 2 = 0 ∨ mb.toNat % 2 = 1) with e | e
    · exact LinkBack_small mb 0 1 0 1 (.inl ⟨rfl, rfl, rfl, rfl⟩) (by rw [e] at hmb; exact hmb) seed ba bb l T v tv w S hok ST h.1 h.2
    · exact LinkBack_small mb 1 0 1 0 (.inr ⟨rfl, rfl, rfl, rfl⟩) (by rw [e] at hmb; exact hmb) seed ba bb l T v tv w S hok ST h.1 h.2
  · exact LinkBack_great mb seed ba bb l T v tv w S hok ST h
end Go.Proofs.YtidadhbaomieiaaGreat
