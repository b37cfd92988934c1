/- The walk of LinkApart. Conditions: none but what every machine has. -/
import Derived.Test.YtidadhbaomieiaaGreatZh
namespace Go.Proofs.YtidadhbaomieiaaGreat
open Go.RowKit Go.TL
theorem u64_succL (n : UInt64) (k : Nat) (h : n.toNat ≤ k) (hk : k ≤ 1000) : (n + 1).toNat ≤ k + 1 := by
  rw [UInt64.toNat_add, show (1 : UInt64).toNat = 1 from rfl, Nat.mod_eq_of_lt (by omega)]; omega
set_option maxRecDepth 100000 in
set_option maxHeartbeats 16000000 in
theorem LinkApart_any (seed : List UInt8) (ba bb : UInt32) (l : List Mx) (v : Value) (w : World) (S : SeesL w 107 mxV v l) (hok : ∀ x ∈ l, MxOk w x) :
    Calls Tryz.prog 6 #[.string (mkS seed), .int .u32 (I32 ba), .int .u32 (I32 bb), v] w fun e w' => e = .returned (.bool true) ∧ Below w.heap.size w w' := by
  obtain ⟨p, cap, rfl, hc⟩ := S.form
  have M := Mem.start [] w
  by_cases hs : SmallL seed l
  · obtain ⟨hseed, hlen, heach⟩ := hs
    have GC := fun w' (S' : SeesL w' 107 mxV (.slice p l.length cap) l) (hok' : ∀ x ∈ l, MxOk w' x) => great19_yes seed l (.slice p l.length cap) w' S' hok' ⟨hseed, hlen, heach⟩
    have OK' : ∀ (w' : World) (L' : List Chunk), Mem [] w w' L' → ∀ x ∈ l, MxOk w' x := fun _ _ M' x hx => by
      have h := hok x hx
      exact ⟨h.lfit, h.num, h.be, h.so.now M', h.sp.now M', h.lo, h.lp⟩
    have NA : ∀ w, Calls Tryz.prog 23 #[.int .i64 0, .string (mkS seed), .int .u32 (I32 ba)] w fun e w' => ∃ g C, e = .returned (.tuple #[.pointer (some ⟨g, 0, none⟩), .int .i64 0]) ∧ IsLink g (linkOf seed 0 1 0 1 ba 0) C ∧ Mem [] w w' [C] := fun w => LinkNew_ok seed 0 1 0 1 ba w (by omega) (.inl ⟨rfl, rfl, rfl, rfl⟩)
    have NB : ∀ w, Calls Tryz.prog 23 #[.int .i64 1, .string (mkS seed), .int .u32 (I32 bb)] w fun e w' => ∃ g C, e = .returned (.tuple #[.pointer (some ⟨g, 0, none⟩), .int .i64 0]) ∧ IsLink g (linkOf seed 1 0 1 0 bb 0) C ∧ Mem [] w w' [C] := fun w => LinkNew_ok seed 1 0 1 0 bb w (by omega) (.inr ⟨rfl, rfl, rfl, rfl⟩)
    replace GC := Lib.hid GC
    replace NA := Lib.hid NA
    replace NB := Lib.hid NB
    replace OK' := Lib.hid OK'
    replace heach := Lib.hid heach
    replace hok := Lib.hid hok
    go_enter Tryz.func6, Tryz.ntmps6
    go_wp2_with ((first | ((with_reducible refine tGuard ?_); (with_reducible refine w_stripE ?_ ?_); (focus (refine ⟨_, rfl, ?_⟩; first | (with_reducible rfl) | exact decide_eq_false (by omega) | exact decide_eq_true (by omega)))) | ((with_reducible refine tGuard ?_); first | ((with_reducible refine w_skip1 ?_ ?_); (focus (refine ⟨_, rfl, ?_⟩; first | (with_reducible rfl) | exact decide_eq_false (by omega) | exact decide_eq_true (by omega)))) | ((with_reducible refine w_skip0 ?_ ?_); (focus (refine ⟨_, rfl, ?_⟩; first | (with_reducible rfl) | exact decide_eq_false (by omega) | exact decide_eq_true (by omega))))) | (go_at_call 27; go_must (refine (awake19_c _).mono ?_; rintro e w1 ⟨rfl, hb⟩; replace M := M.call hb; clear hb)) | (go_at_call 29; go_must (refine (GC.out _ (S.now M) (OK'.out _ _ M)).mono ?_; rintro e w1 ⟨rfl, hb⟩; replace M := M.call hb; clear hb)) | (go_at_call 23; go_must (first | (with_reducible refine (NA.out _).mono ?_; rintro e w1 ⟨ga, ca, rfl, IA, MJ⟩) | (with_reducible refine (NB.out _).mono ?_; rintro e w1 ⟨gb, cb, rfl, IB, MJ⟩)); replace M := M.join MJ; clear MJ; simp only [List.cons_append, List.nil_append] at M) | ((with_reducible refine tGuard ?_); first | refine gdS ?_ | (refine gdC ?_ ?_ <;> (intro hgd; rw [hgd]; try (exfalso; simp at hgd; omega)))) | fail | ((with_reducible refine tLoad ?_); go_must (refine ldS ?_)) | ((with_reducible refine tStore ?_); go_must (refine stS ?_; clear M; intro w1 M; (try simp only [setC] at M))) | ((with_reducible refine tBox _ ?_); (refine bxA M ?_; clear M; intro g w1 M))) <;> (try conv => arg 5; simp only [Act.put, List.setIfInBounds_toArray, setC]))
    have LC : ∀ (w : World), cb.ok w → Calls Tryz.prog 26 #[.pointer (some ⟨gb, 0, none⟩)] w fun e w' => e = .returned (.tuple #[.int .u32 (I32 bb), .int .u64 0]) ∧ Below w.heap.size w w' := fun w h => LinkCount_c h IB
    have BC := fun (D : List UInt8) (w : World) (h : cb.ok w) => Come_arg 1 0 D h IB (.inl (by show (0 : Int) ≠ 1; decide))
    replace LC := Lib.hid LC
    replace BC := Lib.hid BC
    clear NA NB GC
    go_loopw [13, 14] (fun nv iv wr => ∃ (k : Nat) (n : UInt64) (c : Chunk), k ≤ l.length ∧ iv = .int .i64 k ∧ nv = .int .u64 (I64 n) ∧ n.toNat ≤ k ∧ IsLink ga (linkOf seed 0 1 0 1 ba n) c ∧ Mem [] w wr [cb, c]) (fun _ iv _ => l.length - (intOf iv).toNat)
    case atStart => exact ⟨0, 0, ca, by omega, rfl, rfl, by decide, IA, M⟩
    case round =>
      clear M IA
      obtain ⟨k, n, c, hk, rfl, rfl, hnk, IC, M⟩ := hrel
      by_cases hlt : k < l.length
      · obtain ⟨g, so, rfl⟩ := S.addr (by omega)
        obtain ⟨x, hx⟩ : ∃ x, l[k]? = some x := ⟨_, List.getElem?_eq_getElem hlt⟩
        have HX := Lib.hid hx
        have hm := List.mem_of_getElem? hx
        have XO := hok.out x hm
        have hrng := great_rng XO.num XO.be (heach.out x hm)
        clear hx hm
        rcases bytesM_cases XO.lfit hrng with ⟨z, he, eb⟩ | ⟨hk', ho, _, eb⟩
        · have SB := fun (w' : World) (L' : List Chunk) (M : Mem [] w w' L') (h : c.ok w') => Send_bad x.L x.ov x.pv h IC XO.lfit hrng (XO.so.now M) (XO.sp.now M) he eb
          have SB' : ∀ (w' : World) (L' : List Chunk), Mem [] w w' L' → c.ok w' → Calls Tryz.prog 24 #[.pointer (some ⟨ga, 0, none⟩), .agg (mxV x).toArray] w' fun r w'' => r = .returned (.tuple #[.agg #[.int .i64 0, .int .i64 0, .string (mkS [])], .int .i64 z]) ∧ Below w'.heap.size w' w'' := SB
          have hz : ((z : Int) != 0) = true := by simp; exact he
          replace SB' := Lib.hid SB'
          clear SB eb XO hrng
          go_wp2_with ((first | ((with_reducible refine tGuard ?_); (with_reducible refine w_stripE ?_ ?_); (focus (refine ⟨_, rfl, ?_⟩; first | (with_reducible rfl) | exact decide_eq_false (by omega) | exact decide_eq_true (by omega)))) | ((with_reducible refine tGuard ?_); first | ((with_reducible refine w_skip1 ?_ ?_); (focus (refine ⟨_, rfl, ?_⟩; first | (with_reducible rfl) | exact decide_eq_false (by omega) | exact decide_eq_true (by omega)))) | ((with_reducible refine w_skip0 ?_ ?_); (focus (refine ⟨_, rfl, ?_⟩; first | (with_reducible rfl) | exact decide_eq_false (by omega) | exact decide_eq_true (by omega))))) | ((with_reducible refine tGuard ?_); (with_reducible refine w_stripE ?_ ?_); (focus (refine ⟨_, rfl, ?_⟩; first | (simp; omega) | (simp; done)))) | ((with_reducible refine tGuard ?_); first | ((with_reducible refine w_skip1 ?_ ?_); (focus (refine ⟨_, rfl, ?_⟩; first | (simp; omega) | (simp; done)))) | ((with_reducible refine w_skip0 ?_ ?_); (focus (refine ⟨_, rfl, ?_⟩; first | (simp; omega) | (simp; done))))) | ((with_reducible show wpList _ _ _ (Oper.mk _ (Op.load 67 _) _ _ _ _ :: _) _ _); refine w_at _ _ rfl (by exact ev_tmp rfl) ?_; intro hx; refine w_seeA M S HX.out _ _ rfl hx rfl (by kernel_rfl) (by first | rfl | omega | (simp; omega)) (by rw [mxV_len]; kernel_rfl) ?_; clear hx) | (go_at_call 24; go_must (refine (SB'.out _ _ M (M.ok 1 _ at1)).mono ?_; rintro e w1 ⟨rfl, hb⟩; replace M := M.call hb; clear hb)) | ((with_reducible refine tAlloc (some 15) 58 ?_); refine w_alloc M _ rfl rfl (.agg #[.int .i64 0, .int .i64 0, .string (mkS [])]) ([.int .i64 0, .int .i64 0, .string (mkS [])]) (by kernel_rfl) rfl ?_; clear M; intro gp w1 M) | ((with_reducible refine tGuard ?_); first | refine gdS ?_ | (refine gdC ?_ ?_ <;> (intro hgd; rw [hgd]; try (exfalso; simp at hgd; omega)))) | fail | ((with_reducible refine tLoad ?_); go_must (refine ldS ?_)) | ((with_reducible refine tStore ?_); go_must (refine stS ?_; clear M; intro w1 M; (try simp only [setC] at M))) | ((with_reducible refine tBox _ ?_); (refine bxA M ?_; clear M; intro g w1 M))) <;> (try conv => arg 5; simp only [Act.put, List.setIfInBounds_toArray, setC]))
          go_roundw
          case rel => exact ⟨k + 1, n, c, by omega, by go_num, rfl, by omega, IC, M.tail⟩
          case measure => simp [intOf]; omega
        · have hsh := bytesL_short XO.lfit hrng hk' ho
          have SC := fun (w' : World) (L' : List Chunk) (M : Mem [] w w' L') (hi : L'[1]? = some c) => Send_ok x.L x.ov x.pv 0 1 (M.ok 1 c hi) IC (.inl ⟨rfl, rfl, rfl, rfl⟩) (by show (masterK seed 0 1).length ≤ _; rw [masterK_len]; decide) (by show 0 ≤ 1048576; decide) (by show n.toNat < _; omega) XO.lfit hrng (XO.so.now M) (XO.sp.now M) (fresh_apart M hi XO.so) (fresh_apart M hi XO.sp) hk' ho eb
          have SC' : ∀ (w' : World) (L' : List Chunk), Mem [] w w' L' → L'[1]? = some c → Calls Tryz.prog 24 #[.pointer (some ⟨ga, 0, none⟩), .agg (mxV x).toArray] w' fun r w'' => r = .returned (.tuple #[.agg #[.int .i64 0, .int .i64 1, .string (mkS (envB (RingS.env ⟨masterK seed 0 1, 0, ba, n⟩ (aboutK 0 1) (bytesL x.L))))], .int .i64 0]) ∧ ∃ c', IsLink ga (linkOf seed 0 1 0 1 ba (n + 1)) c' ∧ Upd w' c w'' c' := SC
          have hR := RingS.env_right (R := ⟨masterK seed 0 1, 0, ba, n⟩) (aboutK 0 1) (bytesL x.L) (Nat.zero_le _) hsh
          have lB := envB_length hR
          have RC := fun w => sealRead_c (envB (RingS.env ⟨masterK seed 0 1, 0, ba, n⟩ (aboutK 0 1) (bytesL x.L))) w (by omega)
          rw [RingS.read (R := ⟨masterK seed 0 1, 0, ba, n⟩) (aboutK 0 1) (bytesL x.L) (Nat.zero_le _) hsh] at RC
          have htl := hR.2.2
          obtain ⟨D, eD⟩ : ∃ B, B = envB (RingS.env ⟨masterK seed 0 1, 0, ba, n⟩ (aboutK 0 1) (bytesL x.L)) := ⟨_, rfl⟩
          rw [← eD] at SC' RC
          unfold RingS.env at RC htl
          simp only at RC htl
          simp only [show ((0 : Nat) : Int) = 0 from rfl] at RC
          obtain ⟨d, ed⟩ : ∃ d, d = sealL (ringK (masterK seed 0 1) 0) ba n (bytesL x.L) := ⟨_, rfl⟩
          rw [← ed] at RC htl
          obtain ⟨tg, et⟩ : ∃ y, y = tagL (ringK (masterK seed 0 1) 0) 0 ba n (aboutK 0 1) d := ⟨_, rfl⟩
          rw [← et] at RC htl
          have AC := fun (w : World) (c' : Chunk) (h : c'.ok w) (I : IsLink ga (linkOf seed 0 1 0 1 ba (n + 1)) c') => Come_arg 0 1 D h I (.inl (by show (1 : Int) ≠ 0; decide))
          have BC' := BC.out D
          have hn1 := u64_succL n k hnk (by omega)
          replace SC' := Lib.hid SC'
          replace RC := Lib.hid RC
          replace AC := Lib.hid AC
          replace BC' := Lib.hid BC'
          clear SC eD ed et hR lB eb XO hrng hk' ho hsh
          go_wp2_with ((first | ((with_reducible refine tGuard ?_); (with_reducible refine w_stripE ?_ ?_); (focus (refine ⟨_, rfl, ?_⟩; first | (with_reducible rfl) | exact decide_eq_false (by omega) | exact decide_eq_true (by omega)))) | ((with_reducible refine tGuard ?_); first | ((with_reducible refine w_skip1 ?_ ?_); (focus (refine ⟨_, rfl, ?_⟩; first | (with_reducible rfl) | exact decide_eq_false (by omega) | exact decide_eq_true (by omega)))) | ((with_reducible refine w_skip0 ?_ ?_); (focus (refine ⟨_, rfl, ?_⟩; first | (with_reducible rfl) | exact decide_eq_false (by omega) | exact decide_eq_true (by omega))))) | ((with_reducible refine tGuard ?_); (with_reducible refine w_stripE ?_ ?_); (focus (refine ⟨_, rfl, ?_⟩; first | (simp; omega) | (simp; done)))) | ((with_reducible refine tGuard ?_); first | ((with_reducible refine w_skip1 ?_ ?_); (focus (refine ⟨_, rfl, ?_⟩; first | (simp; omega) | (simp; done)))) | ((with_reducible refine w_skip0 ?_ ?_); (focus (refine ⟨_, rfl, ?_⟩; first | (simp; omega) | (simp; done))))) | ((with_reducible show wpList _ _ _ (Oper.mk _ (Op.load 67 _) _ _ _ _ :: _) _ _); refine w_at _ _ rfl (by exact ev_tmp rfl) ?_; intro hx; refine w_seeA M S HX.out _ _ rfl hx rfl (by kernel_rfl) (by first | rfl | omega | (simp; omega)) (by rw [mxV_len]; kernel_rfl) ?_; clear hx) | (go_at_call 24; go_must (refine (SC'.out _ _ M at1).mono ?_; rintro e w1 ⟨rfl, c1, I1, U⟩; replace M := M.upd 1 at1 U; clear U; simp only [setC] at M)) | (go_at_call 25; go_must (first | (with_reducible refine (AC.out _ _ (M.ok 2 _ at2) I1).mono ?_; rintro e w1 ⟨rfl, hb⟩; replace M := M.call hb; clear hb) | (with_reducible refine (BC'.out _ (M.ok 3 _ at3)).mono ?_; rintro e w1 ⟨rfl, hb⟩; replace M := M.call hb; clear hb))) | (go_at_call 30; go_must (refine (RC.out _).mono ?_; rintro e w1 ⟨rfl, hb⟩; replace M := M.call hb; clear hb)) | ((with_reducible refine tAlloc (some 15) 58 ?_); refine w_alloc M _ rfl rfl (.agg #[.int .i64 0, .int .i64 0, .string (mkS [])]) ([.int .i64 0, .int .i64 0, .string (mkS [])]) (by kernel_rfl) rfl ?_; clear M; intro gp w1 M) | ((with_reducible refine tAlloc (some 19) 58 ?_); refine w_alloc M _ rfl rfl (.agg #[.int .i64 0, .int .i64 0, .string (mkS [])]) ([.int .i64 0, .int .i64 0, .string (mkS [])]) (by kernel_rfl) rfl ?_; clear M; intro gq w1 M) | ((with_reducible refine tAlloc (some 17) 67 ?_); refine w_alloc M _ rfl rfl (.agg (msgC zeroM).toArray) (msgC zeroM) (by kernel_rfl) rfl ?_; clear M; intro gm w1 M) | ((with_reducible refine tAlloc (some 20) 67 ?_); refine w_alloc M _ rfl rfl (.agg (msgC zeroM).toArray) (msgC zeroM) (by kernel_rfl) rfl ?_; clear M; intro gm2 w1 M) | ((with_reducible refine tAlloc (some 22) 75 ?_); refine w_alloc M _ rfl rfl (.agg (envC 0 0 0 [] zeroT).toArray) (envC 0 0 0 [] zeroT) (by kernel_rfl) rfl ?_; clear M; intro gx w1 M) | ((with_reducible show wpList _ _ _ (Oper.mk _ (Op.store 67 _ _) _ _ _ _ :: _) _ _); refine w_at2 _ _ _ rfl (by exact ev_tmp rfl) (by first | exact ev_tmp rfl | exact ev_const) ?_; intro hx hy; refine w_storeMs (m := zeroM) M 0 _ _ _ rfl rfl hx rfl hy rfl (by kernel_rfl) zeroM_fit zeroM_fit ?_; clear hx hy M; intro w1 M; (try simp only [setC] at M)) | ((with_reducible refine tLoad ?_); refine w_at _ _ rfl (by exact ev_tmp rfl) ?_; intro hx; (first | refine w_loadE M _ _ _ rfl (by first | exact at0) hx rfl (by decide +kernel) (by decide +kernel) (by first | assumption | exact zeroT_len | exact macL_len _ _) ?_ | refine w_loadTag M _ _ _ rfl (by first | exact at0) hx rfl (by decide +kernel) (by decide +kernel) (by first | assumption | exact zeroT_len | exact macL_len _ _) ?_); clear hx) | ((with_reducible refine tStore ?_); refine w_at2 _ _ _ rfl (by first | exact ev_tmp rfl | exact ev_const) (by first | exact ev_tmp rfl | exact ev_const) ?_; intro hx hy; (first | refine w_storeE M _ _ _ _ rfl (by first | exact at0) hx rfl hy rfl (by decide +kernel) (by first | assumption | exact zeroT_len | exact macL_len _ _) (by first | assumption | exact zeroT_len | exact macL_len _ _) ?_ | refine w_storeE (k := 0) (b := 0) (n := 0) (d := []) (tg := zeroT) M _ _ _ _ rfl (by first | exact at0) hx rfl hy rfl (by decide +kernel) zeroT_len (by first | assumption | exact zeroT_len | exact macL_len _ _) ?_ | refine w_storeE (tg := zeroT) M _ _ _ _ rfl (by first | exact at0) hx rfl hy rfl (by decide +kernel) zeroT_len (by first | assumption | exact zeroT_len | exact macL_len _ _) ?_ | refine w_storeTag M _ _ _ _ rfl (by first | exact at0) hx rfl hy (by decide +kernel) (by first | assumption | exact zeroT_len | exact macL_len _ _) (by first | assumption | exact zeroT_len | exact macL_len _ _) ?_ | refine w_storeData M _ _ _ _ rfl (by first | exact at0) hx rfl hy (by decide +kernel) ?_ | refine w_storeNum M _ _ _ _ rfl (by first | exact at0) hx rfl hy (by decide +kernel) ?_); clear hx hy M; intro w1 M; (try simp only [setC] at M)) | ((with_reducible refine tConv _ 70 9 ?_); (first | refine w_stringTag M _ _ _ _ _ rfl rfl (by first | exact at0) rfl (by first | assumption | exact zeroT_len | exact macL_len _ _) Tryz.underlying70 Tryz.underlying5 Tryz.underlying9 ?_)) | ((with_reducible refine tGuard ?_); first | refine gdS ?_ | (refine gdC ?_ ?_ <;> (intro hgd; rw [hgd]; try (exfalso; simp at hgd; omega)))) | fail | ((with_reducible refine tLoad ?_); go_must (refine ldS ?_)) | ((with_reducible refine tStore ?_); go_must (refine stS ?_; clear M; intro w1 M; (try simp only [setC] at M))) | ((with_reducible refine tBox _ ?_); (refine bxA M ?_; clear M; intro g w1 M))) <;> (try conv => arg 5; simp only [Act.put, List.setIfInBounds_toArray, setC]))
          go_roundw
          case rel => exact ⟨k + 1, n + 1, c1, by omega, by go_num, rfl, hn1, I1, M.tail.tail.tail.tail.tail⟩
          case measure => simp [intOf]; omega
      · obtain rfl : k = l.length := by omega
        go_wp2_with ((first | ((with_reducible refine tGuard ?_); (with_reducible refine w_stripE ?_ ?_); (focus (refine ⟨_, rfl, ?_⟩; first | (with_reducible rfl) | exact decide_eq_false (by omega) | exact decide_eq_true (by omega)))) | ((with_reducible refine tGuard ?_); first | ((with_reducible refine w_skip1 ?_ ?_); (focus (refine ⟨_, rfl, ?_⟩; first | (with_reducible rfl) | exact decide_eq_false (by omega) | exact decide_eq_true (by omega)))) | ((with_reducible refine w_skip0 ?_ ?_); (focus (refine ⟨_, rfl, ?_⟩; first | (with_reducible rfl) | exact decide_eq_false (by omega) | exact decide_eq_true (by omega))))) | (go_at_call 26; go_must (refine (LC.out _ (M.ok 0 _ at0)).mono ?_; rintro e w1 ⟨rfl, hb⟩; replace M := M.call hb; clear hb)) | ((with_reducible refine tGuard ?_); first | refine gdS ?_ | (refine gdC ?_ ?_ <;> (intro hgd; rw [hgd]; try (exfalso; simp at hgd; omega)))) | fail | ((with_reducible refine tLoad ?_); go_must (refine ldS ?_)) | ((with_reducible refine tStore ?_); go_must (refine stS ?_; clear M; intro w1 M; (try simp only [setC] at M))) | ((with_reducible refine tBox _ ?_); (refine bxA M ?_; clear M; intro g w1 M))) <;> (try conv => arg 5; simp only [Act.put, List.setIfInBounds_toArray, setC]))
        go_ret
        exact ⟨by first | rfl | simp, M.below⟩
  · have GC := fun w' (S' : SeesL w' 107 mxV (.slice p l.length cap) l) (hok' : ∀ x ∈ l, MxOk w' x) => great19_no seed l (.slice p l.length cap) w' S' hok' hs
    have OK' : ∀ (w' : World) (L' : List Chunk), Mem [] w w' L' → ∀ x ∈ l, MxOk w' x := fun _ _ M' x hx => by
      have h := hok x hx
      exact ⟨h.lfit, h.num, h.be, h.so.now M', h.sp.now M', h.lo, h.lp⟩
    replace GC := Lib.hid GC
    replace OK' := Lib.hid OK'
    clear hok hs
    go_enter Tryz.func6, Tryz.ntmps6
    go_wp2_with ((first | ((with_reducible refine tGuard ?_); (with_reducible refine w_stripE ?_ ?_); (focus (refine ⟨_, rfl, ?_⟩; first | (with_reducible rfl) | exact decide_eq_false (by omega) | exact decide_eq_true (by omega)))) | ((with_reducible refine tGuard ?_); first | ((with_reducible refine w_skip1 ?_ ?_); (focus (refine ⟨_, rfl, ?_⟩; first | (with_reducible rfl) | exact decide_eq_false (by omega) | exact decide_eq_true (by omega)))) | ((with_reducible refine w_skip0 ?_ ?_); (focus (refine ⟨_, rfl, ?_⟩; first | (with_reducible rfl) | exact decide_eq_false (by omega) | exact decide_eq_true (by omega))))) | (go_at_call 27; go_must (refine (awake19_c _).mono ?_; rintro e w1 ⟨rfl, hb⟩; replace M := M.call hb; clear hb)) | (go_at_call 29; go_must (refine (GC.out _ (S.now M) (OK'.out _ _ M)).mono ?_; rintro e w1 ⟨rfl, hb⟩; replace M := M.call hb; clear hb)) | ((with_reducible refine tGuard ?_); first | refine gdS ?_ | (refine gdC ?_ ?_ <;> (intro hgd; rw [hgd]; try (exfalso; simp at hgd; omega)))) | fail | ((with_reducible refine tLoad ?_); go_must (refine ldS ?_)) | ((with_reducible refine tStore ?_); go_must (refine stS ?_; clear M; intro w1 M; (try simp only [setC] at M))) | ((with_reducible refine tBox _ ?_); (refine bxA M ?_; clear M; intro g w1 M))) <;> (try conv => arg 5; simp only [Act.put, List.setIfInBounds_toArray, setC]))
    go_ret
    exact ⟨by first | rfl | simp, M.below⟩
end Go.Proofs.YtidadhbaomieiaaGreat
