/- The walk of LinkKnown. Conditions: none. -/
import Derived.Test.YtidadhbaomieiaaGreatZg
import Derived.Test.YtidadhbaomieiaaGreatZh
import Derived.Test.YtidadhbaomieiaaGreatVLinkN
import Derived.Test.YtidadhbaomieiaaGreatZf
namespace Go
namespace TL
/-- Pieces named by their places. -/
theorem Mem.at' {F : List Nat} {w0 w : World} {L : List Chunk} (M : Mem F w0 w L) (is : List Nat) (hd : is.Nodup) (h : (is.all fun i => (L[i]?).isSome) = true) : Mem F w0 w (is.filterMap fun i => L[i]?) := by
  refine M.sel is _ hd ?_
  clear hd
  induction is with
  | nil => rfl
  | cons i l ih =>
    simp only [List.all_cons, Bool.and_eq_true] at h
    obtain ⟨c, hc⟩ := Option.isSome_iff_exists.1 h.1
    rw [List.filterMap_cons, hc]
    simp only [List.map_cons, hc]
    rw [ih h.2]
end TL
end Go
namespace Go.Proofs.YtidadhbaomieiaaGreat
open Go.RowKit Go.TL
set_option maxRecDepth 100000 in
set_option maxHeartbeats 16000000 in
theorem LinkKnown_any (w : World) : Calls Tryz.prog 5 #[] w fun e w' => e = .returned (.bool true) ∧ Below w.heap.size w w' := by
  have M := Mem.start [] w
  have NA : ∀ w, Calls Tryz.prog 23 #[.int .i64 0, .string (mkS [115]), .int .u32 1] w fun e w' => ∃ g C, e = .returned (.tuple #[.pointer (some ⟨g, 0, none⟩), .int .i64 0]) ∧ IsLink g (linkOf [115] 0 1 0 1 1 0) C ∧ Mem [] w w' [C] := fun w => LinkNew_ok [115] 0 1 0 1 1 w (by decide) (by unfold EndOf; decide)
  have NB : ∀ w, Calls Tryz.prog 23 #[.int .i64 1, .string (mkS [115]), .int .u32 1] w fun e w' => ∃ g C, e = .returned (.tuple #[.pointer (some ⟨g, 0, none⟩), .int .i64 0]) ∧ IsLink g (linkOf [115] 1 0 1 0 1 0) C ∧ Mem [] w w' [C] := fun w => LinkNew_ok [115] 1 0 1 0 1 w (by decide) (by unfold EndOf; decide)
  have NC : ∀ w, Calls Tryz.prog 23 #[.int .i64 1, .string (mkS [97, 110, 111, 116, 104, 101, 114, 32, 115, 101, 101, 100]), .int .u32 1] w fun e w' => ∃ g C, e = .returned (.tuple #[.pointer (some ⟨g, 0, none⟩), .int .i64 0]) ∧ IsLink g (linkOf seedB 1 0 1 0 1 0) C ∧ Mem [] w w' [C] := fun w => LinkNew_ok seedB 1 0 1 0 1 w (by decide) (by unfold EndOf; decide)
  have ND : ∀ w, Calls Tryz.prog 23 #[.int .i64 2, .string (mkS [115]), .int .u32 1] w fun e w' => e = .returned (.tuple #[.pointer none, .int .i64 1]) ∧ Below w.heap.size w w' := fun w => LinkNew_no [115] 2 1 w (by decide)
  have hsh := bytesL_short helloM_fit helloM_rng (by decide) helloM_ok
  have SC : ∀ (C : Array Value) (g : Nat) (c : Chunk) (w : World) (h : c.ok w) (I : IsLink g (linkOf [115] 0 1 0 1 1 0) c), C = (msgC (helloM.ms (.slice none 0 0) (.slice none 0 0))).toArray → Calls Tryz.prog 24 #[.pointer (some ⟨g, 0, none⟩), .agg C] w fun r w' => r = .returned (.tuple #[.agg #[.int .i64 0, .int .i64 1, .string (mkS (envB (RingS.env ⟨masterK [115] 0 1, 0, 1, 0⟩ (aboutK 0 1) (bytesL helloM))))], .int .i64 0]) ∧ ∃ c', IsLink g { linkOf [115] 0 1 0 1 1 0 with out := { (linkOf [115] 0 1 0 1 1 0).out with n := (linkOf [115] 0 1 0 1 1 0).out.n + 1 } } c' ∧ Upd w c w' c' := fun C g c w h I hC => by
    rw [hC]
    exact Send_ok helloM (.slice none 0 0) (.slice none 0 0) 0 1 h I (.inl ⟨rfl, rfl, rfl, rfl⟩) (by show (masterK [115] 0 1).length ≤ _; rw [masterK_len]; decide) (by show 0 ≤ 1048576; decide) (by show (0 : UInt64).toNat < _; decide) helloM_fit helloM_rng (seesL_nil _ _ opV_len _) (seesL_nil _ _ prV_len _) (by simp [Value.ownBlock]) (by simp [Value.ownBlock]) (by decide) helloM_ok helloM_b
  have eK1 : ({ linkOf [115] 0 1 0 1 1 0 with out := { (linkOf [115] 0 1 0 1 1 0).out with n := (linkOf [115] 0 1 0 1 1 0).out.n + 1 } } : LinkS) = linkOf [115] 0 1 0 1 1 1 := rfl
  rw [eK1] at SC
  have SZ : ∀ (C : Array Value) (g : Nat) (c : Chunk) (w : World) (h : c.ok w) (I : IsLink g (linkOf [115] 0 1 0 1 1 1) c), C = (msgC (zeroL.ms (.slice none 0 0) (.slice none 0 0))).toArray → Calls Tryz.prog 24 #[.pointer (some ⟨g, 0, none⟩), .agg C] w fun r w' => r = .returned (.tuple #[.agg #[.int .i64 0, .int .i64 0, .string (mkS [])], .int .i64 10]) ∧ Below w.heap.size w w' := fun C g c w h I hC => by
    rw [hC]
    exact Send_bad zeroL (.slice none 0 0) (.slice none 0 0) h I ⟨zeroH_len, zeroH_len, zeroH_len⟩ ⟨fun q => by cases q <;> decide, by decide, by simp [zeroL], by simp [zeroL], by simp [zeroL], by simp [zeroL], by simp [zeroL]⟩ (seesL_nil _ _ opV_len _) (seesL_nil _ _ prV_len _) (e := 10) (by decide) (by decide +kernel)
  have LC : ∀ (g : Nat) (c : Chunk) (w : World) (h : c.ok w) (I : IsLink g (linkOf [115] 0 1 0 1 1 1) c), Calls Tryz.prog 26 #[.pointer (some ⟨g, 0, none⟩)] w fun e w' => e = .returned (.tuple #[.int .u32 1, .int .u64 1]) ∧ Below w.heap.size w w' := fun g c w h I => LinkCount_c h I
  have hop := link_open [115] 0 1 1 0 (bytesL helloM) hsh
  have hln := link_len [115] 0 1 1 0 (bytesL helloM) hsh
  have hl0 : 32 ≤ (envB (RingS.env ⟨masterK [115] 0 1, 0, 1, 0⟩ (aboutK 0 1) (bytesL helloM))).length := by
    have := (RingS.env_right (R := ⟨masterK [115] 0 1, 0, 1, 0⟩) (aboutK 0 1) (bytesL helloM) (Nat.zero_le _) hsh).2.2
    unfold envB
    simp only [List.length_append]
    omega
  have CC := fun (g : Nat) (c : Chunk) (w : World) (h : c.ok w) (I : IsLink g (linkOf [115] 1 0 1 0 1 0) c) => Come_ok (envB (RingS.env ⟨masterK [115] 0 1, 0, 1, 0⟩ (aboutK 0 1) (bytesL helloM))) 1 0 h I (.inr ⟨rfl, rfl, rfl, rfl⟩) (by show (masterK [115] 0 1).length ≤ _; rw [masterK_len]; decide) (by omega) (by show (openL (masterK [115] 0 1) 0 _ (aboutK 0 1)).2 = 0; rw [hop])
  have hop2 : openL (linkOf [115] 1 0 1 0 1 0).inn.m (linkOf [115] 1 0 1 0 1 0).inn.c (envB (RingS.env ⟨masterK [115] 0 1, 0, 1, 0⟩ (aboutK 0 1) (bytesL helloM))) (aboutK 0 1) = (bytesL helloM, 0) := hop
  rw [hop2, read_right helloM_fit helloM_rng (by decide) helloM_ok helloM_only] at CC
  simp only at CC
  have hfar : openL (masterK seedB 0 1) 0 (envB (RingS.env ⟨masterK [115] 0 1, 0, 1, 0⟩ (aboutK 0 1) (bytesL helloM))) (aboutK 0 1) = ([], 13) := by rw [show bytesL helloM = [1, 3] by decide +kernel]; exact link_seed
  have CF : ∀ (g : Nat) (c : Chunk) (w : World), c.ok w → IsLink g (linkOf seedB 1 0 1 0 1 0) c → Calls Tryz.prog 25 #[.pointer (some ⟨g, 0, none⟩), .agg #[.int .i64 0, .int .i64 1, .string (mkS (envB (RingS.env ⟨masterK [115] 0 1, 0, 1, 0⟩ (aboutK 0 1) (bytesL helloM))))]] w fun e w' => e = .returned (.tuple #[.agg (msgC zeroM).toArray, .int .i64 13]) ∧ ∃ c', IsLink g (linkOf seedB 1 0 1 0 1 0) c' ∧ Upd w c w' c' := fun g c w h I => by
    have := Come_bad (envB (RingS.env ⟨masterK [115] 0 1, 0, 1, 0⟩ (aboutK 0 1) (bytesL helloM))) 1 0 h I (.inr ⟨rfl, rfl, rfl, rfl⟩) (by show (masterK seedB 0 1).length ≤ _; rw [masterK_len]; decide) (by omega) (by show (openL (masterK seedB 0 1) 0 _ (aboutK 0 1)).2 ≠ 0; rw [hfar]; decide)
    have h3 : openL (linkOf seedB 1 0 1 0 1 0).inn.m (linkOf seedB 1 0 1 0 1 0).inn.c (envB (RingS.env ⟨masterK [115] 0 1, 0, 1, 0⟩ (aboutK 0 1) (bytesL helloM))) (aboutK 0 1) = ([], 13) := hfar
    rw [h3] at this
    exact this
  have htu : ∀ (D0 : List UInt8) (x y : UInt8), D0 ++ [x] = envB (RingS.env ⟨masterK [115] 0 1, 0, 1, 0⟩ (aboutK 0 1) (bytesL helloM)) → y ≠ x → openL (masterK [115] 0 1) 0 (D0 ++ [y]) (aboutK 0 1) = ([], 13) := fun D0 x y hD hy => openL_turned (R := ⟨masterK [115] 0 1, 0, 1, 0⟩) (aboutK 0 1) (bytesL helloM) (Nat.zero_le _) hsh (Nat.le_refl _) hD hy
  obtain ⟨D, eD⟩ : ∃ D, D = envB (RingS.env ⟨masterK [115] 0 1, 0, 1, 0⟩ (aboutK 0 1) (bytesL helloM)) := ⟨_, rfl⟩
  rw [← eD] at SC CC CF hln hl0 htu
  obtain ⟨n, hn⟩ : ∃ n, D.length = n + 1 := ⟨D.length - 1, by omega⟩
  have CT : ∀ (d : List UInt8) (g : Nat) (c : Chunk) (w : World), c.ok w → IsLink g (linkOf [115] 1 0 1 0 1 0) c → d = D.take n ++ [bt D n ^^^ 1] → Calls Tryz.prog 25 #[.pointer (some ⟨g, 0, none⟩), .agg #[.int .i64 0, .int .i64 1, .string (mkS d)]] w fun e w' => e = .returned (.tuple #[.agg (msgC zeroM).toArray, .int .i64 13]) ∧ ∃ c', IsLink g (linkOf [115] 1 0 1 0 1 0) c' ∧ Upd w c w' c' := fun d g c w h I hd => by
    have hx : D.take n ++ [bt D n] = D := by
      have h1 : D.take (n + 1) = D.take n ++ [bt D n] := by
        rw [List.take_add_one, List.getElem?_eq_getElem (by omega)]
        simp [bt, List.getD_eq_getElem?_getD, List.getElem?_eq_getElem (show n < D.length by omega)]
      rw [← h1, ← hn, List.take_length]
    have hy : bt D n ^^^ 1 ≠ bt D n := fun h => by
      have := congrArg (fun z => bt D n ^^^ z) h
      simp only [← UInt8.xor_assoc, UInt8.xor_self, UInt8.zero_xor] at this
      exact absurd this (by decide)
    have h3 := htu (D.take n) (bt D n) (bt D n ^^^ 1) hx hy
    rw [← hd] at h3
    have hdl : d.length = n + 1 := by rw [hd, List.length_append, List.length_take]; simp; omega
    have := Come_bad d 1 0 h I (.inr ⟨rfl, rfl, rfl, rfl⟩) (by show (masterK [115] 0 1).length ≤ _; rw [masterK_len]; decide) (by omega) (by show (openL (masterK [115] 0 1) 0 _ (aboutK 0 1)).2 ≠ 0; rw [h3]; decide)
    have h4 : openL (linkOf [115] 1 0 1 0 1 0).inn.m (linkOf [115] 1 0 1 0 1 0).inn.c d (aboutK 0 1) = ([], 13) := h3
    rw [h4] at this
    exact this
  have CA : ∀ (g : Nat) (c : Chunk) (w : World), c.ok w → IsLink g (linkOf [115] 0 1 0 1 1 1) c → Calls Tryz.prog 25 #[.pointer (some ⟨g, 0, none⟩), .agg #[.int .i64 0, .int .i64 1, .string (mkS D)]] w fun e w' => e = .returned (.tuple #[.agg (msgC zeroM).toArray, .int .i64 1]) ∧ Below w.heap.size w w' := fun g c w h I => Come_arg 0 1 D h I (.inl (by show (1 : Int) ≠ 0; decide))
  have CN : ∀ w, Calls Tryz.prog 25 #[.pointer none, .agg #[.int .i64 0, .int .i64 1, .string (mkS D)]] w fun e w' => e = .returned (.tuple #[.agg (msgC zeroM).toArray, .int .i64 2]) ∧ Below w.heap.size w w' := fun w => ComeNil_c 0 1 D w
  have CC' : ∀ (g : Nat) (c : Chunk) (w : World), c.ok w → IsLink g (linkOf [115] 1 0 1 0 1 0) c → Calls Tryz.prog 25 #[.pointer (some ⟨g, 0, none⟩), .agg #[.int .i64 0, .int .i64 1, .string (mkS D)]] w fun e w' => ∃ ov pv c', e = .returned (.tuple #[.agg (msgC (helloM.ms ov pv)).toArray, .int .i64 0]) ∧ IsLink g (linkOf [115] 1 0 1 0 1 0) c' ∧ Mem c.fp w w' [.sl 3 ov helloM.ops.length (helloM.ops.flatMap opV), .sl 2 pv helloM.prs.length (helloM.prs.flatMap prV), c'] := CC
  have SM : ∀ (ov pv ov' pv' : Value) (w : World) (S : SeesL w 3 opV ov helloM.ops) (T : SeesL w 2 prV pv helloM.prs) (S' : SeesL w 3 opV ov' helloM.ops) (T' : SeesL w 2 prV pv' helloM.prs), Calls Tryz.prog 28 #[.agg (msgC (helloM.ms ov pv)).toArray, .agg (msgC (helloM.ms ov' pv')).toArray] w fun r w' => r = .returned (.bool true) ∧ Below w.heap.size w w' := fun ov pv ov' pv' w S T S' T' => by
    have := Same_c helloM helloM ov pv ov' pv' w helloM_fit helloM_fit S T S' T' (by decide) (by decide) (by decide) (by decide)
    simpa using this
  have hwf := helloM_fit
  have hwe : helloM.e = 3 := rfl
  obtain ⟨W, eW⟩ : ∃ W, W = helloM := ⟨_, rfl⟩
  rw [← eW] at CC' hwf hwe SM
  obtain ⟨KA, eA⟩ : ∃ K, K = linkOf [115] 0 1 0 1 1 0 := ⟨_, rfl⟩
  obtain ⟨KA1, eA1⟩ : ∃ K, K = linkOf [115] 0 1 0 1 1 1 := ⟨_, rfl⟩
  obtain ⟨KB, eB⟩ : ∃ K, K = linkOf [115] 1 0 1 0 1 0 := ⟨_, rfl⟩
  obtain ⟨KC, eC⟩ : ∃ K, K = linkOf seedB 1 0 1 0 1 0 := ⟨_, rfl⟩
  rw [← eA] at NA SC
  rw [← eA1] at SC SZ LC CA
  rw [← eB] at NB CC' CT
  rw [← eC] at NC CF
  have H1 : ∀ ov pv, (msgC (W.ms ov pv))[1]? = some (.int .i64 3) := fun ov pv => by show some (Value.int .i64 W.e) = _; rw [hwe]
  replace NA := Lib.hid NA
  replace NB := Lib.hid NB
  replace NC := Lib.hid NC
  replace ND := Lib.hid ND
  replace SC := Lib.hid SC
  replace SZ := Lib.hid SZ
  replace LC := Lib.hid LC
  replace CC' := Lib.hid CC'
  replace CF := Lib.hid CF
  replace CT := Lib.hid CT
  replace CA := Lib.hid CA
  replace CN := Lib.hid CN
  replace SM := Lib.hid SM
  replace H1 := Lib.hid H1
  clear CC eW hwe eD hop hop2 hsh eA eA1 eB eC eK1 hl0 hfar htu
  go_enter Tryz.func5, Tryz.ntmps5
  go_wp2_with ((first | ((with_reducible refine tGuard ?_); (with_reducible refine w_stripE ?_ ?_); (focus (refine ⟨_, rfl, ?_⟩; first | (with_reducible rfl) | exact decide_eq_false (by omega) | exact decide_eq_true (by omega)))) | ((with_reducible refine tGuard ?_); first | ((with_reducible refine w_skip1 ?_ ?_); (focus (refine ⟨_, rfl, ?_⟩; first | (with_reducible rfl) | exact decide_eq_false (by omega) | exact decide_eq_true (by omega)))) | ((with_reducible refine w_skip0 ?_ ?_); (focus (refine ⟨_, rfl, ?_⟩; first | (with_reducible rfl) | exact decide_eq_false (by omega) | exact decide_eq_true (by omega))))) | (go_at_call 23; go_must (first | (with_reducible refine (NA.out _).mono ?_; rintro e w1 ⟨ga, ca, rfl, IA, MJ⟩; replace M := M.join MJ; clear MJ; simp only [List.cons_append, List.nil_append] at M) | (with_reducible refine (NB.out _).mono ?_; rintro e w1 ⟨gb, cb, rfl, IB, MJ⟩; replace M := M.join MJ; clear MJ; simp only [List.cons_append, List.nil_append] at M) | (with_reducible refine (NC.out _).mono ?_; rintro e w1 ⟨gc, cc, rfl, IC, MJ⟩; replace M := M.join MJ; clear MJ; simp only [List.cons_append, List.nil_append] at M) | (with_reducible refine (ND.out _).mono ?_; rintro e w1 ⟨rfl, hb⟩; replace M := M.call hb; clear hb))) | (go_at_call 24; go_must (first | (refine (SC.out _ _ _ _ (M.ok 2 _ at2) IA rfl).mono ?_; rintro e w1 ⟨rfl, ca1, IA1, U⟩; replace M := M.upd 2 at2 U; clear U IA; simp only [setC] at M) | (refine (SZ.out _ _ _ _ (M.ok 8 _ at8) IA1 rfl).mono ?_; rintro e w1 ⟨rfl, hb⟩; replace M := M.call hb; clear hb))) | ((with_reducible refine tAlloc (some 7) 58 ?_); refine w_alloc M _ rfl rfl (.agg #[.int .i64 0, .int .i64 0, .string (mkS [])]) ([.int .i64 0, .int .i64 0, .string (mkS [])]) (by kernel_rfl) rfl ?_; clear M; intro gp w1 M) | ((with_reducible refine tAlloc (some 16) 58 ?_); refine w_alloc M _ rfl rfl (.agg #[.int .i64 0, .int .i64 0, .string (mkS [])]) ([.int .i64 0, .int .i64 0, .string (mkS [])]) (by kernel_rfl) rfl ?_; clear M; intro gq w1 M) | ((with_reducible refine tAlloc (some 23) 58 ?_); refine w_alloc M _ rfl rfl (.agg #[.int .i64 0, .int .i64 0, .string (mkS [])]) ([.int .i64 0, .int .i64 0, .string (mkS [])]) (by kernel_rfl) rfl ?_; clear M; intro gr w1 M) | ((with_reducible refine tAlloc (some 9) 67 ?_); refine w_alloc M _ rfl rfl (.agg (msgC zeroM).toArray) (msgC zeroM) (by kernel_rfl) rfl ?_; clear M; intro gm w1 M) | ((with_reducible refine tAlloc (some 11) 67 ?_); refine w_alloc M _ rfl rfl (.agg (msgC zeroM).toArray) (msgC zeroM) (by kernel_rfl) rfl ?_; clear M; intro gn w1 M) | ((with_reducible refine tAlloc (some 13) 67 ?_); refine w_alloc M _ rfl rfl (.agg (msgC zeroM).toArray) (msgC zeroM) (by kernel_rfl) rfl ?_; clear M; intro gz1 w1 M) | ((with_reducible refine tAlloc (some 17) 67 ?_); refine w_alloc M _ rfl rfl (.agg (msgC zeroM).toArray) (msgC zeroM) (by kernel_rfl) rfl ?_; clear M; intro gz2 w1 M) | ((with_reducible refine tAlloc (some 19) 67 ?_); refine w_alloc M _ rfl rfl (.agg (msgC zeroM).toArray) (msgC zeroM) (by kernel_rfl) rfl ?_; clear M; intro gz3 w1 M) | ((with_reducible refine tAlloc (some 28) 67 ?_); refine w_alloc M _ rfl rfl (.agg (msgC zeroM).toArray) (msgC zeroM) (by kernel_rfl) rfl ?_; clear M; intro gz4 w1 M) | (go_at_call 25; go_must (first | (with_reducible refine (CN.out _).mono ?_; rintro e w1 ⟨rfl, hb⟩; replace M := M.call hb; clear hb) | (with_reducible refine (CA.out _ _ _ (M.ok 5 _ at5) IA1).mono ?_; rintro e w1 ⟨rfl, hb⟩; replace M := M.call hb; clear hb) | (have MB := Mem.at' M [2, 0, 1, 3] (by decide) rfl; simp only [List.filterMap_cons, List.filterMap_nil, List.getElem?_cons_zero, List.getElem?_cons_succ] at MB; with_reducible refine (CC'.out _ _ _ (MB.ok 0 _ at0) IB).mono ?_; clear M; rintro e w1 ⟨ov1, pv1, cb1, rfl, IB1, U⟩; have M := turn1 MB U; clear U MB IB; simp only [List.cons_append, List.nil_append] at M; have hf1 := ms_fit2 hwf M; replace M := Mem.at' M [3, 2, 4, 5, 0, 1] (by decide) rfl; simp only [List.filterMap_cons, List.filterMap_nil, List.getElem?_cons_zero, List.getElem?_cons_succ] at M) | (have MB := Mem.at' M [2, 0, 1, 3, 4, 5, 6] (by decide) rfl; simp only [List.filterMap_cons, List.filterMap_nil, List.getElem?_cons_zero, List.getElem?_cons_succ] at MB; with_reducible refine (CC'.out _ _ _ (MB.ok 0 _ at0) IB1).mono ?_; clear M; rintro e w1 ⟨ov2, pv2, cb2, rfl, IB2, U⟩; have M := turn1 MB U; clear U MB IB1; simp only [List.cons_append, List.nil_append] at M; have hf2 := ms_fit2 hwf M; replace M := Mem.at' M [4, 3, 2, 5, 6, 7, 8, 0, 1] (by decide) rfl; simp only [List.filterMap_cons, List.filterMap_nil, List.getElem?_cons_zero, List.getElem?_cons_succ] at M) | (have MB := Mem.at' M [6, 1, 3, 4, 5, 7, 8, 9, 10, 11, 12] (by decide) rfl; simp only [List.filterMap_cons, List.filterMap_nil, List.getElem?_cons_zero, List.getElem?_cons_succ] at MB; with_reducible refine (CT.out _ _ _ _ (MB.ok 0 _ at0) IB2 (by first | rfl | simp [hn])).mono ?_; clear M; rintro e w1 ⟨rfl, cb3, IB3, U⟩; have M := MB.upd 0 at0 U; clear U MB IB2; simp only [setC] at M) | (with_reducible refine (CF.out _ _ _ (M.ok 6 _ at6) IC).mono ?_; rintro e w1 ⟨rfl, cc1, IC1, U⟩; replace M := M.upd 6 at6 U; clear U IC; simp only [setC] at M)))  | ((with_reducible show wpList _ _ _ (Oper.mk _ (Op.store 67 _ _) _ _ _ _ :: _) _ _); refine w_at2 _ _ _ rfl (by exact ev_tmp rfl) (by first | exact ev_tmp rfl | exact ev_const) ?_; intro hx hy; (first | refine w_storeMs (m := W.ms ov2 pv2) M 0 _ _ _ rfl rfl hx rfl hy rfl (by kernel_rfl) hf2 zeroM_fit ?_ | refine w_storeMs (m := W.ms ov1 pv1) M 0 _ _ _ rfl rfl hx rfl hy rfl (by kernel_rfl) hf1 zeroM_fit ?_ | refine w_storeMs (m := zeroM) M 0 _ _ _ rfl rfl hx rfl hy rfl (by kernel_rfl) zeroM_fit zeroM_fit ?_); clear hx hy M; intro w1 M; (try simp only [setC] at M)) | ((with_reducible show wpList _ _ _ (Oper.mk _ (Op.load 67 _) _ _ _ _ :: _) _ _); refine w_at _ _ rfl (by exact ev_tmp rfl) ?_; intro hx; (first | refine w_loadMs M 8 _ _ rfl rfl hx rfl (by decide +kernel) (by kernel_rfl) hf1 ?_ | refine w_loadMs M 6 _ _ rfl rfl hx rfl (by decide +kernel) (by kernel_rfl) hf2 ?_); clear hx) | ((with_reducible show Code.wp _ (Code.region 12 _ _) _ _ _); go_must (have MR := M; refine region_fork (.rd 0 (.rd 2 (.rd 4 (.rd 6 (.rd 1 (.rd 3 (.rd 5 (.rd 7 (.rd 8 (.wr 9 (.wr 10 (.rd 11 (.rd 12 (.wr 13 .nil)))))))))))))) [(82, .int), (78, .str), (85, .str)] [(1, _), (5, _)] (IxOk MR [3]) 14 (by kernel_rfl) (by kernel_rfl) rfl (by kernel_rfl) (lowA MR 3 2 (lowA MR 3 2 lows_nil)) (ixOk_self MR _) ?_; replace M := M.drew; simp only [planT, opAt, List.getElem?_toArray, List.getElem?_cons_zero, List.getElem?_cons_succ, Option.getD_some])) | ((with_reducible show wpList _ _ _ (Oper.mk _ (Op.buildSlice 70 1 _) _ _ _ _ :: _) _ _); go_must (refine w_buildSliceB M bytesT _ rfl rfl (by first | exact ev_tmp rfl | exact ev_const) ?_; clear M; intro g w1 M)) | (go_at_call 26; go_must (first | (with_reducible refine (LC.out _ _ _ (M.ok 9 _ rfl) IA1).mono ?_; rintro e w1 ⟨rfl, hb⟩; replace M := M.call hb; clear hb) | (with_reducible refine (LinkCountNil_c _).mono ?_; rintro e w1 ⟨rfl, hb⟩; replace M := M.call hb; clear hb))) | (go_at_call 27; go_must (refine (awake19_c _).mono ?_; rintro e w1 ⟨rfl, hb⟩; replace M := M.call hb; clear hb)) | (go_at_call 28; go_must (refine (SM.out _ _ _ _ _ (SeesL.own M 11 rfl rfl opV_len) (SeesL.own M 12 rfl rfl prV_len) (SeesL.own M 13 rfl rfl opV_len) (SeesL.own M 14 rfl rfl prV_len)).mono ?_; rintro e w1 ⟨rfl, hb⟩; replace M := M.call hb; clear hb)) | ((with_reducible refine tLoad ?_); refine w_at _ _ rfl (by exact ev_tmp rfl) ?_; intro hx; (first | refine w_load M 8 _ _ rfl rfl hx rfl (by decide +kernel) (by with_reducible exact H1.out _ _) ?_); clear hx) | (with_reducible refine Seg.alt ?_ ?_) | ((with_reducible show Seg _ _ _ _); go_must (first | refine Seg.intro ⟨fun h => absurd rfl h, ?_⟩ | refine Seg.intro ⟨fun _ => ixA, ?_⟩ | refine Seg.intro ⟨ndA, atA, ?_⟩)) | ((with_reducible show OnlyN _ _ _ _ _); refine OnlyN.intro (by kernel_rfl) ?_) | ((with_reducible refine tGuard ?_); first | refine gdS ?_ | (refine gdC ?_ ?_ <;> (intro hgd; rw [hgd]; try (exfalso; simp at hgd; omega)))) | ((with_reducible refine tConv _ 70 9 ?_); go_must (refine cvB ?_)) | ((with_reducible refine tLoad ?_); go_must (refine ldB ?_)) | ((with_reducible refine tStore ?_); go_must (refine stB ?_; clear M; intro w1 M; (try simp only [setC] at M))) | ((with_reducible refine tBox _ ?_); (refine bxA M ?_; clear M; intro g w1 M))) <;> (try conv => arg 5; simp only [Act.put, List.setIfInBounds_toArray, setC]))
  go_ret
  exact ⟨by first | rfl | simp, M.below⟩
end Go.Proofs.YtidadhbaomieiaaGreat
