/- Texts of this seat, put together: LinkD, LinkG, Own, FrameU, LinkP, FrameW. Each begins with a remark that says what is proved in it, and under which conditions. -/
import Derived.Test.YtidadhbaomieiaaGreatZb
import Derived.Test.YtidadhbaomieiaaGreatZc
import Derived.Test.YtidadhbaomieiaaGreatZe
import Derived.Test.YtidadhbaomieiaaGreatZg
/- The walk of layer 19's wake. Conditions: none. -/
namespace Go
namespace TL
open Go.RowKit
def helloM : Lm := ⟨1, 3, 0, 0, 0, 0, [], 0, zeroH, 0, 0, zeroH, zeroH, []⟩
theorem helloM_fit : helloM.fit := ⟨zeroH_len, zeroH_len, zeroH_len⟩
theorem helloM_rng : helloM.rng := ⟨fun q => by cases q <;> decide, by decide, by simp [helloM], by simp [helloM], by simp [helloM], by simp [helloM], by simp [helloM]⟩
theorem helloM_only : onlyL helloM = helloM := rfl
theorem helloM_ok : okL helloM = true := by decide +kernel
theorem helloM_b : bytesM helloM = (bytesL helloM, 0) := by rw [bytesM_eq helloM_fit helloM_rng, if_pos (by decide), if_pos ⟨helloM_ok, helloM_only⟩]
theorem read_right {L : Lm} (hL : L.fit) (hr : L.rng) (hk : isK L.k = true) (ho : okL L = true) (hn : onlyL L = L) : readM (bytesL L) = (L, 0) := by
  have := readM_back hL hr hk ho []
  rwa [List.append_nil, if_pos rfl, hn] at this
theorem link_open (seed : List UInt8) (a b : UInt8) (boot : UInt32) (n : UInt64) (text : List UInt8) (ht : text.length ≤ 8192) : openL (masterK seed a b) 0 (envB (RingS.env ⟨masterK seed a b, 0, boot, n⟩ (aboutK a b) text)) (aboutK a b) = (text, 0) :=
  openL_ok (R := ⟨masterK seed a b, 0, boot, n⟩) (aboutK a b) text (Nat.zero_le _) ht (Nat.le_refl _)
theorem link_len (seed : List UInt8) (a b : UInt8) (boot : UInt32) (n : UInt64) (text : List UInt8) (ht : text.length ≤ 8192) : (envB (RingS.env ⟨masterK seed a b, 0, boot, n⟩ (aboutK a b) text)).length ≤ 8600 :=
  envB_length (RingS.env_right (R := ⟨masterK seed a b, 0, boot, n⟩) (aboutK a b) text (Nat.zero_le _) ht)
theorem swapH {F : List Nat} {w0 w : World} {c d : Chunk} {L : List Chunk} (M : Mem F w0 w (c :: d :: L)) : Mem F w0 w (d :: c :: L) :=
  M.pick _ (fun i => if i = 0 then 1 else if i = 1 then 0 else i) (fun i j _ _ h => by (try dsimp only at h); split at h <;> split at h <;> (try split at h) <;> (try split at h) <;> omega) (fun i c' h => by
    match i, h with
    | 0, h => simpa using h
    | 1, h => simpa using h
    | i + 2, h => simpa using h)
theorem turn1 {F : List Nat} {w0 w w' : World} {c : Chunk} {K' L : List Chunk} (M : Mem F w0 w (c :: L)) (U : Mem c.fp w w' K') : Mem F w0 w' (K' ++ L) := Mem.turn (K := [c]) M (by simpa using U)
end TL
end Go
namespace Go.Proofs.YtidadhbaomieiaaGreat
open Go.RowKit Go.TL
set_option maxRecDepth 100000 in
set_option maxHeartbeats 8000000 in
theorem awake19_c (w : World) : Calls Tryz.prog 27 #[] w fun e w' => e = .returned (.bool true) ∧ Below w.heap.size w w' := by
  have M := Mem.start [] w
  have NA : ∀ w, Calls Tryz.prog 23 #[.int .i64 0, .string (mkS [115]), .int .u32 1] w fun e w' => ∃ g C, e = .returned (.tuple #[.pointer (some ⟨g, 0, none⟩), .int .i64 0]) ∧ IsLink g (linkOf [115] 0 1 0 1 1 0) C ∧ Mem [] w w' [C] := fun w => LinkNew_ok [115] 0 1 0 1 1 w (by decide) (by unfold EndOf; decide)
  have NB : ∀ w, Calls Tryz.prog 23 #[.int .i64 1, .string (mkS [115]), .int .u32 1] w fun e w' => ∃ g C, e = .returned (.tuple #[.pointer (some ⟨g, 0, none⟩), .int .i64 0]) ∧ IsLink g (linkOf [115] 1 0 1 0 1 0) C ∧ Mem [] w w' [C] := fun w => LinkNew_ok [115] 1 0 1 0 1 w (by decide) (by unfold EndOf; decide)
  have hsh := bytesL_short helloM_fit helloM_rng (by decide) helloM_ok
  have SC : ∀ (C : Array Value) (g : Nat) (c : Chunk) (w : World) (h : c.ok w) (I : IsLink g (linkOf [115] 0 1 0 1 1 0) c), C = (msgC (helloM.ms (.slice none 0 0) (.slice none 0 0))).toArray → Calls Tryz.prog 24 #[.pointer (some ⟨g, 0, none⟩), .agg C] w fun r w' => r = .returned (.tuple #[.agg #[.int .i64 0, .int .i64 1, .string (mkS (envB (RingS.env ⟨masterK [115] 0 1, 0, 1, 0⟩ (aboutK 0 1) (bytesL helloM))))], .int .i64 0]) ∧ ∃ c', True ∧ Upd w c w' c' := fun C g c w h I hC => by
    rw [hC]
    refine (Send_ok helloM (.slice none 0 0) (.slice none 0 0) 0 1 h I (.inl ⟨rfl, rfl, rfl, rfl⟩) (by show (masterK [115] 0 1).length ≤ _; rw [masterK_len]; decide) (by show 0 ≤ 1048576; decide) (by show (0 : UInt64).toNat < _; decide) helloM_fit helloM_rng (seesL_nil _ _ opV_len _) (seesL_nil _ _ prV_len _) (by simp [Value.ownBlock]) (by simp [Value.ownBlock]) (by decide) helloM_ok helloM_b).mono ?_
    rintro e w' ⟨rfl, c', _, U⟩
    exact ⟨rfl, c', trivial, U⟩
  have hop := link_open [115] 0 1 1 0 (bytesL helloM) hsh
  have hln := link_len [115] 0 1 1 0 (bytesL helloM) hsh
  have CC := fun (g : Nat) (c : Chunk) (w : World) (h : c.ok w) (I : IsLink g (linkOf [115] 1 0 1 0 1 0) c) => Come_ok (envB (RingS.env ⟨masterK [115] 0 1, 0, 1, 0⟩ (aboutK 0 1) (bytesL helloM))) 1 0 h I (.inr ⟨rfl, rfl, rfl, rfl⟩) (by show (masterK [115] 0 1).length ≤ _; rw [masterK_len]; decide) (by omega) (by show (openL (masterK [115] 0 1) 0 _ (aboutK 0 1)).2 = 0; rw [hop])
  have hop2 : openL (linkOf [115] 1 0 1 0 1 0).inn.m (linkOf [115] 1 0 1 0 1 0).inn.c (envB (RingS.env ⟨masterK [115] 0 1, 0, 1, 0⟩ (aboutK 0 1) (bytesL helloM))) (aboutK 0 1) = (bytesL helloM, 0) := hop
  rw [hop2, read_right helloM_fit helloM_rng (by decide) helloM_ok helloM_only] at CC
  simp only at CC
  obtain ⟨D, eD⟩ : ∃ D, D = envB (RingS.env ⟨masterK [115] 0 1, 0, 1, 0⟩ (aboutK 0 1) (bytesL helloM)) := ⟨_, rfl⟩
  rw [← eD] at SC CC
  have CC' : ∀ (g : Nat) (c : Chunk) (w : World), c.ok w → IsLink g (linkOf [115] 1 0 1 0 1 0) c → Calls Tryz.prog 25 #[.pointer (some ⟨g, 0, none⟩), .agg #[.int .i64 0, .int .i64 1, .string (mkS D)]] w fun e w' => ∃ ov pv c', e = .returned (.tuple #[.agg (msgC (helloM.ms ov pv)).toArray, .int .i64 0]) ∧ IsLink g (linkOf [115] 1 0 1 0 1 0) c' ∧ Mem c.fp w w' [.sl 3 ov helloM.ops.length (helloM.ops.flatMap opV), .sl 2 pv helloM.prs.length (helloM.prs.flatMap prV), c'] := CC
  have hwf := helloM_fit
  have hwk : helloM.k = 1 := rfl
  have hwe : helloM.e = 3 := rfl
  obtain ⟨W, eW⟩ : ∃ W, W = helloM := ⟨_, rfl⟩
  rw [← eW] at CC' hwf hwk hwe
  obtain ⟨KA, eA⟩ : ∃ K, K = linkOf [115] 0 1 0 1 1 0 := ⟨_, rfl⟩
  obtain ⟨KB, eB⟩ : ∃ K, K = linkOf [115] 1 0 1 0 1 0 := ⟨_, rfl⟩
  rw [← eA] at NA SC
  rw [← eB] at NB CC'
  have H0 : ∀ ov pv, (msgC (W.ms ov pv))[0]? = some (.int .u8 1) := fun ov pv => by show some (Value.int .u8 (I8 W.k)) = _; rw [hwk]; rfl
  have H1 : ∀ ov pv, (msgC (W.ms ov pv))[1]? = some (.int .i64 3) := fun ov pv => by show some (Value.int .i64 W.e) = _; rw [hwe]
  replace NA := Lib.hid NA
  replace NB := Lib.hid NB
  replace SC := Lib.hid SC
  replace CC' := Lib.hid CC'
  replace H0 := Lib.hid H0
  replace H1 := Lib.hid H1
  clear CC eW hwk hwe eD hop hop2 hln hsh eA eB
  go_enter Tryz.func27, Tryz.ntmps27
  go_wp2_with ((first | ((with_reducible refine tGuard ?_); (with_reducible refine w_stripE ?_ ?_); (focus (refine ⟨_, rfl, ?_⟩; first | (with_reducible rfl) | exact decide_eq_false (by omega) | exact decide_eq_true (by omega)))) | ((with_reducible refine tGuard ?_); first | ((with_reducible refine w_skip1 ?_ ?_); (focus (refine ⟨_, rfl, ?_⟩; first | (with_reducible rfl) | exact decide_eq_false (by omega) | exact decide_eq_true (by omega)))) | ((with_reducible refine w_skip0 ?_ ?_); (focus (refine ⟨_, rfl, ?_⟩; first | (with_reducible rfl) | exact decide_eq_false (by omega) | exact decide_eq_true (by omega))))) | (go_at_call 23; go_must (first | (with_reducible refine (NA.out _).mono ?_; rintro e w1 ⟨ga, ca, rfl, IA, MJ⟩) | (with_reducible refine (NB.out _).mono ?_; rintro e w1 ⟨gb, cb, rfl, IB, MJ⟩)); replace M := M.join MJ; clear MJ; simp only [List.cons_append, List.nil_append] at M) | (go_at_call 24; go_must (refine (SC.out _ _ _ _ (M.ok 1 _ at1) IA rfl).mono ?_; rintro e w1 ⟨rfl, ca1, _, U⟩; replace M := M.upd 1 at1 U; clear U; simp only [setC] at M)) | ((with_reducible refine tAlloc (some 5) 58 ?_); refine w_alloc M _ rfl rfl (.agg #[.int .i64 0, .int .i64 0, .string (mkS [])]) ([.int .i64 0, .int .i64 0, .string (mkS [])]) (by kernel_rfl) rfl ?_; clear M; intro gp w1 M) | (go_at_call 25; go_must (replace M := swapH M; refine (CC'.out _ _ _ (M.ok 0 _ at0) IB).mono ?_; rintro e w1 ⟨rov, rpv, cb1, rfl, IB1, U⟩; replace M := turn1 M U; clear U; simp only [List.cons_append, List.nil_append] at M; have hrf := ms_fit2 hwf M)) | ((with_reducible refine tAlloc (some 7) 67 ?_); refine w_alloc M _ rfl rfl (.agg (msgC zeroM).toArray) (msgC zeroM) (by kernel_rfl) rfl ?_; clear M; intro gm w1 M) | ((with_reducible show wpList _ _ _ (Oper.mk _ (Op.store 67 _ _) _ _ _ _ :: _) _ _); refine w_at2 _ _ _ rfl (by exact ev_tmp rfl) (by first | exact ev_tmp rfl | exact ev_const) ?_; intro hx hy; refine w_storeMs (m := W.ms rov rpv) M 0 _ _ _ rfl rfl hx rfl hy rfl (by kernel_rfl) hrf zeroM_fit ?_; clear hx hy M; intro w1 M; (try simp only [setC] at M)) | ((with_reducible refine tLoad ?_); refine w_at _ _ rfl (by exact ev_tmp rfl) ?_; intro hx; (first | refine w_load M 0 _ _ rfl rfl hx rfl (by decide +kernel) (by with_reducible first | exact H0.out _ _ | exact H1.out _ _) ?_); clear hx) | ((with_reducible refine tGuard ?_); first | refine gdS ?_ | (refine gdC ?_ ?_ <;> (intro hgd; rw [hgd]; try (exfalso; simp at hgd; omega)))) | fail | ((with_reducible refine tLoad ?_); go_must (refine ldS ?_)) | ((with_reducible refine tStore ?_); go_must (refine stS ?_; clear M; intro w1 M; (try simp only [setC] at M))) | ((with_reducible refine tBox _ ?_); (refine bxA M ?_; clear M; intro g w1 M))) <;> (try conv => arg 5; simp only [Act.put, List.setIfInBounds_toArray, setC]))
  go_ret
  exact ⟨by first | rfl | simp, M.below⟩
end Go.Proofs.YtidadhbaomieiaaGreat

/- The walk of layer 19's great. No conditions. -/
namespace Go.Proofs.YtidadhbaomieiaaGreat
open Go.RowKit Go.TL
structure SmallL (seed : List UInt8) (l : List Mx) : Prop where
  seed : seed.length ≤ 300
  len : l.length ≤ 12
  each : ∀ x ∈ l, greatL x.L = false
set_option maxRecDepth 100000 in
set_option maxHeartbeats 4000000 in
theorem great19_c (seed : List UInt8) (l : List Mx) (v : Value) (w : World) (S : SeesL w 107 mxV v l) (hok : ∀ x ∈ l, MxOk w x) :
    Calls Tryz.prog 29 #[.string (mkS seed), v] w fun e w' => ∃ b, e = .returned (.bool b) ∧ (b = false ↔ SmallL seed l) ∧ Below w.heap.size w w' := by
  obtain ⟨p, cap, rfl, hc⟩ := S.form
  have M := Mem.start [] w
  have GC : ∀ (w' : World) (x : Mx), x ∈ l → Mem [] w w' [] → Calls Tryz.prog 56 #[.agg (mxV x).toArray] w' fun e w'' => e = .returned (.bool (greatL x.L)) ∧ Below w'.heap.size w' w'' := fun w' x hx M => by
    have h := hok x hx
    exact Great_c x.L x.ov x.pv w' h.lfit (h.so.now M) (h.sp.now M) h.lo h.lp
  replace GC := Lib.hid GC
  clear hok
  go_enter Tryz.func29, Tryz.ntmps29
  go_wp2_with fail
  go_loopw [5] (fun kv wr => ∃ k : Nat, k ≤ l.length ∧ k ≤ 13 ∧ kv = .int .i64 k ∧ Hid (∀ (j : Nat) (x : Mx), j < k → l[j]? = some x → greatL x.L = false) ∧ Mem [] w wr []) (fun kv _ => l.length - (intOf kv).toNat)
  case atStart => exact ⟨0, by omega, by omega, rfl, Lib.hid (by omega), M⟩
  case round =>
    clear M
    obtain ⟨k, hk, hk13, rfl, HK, M⟩ := hrel
    by_cases hlt : k < l.length
    · by_cases h12 : k ≤ 12
      · obtain ⟨g, so, rfl⟩ := S.addr (by omega)
        obtain ⟨x, hx⟩ : ∃ x, l[k]? = some x := ⟨_, List.getElem?_eq_getElem hlt⟩
        have HX := Lib.hid hx
        have GX := Lib.hid (fun w' M => GC.out w' x (List.mem_of_getElem? hx) M)
        clear hx
        cases hg : greatL x.L with
        | true =>
          rw [hg] at GX
          have hns : Hid (¬ SmallL seed l) := Lib.hid fun h => by
            have := h.each x (List.mem_of_getElem? HX.out)
            rw [hg] at this; cases this
          go_wp2_with ((first | ((with_reducible refine tGuard ?_); (with_reducible refine w_stripE ?_ ?_); (focus (refine ⟨_, rfl, ?_⟩; first | (with_reducible rfl) | exact decide_eq_false (by omega) | exact decide_eq_true (by omega)))) | ((with_reducible refine tGuard ?_); first | ((with_reducible refine w_skip1 ?_ ?_); (focus (refine ⟨_, rfl, ?_⟩; first | (with_reducible rfl) | exact decide_eq_false (by omega) | exact decide_eq_true (by omega)))) | ((with_reducible refine w_skip0 ?_ ?_); (focus (refine ⟨_, rfl, ?_⟩; first | (with_reducible rfl) | exact decide_eq_false (by omega) | exact decide_eq_true (by omega))))) | (go_at_call 56; go_must (refine (GX.out _ M).mono ?_; rintro e w1 ⟨rfl, hb⟩; replace M := M.call hb; clear hb)) | ((with_reducible show wpList _ _ _ (Oper.mk _ (Op.load 67 _) _ _ _ _ :: _) _ _); refine w_at _ _ rfl (by exact ev_tmp rfl) ?_; intro hx; refine w_seeA M S HX.out _ _ rfl hx rfl (by kernel_rfl) (by first | rfl | omega | (simp; omega)) (by rw [mxV_len]; kernel_rfl) ?_; clear hx) | ((with_reducible refine tGuard ?_); refine gdS ?_) | fail | ((with_reducible refine tLoad ?_); go_must (refine ldS ?_)) | ((with_reducible refine tStore ?_); go_must (refine stS ?_; clear M; intro w1 M; (try simp only [setC] at M))) | ((with_reducible refine tBox _ ?_); (refine bxA M ?_; clear M; intro g w1 M))) <;> (try conv => arg 5; simp only [Act.put, List.setIfInBounds_toArray, setC]))
          go_ret
          exact ⟨true, rfl, ⟨fun h => (by cases h), fun h => absurd h hns.out⟩, M.below⟩
        | false =>
          rw [hg] at GX
          replace hg := Lib.hid hg
          go_wp2_with ((first | ((with_reducible refine tGuard ?_); (with_reducible refine w_stripE ?_ ?_); (focus (refine ⟨_, rfl, ?_⟩; first | (with_reducible rfl) | exact decide_eq_false (by omega) | exact decide_eq_true (by omega)))) | ((with_reducible refine tGuard ?_); first | ((with_reducible refine w_skip1 ?_ ?_); (focus (refine ⟨_, rfl, ?_⟩; first | (with_reducible rfl) | exact decide_eq_false (by omega) | exact decide_eq_true (by omega)))) | ((with_reducible refine w_skip0 ?_ ?_); (focus (refine ⟨_, rfl, ?_⟩; first | (with_reducible rfl) | exact decide_eq_false (by omega) | exact decide_eq_true (by omega))))) | (go_at_call 56; go_must (refine (GX.out _ M).mono ?_; rintro e w1 ⟨rfl, hb⟩; replace M := M.call hb; clear hb)) | ((with_reducible show wpList _ _ _ (Oper.mk _ (Op.load 67 _) _ _ _ _ :: _) _ _); refine w_at _ _ rfl (by exact ev_tmp rfl) ?_; intro hx; refine w_seeA M S HX.out _ _ rfl hx rfl (by kernel_rfl) (by first | rfl | omega | (simp; omega)) (by rw [mxV_len]; kernel_rfl) ?_; clear hx) | ((with_reducible refine tGuard ?_); refine gdS ?_) | fail | ((with_reducible refine tLoad ?_); go_must (refine ldS ?_)) | ((with_reducible refine tStore ?_); go_must (refine stS ?_; clear M; intro w1 M; (try simp only [setC] at M))) | ((with_reducible refine tBox _ ?_); (refine bxA M ?_; clear M; intro g w1 M))) <;> (try conv => arg 5; simp only [Act.put, List.setIfInBounds_toArray, setC]))
          go_roundw
          case rel => exact ⟨k + 1, by omega, by omega, by go_num, Lib.hid fun j y hj hyy => by
            by_cases hjk : j < k
            · exact HK.out j y hjk hyy
            · obtain rfl : j = k := by omega
              rw [HX.out] at hyy; injection hyy with hyy; subst hyy; exact hg.out, M⟩
          case measure => simp [intOf]; omega
      · have hns : Hid (¬ SmallL seed l) := Lib.hid fun h => by have := h.len; omega
        go_wp2_with ((first | ((with_reducible refine tGuard ?_); (with_reducible refine w_stripE ?_ ?_); (focus (refine ⟨_, rfl, ?_⟩; first | (with_reducible rfl) | exact decide_eq_false (by omega) | exact decide_eq_true (by omega)))) | ((with_reducible refine tGuard ?_); first | ((with_reducible refine w_skip1 ?_ ?_); (focus (refine ⟨_, rfl, ?_⟩; first | (with_reducible rfl) | exact decide_eq_false (by omega) | exact decide_eq_true (by omega)))) | ((with_reducible refine w_skip0 ?_ ?_); (focus (refine ⟨_, rfl, ?_⟩; first | (with_reducible rfl) | exact decide_eq_false (by omega) | exact decide_eq_true (by omega))))) | ((with_reducible refine tGuard ?_); refine gdS ?_) | fail | ((with_reducible refine tLoad ?_); go_must (refine ldS ?_)) | ((with_reducible refine tStore ?_); go_must (refine stS ?_; clear M; intro w1 M; (try simp only [setC] at M))) | ((with_reducible refine tBox _ ?_); (refine bxA M ?_; clear M; intro g w1 M))) <;> (try conv => arg 5; simp only [Act.put, List.setIfInBounds_toArray, setC]))
        go_ret
        first | exact ⟨true, by first | rfl | (simp; omega), ⟨fun h => (by cases h), fun h => absurd h hns.out⟩, M.below⟩ | exact .inr ⟨by first | rfl | (simp; omega), hns.out, M.below⟩
    · obtain rfl : k = l.length := by omega
      by_cases h12 : l.length ≤ 12
      · by_cases h3 : seed.length ≤ 300
        · have hfin : SmallL seed l := ⟨h3, h12, fun x hx => by
            obtain ⟨j, hj⟩ := List.getElem?_of_mem hx
            exact HK.out j x (List.getElem?_eq_some_iff.1 hj).1 hj⟩
          go_wp2_with ((first | ((with_reducible refine tGuard ?_); (with_reducible refine w_stripE ?_ ?_); (focus (refine ⟨_, rfl, ?_⟩; first | (with_reducible rfl) | exact decide_eq_false (by omega) | exact decide_eq_true (by omega)))) | ((with_reducible refine tGuard ?_); first | ((with_reducible refine w_skip1 ?_ ?_); (focus (refine ⟨_, rfl, ?_⟩; first | (with_reducible rfl) | exact decide_eq_false (by omega) | exact decide_eq_true (by omega)))) | ((with_reducible refine w_skip0 ?_ ?_); (focus (refine ⟨_, rfl, ?_⟩; first | (with_reducible rfl) | exact decide_eq_false (by omega) | exact decide_eq_true (by omega))))) | ((with_reducible refine tGuard ?_); refine gdS ?_) | fail | ((with_reducible refine tLoad ?_); go_must (refine ldS ?_)) | ((with_reducible refine tStore ?_); go_must (refine stS ?_; clear M; intro w1 M; (try simp only [setC] at M))) | ((with_reducible refine tBox _ ?_); (refine bxA M ?_; clear M; intro g w1 M))) <;> (try conv => arg 5; simp only [Act.put, List.setIfInBounds_toArray, setC]))
          go_ret
          exact ⟨false, by first | rfl | (simp; omega), ⟨fun _ => hfin, fun _ => rfl⟩, M.below⟩
        · have hns : Hid (¬ SmallL seed l) := Lib.hid fun h => by have := h.seed; omega
          go_wp2_with ((first | ((with_reducible refine tGuard ?_); (with_reducible refine w_stripE ?_ ?_); (focus (refine ⟨_, rfl, ?_⟩; first | (with_reducible rfl) | exact decide_eq_false (by omega) | exact decide_eq_true (by omega)))) | ((with_reducible refine tGuard ?_); first | ((with_reducible refine w_skip1 ?_ ?_); (focus (refine ⟨_, rfl, ?_⟩; first | (with_reducible rfl) | exact decide_eq_false (by omega) | exact decide_eq_true (by omega)))) | ((with_reducible refine w_skip0 ?_ ?_); (focus (refine ⟨_, rfl, ?_⟩; first | (with_reducible rfl) | exact decide_eq_false (by omega) | exact decide_eq_true (by omega))))) | ((with_reducible refine tGuard ?_); refine gdS ?_) | fail | ((with_reducible refine tLoad ?_); go_must (refine ldS ?_)) | ((with_reducible refine tStore ?_); go_must (refine stS ?_; clear M; intro w1 M; (try simp only [setC] at M))) | ((with_reducible refine tBox _ ?_); (refine bxA M ?_; clear M; intro g w1 M))) <;> (try conv => arg 5; simp only [Act.put, List.setIfInBounds_toArray, setC]))
          go_ret
          first | exact ⟨true, by first | rfl | (simp; omega), ⟨fun h => (by cases h), fun h => absurd h hns.out⟩, M.below⟩ | exact .inr ⟨by first | rfl | (simp; omega), hns.out, M.below⟩
      · have hns : Hid (¬ SmallL seed l) := Lib.hid fun h => by have := h.len; omega
        go_wp2_with ((first | ((with_reducible refine tGuard ?_); (with_reducible refine w_stripE ?_ ?_); (focus (refine ⟨_, rfl, ?_⟩; first | (with_reducible rfl) | exact decide_eq_false (by omega) | exact decide_eq_true (by omega)))) | ((with_reducible refine tGuard ?_); first | ((with_reducible refine w_skip1 ?_ ?_); (focus (refine ⟨_, rfl, ?_⟩; first | (with_reducible rfl) | exact decide_eq_false (by omega) | exact decide_eq_true (by omega)))) | ((with_reducible refine w_skip0 ?_ ?_); (focus (refine ⟨_, rfl, ?_⟩; first | (with_reducible rfl) | exact decide_eq_false (by omega) | exact decide_eq_true (by omega))))) | ((with_reducible refine tGuard ?_); refine gdS ?_) | fail | ((with_reducible refine tLoad ?_); go_must (refine ldS ?_)) | ((with_reducible refine tStore ?_); go_must (refine stS ?_; clear M; intro w1 M; (try simp only [setC] at M))) | ((with_reducible refine tBox _ ?_); (refine bxA M ?_; clear M; intro g w1 M))) <;> (try conv => arg 5; simp only [Act.put, List.setIfInBounds_toArray, setC]))
        go_ret
        first | exact ⟨true, by first | rfl | (simp; omega), ⟨fun h => (by cases h), fun h => absurd h hns.out⟩, M.below⟩ | exact .inr ⟨by first | rfl | (simp; omega), hns.out, M.below⟩
theorem great19_no (seed : List UInt8) (l : List Mx) (v : Value) (w : World) (S : SeesL w 107 mxV v l) (hok : ∀ x ∈ l, MxOk w x) (h : ¬ SmallL seed l) :
    Calls Tryz.prog 29 #[.string (mkS seed), v] w fun e w' => e = .returned (.bool true) ∧ Below w.heap.size w w' :=
  (great19_c seed l v w S hok).mono fun e w' ⟨b, he, hb, hbe⟩ => ⟨by cases b with | true => exact he | false => exact absurd (hb.1 rfl) h, hbe⟩
theorem great19_yes (seed : List UInt8) (l : List Mx) (v : Value) (w : World) (S : SeesL w 107 mxV v l) (hok : ∀ x ∈ l, MxOk w x) (h : SmallL seed l) :
    Calls Tryz.prog 29 #[.string (mkS seed), v] w fun e w' => e = .returned (.bool false) ∧ Below w.heap.size w w' :=
  (great19_c seed l v w S hok).mono fun e w' ⟨b, he, hb, hbe⟩ => ⟨by rw [hb.2 h] at he; exact he, hbe⟩
end Go.Proofs.YtidadhbaomieiaaGreat

/- Elements of the walk's own slice of structs. No conditions but those each law names. -/
namespace Go
namespace TL
open Go.RowKit
section
variable {α : Type} {P : Program} {ops : Array Oper} {rest : List Oper} {o : Oper} {a : Act} {w w0 : World} {Q : Exit → Act → World → Prop} {F : List Nat} {L : List Chunk} {size : Nat} {f : α → List Value} {l : List α}
theorem own_cell (M : Mem F w0 w L) (i : Nat) (hf : ∀ x, (f x).length = size) {g so n m cap : Nat} (hi : L[i]? = some (.sl size (.slice (some ⟨g, so, none⟩) m cap) n (l.flatMap f))) {k : Nat} {x : α} (hk : l[k]? = some x) {j : Nat} {val : Value} (hv : (f x)[j]? = some val) : w.cell? ⟨g, so + (k * size + j), none⟩ = some val := by
  have hj : j < size := by rw [← hf x]; exact (List.getElem?_eq_some_iff.1 hv).1
  exact M.slCell i hi ((flat_get hf l k x hk j hj).trans hv)
theorem w_ownA (M : Mem F w0 w L) (i : Nat) (hf : ∀ x, (f x).length = size) {g so n m cap : Nat} (hi : L[i]? = some (.sl size (.slice (some ⟨g, so, none⟩) m cap) n (l.flatMap f))) {k : Nat} {x : α} (hk : l[k]? = some x) (t : TypeId) (op : Operand) (ho : o.op = .load t op) {off : Nat} (hx : a.eval op = .pointer (some ⟨g, off, none⟩)) (hw : Region.wanted o (yielded ops a.tmps) = true)
    (ht : rowT P t = true) (hoff : off = so + k * size) (hn : (P.info? t).map (·.size) = some (f x).length) (h : wpList P ops Q rest (a.put o.dst (.agg (f x).toArray)) w) : wpList P ops Q (o :: rest) a w :=
  wpW hw fun _ hK => by
    subst hoff
    unfold rowT at ht
    cases hu : P.underlying t with
    | none => simp [hu] at ht
    | some d =>
      simp only [hu] at ht
      refine wp_load_mid t op ho g _ hx (f x) d ?_ hu ht hn (hK _ _ h)
      intro j val hv
      rw [Nat.add_assoc]
      exact own_cell M i hf hi hk hv
theorem stab_ownA (M : Mem F w0 w L) {is : List Nat} (i : Nat) (hf : ∀ x, (f x).length = size) {g so n m cap : Nat} (hi : L[i]? = some (.sl size (.slice (some ⟨g, so, none⟩) m cap) n (l.flatMap f))) (hin : i ∈ is) {k : Nat} {x : α} (hk : l[k]? = some x) {t : TypeId} {op : Operand} (ho : o.op = .load t op) (ht : rowT P t = true) (hn : (P.info? t).map (·.size) = some (f x).length) :
    Stab P (IxOk M is) o (.pointer (some ⟨g, so + k * size, none⟩)) := by
  unfold rowT at ht
  cases hu : P.underlying t with
  | none => simp [hu] at ht
  | some d =>
    simp only [hu] at ht
    refine stab_load ho g _ (f x) d (fun w' hw j val hv => ?_) hu ht hn
    have hj : j < size := by rw [← hf x]; exact (List.getElem?_eq_some_iff.1 hv).1
    have hc := (flat_get hf l k x hk j hj).trans hv
    rw [Nat.add_assoc]
    rcases (hw.2 i hin _ hi).2 with ⟨h0, _⟩ | ⟨g', o', c, hv', _, _, _, _, hr, _⟩
    · cases h0
    · injection hv' with h1 _ _; injection h1 with h1; injection h1 with h1 h2; subst h1; subst h2; exact hr _ val hc
end
end TL
end Go

/- What the frames of statements about slices of bytes lean on. No conditions but those each lemma names. -/
namespace Go
namespace TL
open Go.RowKit Go.ChangeShapes Go.WideShapes Go.Deep
def u8V (b : UInt8) : List Value := [.int .u8 (I8 b)]
theorem u8V_len (b : UInt8) : (u8V b).length = 1 := rfl
section
variable {H : Type} {enc : TypeId × Value → H} {P : Program} {w : World} {base : Nat} {spare : Nat → Bool} {held : Bool}
theorem dec_u8 {e : TypeId} (he : P.underlying e = some (.int .u8)) : ∀ n cs y, cs.length = 1 → DataW.trod enc P w base spare held n e cs = some y → ∃ x : UInt8, cs = u8V x ∧ True := by
  intro n cs y hl h
  obtain ⟨k, hk, _, hw⟩ := DataW.trod_int he h
  obtain ⟨q, rfl⟩ := wf_u8 hw
  exact ⟨q, hk, trivial⟩
end
end TL
end Go

/- Plain: what one end has sent so far, and the messages and packets that LinkBack keeps. No conditions but those each law names. -/
namespace Go
namespace TL
open Go.RowKit
def pkV (me o : Int) (D : List UInt8) : List Value := [.int .i64 me, .int .i64 o, .string (mkS D)]
theorem pkV_len (me o : Int) : ∀ D, (pkV me o D).length = 3 := fun _ => rfl
def KeptL (seed : List UInt8) (a b : UInt8) (boot : UInt32) (l : List Mx) (Xs : List Mx) (Ds : List (List UInt8)) : Prop :=
  ∀ (j : Nat) (x : Mx) (D : List UInt8), Xs[j]? = some x → Ds[j]? = some D → x ∈ l ∧ isK x.L.k = true ∧ okL x.L = true ∧ onlyL x.L = x.L ∧ ∃ n, D = envB (RingS.env ⟨masterK seed a b, 0, boot, n⟩ (aboutK a b) (bytesL x.L))
theorem KeptL.snoc {seed : List UInt8} {a b : UInt8} {boot : UInt32} {l : List Mx} {Xs : List Mx} {Ds : List (List UInt8)} (h : KeptL seed a b boot l Xs Ds) (hl : Xs.length = Ds.length) {x : Mx} (hx : x ∈ l) (hk : isK x.L.k = true) (ho : okL x.L = true) (hn : onlyL x.L = x.L) (n : UInt64) : KeptL seed a b boot l (Xs ++ [x]) (Ds ++ [envB (RingS.env ⟨masterK seed a b, 0, boot, n⟩ (aboutK a b) (bytesL x.L))]) := by
  intro j y D hy hD
  by_cases hj : j < Xs.length
  · rw [List.getElem?_append_left hj] at hy
    rw [List.getElem?_append_left (by omega)] at hD
    exact h j y D hy hD
  · have e : j = Xs.length := by
      have := (List.getElem?_eq_some_iff.1 hy).1
      simp at this; omega
    subst e
    rw [List.getElem?_append_right (Nat.le_refl _), Nat.sub_self] at hy
    rw [hl, List.getElem?_append_right (Nat.le_refl _), Nat.sub_self] at hD
    simp at hy hD
    subst hy hD
    exact ⟨hx, hk, ho, hn, n, rfl⟩
theorem snoc_mx (l : List Mx) (x : Mx) : l.flatMap mxV ++ mxV x = (l ++ [x]).flatMap mxV := by simp
theorem snoc_pk (me o : Int) (l : List (List UInt8)) (D : List UInt8) : l.flatMap (pkV me o) ++ [.int .i64 me, .int .i64 o, .string (mkS D)] = (l ++ [D]).flatMap (pkV me o) := by simp [pkV]
theorem mxV_one (x : Mx) : ∀ v ∈ mxV x, v.oneCell' = true := msgC_one x.fit
theorem modN (k q : Nat) (_hq : 0 < q) : ((k : Int).tmod (q : Int)) = ((k % q : Nat) : Int) := by
  rw [Int.tmod_eq_emod_of_nonneg (by omega)]; omega
theorem modB (x : UInt8) (q : Nat) (hq : 0 < q) : ((I8 x).tmod (q : Int)) = ((x.toNat % q : Nat) : Int) := by
  rw [I8_eq]; exact modN _ _ hq
theorem modW (x : UInt8) (q : Nat) (hq : 0 < q) : ((wrap64 (I8 x)).tmod (q : Int)) = ((x.toNat % q : Nat) : Int) := by
  rw [IntWalk.wrap64_in _ (by have := I8_bd x; omega)]; exact modB x q hq
end TL
end Go
namespace Go.Proofs.YtidadhbaomieiaaGreat
open Go.RowKit Go.TL
set_option maxRecDepth 1000000 in
theorem msgT : SliceT Tryz.prog 72 67 107 216 := ⟨Tryz.underlying72, ⟨_, _, rfl, rfl, rfl, rfl, rfl⟩, by omega⟩
set_option maxRecDepth 1000000 in
theorem pkT : SliceT Tryz.prog 82 58 3 32 := ⟨Tryz.underlying82, ⟨_, _, rfl, rfl, rfl, rfl, rfl⟩, by omega⟩
end Go.Proofs.YtidadhbaomieiaaGreat

/- Frames of statements about words of 32 and 64 bits. No conditions but those each lemma names. -/
namespace Go
namespace TL
open Go.RowKit
theorem wf_u32 {a : Int} (h : (Lit.int .u32 a).wf = true) : ∃ x : UInt32, a = I32 x := by
  have hb : IntKind.u32.min ≤ a ∧ a ≤ IntKind.u32.max := by simpa [Lit.wf] using h
  have h0 : IntKind.u32.min = 0 := by decide
  have h1 : IntKind.u32.max = 4294967295 := by decide
  rw [h0, h1] at hb
  refine ⟨UInt32.ofNat a.toNat, ?_⟩
  rw [I32_eq, UInt32.toNat_ofNat']
  omega
end TL
end Go
