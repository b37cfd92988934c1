/- The walk of LinkSends. Conditions: none but what every machine has. -/
import Derived.Test.YtidadhbaomieiaaGreatY
import Derived.Test.YtidadhbaomieiaaGreatZx
import Derived.Test.YtidadhbaomieiaaGreatVRef19S
set_option maxRecDepth 100000
set_option maxHeartbeats 16000000
namespace Go.Proofs.YtidadhbaomieiaaGreat
open Go.RowKit Go.TL
theorem u64_succS (n : UInt64) (k : Nat) (h : n.toNat ≤ k) (hk : k ≤ 1000) : (n + 1).toNat ≤ k + 1 := by
 rw [UInt64.toNat_add, show (1 : UInt64).toNat = 1 from rfl, Nat.mod_eq_of_lt yE]; omega
theorem SendNil_c (m : Ms) (w : World) : Calls Tryz.prog 24 #[.pointer none, .agg (msgC m).toArray] w fun e w' => e = .returned (.tuple #[.agg #[.int .i64 0, .int .i64 0, .string (mkS [])], .int .i64 2]) ∧ Below w.heap.size w w' := by
 have M := Mem.start [] w
 go_enter Tryz.func24, Tryz.ntmps24
 go_wp2_with ((first | ((with_reducible refine tGuard ?_); first | ((with_reducible refine w_stripE ?_ ?_); exact dcd) | ((with_reducible refine w_skip1 ?_ ?_); exact dcd) | ((with_reducible refine w_skip0 ?_ ?_); exact dcd)) | ((with_reducible refine tBox (some 3) ?_); refine w_box M _ _ rfl rfl _ rfl (msgC m) rfl ?_; clear M; intro gm w1 M) | ((with_reducible refine tAlloc (some 4) 58 ?_); refine w_alloc M _ rfl rfl (.agg #[.int .i64 0, .int .i64 0, .string (mkS [])]) ([.int .i64 0, .int .i64 0, .string (mkS [])]) yC rfl ?_; clear M; intro gp w1 M) | (go_at_call 50; (refine (linkNone_nil _).mono ?_; rintro e w1 ⟨rfl, rfl⟩)) | ((with_reducible refine tM rfl ?_); refine mS ?_; try (clear M; (first | intro g w1 M | intro w1 M); try simp only [setC] at M)) | ((with_reducible refine tGuard ?_); refine gdC ?_ ?_ <;> (intro hgd; rw [hgd]; try (exfalso; simp at hgd; omega)))) <;> (try conv => arg 5; simp only [apS, setC]))
 exact bodyPost_ret (results_two rfl _ _ gp 0 [.int .i64 0, .int .i64 0, .string (mkS [])] _ (.int .i64 2) rfl rfl (M.ok 0 _ at0).2.1 Tryz.underlying58 rfl yC) rfl ⟨rfl, M.below⟩
theorem LinkSends_ok (me o : Int) (a b : UInt8) (he : EndOf me o a b) (seed : List UInt8) (ba : UInt32) (l : List Mx) (v : Value) (w : World) (S : SeesL w 107 mxV v l) (hok : ∀ x ∈ l, MxOk w x) (hs : SmallL seed l) :
  Calls Tryz.prog 9 #[.int .i64 me, .string (mkS seed), .int .u32 (I32 ba), v] w fun e w' => e = .returned (.bool true) ∧ Below w.heap.size w w' := by
 obtain ⟨p, cap, rfl, hc⟩ := S.form
 have M := Mem.start [] w
 obtain ⟨hseed, hlen, heach⟩ := hs
 have GC := fun w' (S' : SeesL w' 107 mxV (.slice p l.length cap) l) (hok' : ∀ x ∈ l, MxOk w' x) => great19_yes seed l (.slice p l.length cap) w' S' hok' ⟨hseed, hlen, heach⟩
 have OK' : ∀ (w' : World) (L' : List Chunk), Mem [] w w' L' → ∀ x ∈ l, MxOk w' x := fun _ _ M' x hx => by
  have h := hok x hx
  exact ⟨h.lfit, h.num, h.be, h.so.now M', h.sp.now M', h.lo, h.lp⟩
 have NA : ∀ (w : World), Calls Tryz.prog 23 #[.int .i64 me, .string (mkS seed), .int .u32 (I32 ba)] w fun e w' => ∃ g C, e = .returned (.tuple #[.pointer (some ⟨g, 0, none⟩), .int .i64 0]) ∧ IsLink g (linkOf seed me o a b ba 0) C ∧ Mem [] w w' [C] := fun w => LinkNew_ok seed me o a b ba w yE he
 have hmo : ((me != 0) = false ∧ me = 0) ∨ ((me != 0) = true ∧ (me != 1) = false ∧ me = 1) := by
  rcases he with ⟨h1, h2, _, _⟩ | ⟨h1, h2, _, _⟩
  ·exact .inl ⟨by rw [h1]; rfl, h1⟩
  ·exact .inr ⟨by rw [h1]; rfl, by rw [h1]; rfl, h1⟩
 replace he := Lib.hid he
 replace GC := Lib.hid GC
 replace NA := Lib.hid NA
 replace OK' := Lib.hid OK'
 replace heach := Lib.hid heach
 replace hok := Lib.hid hok
 rcases hmo with ⟨hmo, -⟩ | ⟨hmo, hmo2, -⟩
 all_goals
  go_enter Tryz.func9, Tryz.ntmps9
  go_wp2_with ((first | ((with_reducible refine tGuard ?_); first | ((with_reducible refine w_stripE ?_ ?_); exact dcd) | ((with_reducible refine w_skip1 ?_ ?_); exact dcd) | ((with_reducible refine w_skip0 ?_ ?_); exact dcd)) | (go_at_call 27; (refine (awake19_c _).mono ?_; rintro e w1 ⟨rfl, hb⟩; replace M := M.call hb; clear hb)) | (go_at_call 29; (refine (GC.out _ (S.now M) (OK'.out _ _ M)).mono ?_; rintro e w1 ⟨rfl, hb⟩; replace M := M.call hb; clear hb)) | (go_at_call 23; (refine (NA.out _).mono ?_; rintro e w1 ⟨ga, ca, rfl, IA, MJ⟩); replace M := M.join MJ; clear MJ; simp only [List.cons_append, List.nil_append] at M) | ((with_reducible refine tM rfl ?_); refine mS ?_; try (clear M; (first | intro g w1 M | intro w1 M); try simp only [setC] at M)) | ((with_reducible refine tGuard ?_); refine gdC ?_ ?_ <;> (intro hgd; rw [hgd]; try (exfalso; simp at hgd; omega)))) <;> (try conv => arg 5; simp only [apS, setC]))
  go_loopw [13, 14] (fun nv iv wr => ∃ (k : Nat) (n : UInt64) (c : Chunk), k ≤ l.length ∧ iv = .int .i64 k ∧ nv = .int .u64 (I64 n) ∧ n.toNat ≤ k ∧ IsLink ga (linkOf seed me o a b ba n) c ∧ Mem [] w wr [c]) (fun _ iv _ => l.length - (intOf iv).toNat)
  case atStart => exact ⟨0, 0, ca, by omega, rfl, rfl, by decide, IA, M⟩
  case round =>
   clear M IA NA GC
   obtain ⟨k, n, c, hk, rfl, rfl, hnk, IC, M⟩ := hrel
   by_cases hlt : k < l.length
   ·obtain ⟨g, so, rfl⟩ := S.addr yE
    obtain ⟨x, hx⟩ : ∃ x, l[k]? = some x := ⟨_, List.getElem?_eq_getElem hlt⟩
    have HX := Lib.hid hx
    have hm := List.mem_of_getElem? hx
    have XO := hok.out x hm
    have hrng := great_rng XO.num XO.be (heach.out x hm)
    clear hx hm
    have LC : ∀ (w : World) (c : Chunk) (n : UInt64), c.ok w → IsLink ga (linkOf seed me o a b ba n) c → Calls Tryz.prog 26 #[.pointer (some ⟨ga, 0, none⟩)] w fun e w' => e = .returned (.tuple #[.int .u32 (I32 ba), .int .u64 (I64 n)]) ∧ Below w.heap.size w w' := fun w c n h I => LinkCount_c h I
    replace LC := Lib.hid LC
    rcases bytesM_cases XO.lfit hrng with ⟨z, hz0, eb⟩ | ⟨hk', ho, hon, eb⟩
    ·have SB : ∀ (w' : World) (L' : List Chunk), Mem [] w w' L' → c.ok w' → Calls Tryz.prog 24 #[.pointer (some ⟨ga, 0, none⟩), .agg (mxV x).toArray] w' fun r w'' => r = .returned (.tuple #[.agg #[.int .i64 0, .int .i64 0, .string (mkS [])], .int .i64 z]) ∧ Below w'.heap.size w' w'' := fun w' L' M h => Send_bad x.L x.ov x.pv h IC XO.lfit hrng (XO.so.now M) (XO.sp.now M) hz0 eb
     have RB : ∀ (w' : World) (L' : List Chunk), Mem [] w w' L' → Calls Tryz.prog 34 #[.int .i64 me, .string (mkS seed), .int .u32 (I32 ba), .int .u64 (I64 n), .agg (mxV x).toArray] w' fun r w'' => r = .returned (.tuple #[.agg #[.int .i64 0, .int .i64 0, .string (mkS [])], .int .i64 z]) ∧ Below w'.heap.size w' w'' := fun w' L' M => rSend_bad seed ba n x.L x.ov x.pv w' XO.lfit hrng (XO.so.now M) (XO.sp.now M) hz0 eb
     have hz : ((z : Int) != 0) = true := by simp; exact hz0
     have hz2 : ((z : Int) == 0) = false := by simp; exact hz0
     have hz3 : ((z : Int) != (z : Int)) = false := by simp
     replace SB := Lib.hid SB
     replace RB := Lib.hid RB
     clear eb XO hrng hz0
     go_wp2_with ((first | ((with_reducible refine tGuard ?_); first | ((with_reducible refine w_stripE ?_ ?_); exact dcd) | ((with_reducible refine w_skip1 ?_ ?_); exact dcd) | ((with_reducible refine w_skip0 ?_ ?_); exact dcd)) | ((with_reducible refine tGuard ?_); (with_reducible refine w_stripE ?_ ?_); (focus (refine ⟨_, rfl, ?_⟩; first | (simp; omega) | (simp; done)))) | ((with_reducible refine tGuard ?_); first | ((with_reducible refine w_skip1 ?_ ?_); (focus (refine ⟨_, rfl, ?_⟩; first | (simp; omega) | (simp; done)))) | ((with_reducible refine w_skip0 ?_ ?_); (focus (refine ⟨_, rfl, ?_⟩; first | (simp; omega) | (simp; done))))) | ((with_reducible show wpList _ _ _ (Oper.mk _ (Op.load 67 _) _ _ _ _ :: _) _ _); refine w_at _ _ rfl yI ?_; intro hx; refine w_seeA M S HX.out _ _ rfl hx rfl yC (by first | rfl | omega | (simp; omega)) (by rw [mxV_len]; kernel_rfl) ?_; clear hx) | (go_at_call 24; (refine (SB.out _ _ M (M.ok 0 _ at0)).mono ?_; rintro e w1 ⟨rfl, hb⟩; replace M := M.call hb; clear hb)) | (go_at_call 34; (refine (RB.out _ _ M).mono ?_; rintro e w1 ⟨rfl, hb⟩; replace M := M.call hb; clear hb)) | (go_at_call 26; (refine (LC.out _ _ _ (M.ok 2 _ at2) IC).mono ?_; rintro e w1 ⟨rfl, hb⟩; replace M := M.call hb; clear hb)) | ((with_reducible refine tAlloc (some 15) 58 ?_); refine w_alloc M _ rfl rfl (.agg #[.int .i64 0, .int .i64 0, .string (mkS [])]) ([.int .i64 0, .int .i64 0, .string (mkS [])]) yC rfl ?_; clear M; intro gp w1 M) | ((with_reducible refine tAlloc (some 17) 58 ?_); refine w_alloc M _ rfl rfl (.agg #[.int .i64 0, .int .i64 0, .string (mkS [])]) ([.int .i64 0, .int .i64 0, .string (mkS [])]) yC rfl ?_; clear M; intro gq w1 M) | ((with_reducible refine tM rfl ?_); refine mS ?_; try (clear M; (first | intro g w1 M | intro w1 M); try simp only [setC] at M)) | ((with_reducible refine tGuard ?_); refine gdC ?_ ?_ <;> (intro hgd; rw [hgd]; try (exfalso; simp at hgd; omega)))) <;> (try conv => arg 5; simp only [apS, setC]))
     go_roundw
     case rel => exact ⟨k + 1, n, c, by omega, by go_num, rfl, by omega, IC, M.tail.tail⟩
     case measure => simp [intOf]; omega
    ·have SC : ∀ (w' : World) (L' : List Chunk), Mem [] w w' L' → L'[0]? = some c → Calls Tryz.prog 24 #[.pointer (some ⟨ga, 0, none⟩), .agg (mxV x).toArray] w' fun r w'' => r = .returned (.tuple #[.agg #[.int .i64 me, .int .i64 o, .string (mkS (envB (RingS.env ⟨masterK seed a b, 0, ba, n⟩ (aboutK a b) (bytesL x.L))))], .int .i64 0]) ∧ ∃ c', IsLink ga (linkOf seed me o a b ba (n + 1)) c' ∧ Upd w' c w'' c' := fun w' L' M hi => Send_ok x.L x.ov x.pv a b (M.ok 0 c hi) IC he.out (by show (masterK seed a b).length ≤ _; rw [masterK_len]; decide) (by show 0 ≤ 1048576; decide) (by show n.toNat < _; omega) XO.lfit hrng (XO.so.now M) (XO.sp.now M) (fresh_apart M hi XO.so) (fresh_apart M hi XO.sp) hk' ho eb
     have RC : ∀ (w' : World) (L' : List Chunk), Mem [] w w' L' → Calls Tryz.prog 34 #[.int .i64 me, .string (mkS seed), .int .u32 (I32 ba), .int .u64 (I64 n), .agg (mxV x).toArray] w' fun r w'' => r = .returned (.tuple #[.agg #[.int .i64 me, .int .i64 o, .string (mkS (envB (RingS.env ⟨masterK seed a b, 0, ba, n⟩ (aboutK a b) (bytesL x.L))))], .int .i64 0]) ∧ Below w'.heap.size w' w'' := fun w' L' M => rSend_ok seed ba n x.L x.ov x.pv w' he.out yE XO.lfit hrng (XO.so.now M) (XO.sp.now M) hk' ho eb
     obtain ⟨D, eD⟩ : ∃ B, B = envB (RingS.env ⟨masterK seed a b, 0, ba, n⟩ (aboutK a b) (bytesL x.L)) := ⟨_, rfl⟩
     rw [← eD] at SC RC
     have hn1 := u64_succS n k hnk yE
     replace SC := Lib.hid SC
     replace RC := Lib.hid RC
     clear eD eb XO hrng hk' ho hon
     go_wp2_with ((first | ((with_reducible refine tGuard ?_); first | ((with_reducible refine w_stripE ?_ ?_); exact dcd) | ((with_reducible refine w_skip1 ?_ ?_); exact dcd) | ((with_reducible refine w_skip0 ?_ ?_); exact dcd)) | ((with_reducible refine tGuard ?_); (with_reducible refine w_stripE ?_ ?_); (focus (refine ⟨_, rfl, ?_⟩; first | (simp; omega) | (simp; done)))) | ((with_reducible refine tGuard ?_); first | ((with_reducible refine w_skip1 ?_ ?_); (focus (refine ⟨_, rfl, ?_⟩; first | (simp; omega) | (simp; done)))) | ((with_reducible refine w_skip0 ?_ ?_); (focus (refine ⟨_, rfl, ?_⟩; first | (simp; omega) | (simp; done))))) | ((with_reducible show wpList _ _ _ (Oper.mk _ (Op.load 67 _) _ _ _ _ :: _) _ _); refine w_at _ _ rfl yI ?_; intro hx; refine w_seeA M S HX.out _ _ rfl hx rfl yC (by first | rfl | omega | (simp; omega)) (by rw [mxV_len]; kernel_rfl) ?_; clear hx) | (go_at_call 24; (refine (SC.out _ _ M at0).mono ?_; rintro e w1 ⟨rfl, c1, I1, U⟩; replace M := M.upd 0 at0 U; clear U; simp only [setC] at M)) | (go_at_call 34; (refine (RC.out _ _ M).mono ?_; rintro e w1 ⟨rfl, hb⟩; replace M := M.call hb; clear hb)) | (go_at_call 26; (refine (LC.out _ _ _ (M.ok 2 _ at2) I1).mono ?_; rintro e w1 ⟨rfl, hb⟩; replace M := M.call hb; clear hb)) | ((with_reducible refine tAlloc (some 15) 58 ?_); refine w_alloc M _ rfl rfl (.agg #[.int .i64 0, .int .i64 0, .string (mkS [])]) ([.int .i64 0, .int .i64 0, .string (mkS [])]) yC rfl ?_; clear M; intro gp w1 M) | ((with_reducible refine tAlloc (some 17) 58 ?_); refine w_alloc M _ rfl rfl (.agg #[.int .i64 0, .int .i64 0, .string (mkS [])]) ([.int .i64 0, .int .i64 0, .string (mkS [])]) yC rfl ?_; clear M; intro gq w1 M) | ((with_reducible refine tM rfl ?_); refine mS ?_; try (clear M; (first | intro g w1 M | intro w1 M); try simp only [setC] at M)) | ((with_reducible refine tGuard ?_); refine gdC ?_ ?_ <;> (intro hgd; rw [hgd]; try (exfalso; simp at hgd; omega)))) <;> (try conv => arg 5; simp only [apS, setC]))
     go_roundw
     case rel => exact ⟨k + 1, n + 1, c1, by omega, by go_num, by go_num, hn1, I1, M.tail.tail⟩
     case measure => simp [intOf]; omega
   ·obtain rfl : k = l.length := by omega
    go_wp2_with ((first | ((with_reducible refine tGuard ?_); first | ((with_reducible refine w_stripE ?_ ?_); exact dcd) | ((with_reducible refine w_skip1 ?_ ?_); exact dcd) | ((with_reducible refine w_skip0 ?_ ?_); exact dcd)) | ((with_reducible refine tM rfl ?_); refine mS ?_; try (clear M; (first | intro g w1 M | intro w1 M); try simp only [setC] at M)) | ((with_reducible refine tGuard ?_); refine gdC ?_ ?_ <;> (intro hgd; rw [hgd]; try (exfalso; simp at hgd; omega)))) <;> (try conv => arg 5; simp only [apS, setC]))
    go_ret
    exact ⟨by first | rfl | simp, M.below⟩
theorem LinkSends_far (me : Int) (h : me < 0 ∨ 2 ≤ me) (seed : List UInt8) (ba : UInt32) (l : List Mx) (v : Value) (w : World) (S : SeesL w 107 mxV v l) (hok : ∀ x ∈ l, MxOk w x) (hs : SmallL seed l) :
  Calls Tryz.prog 9 #[.int .i64 me, .string (mkS seed), .int .u32 (I32 ba), v] w fun e w' => e = .returned (.bool true) ∧ Below w.heap.size w w' := by
 obtain ⟨p, cap, rfl, hc⟩ := S.form
 have M := Mem.start [] w
 have GC := fun w' (S' : SeesL w' 107 mxV (.slice p l.length cap) l) (hok' : ∀ x ∈ l, MxOk w' x) => great19_yes seed l (.slice p l.length cap) w' S' hok' hs
 have OK' : ∀ (w' : World) (L' : List Chunk), Mem [] w w' L' → ∀ x ∈ l, MxOk w' x := fun _ _ M' x hx => by
  have h := hok x hx
  exact ⟨h.lfit, h.num, h.be, h.so.now M', h.sp.now M', h.lo, h.lp⟩
 have NA := fun w => LinkNew_no seed me ba w h
 have SN : ∀ (C : Array Value) (w : World), C = (msgC ((⟨1, 0, 0, 0, 0, 0, [], 0, zeroH, 0, 0, zeroH, zeroH, []⟩ : Lm).ms (.slice none 0 0) (.slice none 0 0))).toArray → Calls Tryz.prog 24 #[.pointer none, .agg C] w fun e w' => e = .returned (.tuple #[.agg #[.int .i64 0, .int .i64 0, .string (mkS [])], .int .i64 2]) ∧ Below w.heap.size w w' := fun C w hC => by rw [hC]; exact SendNil_c _ w
 have h0 : ¬ me = 0 := by omega
 have h1 : ¬ me = 1 := by omega
 have h0' : (me != 0) = true := by simpa using h0
 have h1' : (me != 1) = true := by simpa using h1
 replace GC := Lib.hid GC
 replace NA := Lib.hid NA
 replace SN := Lib.hid SN
 replace OK' := Lib.hid OK'
 clear hok hs h
 go_enter Tryz.func9, Tryz.ntmps9
 go_wp2_with ((first | ((with_reducible refine tGuard ?_); first | ((with_reducible refine w_stripE ?_ ?_); exact dcd) | ((with_reducible refine w_skip1 ?_ ?_); exact dcd) | ((with_reducible refine w_skip0 ?_ ?_); exact dcd)) | (go_at_call 27; (refine (awake19_c _).mono ?_; rintro e w1 ⟨rfl, hb⟩; replace M := M.call hb; clear hb)) | (go_at_call 29; (refine (GC.out _ (S.now M) (OK'.out _ _ M)).mono ?_; rintro e w1 ⟨rfl, hb⟩; replace M := M.call hb; clear hb)) | (go_at_call 23; (refine (NA.out _).mono ?_; rintro e w1 ⟨rfl, hb⟩; replace M := M.call hb; clear hb)) | (go_at_call 24; (refine (SN.out _ _ rfl).mono ?_; rintro e w1 ⟨rfl, hb⟩; replace M := M.call hb; clear hb)) | ((with_reducible refine tAlloc (some 11) 58 ?_); refine w_alloc M _ rfl rfl (.agg #[.int .i64 0, .int .i64 0, .string (mkS [])]) ([.int .i64 0, .int .i64 0, .string (mkS [])]) yC rfl ?_; clear M; intro gp w1 M) | ((with_reducible refine tM rfl ?_); refine mS ?_; try (clear M; (first | intro g w1 M | intro w1 M); try simp only [setC] at M)) | ((with_reducible refine tGuard ?_); refine gdC ?_ ?_ <;> (intro hgd; rw [hgd]; try (exfalso; simp at hgd; omega)))) <;> (try conv => arg 5; simp only [apS, setC]))
 go_ret
 exact ⟨by first | rfl | simp, M.below⟩
theorem LinkSends_any (me : Int) (seed : List UInt8) (ba : UInt32) (l : List Mx) (v : Value) (w : World) (S : SeesL w 107 mxV v l) (hok : ∀ x ∈ l, MxOk w x) :
  Calls Tryz.prog 9 #[.int .i64 me, .string (mkS seed), .int .u32 (I32 ba), v] w fun e w' => e = .returned (.bool true) ∧ Below w.heap.size w w' := by
 by_cases hs : SmallL seed l
 ·rcases (by omega : me = 0 ∨ me = 1 ∨ (me < 0 ∨ 2 ≤ me)) with rfl | rfl | h
  ·exact LinkSends_ok 0 1 0 1 (.inl ⟨rfl, rfl, rfl, rfl⟩) seed ba l v w S hok hs
  ·exact LinkSends_ok 1 0 1 0 (.inr ⟨rfl, rfl, rfl, rfl⟩) seed ba l v w S hok hs
  ·exact LinkSends_far me h seed ba l v w S hok hs
 ·obtain ⟨p, cap, rfl, hc⟩ := S.form
  have M := Mem.start [] w
  have GC := fun w' (S' : SeesL w' 107 mxV (.slice p l.length cap) l) (hok' : ∀ x ∈ l, MxOk w' x) => great19_no seed l (.slice p l.length cap) w' S' hok' hs
  have OK' : ∀ (w' : World) (L' : List Chunk), Mem [] w w' L' → ∀ x ∈ l, MxOk w' x := fun _ _ M' x hx => by
   have h := hok x hx
   exact ⟨h.lfit, h.num, h.be, h.so.now M', h.sp.now M', h.lo, h.lp⟩
  replace GC := Lib.hid GC
  replace OK' := Lib.hid OK'
  clear hok hs
  go_enter Tryz.func9, Tryz.ntmps9
  go_wp2_with ((first | ((with_reducible refine tGuard ?_); first | ((with_reducible refine w_stripE ?_ ?_); exact dcd) | ((with_reducible refine w_skip1 ?_ ?_); exact dcd) | ((with_reducible refine w_skip0 ?_ ?_); exact dcd)) | (go_at_call 27; (refine (awake19_c _).mono ?_; rintro e w1 ⟨rfl, hb⟩; replace M := M.call hb; clear hb)) | (go_at_call 29; (refine (GC.out _ (S.now M) (OK'.out _ _ M)).mono ?_; rintro e w1 ⟨rfl, hb⟩; replace M := M.call hb; clear hb)) | ((with_reducible refine tM rfl ?_); refine mS ?_; try (clear M; (first | intro g w1 M | intro w1 M); try simp only [setC] at M)) | ((with_reducible refine tGuard ?_); refine gdC ?_ ?_ <;> (intro hgd; rw [hgd]; try (exfalso; simp at hgd; omega)))) <;> (try conv => arg 5; simp only [apS, setC]))
  go_ret
  exact ⟨by first | rfl | simp, M.below⟩
end Go.Proofs.YtidadhbaomieiaaGreat
