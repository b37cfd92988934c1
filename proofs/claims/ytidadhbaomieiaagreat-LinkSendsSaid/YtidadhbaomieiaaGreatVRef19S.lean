/- The walk of layer 19's reference's Send. Conditions: the seed's length; the message's numbers are int's. -/
import Derived.Test.YtidadhbaomieiaaGreatY
import Derived.Test.YtidadhbaomieiaaGreatVRef19
import Derived.Test.YtidadhbaomieiaaGreatZv
import Derived.Test.YtidadhbaomieiaaGreatZx
set_option maxRecDepth 100000
set_option maxHeartbeats 16000000
namespace Go.Proofs.YtidadhbaomieiaaGreat
open Go.RowKit Go.TL
section
variable {me o : Int} {a b : UInt8} (seed : List UInt8) (boot : UInt32) (n : UInt64) (L : Lm) (ov pv : Value) (w : World)
theorem rSend_bad (hL : L.fit) (hr : L.rng) (S : SeesL w 3 opV ov L.ops) (T : SeesL w 2 prV pv L.prs) {e : Nat} (he : e ≠ 0) (hb : bytesM L = ([], e)) :
  Calls Tryz.prog 34 #[.int .i64 me, .string (mkS seed), .int .u32 (I32 boot), .int .u64 (I64 n), .agg (msgC (L.ms ov pv)).toArray] w fun r w' => r = .returned (.tuple #[.agg #[.int .i64 0, .int .i64 0, .string (mkS [])], .int .i64 e]) ∧ Below w.heap.size w w' := by
 have M := Mem.start [] w
 have hmf : (L.ms ov pv).fit := by
  obtain ⟨op, oc, rfl, _⟩ := S.form
  obtain ⟨pp, pc, rfl, _⟩ := T.form
  exact Lm.ms_fit hL rfl rfl
 have BC := fun w S T => Bytes18_c L ov pv w hL hr S T
 rw [hb] at BC
 simp only at BC
 have hz1 : ((e : Int) != 0) = true := by simp; exact he
 have hz2 : ((e : Int) == 0) = false := by simp; exact he
 replace BC := Lib.hid BC
 clear hb he
 go_enter Tryz.func34, Tryz.ntmps34
 go_wp2_with ((first | ((with_reducible refine tGuard ?_); first | ((with_reducible refine w_stripE ?_ ?_); exact dcd) | ((with_reducible refine w_skip1 ?_ ?_); exact dcd) | ((with_reducible refine w_skip0 ?_ ?_); exact dcd)) | ((with_reducible refine tBox (some 9) ?_); refine w_box M _ _ rfl rfl _ rfl (msgC (L.ms ov pv)) rfl ?_; clear M; intro gm w1 M) | ((with_reducible refine tAlloc (some 10) 58 ?_); refine w_alloc M _ rfl rfl (.agg #[.int .i64 0, .int .i64 0, .string (mkS [])]) ([.int .i64 0, .int .i64 0, .string (mkS [])]) yC rfl ?_; clear M; intro gp w1 M) | ((with_reducible show wpList _ _ _ (Oper.mk _ (Op.load 67 _) _ _ _ _ :: _) _ _); refine w_at _ _ rfl yI ?_; intro hx; refine w_loadMs M 1 _ _ rfl rfl hx rfl yA yC hmf ?_; clear hx) | (go_at_call 67; (refine (BC.out _ (S.now M) (T.now M)).mono ?_; rintro e w1 ⟨rfl, hb⟩; replace M := M.call hb; clear hb)) | ((with_reducible refine tM rfl ?_); refine mS ?_; try (clear M; (first | intro g w1 M | intro w1 M); try simp only [setC] at M)) | ((with_reducible refine tGuard ?_); refine gdC ?_ ?_ <;> (intro hgd; rw [hgd]; try (exfalso; simp at hgd; omega)))) <;> (try conv => arg 5; simp only [apS, setC]))
 exact bodyPost_ret (results_two rfl _ _ gp 0 [.int .i64 0, .int .i64 0, .string (mkS [])] _ (.int .i64 e) rfl rfl (M.ok 0 _ at0).2.1 Tryz.underlying58 rfl yC) rfl ⟨rfl, M.below⟩
theorem rSend_ok (he : EndOf me o a b) (hs : seed.length ≤ 1000000) (hL : L.fit) (hr : L.rng) (S : SeesL w 3 opV ov L.ops) (T : SeesL w 2 prV pv L.prs) (hk : isK L.k = true) (ho : okL L = true) (hb : bytesM L = (bytesL L, 0)) :
  Calls Tryz.prog 34 #[.int .i64 me, .string (mkS seed), .int .u32 (I32 boot), .int .u64 (I64 n), .agg (msgC (L.ms ov pv)).toArray] w fun r w' => r = .returned (.tuple #[.agg #[.int .i64 me, .int .i64 o, .string (mkS (envB (RingS.env ⟨masterK seed a b, 0, boot, n⟩ (aboutK a b) (bytesL L))))], .int .i64 0]) ∧ Below w.heap.size w w' := by
 have hsh := bytesL_short hL hr hk ho
 have M := Mem.start [] w
 have hmf : (L.ms ov pv).fit := by
  obtain ⟨op, oc, rfl, _⟩ := S.form
  obtain ⟨pp, pc, rfl, _⟩ := T.form
  exact Lm.ms_fit hL rfl rfl
 have ia : I8 a = me ∧ I8 b = o ∧ 1 - me = o ∧ 0 ≤ me ∧ me ≤ 1 := by rcases he with ⟨h1, h2, rfl, rfl⟩ | ⟨h1, h2, rfl, rfl⟩ <;> (rw [h1, h2]; decide)
 have BC := fun w S T => Bytes18_c L ov pv w hL hr S T
 rw [hb] at BC
 simp only [show ((0 : Nat) : Int) = 0 from rfl] at BC
 have AC := fun w => rAbout_c a b w
 have GC := fun w => rRing_c seed a b boot n w hs
 rw [ia.1, ia.2.1] at AC GC
 have WC := fun w => rWrap_ok ⟨masterK seed a b, 0, boot, n⟩ (aboutK a b) (bytesL L) w (by show (masterK seed a b).length ≤ _; rw [masterK_len]; decide) (by show 0 ≤ 1048576; decide) hsh (by rw [aboutK_len]; omega)
 simp only at WC
 obtain ⟨D, eD⟩ : ∃ B, B = envB (RingS.env ⟨masterK seed a b, 0, boot, n⟩ (aboutK a b) (bytesL L)) := ⟨_, rfl⟩
 rw [← eD] at WC ⊢
 obtain ⟨R, eR⟩ : ∃ x, x = (ringR ⟨masterK seed a b, 0, boot, n⟩).toArray := ⟨_, rfl⟩
 rw [← eR] at WC GC
 obtain ⟨t, et⟩ : ∃ t, t = bytesL L := ⟨_, rfl⟩
 rw [← et] at WC BC
 obtain ⟨ab, eab⟩ : ∃ x, x = aboutK a b := ⟨_, rfl⟩
 rw [← eab] at WC AC
 obtain ⟨R2, eR2⟩ : ∃ x, x = (ringR ⟨masterK seed a b, 0, boot, n + 1⟩) := ⟨_, rfl⟩
 have lR2 : R2.length = 4 := by rw [eR2]; rfl
 have oR2 : ∀ v ∈ R2, v.oneCell' = true := by rw [eR2]; intro v hv; simp at hv; rcases hv with rfl | rfl | rfl | rfl <;> rfl
 rw [← eR2] at WC
 obtain ⟨_, _, h3, h4, h5⟩ := ia
 replace BC := Lib.hid BC
 replace AC := Lib.hid AC
 replace GC := Lib.hid GC
 replace WC := Lib.hid WC
 clear eD eR et eab eR2 hb hk ho hsh he
 subst h3
 go_enter Tryz.func34, Tryz.ntmps34
 go_wp2_with ((first | ((with_reducible refine tGuard ?_); first | ((with_reducible refine w_stripE ?_ ?_); exact dcd) | ((with_reducible refine w_skip1 ?_ ?_); exact dcd) | ((with_reducible refine w_skip0 ?_ ?_); exact dcd)) | ((with_reducible refine tBox (some 9) ?_); refine w_box M _ _ rfl rfl _ rfl (msgC (L.ms ov pv)) rfl ?_; clear M; intro gm w1 M) | ((with_reducible refine tAlloc (some 10) 58 ?_); refine w_alloc M _ rfl rfl (.agg #[.int .i64 0, .int .i64 0, .string (mkS [])]) ([.int .i64 0, .int .i64 0, .string (mkS [])]) yC rfl ?_; clear M; intro gp w1 M) | ((with_reducible refine tAlloc (some 14) 32 ?_); refine w_alloc M _ rfl rfl (.agg #[.string (mkS []), .int .i64 0, .int .u32 0, .int .u64 0]) ([.string (mkS []), .int .i64 0, .int .u32 0, .int .u64 0]) yC rfl ?_; clear M; intro gr w1 M) | ((with_reducible show wpList _ _ _ (Oper.mk _ (Op.load 67 _) _ _ _ _ :: _) _ _); refine w_at _ _ rfl yI ?_; intro hx; refine w_loadMs M 1 _ _ rfl rfl hx rfl yA yC hmf ?_; clear hx) | (go_at_call 67; (refine (BC.out _ (S.now M) (T.now M)).mono ?_; rintro e w1 ⟨rfl, hb⟩; replace M := M.call hb; clear hb)) | (go_at_call 64; (refine (AC.out _).mono ?_; rintro e w1 ⟨rfl, hb⟩; replace M := M.call hb; clear hb)) | (go_at_call 63; (refine (GC.out _).mono ?_; rintro e w1 ⟨rfl, hb⟩; replace M := M.call hb; clear hb)) | (go_at_call 13; (refine (WC.out _).mono ?_; rintro e w1 ⟨rfl, hb⟩; replace M := M.call hb; clear hb)) | ((with_reducible show wpList _ _ _ (Oper.mk _ (Op.store 32 _ _) _ _ _ _ :: _) _ _); refine w_at2 _ _ _ rfl yI yF ?_; intro hx hy; refine w_storeR M 0 _ _ _ rfl rfl hx rfl R2 hy rfl (by rw [lR2]; kernel_rfl) oR2 lR2 ?_; clear hx hy M; intro w1 M; (try simp only [setC] at M)) | ((with_reducible refine tM rfl ?_); refine mS ?_; try (clear M; (first | intro g w1 M | intro w1 M); try simp only [setC] at M)) | ((with_reducible refine tGuard ?_); refine gdC ?_ ?_ <;> (intro hgd; rw [hgd]; try (exfalso; simp at hgd; omega)))) <;> (try conv => arg 5; simp only [apS, setC]))
 exact bodyPost_ret (results_two rfl _ _ gp 0 [.int .i64 me, .int .i64 (1 - me), .string (mkS D)] _ (.int .i64 0) rfl rfl (M.ok 1 _ at1).2.1 Tryz.underlying58 rfl yC) rfl ⟨rfl, M.below⟩
end
end Go.Proofs.YtidadhbaomieiaaGreat
