/- The walk of LinkComes. Conditions: none but what every machine has. -/
import Derived.Test.YtidadhbaomieiaaGreatY
import Derived.Test.YtidadhbaomieiaaGreatZr
import Derived.Test.YtidadhbaomieiaaGreatVRef19C
import Derived.Test.YtidadhbaomieiaaGreatZp
set_option maxRecDepth 100000
set_option maxHeartbeats 16000000
namespace Go.Proofs.YtidadhbaomieiaaGreat
open Go.RowKit Go.TL
theorem modX (x : UInt8) : ((I8 x).tmod 2) = ((x.toNat % 2 : Nat) : Int) := by
 rw [I8_eq, Int.tmod_eq_emod_of_nonneg yF]; omega
section
variable {seed : List UInt8} {me o : Int} {a b : UInt8} {fr to : Int} {D : List UInt8}
theorem qDZ (mb : UInt8) (w : World) (he : EndOf me o a b) (hmb : (I8 mb).tmod 2 = me) (hs : seed.length ≤ 300) (hD : D.length ≤ 1000) (e : Nat)
  (CC : ∀ (w : World) (g : Nat) (c : Chunk), c.ok w → IsLink g (linkOf seed me o a b 0 0) c → Calls Tryz.prog 25 #[.pointer (some ⟨g, 0, none⟩), .agg #[.int .i64 fr, .int .i64 to, .string (mkS D)]] w fun r w' => r = .returned (.tuple #[.agg (msgC zeroM).toArray, .int .i64 e]) ∧ ∃ c', Upd w c w' c')
  (RC : ∀ w : World, Calls Tryz.prog 31 #[.int .i64 me, .string (mkS seed), .agg #[.int .i64 fr, .int .i64 to, .string (mkS D)]] w fun r w' => r = .returned (.tuple #[.agg (msgC zeroM).toArray, .int .i64 e]) ∧ Below w.heap.size w w') :
  Calls Tryz.prog 7 #[.int .u8 (I8 mb), .string (mkS seed), .agg #[.int .i64 fr, .int .i64 to, .string (mkS D)]] w fun e w' => e = .returned (.bool true) ∧ Below w.heap.size w w' := by
 have M := Mem.start [] w
 have NA : ∀ (w : World) (z : Int), z = me → Calls Tryz.prog 23 #[.int .i64 z, .string (mkS seed), .int .u32 0] w fun e w' => ∃ g C, e = .returned (.tuple #[.pointer (some ⟨g, 0, none⟩), .int .i64 0]) ∧ IsLink g (linkOf seed me o a b 0 0) C ∧ Mem [] w w' [C] := fun w z hz => by subst hz; exact qDV seed _ o a b 0 w yF he
 have SM : ∀ w : World, Calls Tryz.prog 32 #[.agg (msgC zeroM).toArray, .agg (msgC zeroM).toArray] w fun r w' => r = .returned (.bool true) ∧ Below w.heap.size w w' := fun w => by
  have := rSame18_c zeroL zeroL (.slice none 0 0) (.slice none 0 0) (.slice none 0 0) (.slice none 0 0) w ⟨qAi, qAi, qAi⟩ ⟨qAi, qAi, qAi⟩ (qBz _ _ qCD _) (qBz _ _ qDh _) (qBz _ _ qCD _) (qBz _ _ qDh _) yN yN yN yN
  rw [decide_eq_true rfl] at this; exact this
 have hmo : 0 ≤ me ∧ me ≤ 1 := by rcases he with ⟨h1, h2, _, _⟩ | ⟨h1, h2, _, _⟩ <;> omega
 have hee : ((e : Int) == (e : Int)) = true := by simp
 replace CC := Lib.hid CC
 replace RC := Lib.hid RC
 replace NA := Lib.hid NA
 replace SM := Lib.hid SM
 clear he
 go_enter Tryz.func7, Tryz.ntmps7
 go_wp2_with ((first | ((with_reducible refine tGuard ?_); first | ((with_reducible refine qAC ?_ ?_); exact dcd) | ((with_reducible refine qAH ?_ ?_); exact dcd) | ((with_reducible refine qAI ?_ ?_); exact dcd)) | ((with_reducible refine tGuard ?_); (with_reducible refine qAC ?_ ?_); (focus (refine ⟨_, rfl, ?_⟩; first | (simp; omega) | (simp; done)))) | ((with_reducible refine tGuard ?_); first | ((with_reducible refine qAH ?_ ?_); (focus (refine ⟨_, rfl, ?_⟩; first | (simp; omega) | (simp; done)))) | ((with_reducible refine qAI ?_ ?_); (focus (refine ⟨_, rfl, ?_⟩; first | (simp; omega) | (simp; done))))) | ((with_reducible refine tBox (some 5) ?_); refine w_box M _ _ rfl rfl _ rfl ([.int .i64 fr, .int .i64 to, .string (mkS D)]) rfl ?_; clear M; intro gp w1 M) | (go_at_call 27; (refine (qFv _).mono ?_; rintro e w1 ⟨rfl, hb⟩; replace M := M.call hb; clear hb)) | ((with_reducible show Code.wp _ (Code.region 6 _ _) _ _ _); rw [hmb]) | (go_at_call 23; (refine (NA.out _ _ yQ).mono ?_; rintro e w1 ⟨ga, ca, rfl, IA, MJ⟩); replace M := M.join MJ; clear MJ; simp only [List.cons_append, List.nil_append] at M) | (go_at_call 25; (refine (CC.out _ _ _ (M.ok 0 _ at0) IA).mono ?_; rintro e w1 ⟨rfl, c1, U⟩; replace M := M.upd 0 at0 U; clear U; simp only [setC] at M)) | (go_at_call 31; (refine (RC.out _).mono ?_; rintro e w1 ⟨rfl, hb⟩; replace M := M.call hb; clear hb)) | (go_at_call 32; (refine (SM.out _).mono ?_; rintro e w1 ⟨rfl, hb⟩; replace M := M.call hb; clear hb)) | ((with_reducible refine tAlloc (some 10) 67 ?_); refine wal M _ rfl rfl (msgC zeroM) yD ?_; clear M; intro gm w1 M) | ((with_reducible refine tAlloc (some 12) 67 ?_); refine wal M _ rfl rfl (msgC zeroM) yD ?_; clear M; intro gn w1 M) | ((with_reducible show wpList _ _ _ (Oper.mk _ (Op.store 67 _ _) _ _ _ _ :: _) _ _); refine w_at2 _ _ _ rfl yI yE ?_; intro hx hy; refine qAD (m := zeroM) M 0 _ _ _ rfl rfl hx rfl hy rfl yD qAA qAA ?_; clear hx hy M; intro w1 M; (try simp only [setC] at M)) | ((with_reducible show wpList _ _ _ (Oper.mk _ (Op.load 67 _) _ _ _ _ :: _) _ _); refine w_at _ _ rfl yI ?_; intro hx; (first | refine qAQ M 0 _ _ rfl rfl hx rfl yB yD qAA ?_ | refine qAQ M 1 _ _ rfl rfl hx rfl yB yD qAA ?_); clear hx) | ((with_reducible refine tM rfl ?_); refine mS ?_; try (clear M; (first | intro g w1 M | intro w1 M); try simp only [setC] at M)) | ((with_reducible refine tGuard ?_); refine gdC ?_ ?_ <;> (intro hgd; rw [hgd]; try (exfalso; simp at hgd; omega)))) <;> (try conv => arg 5; simp only [apS, setC]))
 go_ret
 exact ⟨by first | rfl | simp, M.below⟩
theorem qGE (mb : UInt8) (w : World) (he : EndOf me o a b) (hmb : (I8 mb).tmod 2 = me) (hs : seed.length ≤ 300) (hD : D.length ≤ 1000) (W : Lm) (e : Nat) (hW : W.fit) (h1 : W.ops.length ≤ 1000000) (h2 : W.prs.length ≤ 1000000)
  (CC : ∀ (w : World) (g : Nat) (c : Chunk), c.ok w → IsLink g (linkOf seed me o a b 0 0) c → Calls Tryz.prog 25 #[.pointer (some ⟨g, 0, none⟩), .agg #[.int .i64 fr, .int .i64 to, .string (mkS D)]] w fun r w' => ∃ ov pv c', r = .returned (.tuple #[.agg (msgC (W.ms ov pv)).toArray, .int .i64 e]) ∧ Mem c.fp w w' [.sl 3 ov W.ops.length (W.ops.flatMap opV), .sl 2 pv W.prs.length (W.prs.flatMap prV), c'])
  (RC : ∀ w : World, Calls Tryz.prog 31 #[.int .i64 me, .string (mkS seed), .agg #[.int .i64 fr, .int .i64 to, .string (mkS D)]] w fun r w' => ∃ ov pv, r = .returned (.tuple #[.agg (msgC (W.ms ov pv)).toArray, .int .i64 e]) ∧ Mem [] w w' [.sl 3 ov W.ops.length (W.ops.flatMap opV), .sl 2 pv W.prs.length (W.prs.flatMap prV)]) :
  Calls Tryz.prog 7 #[.int .u8 (I8 mb), .string (mkS seed), .agg #[.int .i64 fr, .int .i64 to, .string (mkS D)]] w fun e w' => e = .returned (.bool true) ∧ Below w.heap.size w w' := by
 have M := Mem.start [] w
 have NA : ∀ (w : World) (z : Int), z = me → Calls Tryz.prog 23 #[.int .i64 z, .string (mkS seed), .int .u32 0] w fun e w' => ∃ g C, e = .returned (.tuple #[.pointer (some ⟨g, 0, none⟩), .int .i64 0]) ∧ IsLink g (linkOf seed me o a b 0 0) C ∧ Mem [] w w' [C] := fun w z hz => by subst hz; exact qDV seed _ o a b 0 w yF he
 have SM : ∀ (ov pv ov' pv' : Value) (w : World) (S : SeesL w 3 opV ov W.ops) (T : SeesL w 2 prV pv W.prs) (S' : SeesL w 3 opV ov' W.ops) (T' : SeesL w 2 prV pv' W.prs), Calls Tryz.prog 32 #[.agg (msgC (W.ms ov pv)).toArray, .agg (msgC (W.ms ov' pv')).toArray] w fun r w' => r = .returned (.bool true) ∧ Below w.heap.size w w' := fun ov pv ov' pv' w S T S' T' => by
  have := rSame18_c W W ov pv ov' pv' w hW hW S T S' T' h1 h2 h1 h2
  rw [decide_eq_true rfl] at this; exact this
 have hmo : 0 ≤ me ∧ me ≤ 1 := by rcases he with ⟨h1, h2, _, _⟩ | ⟨h1, h2, _, _⟩ <;> omega
 have hee : ((e : Int) == (e : Int)) = true := by simp
 replace CC := Lib.hid CC
 replace RC := Lib.hid RC
 replace NA := Lib.hid NA
 replace SM := Lib.hid SM
 clear he h1 h2
 go_enter Tryz.func7, Tryz.ntmps7
 go_wp2_with ((first | ((with_reducible refine tGuard ?_); first | ((with_reducible refine qAC ?_ ?_); exact dcd) | ((with_reducible refine qAH ?_ ?_); exact dcd) | ((with_reducible refine qAI ?_ ?_); exact dcd)) | ((with_reducible refine tGuard ?_); (with_reducible refine qAC ?_ ?_); (focus (refine ⟨_, rfl, ?_⟩; first | (simp; omega) | (simp; done)))) | ((with_reducible refine tGuard ?_); first | ((with_reducible refine qAH ?_ ?_); (focus (refine ⟨_, rfl, ?_⟩; first | (simp; omega) | (simp; done)))) | ((with_reducible refine qAI ?_ ?_); (focus (refine ⟨_, rfl, ?_⟩; first | (simp; omega) | (simp; done))))) | ((with_reducible refine tBox (some 5) ?_); refine w_box M _ _ rfl rfl _ rfl ([.int .i64 fr, .int .i64 to, .string (mkS D)]) rfl ?_; clear M; intro gp w1 M) | (go_at_call 27; (refine (qFv _).mono ?_; rintro e w1 ⟨rfl, hb⟩; replace M := M.call hb; clear hb)) | ((with_reducible show Code.wp _ (Code.region 6 _ _) _ _ _); rw [hmb]) | (go_at_call 23; (refine (NA.out _ _ yQ).mono ?_; rintro e w1 ⟨ga, ca, rfl, IA, MJ⟩); replace M := M.join MJ; clear MJ; simp only [List.cons_append, List.nil_append] at M) | (go_at_call 25; (refine (CC.out _ _ _ (M.ok 0 _ at0) IA).mono ?_; rintro e w1 ⟨rov, rpv, c1, rfl, U⟩; replace M := turn1 M U; clear U; simp only [List.cons_append, List.nil_append] at M; have hrf := qDB hW M)) | (go_at_call 31; (refine (RC.out _).mono ?_; rintro e w7 ⟨sov, spv, rfl, N⟩; replace M := M.join N; clear N; simp only [List.cons_append, List.nil_append] at M; have hsf := qDB hW M)) | (go_at_call 32; (refine (SM.out _ _ _ _ _ (SeesL.own M 4 rfl rfl qCD) (SeesL.own M 5 rfl rfl qDh) (SeesL.own M 1 rfl rfl qCD) (SeesL.own M 2 rfl rfl qDh)).mono ?_; rintro e w1 ⟨rfl, hb⟩; replace M := M.call hb; clear hb)) | ((with_reducible refine tAlloc (some 10) 67 ?_); refine wal M _ rfl rfl (msgC zeroM) yD ?_; clear M; intro gm w1 M) | ((with_reducible refine tAlloc (some 12) 67 ?_); refine wal M _ rfl rfl (msgC zeroM) yD ?_; clear M; intro gn w1 M) | ((with_reducible show wpList _ _ _ (Oper.mk _ (Op.store 67 _ _) _ _ _ _ :: _) _ _); refine w_at2 _ _ _ rfl yI yE ?_; intro hx hy; (first | refine qAD (m := W.ms sov spv) M 0 _ _ _ rfl rfl hx rfl hy rfl yD hsf qAA ?_ | refine qAD (m := W.ms rov rpv) M 0 _ _ _ rfl rfl hx rfl hy rfl yD hrf qAA ?_); clear hx hy M; intro w1 M; (try simp only [setC] at M)) | ((with_reducible show wpList _ _ _ (Oper.mk _ (Op.load 67 _) _ _ _ _ :: _) _ _); refine w_at _ _ rfl yI ?_; intro hx; (first | refine qAQ M 0 _ _ rfl rfl hx rfl yB yD hsf ?_ | refine qAQ M 3 _ _ rfl rfl hx rfl yB yD hrf ?_); clear hx) | ((with_reducible refine tM rfl ?_); refine mS ?_; try (clear M; (first | intro g w1 M | intro w1 M); try simp only [setC] at M)) | ((with_reducible refine tGuard ?_); refine gdC ?_ ?_ <;> (intro hgd; rw [hgd]; try (exfalso; simp at hgd; omega)))) <;> (try conv => arg 5; simp only [apS, setC]))
 go_ret
 exact ⟨by first | rfl | simp, M.below⟩
end
theorem qFz (mb : UInt8) (seed : List UInt8) (fr to : Int) (D : List UInt8) (w : World) (h : ¬ (seed.length ≤ 300 ∧ D.length ≤ 1000)) :
  Calls Tryz.prog 7 #[.int .u8 (I8 mb), .string (mkS seed), .agg #[.int .i64 fr, .int .i64 to, .string (mkS D)]] w fun e w' => e = .returned (.bool true) ∧ Below w.heap.size w w' := by
 have M := Mem.start [] w
 rcases (by omega : (300 : Int) < (seed.length : Int) ∨ ((seed.length : Int) ≤ 300 ∧ (1000 : Int) < (D.length : Int))) with h1 | ⟨h1, h2⟩
 all_goals
  clear h
  go_enter Tryz.func7, Tryz.ntmps7
  go_wp2_with ((first | ((with_reducible refine tGuard ?_); first | ((with_reducible refine qAC ?_ ?_); exact dcd) | ((with_reducible refine qAH ?_ ?_); exact dcd) | ((with_reducible refine qAI ?_ ?_); exact dcd)) | ((with_reducible refine tBox (some 5) ?_); refine w_box M _ _ rfl rfl _ rfl ([.int .i64 fr, .int .i64 to, .string (mkS D)]) rfl ?_; clear M; intro gp w1 M) | (go_at_call 27; (refine (qFv _).mono ?_; rintro e w1 ⟨rfl, hb⟩; replace M := M.call hb; clear hb)) | ((with_reducible refine tM rfl ?_); refine mS ?_; try (clear M; (first | intro g w1 M | intro w1 M); try simp only [setC] at M)) | ((with_reducible refine tGuard ?_); refine gdC ?_ ?_ <;> (intro hgd; rw [hgd]; try (exfalso; simp at hgd; omega)))) <;> (try conv => arg 5; simp only [apS, setC]))
  go_ret
  exact ⟨by first | rfl | simp, M.below⟩
theorem qEN (mb : UInt8) (me o : Int) (a b : UInt8) (he : EndOf me o a b) (hmb : (I8 mb).tmod 2 = me) (seed : List UInt8) (fr to : Int) (D : List UInt8) (w : World) (hs : seed.length ≤ 300) (hD : D.length ≤ 1000) :
  Calls Tryz.prog 7 #[.int .u8 (I8 mb), .string (mkS seed), .agg #[.int .i64 fr, .int .i64 to, .string (mkS D)]] w fun e w' => e = .returned (.bool true) ∧ Below w.heap.size w w' := by
 have hmo : 0 ≤ me ∧ me ≤ 1 ∧ 1 - me = o := by rcases he with ⟨h1, h2, _, _⟩ | ⟨h1, h2, _, _⟩ <;> omega
 have hlen : (linkOf seed me o a b 0 0).inn.m.length ≤ 1000000 := by show (masterK seed b a).length ≤ _; rw [qCE]; decide
 by_cases hne : to ≠ me ∨ fr ≠ o
 ·refine qDZ mb w he hmb hs hD 1 (fun w g c h I => ?_) (fun w => ?_)
  ·refine (Come_arg fr to D h I hne).mono ?_
   rintro e w' ⟨rfl, hb⟩
   exact ⟨rfl, c, Kept.of_below hb _, h.stay hb.size (fun k hk => hb.block k (h.lt k hk)), fun k hk => .inl hk⟩
  ·exact rCome_arg me fr to seed D w ⟨hmo.1, hmo.2.1⟩ (by rw [hmo.2.2]; exact hne)
 ·obtain ⟨rfl, rfl⟩ : to = me ∧ fr = o := by
   constructor
   ·exact Classical.byContradiction fun h => hne (.inl h)
   ·exact Classical.byContradiction fun h => hne (.inr h)
  have e1 : openL (linkOf seed to fr a b 0 0).inn.m (linkOf seed to fr a b 0 0).inn.c D (aboutK b a) = openL (masterK seed b a) 0 D (aboutK b a) := rfl
  by_cases hz : (openL (masterK seed b a) 0 D (aboutK b a)).2 = 0
  ·have hl := qFZ (masterK seed b a) 0 D (aboutK b a)
   have CO := fun (w : World) (g : Nat) (c : Chunk) (h : c.ok w) (I : IsLink g (linkOf seed to fr a b 0 0) c) => Come_ok D a b h I he hlen yF (by rw [e1]; exact hz)
   have RO := fun (w : World) => rCome_ok seed D w he yF yF hz
   rw [e1] at CO
   obtain ⟨X, eX⟩ : ∃ X, X = openL (masterK seed b a) 0 D (aboutK b a) := ⟨_, rfl⟩
   rw [← eX] at CO RO hl
   have hf := qDK X.1 yF
   obtain ⟨⟨Y, r⟩, eY⟩ : ∃ Y, Y = readM X.1 := ⟨_, rfl⟩
   rw [← eY] at CO RO hf
   simp only at CO RO hf
   clear eX eY hz hl e1
   refine qGE mb w he hmb hs hD Y r hf.1 yF yF (fun w g c h I => ?_) RO
   refine (CO w g c h I).mono ?_
   rintro e w' ⟨ov, pv, c', he', _, M⟩
   exact ⟨ov, pv, c', he', M⟩
  ·have CO := fun (w : World) (g : Nat) (c : Chunk) (h : c.ok w) (I : IsLink g (linkOf seed to fr a b 0 0) c) => Come_bad D a b h I he hlen yF (by rw [e1]; exact hz)
   have RO := fun (w : World) => rCome_bad seed D w he yF yF hz
   rw [e1] at CO
   obtain ⟨X, eX⟩ : ∃ X, X = (openL (masterK seed b a) 0 D (aboutK b a)).2 := ⟨_, rfl⟩
   rw [← eX] at CO RO
   clear eX hz e1
   refine qDZ mb w he hmb hs hD X (fun w g c h I => ?_) RO
   refine (CO w g c h I).mono ?_
   rintro e w' ⟨he', c', _, U⟩
   exact ⟨he', c', U⟩
theorem LinkComes_any (mb : UInt8) (seed : List UInt8) (fr to : Int) (D : List UInt8) (w : World) :
  Calls Tryz.prog 7 #[.int .u8 (I8 mb), .string (mkS seed), .agg #[.int .i64 fr, .int .i64 to, .string (mkS D)]] w fun e w' => e = .returned (.bool true) ∧ Below w.heap.size w w' := by
 by_cases h : seed.length ≤ 300 ∧ D.length ≤ 1000
 ·have hmb := modX mb
  rcases (by omega : mb.toNat % 2 = 0 ∨ mb.toNat % 2 = 1) with e | e
  ·exact qEN mb 0 1 0 1 (.inl ⟨rfl, rfl, rfl, rfl⟩) (by rw [e] at hmb; exact hmb) seed fr to D w h.1 h.2
  ·exact qEN mb 1 0 1 0 (.inr ⟨rfl, rfl, rfl, rfl⟩) (by rw [e] at hmb; exact hmb) seed fr to D w h.1 h.2
 ·exact qFz mb seed fr to D w h
end Go.Proofs.YtidadhbaomieiaaGreat
