/- Texts of this seat, put together: RingE, RingG, LinkL0, LinkA, LinkL, LinkB, LinkC, LinkD, LinkG, FrameW. Each begins with a remark that says what is proved in it, and under which conditions. -/
import Derived.Test.YtidadhbaomieiaaGreatY
import Derived.Test.YtidadhbaomieiaaGreatZe
import Derived.Test.YtidadhbaomieiaaGreatZg
import Derived.Test.YtidadhbaomieiaaGreatZl
import Derived.Test.YtidadhbaomieiaaGreatZt
import Derived.Test.YtidadhbaomieiaaGreatZv
import Derived.Test.YtidadhbaomieiaaGreatZw
set_option maxRecDepth 100000
set_option maxHeartbeats 16000000
namespace Go.Proofs.YtidadhbaomieiaaGreat
open Go.RowKit Go.TL
section
variable {g : Nat} {R : RingS} {c : Chunk} {w : World}
theorem openE_c (kk : List UInt8) (x : Env) (about : List UInt8) (hk : kk.length = 32) (hx : rightEnv x) (ha : about.length ≤ 100000) : ∃ (S : List UInt8) (E : Nat),
  (∀ w : World, Calls Tryz.prog 43 #[.agg (bs kk).toArray, .agg (envC x.k x.b x.n x.d x.t).toArray, .string (mkS about)] w fun v w' => v = .returned (.tuple #[.string (mkS S), .int .i64 E]) ∧ Below w.heap.size w w') ∧
  (if x.t = tagL kk x.k x.b x.n about x.d then (sealL kk x.b x.n x.d, 0) else ([], 13)) = (S, E) := by
 obtain ⟨k, b, n, d, t⟩ := x
 obtain ⟨h1, h2, h3⟩ := hx
 simp only at h1 h2 h3 ⊢
 have h : rightE k d = true := by unfold rightE; simp; omega
 by_cases e : t = tagL kk k b n about d
 ·subst e
  exact ⟨_, _, fun w => Open_ok kk k b n d about w hk h ha, if_pos rfl⟩
 ·exact ⟨_, _, fun w => Open_mac kk k b n d t about w hk h3 h ha e, if_neg e⟩
theorem RingOpen_c (s about : List UInt8) (h : c.ok w) (I : IsRing g R c) (hm : R.m.length ≤ 1000000) (hs : s.length ≤ 1000000) (ha : about.length ≤ 100000) :
  Calls Tryz.prog 15 #[.pointer (some ⟨g, 0, none⟩), .string (mkS s), .string (mkS about)] w fun e w' => e = .returned (.tuple #[.string (mkS (openL R.m R.c s about).1), .int .i64 (openL R.m R.c s about).2]) ∧ ∃ c', IsRing g R c' ∧ Upd w c w' c' := by
 obtain ⟨gm, K, IK, rfl⟩ := I
 obtain ⟨m, cc, bb, n0⟩ := R
 simp only at hm IK ⊢
 have M : Mem (grp [.row g (ringC ⟨m, cc, bb, n0⟩ gm), K]).fp w w [.row g [.string (mkS m), .int .i64 cc, .int .u32 (I32 bb), .int .u64 (I64 n0), .map (some gm)], K] := Mem.startG h
 have N0 : ∀ w' K' x, IsKeys m gm K' → Mem (grp [.row g (ringC ⟨m, cc, bb, n0⟩ gm), K]).fp w w' [x, .row g [.string (mkS m), .int .i64 cc, .int .u32 (I32 bb), .int .u64 (I64 n0), .map (some gm)], K'] → ∃ c', IsRing g ⟨m, cc, bb, n0⟩ c' ∧ Upd w (grp [.row g (ringC ⟨m, cc, bb, n0⟩ gm), K]) w' c' := fun w' K' x IK' M => ⟨_, ⟨gm, K', IK', rfl⟩, M.tail.updG [] rfl⟩
 obtain ⟨F, eF⟩ : ∃ F, F = (grp [.row g (ringC ⟨m, cc, bb, n0⟩ gm), K]).fp := ⟨_, rfl⟩
 rw [← eF] at M N0
 have NN : ∀ w1, (Chunk.row g [.string (mkS m), .int .i64 cc, .int .u32 (I32 bb), .int .u64 (I64 n0), .map (some gm)]).ok w1 → _ := fun w1 RR => ringNone_no (R := ⟨m, cc, bb, n0⟩) RR
 obtain ⟨nn, en⟩ : ∃ nn, nn = I64 n0 := ⟨_, rfl⟩
 rw [← en] at M N0 NN
 have EN := Lib.hid fun _ : Unit => en
 clear en
 replace NN := Lib.hid NN
 replace N0 := Lib.hid N0
 clear eF h
 have RC := fun w => sealRead_c s w hs
 by_cases hz : (readS s).2 = 0
 ·have hx := (read_envonly hz).2
  rw [hz, show ((0 : Nat) : Int) = 0 from rfl] at RC
  by_cases hk : cc < (readS s).1.k
  ·rw [openL_far hz hk]
   simp only [show ((20 : Nat) : Int) = 20 from rfl]
   have ht := hx.2.2
   obtain ⟨⟨k, b, n, d, t⟩, ex⟩ : ∃ x, x = (readS s).1 := ⟨_, rfl⟩
   rw [← ex] at RC hk ht
   simp only at RC hk ht
   replace RC := Lib.hid RC
   have hk1 : (cc : Int) < (k : Int) := by omega
   clear ex hz hx hk
   go_enter Tryz.func15, Tryz.ntmps15
   go_wp2_with ((first | ((with_reducible refine tGuard ?_); first | ((with_reducible refine w_stripE ?_ ?_); exact dcd) | ((with_reducible refine w_skip1 ?_ ?_); exact dcd) | ((with_reducible refine w_skip0 ?_ ?_); exact dcd)) | (go_at_call 37; (refine (NN.out _ (M.ok 0 _ rfl)).mono ?_; rintro e w1 ⟨rfl, rfl⟩)) | (go_at_call 30; (refine (RC.out _).mono ?_; rintro e w1 ⟨rfl, hb⟩; replace M := M.call hb; clear hb)) | ((with_reducible refine tAlloc (some 8) 75 ?_); refine w_alloc M _ rfl rfl (.agg (envC 0 0 0 [] zeroT).toArray) (envC 0 0 0 [] zeroT) yC rfl ?_; clear M; intro gx w1 M) | ((with_reducible refine tLoad ?_); refine w_at _ _ rfl yI ?_; intro hx; (first | refine w_loadE M _ _ _ rfl yL hx rfl yA yA yB ?_ | refine w_loadTag M _ _ _ rfl yL hx rfl yA yA yB ?_); clear hx) | ((with_reducible refine tStore ?_); refine w_at2 _ _ _ rfl yF yF ?_; intro hx hy; (first | refine w_storeE M _ _ _ _ rfl yL hx rfl hy rfl yA yB yB ?_ | refine w_storeE (k := 0) (b := 0) (n := 0) (d := []) (tg := zeroT) M _ _ _ _ rfl yL hx rfl hy rfl yA zeroT_len yB ?_ | refine w_storeE (tg := zeroT) M _ _ _ _ rfl yL hx rfl hy rfl yA zeroT_len yB ?_ | refine w_storeTag M _ _ _ _ rfl yL hx rfl hy yA yB yB ?_ | refine w_storeData M _ _ _ _ rfl yL hx rfl hy yA ?_ | refine w_storeNum M _ _ _ _ rfl yL hx rfl hy yA ?_); clear hx hy M; intro w1 M; (try simp only [setC] at M)) | ((with_reducible refine tConv _ 70 9 ?_); (first | refine w_stringTag M _ _ _ _ _ rfl rfl yL rfl yB Tryz.underlying70 Tryz.underlying5 Tryz.underlying9 ?_)) | ((with_reducible show Code.wp _ (Code.region 6 _ _) _ _ _); (refine region_det [(0, false), (2, false), (3, false), (4, false), (1, false), (5, false), (6, false), (7, false)] [(24, .ptr), (23, .int), (27, .int)] yC yC rfl yC ?_; replace M := M.drew; simp only [reord, opAt, List.map_cons, List.map_nil, List.getElem?_toArray, List.getElem?_cons_zero, List.getElem?_cons_succ, Option.getD_some])) | ((with_reducible refine tM rfl ?_); refine mS ?_; try (clear M; (first | intro g w1 M | intro w1 M); try simp only [setC] at M)) | ((with_reducible first | show Seg _ _ _ _ | show OnlyN _ _ _ _ _); refine rA ?_) | ((with_reducible refine tGuard ?_); refine gdC ?_ ?_ <;> (intro hgd; rw [hgd]; try (exfalso; simp at hgd; omega)))) <;> (try conv => arg 5; simp only [apS, setC]))
   go_ret2
   exact ⟨rfl, N0.out _ _ _ IK M⟩
  ·have hk32 : (ringK m (readS s).1.k).length = 32 := ringK_len _ _
   obtain ⟨S, E, OC, HO⟩ := openE_c (ringK m (readS s).1.k) (readS s).1 about hk32 hx ha
   have HL : openL m cc s about = (S, E) := by
    rw [← HO]
    unfold openL
    rw [if_neg (by simpa using hz), if_neg hk]
   rw [HL]
   simp only
   have ht := hx.2.2
   have hkx := hx.1
   have KC := fun (w : World) RR nR hK => ringkey_c ⟨m, cc, bb, n0⟩ g gm K (readS s).1.k w hm RR nR hK IK
   rw [show ringU m (w64 ((readS s).1.k : Int)) = ringK m (readS s).1.k from rfl] at KC
   obtain ⟨kk, ek⟩ : ∃ k, k = ringK m (readS s).1.k := ⟨_, rfl⟩
   rw [← ek] at OC KC hk32
   obtain ⟨⟨k, b, n, d, t⟩, ex⟩ : ∃ x, x = (readS s).1 := ⟨_, rfl⟩
   rw [← ex] at RC hk ht OC KC
   unfold ringC at KC
   simp only at RC hk ht OC KC
   rw [← EN.out ()] at KC
   have hk1 : (k : Int) ≤ (cc : Int) := by omega
   replace RC := Lib.hid RC
   replace OC := Lib.hid OC
   replace KC := Lib.hid KC
   clear ex hz hx hk HO HL ek hkx
   go_enter Tryz.func15, Tryz.ntmps15
   go_wp2_with ((first | ((with_reducible refine tGuard ?_); first | ((with_reducible refine w_stripE ?_ ?_); exact dcd) | ((with_reducible refine w_skip1 ?_ ?_); exact dcd) | ((with_reducible refine w_skip0 ?_ ?_); exact dcd)) | (go_at_call 37; (refine (NN.out _ (M.ok 0 _ rfl)).mono ?_; rintro e w1 ⟨rfl, rfl⟩)) | (go_at_call 30; (refine (RC.out _).mono ?_; rintro e w1 ⟨rfl, hb⟩; replace M := M.call hb; clear hb)) | ((with_reducible refine tAlloc (some 8) 75 ?_); refine w_alloc M _ rfl rfl (.agg (envC 0 0 0 [] zeroT).toArray) (envC 0 0 0 [] zeroT) yC rfl ?_; clear M; intro gx w1 M) | ((with_reducible show Code.wp _ (Code.region 6 _ _) _ _ _); (refine region_det [(0, false), (2, false), (3, false), (4, false), (1, false), (5, false), (6, false), (7, false)] [(24, .ptr), (23, .int), (27, .int)] yC yC rfl yC ?_; replace M := M.drew; simp only [reord, opAt, List.map_cons, List.map_nil, List.getElem?_toArray, List.getElem?_cons_zero, List.getElem?_cons_succ, Option.getD_some])) | ((with_reducible show Code.wp _ (Code.region 8 _ _) _ _ _); (have MR := M; refine region_lowc [(0, false), (1, false), (5, false), (2, false), (4, false), (3, true), (6, true), (7, false), (8, false), (9, false), (10, false)] [] [(2, _), (4, _)] (IxOk MR [0]) 11 yC yC rfl yC (lowA MR 0 0 (lows_cons (stab_env MR 0 rfl rfl yN yA yA (by first | assumption | exact zeroT_len)) lows_nil)) (ixOk_self MR _) ?_; replace M := M.drew; simp only [planC, opAt, List.getElem?_toArray, List.getElem?_cons_zero, List.getElem?_cons_succ, Option.getD_some])) | (go_at_call 40; (with_reducible refine (KC.out _ (M.ok 1 _ at1) (M.nd 1 2 _ _ yN at1 at2 g (by simp [Chunk.fp])) (M.ok 2 _ at2)).mono ?_; rintro e w1 ⟨rfl, K1, IK1, U⟩; replace M := M.upd 2 rfl U; clear U; simp only [setC] at M)) | (go_at_call 43; (refine (OC.out _).mono ?_; rintro e w1 ⟨rfl, hb⟩; replace M := M.call hb; clear hb)) | ((with_reducible refine tLoad ?_); refine w_at _ _ rfl yI ?_; intro hx; (first | refine w_loadE M _ _ _ rfl yL hx rfl yA yA yB ?_ | refine w_loadTag M _ _ _ rfl yL hx rfl yA yA yB ?_); clear hx) | ((with_reducible refine tStore ?_); refine w_at2 _ _ _ rfl yF yF ?_; intro hx hy; (first | refine w_storeE M _ _ _ _ rfl yL hx rfl hy rfl yA yB yB ?_ | refine w_storeE (k := 0) (b := 0) (n := 0) (d := []) (tg := zeroT) M _ _ _ _ rfl yL hx rfl hy rfl yA zeroT_len yB ?_ | refine w_storeE (tg := zeroT) M _ _ _ _ rfl yL hx rfl hy rfl yA zeroT_len yB ?_ | refine w_storeTag M _ _ _ _ rfl yL hx rfl hy yA yB yB ?_ | refine w_storeData M _ _ _ _ rfl yL hx rfl hy yA ?_ | refine w_storeNum M _ _ _ _ rfl yL hx rfl hy yA ?_); clear hx hy M; intro w1 M; (try simp only [setC] at M)) | ((with_reducible refine tConv _ 70 9 ?_); (first | refine w_stringTag M _ _ _ _ _ rfl rfl yL rfl yB Tryz.underlying70 Tryz.underlying5 Tryz.underlying9 ?_)) | ((with_reducible refine tM rfl ?_); refine mS ?_; try (clear M; (first | intro g w1 M | intro w1 M); try simp only [setC] at M)) | ((with_reducible first | show Seg _ _ _ _ | show OnlyN _ _ _ _ _); refine rA ?_) | ((with_reducible refine tGuard ?_); refine gdC ?_ ?_ <;> (intro hgd; rw [hgd]; try (exfalso; simp at hgd; omega)))) <;> (try conv => arg 5; simp only [apS, setC]))
   go_ret2
   exact ⟨rfl, N0.out _ _ _ IK1 M⟩
 ·rw [openL_bad hz]
  simp only
  have hzz := readS_zero hz
  have e1 : (readS s).1 = zeroE := by rw [hzz]
  rw [e1] at RC
  obtain ⟨e, ee⟩ : ∃ e, e = (readS s).2 := ⟨_, rfl⟩
  rw [← ee] at RC hz ⊢
  have RC' : ∀ w, Calls Tryz.prog 30 #[.string (mkS s)] w fun v w' => v = .returned (.tuple #[.agg (envC 0 0 0 [] zeroT).toArray, .int .i64 e]) ∧ Below w.heap.size w w' := RC
  replace RC := Lib.hid RC'
  have hz1 : ((e : Int) != 0) = true := by simp; exact hz
  have hz2 : ((e : Int) == 0) = false := by simp; exact hz
  clear ee hz hzz e1 RC'
  go_enter Tryz.func15, Tryz.ntmps15
  go_wp2_with ((first | ((with_reducible refine tGuard ?_); first | ((with_reducible refine w_stripE ?_ ?_); exact dcd) | ((with_reducible refine w_skip1 ?_ ?_); exact dcd) | ((with_reducible refine w_skip0 ?_ ?_); exact dcd)) | (go_at_call 37; (refine (NN.out _ (M.ok 0 _ rfl)).mono ?_; rintro e w1 ⟨rfl, rfl⟩)) | (go_at_call 30; (refine (RC.out _).mono ?_; rintro e w1 ⟨rfl, hb⟩; replace M := M.call hb; clear hb)) | ((with_reducible refine tAlloc (some 8) 75 ?_); refine w_alloc M _ rfl rfl (.agg (envC 0 0 0 [] zeroT).toArray) (envC 0 0 0 [] zeroT) yC rfl ?_; clear M; intro gx w1 M) | ((with_reducible refine tLoad ?_); refine w_at _ _ rfl yI ?_; intro hx; (first | refine w_loadE M _ _ _ rfl yL hx rfl yA yA yB ?_ | refine w_loadTag M _ _ _ rfl yL hx rfl yA yA yB ?_); clear hx) | ((with_reducible refine tStore ?_); refine w_at2 _ _ _ rfl yF yF ?_; intro hx hy; (first | refine w_storeE M _ _ _ _ rfl yL hx rfl hy rfl yA yB yB ?_ | refine w_storeE (k := 0) (b := 0) (n := 0) (d := []) (tg := zeroT) M _ _ _ _ rfl yL hx rfl hy rfl yA zeroT_len yB ?_ | refine w_storeE (tg := zeroT) M _ _ _ _ rfl yL hx rfl hy rfl yA zeroT_len yB ?_ | refine w_storeTag M _ _ _ _ rfl yL hx rfl hy yA yB yB ?_ | refine w_storeData M _ _ _ _ rfl yL hx rfl hy yA ?_ | refine w_storeNum M _ _ _ _ rfl yL hx rfl hy yA ?_); clear hx hy M; intro w1 M; (try simp only [setC] at M)) | ((with_reducible refine tConv _ 70 9 ?_); (first | refine w_stringTag M _ _ _ _ _ rfl rfl yL rfl yB Tryz.underlying70 Tryz.underlying5 Tryz.underlying9 ?_)) | ((with_reducible refine tM rfl ?_); refine mS ?_; try (clear M; (first | intro g w1 M | intro w1 M); try simp only [setC] at M)) | ((with_reducible refine tGuard ?_); refine gdC ?_ ?_ <;> (intro hgd; rw [hgd]; try (exfalso; simp at hgd; omega)))) <;> (try conv => arg 5; simp only [apS, setC]))
  go_ret2
  exact ⟨rfl, N0.out _ _ _ IK M⟩
end
end Go.Proofs.YtidadhbaomieiaaGreat

namespace Go.Proofs.YtidadhbaomieiaaGreat
open Go.RowKit Go.TL
end Go.Proofs.YtidadhbaomieiaaGreat

namespace Go
namespace TL
def linkT : List UInt8 := [108, 105, 110, 107]
def aboutK (a b : UInt8) : List UInt8 := linkT ++ [a, b]
theorem aboutK_len (a b : UInt8) : (aboutK a b).length = 6 := rfl
def masterK (seed : List UInt8) (a b : UInt8) : List UInt8 := macL seed (aboutK a b)
theorem masterK_len (seed : List UInt8) (a b : UInt8) : (masterK seed a b).length = 32 := macL_length _ _
structure LinkS where
 me : Int
 o : Int
 out : RingS
 inn : RingS
def linkOf (seed : List UInt8) (me o : Int) (a b : UInt8) (boot : UInt32) (n : UInt64) : LinkS := ⟨me, o, ⟨masterK seed a b, 0, boot, n⟩, ⟨masterK seed b a, 0, 0, 0⟩⟩
end TL
end Go

namespace Go
namespace TL
open Go.RowKit
section
variable {P : Program} {ops : Array Oper} {rest : List Oper} {o : Oper} {a : Act} {w w0 : World} {Q : Exit → Act → World → Prop} {F : List Nat} {L : List Chunk}
theorem w_build2 (M : Mem F w0 w L) {t e : TypeId} {bytes : Nat} (T : SliceT P t e 1 bytes) (x y : Operand) (ho : o.op = .buildSlice t 2 #[(0, x), (1, y)]) (hw : Region.wanted o (yielded ops a.tmps) = true) {b0 b1 : UInt8} (hx : a.eval x = .int .u8 (I8 b0)) (hy : a.eval y = .int .u8 (I8 b1))
  (h : ∀ (g : Nat) (w' : World), Mem F w0 w' (.sl 1 (.slice (some ⟨g, 0, none⟩) 2 2) 2 (bs [b0, b1]) :: L) → wpList P ops Q rest (a.put o.dst (.slice (some ⟨g, 0, none⟩) 2 2)) w') : wpList P ops Q (o :: rest) a w := by
 have T' := T
 obtain ⟨ht, ⟨i, z', hi, hz', hsize, hby, hzs⟩, hsz⟩ := T'
 refine w_buildSlice M T 2 _ ho hw ⟨by omega, by omega⟩ z' (by simp [hi, hz']) (bs [b0, b1]) ?_ fun g w' M' => h g w' ?_
 ·have r4 : Array.range (2 * 1) = #[0, 1] := by decide
  rw [r4]
  simp only [List.map_toArray, List.map_cons, List.map_nil, hx, hy]
  generalize z'.cells[0 % z'.cells.size]! = c0
  generalize z'.cells[1 % z'.cells.size]! = c1
  rfl
 ·have hok := M'.ok 0 _ rfl
  have := M'.upd 0 rfl (c' := .sl 1 (.slice (some ⟨g, 0, none⟩) 2 2) 2 (bs [b0, b1])) ⟨Kept.refl _ _, ⟨rfl, .inr ⟨g, 0, 2, rfl, Nat.zero_le _, hok.1, Nat.le_refl _, by simp only [maxLen]; omega, hok.2.1, hok.2.2⟩⟩, fun k hk => .inl (by simpa [Chunk.fp, Value.ownBlock] using hk)⟩
  simpa using this
end
end TL
end Go
namespace Go.Proofs.YtidadhbaomieiaaGreat
open Go.RowKit Go.TL
theorem about_c (a b : UInt8) (w : World) : Calls Tryz.prog 52 #[.int .i64 (I8 a), .int .i64 (I8 b)] w fun e w' => e = .returned (.string (mkS (aboutK a b))) ∧ Below w.heap.size w w' := by
 have M := Mem.start [] w
 go_enter Tryz.func52, Tryz.ntmps52
 go_wp2_with ((first | ((with_reducible show wpList _ _ _ (Oper.mk _ (Op.buildSlice 70 2 _) _ _ _ _ :: _) _ _); (refine w_build2 M bytesT (b0 := a) (b1 := b) _ _ rfl rfl rfl rfl ?_; clear M; intro g w1 M)) | ((with_reducible refine tM rfl ?_); refine mB ?_; try (clear M; (first | intro g w1 M | intro w1 M); try simp only [setC] at M)) | ((with_reducible refine tGuard ?_); refine gdC ?_ ?_ <;> (intro hgd; rw [hgd]; try (exfalso; simp at hgd; omega)))) <;> (try conv => arg 5; simp only [apS, setC]))
 go_ret
 exact ⟨rfl, M.below⟩
theorem master_c (seed : List UInt8) (a b : UInt8) (w : World) (hs : seed.length ≤ 1000000) : Calls Tryz.prog 49 #[.string (mkS seed), .int .i64 (I8 a), .int .i64 (I8 b)] w fun e w' => e = .returned (.string (mkS (masterK seed a b))) ∧ Below w.heap.size w w' := by
 have M := Mem.start [] w
 have TC := fun w => Tag_c seed (aboutK a b) w yE (by rw [aboutK_len]; omega)
 have hr : (macL seed (aboutK a b)).length = 32 := macL_len _ _
 have SE : masterK seed a b = macL seed (aboutK a b) := rfl
 have AC := fun w => about_c a b w
 obtain ⟨r, er⟩ : ∃ r, r = macL seed (aboutK a b) := ⟨_, rfl⟩
 rw [← er] at TC hr SE
 rw [SE]
 obtain ⟨k, ek⟩ : ∃ k, k = aboutK a b := ⟨_, rfl⟩
 rw [← ek] at TC AC
 replace TC := Lib.hid TC
 replace AC := Lib.hid AC
 clear er ek SE
 go_enter Tryz.func49, Tryz.ntmps49
 go_wp2_with ((first | ((with_reducible refine tAlloc (some 7) 64 ?_); refine w_alloc M _ rfl rfl (.agg (Array.replicate 32 (.int .u8 0))) (bs (List.replicate 32 (0 : UInt8))) yC rfl ?_; clear M; intro gh w1 M) | (go_at_call 52; (refine (AC.out _).mono ?_; rintro e w1 ⟨rfl, hb⟩; replace M := M.call hb; clear hb)) | (go_at_call 47; (refine (TC.out _).mono ?_; rintro e w1 ⟨rfl, hb⟩; replace M := M.call hb; clear hb)) | ((with_reducible refine tM rfl ?_); refine mB ?_; try (clear M; (first | intro g w1 M | intro w1 M); try simp only [setC] at M)) | ((with_reducible refine tGuard ?_); refine gdC ?_ ?_ <;> (intro hgd; rw [hgd]; try (exfalso; simp at hgd; omega)))) <;> (try conv => arg 5; simp only [apS, setC]))
 go_ret
 exact ⟨rfl, M.below⟩
abbrev linkRow (me o : Int) (go gi : Nat) : List Value := [.int .i64 me, .int .i64 o, .pointer (some ⟨go, 0, none⟩), .pointer (some ⟨gi, 0, none⟩)]
def IsLink (g : Nat) (K : LinkS) (c : Chunk) : Prop := ∃ go gi Co Ci, IsRing go K.out Co ∧ IsRing gi K.inn Ci ∧ c = grp [.row g (linkRow K.me K.o go gi), Co, Ci]
theorem linkNone_nil (w : World) : Calls Tryz.prog 50 #[.pointer none] w fun e w' => e = .returned (.bool true) ∧ w = w' := by
 have M := Mem.start [] w
 go_enter Tryz.func50, Tryz.ntmps50
 go_wp2_with ((first | ((with_reducible refine tM rfl ?_); refine mS ?_; try (clear M; (first | intro g w1 M | intro w1 M); try simp only [setC] at M)) | ((with_reducible refine tGuard ?_); refine gdC ?_ ?_ <;> (intro hgd; rw [hgd]; try (exfalso; simp at hgd; omega)))) <;> (try conv => arg 5; simp only [apS, setC]))
 go_ret
 exact ⟨rfl, rfl⟩
theorem linkNone_no {g go gi : Nat} {me o : Int} {w : World} (RR : (Chunk.row g (linkRow me o go gi)).ok w) : Calls Tryz.prog 50 #[.pointer (some ⟨g, 0, none⟩)] w fun e w' => e = .returned (.bool false) ∧ w = w' := by
 have M := Mem.start [] w
 have nR : g ∉ ([] : List Nat) := by simp
 go_enter Tryz.func50, Tryz.ntmps50
 go_wp2_with ((first | ((with_reducible refine tLoad ?_); refine w_at _ _ rfl yI ?_; intro hx; (first | refine w_rowF M RR nR _ _ rfl hx rfl yA (by exact rfl) ?_); clear hx) | ((with_reducible refine tM rfl ?_); refine mS ?_; try (clear M; (first | intro g w1 M | intro w1 M); try simp only [setC] at M)) | ((with_reducible refine tGuard ?_); refine gdC ?_ ?_ <;> (intro hgd; rw [hgd]; try (exfalso; simp at hgd; omega)))) <;> (try conv => arg 5; simp only [apS, setC]))
 go_ret
 exact ⟨rfl, rfl⟩
def EndOf (me o : Int) (a b : UInt8) : Prop := (me = 0 ∧ o = 1 ∧ a = 0 ∧ b = 1) ∨ (me = 1 ∧ o = 0 ∧ a = 1 ∧ b = 0)
theorem LinkNew_ok (seed : List UInt8) (me o : Int) (a b : UInt8) (boot : UInt32) (w : World) (hs : seed.length ≤ 1000000) (he : EndOf me o a b) : Calls Tryz.prog 23 #[.int .i64 me, .string (mkS seed), .int .u32 (I32 boot)] w fun e w' => ∃ g C, e = .returned (.tuple #[.pointer (some ⟨g, 0, none⟩), .int .i64 0]) ∧ IsLink g (linkOf seed me o a b boot 0) C ∧ Mem [] w w' [C] := by
 have M := Mem.start [] w
 have I0 : I8 a = me ∧ I8 b = o ∧ 0 ≤ me ∧ me < 2 ∧ 1 - me = o := by rcases he with ⟨rfl, rfl, rfl, rfl⟩ | ⟨rfl, rfl, rfl, rfl⟩ <;> decide
 obtain ⟨ia, ib, h0, h1, h2⟩ := I0
 have M1 := fun w => master_c seed a b w hs
 have M2 := fun w => master_c seed b a w hs
 rw [ia, ib] at M1 M2
 have N1 := fun w => New_ok (masterK seed a b) 0 boot w yE
 have N2 : ∀ w, Calls Tryz.prog 12 #[.string (mkS (masterK seed b a)), .int .i64 0, .int .u32 0] w fun e w' => ∃ g C, e = .returned (.tuple #[.pointer (some ⟨g, 0, none⟩), .int .i64 0]) ∧ IsRing g ⟨masterK seed b a, 0, 0, 0⟩ C ∧ Mem [] w w' [C] := fun w => New_ok (masterK seed b a) 0 0 w yE
 rw [show ((0 : Nat) : Int) = 0 from rfl] at N1
 unfold linkOf
 obtain ⟨k1, e1⟩ : ∃ k, k = masterK seed a b := ⟨_, rfl⟩
 obtain ⟨k2, e2⟩ : ∃ k, k = masterK seed b a := ⟨_, rfl⟩
 rw [← e1] at M1 N1 ⊢
 rw [← e2] at M2 N2 ⊢
 replace M1 := Lib.hid M1
 replace M2 := Lib.hid M2
 replace N1 := Lib.hid N1
 replace N2 := Lib.hid N2
 clear ia ib he e1 e2
 go_enter Tryz.func23, Tryz.ntmps23
 go_wp2_with ((first | ((with_reducible refine tGuard ?_); first | ((with_reducible refine w_stripE ?_ ?_); exact dcd) | ((with_reducible refine w_skip1 ?_ ?_); exact dcd) | ((with_reducible refine w_skip0 ?_ ?_); exact dcd)) | ((with_reducible refine tBox (some 22) ?_); refine w_box M _ _ rfl rfl _ rfl ([.int .i64 me, .int .i64 o, .pointer none, .pointer none]) rfl ?_; clear M; intro g w1 M) | ((with_reducible show Code.wp _ (Code.region 4 _ _) _ _ _); (have MR := M; refine region_lowc [(0, false), (1, false), (2, false), (3, false), (5, false), (6, false), (7, false), (10, false), (4, false), (8, false), (9, true), (11, true), (12, false), (13, false), (14, false), (15, false), (16, false)] [(25, .ptr), (29, .ptr)] [(4, _), (8, _)] (IxOk MR [0]) 17 yC yC rfl yC (lowA MR 0 0 (lowA MR 0 1 lows_nil)) (ixOk_self MR _) ?_; replace M := M.drew; simp only [planC, opAt, List.getElem?_toArray, List.getElem?_cons_zero, List.getElem?_cons_succ, Option.getD_some])) | ((with_reducible show Code.wp _ (Code.region 7 _ _) _ _ _); (have MR := M; refine region_lowc [(0, false), (1, false), (2, false), (3, false), (5, false), (6, false), (7, false), (4, false), (8, false), (9, true), (10, true), (11, false), (12, false), (13, false), (14, false), (15, false)] [(43, .ptr), (47, .ptr)] [(4, _), (8, _)] (IxOk MR [1]) 16 yC yC rfl yC (lowA MR 1 1 (lowA MR 1 0 lows_nil)) (ixOk_self MR _) ?_; replace M := M.drew; simp only [planC, opAt, List.getElem?_toArray, List.getElem?_cons_zero, List.getElem?_cons_succ, Option.getD_some])) | (go_at_call 49; ((first | (with_reducible refine (M1.out _).mono ?_) | (with_reducible refine (M2.out _).mono ?_)); rintro e w1 ⟨rfl, hb⟩; replace M := M.call hb; clear hb)) | (go_at_call 12; (first | (with_reducible refine (N1.out _).mono ?_; rintro e w1 ⟨go, Co, rfl, JO, MJ⟩) | (with_reducible refine (N2.out _).mono ?_; rintro e w1 ⟨gi, Ci, rfl, II, MJ⟩)); replace M := M.join MJ; clear MJ; simp only [List.cons_append, List.nil_append] at M) | ((with_reducible refine tM rfl ?_); refine mS ?_; try (clear M; (first | intro g w1 M | intro w1 M); try simp only [setC] at M)) | ((with_reducible first | show Seg _ _ _ _ | show OnlyN _ _ _ _ _); refine rA ?_) | ((with_reducible refine tGuard ?_); refine gdC ?_ ?_ <;> (intro hgd; rw [hgd]; try (exfalso; simp at hgd; omega)))) <;> (try conv => arg 5; simp only [apS, setC]))
 have MC : Mem [] w _ [.row g (linkRow me o go gi), Co, Ci] := M.pick _ (fun i => 2 - i) (by intro i j hi hj h; simp at hi hj; omega) (by
  intro i c h
  match i, h with
  | 0, h => simpa using h
  | 1, h => simpa using h
  | 2, h => simpa using h)
 go_ret2
 exact ⟨_, _, rfl, ⟨go, gi, Co, Ci, JO, II, rfl⟩, MC.shut [.row g (linkRow me o go gi), Co, Ci] [] rfl⟩
theorem LinkNew_no (seed : List UInt8) (me : Int) (boot : UInt32) (w : World) (h : me < 0 ∨ 2 ≤ me) : Calls Tryz.prog 23 #[.int .i64 me, .string (mkS seed), .int .u32 (I32 boot)] w fun e w' => e = .returned (.tuple #[.pointer none, .int .i64 1]) ∧ Below w.heap.size w w' := by
 have M := Mem.start [] w
 rcases (by omega : me < 0 ∨ (0 ≤ me ∧ 2 ≤ me)) with h1 | ⟨h1, h2⟩
 all_goals
  clear h
  go_enter Tryz.func23, Tryz.ntmps23
  go_wp2_with ((first | ((with_reducible refine tGuard ?_); first | ((with_reducible refine w_stripE ?_ ?_); exact dcd) | ((with_reducible refine w_skip1 ?_ ?_); exact dcd) | ((with_reducible refine w_skip0 ?_ ?_); exact dcd)) | ((with_reducible refine tM rfl ?_); refine mS ?_; try (clear M; (first | intro g w1 M | intro w1 M); try simp only [setC] at M)) | ((with_reducible refine tGuard ?_); refine gdC ?_ ?_ <;> (intro hgd; rw [hgd]; try (exfalso; simp at hgd; omega)))) <;> (try conv => arg 5; simp only [apS, setC]))
  go_ret2
  exact ⟨rfl, M.below⟩
end Go.Proofs.YtidadhbaomieiaaGreat

namespace Go
namespace TL
theorem textL_short {l : List UInt8} {k : Nat} (h : l.length ≤ k) (hk : k ≤ 100000) : (textL l).length ≤ k + 10 := by
 unfold textL
 have := numL_length_le l.length yE
 rw [List.length_append]; omega
theorem prB_short : ∀ {l : List (List UInt8 × List UInt8)}, l.all okP = true → (l.flatMap prBm).length ≤ l.length * 85
 | [], _ => by simp
 | x :: l, h => by
  rw [List.all_cons, Bool.and_eq_true] at h
  have h1 := prB_short h.2
  have h2 : x.1.length ≤ 33 ∧ x.2.length ≤ 32 := by have := h.1; unfold okP at this; simpa using this
  have a1 := textL_short h2.1 yE
  have a2 := textL_short h2.2 yE
  simp only [List.flatMap_cons, List.length_append, List.length_cons, prBm]; omega
def Fld.cap : Fld → Nat
 | .num _ => 10
 | .hash _ => 32
 | .bat => 522
 | .prs => 4090
theorem put_short {L : Lm} (hL : L.fit) (hr : L.rng) (f : Fld) (h : f.ok L = true) : (f.put L).length ≤ f.cap := by
 cases f with
 | num q =>
  have := hr.num q
  have hx : (q.gl L).toNat < 18446744073709551616 := by omega
  have := numL_length_le _ hx
  show (numL (q.gl L).toNat).length ≤ 10
  omega
 | hash q =>
  have := q.gl_len hL
  show (q.gl L).length ≤ 32
  omega
 | bat =>
  simp only [Fld.ok, Bool.and_eq_true, decide_eq_true_eq] at h
  have := textL_short h.2 yE
  show (textL _).length ≤ 522
  omega
 | prs =>
  simp only [Fld.ok, Bool.and_eq_true, decide_eq_true_eq] at h
  have h1 := prB_short h.2
  have h2 := numL_length_le L.prs.length yE
  have h3 := h.1
  show (numL L.prs.length ++ L.prs.flatMap prBm).length ≤ 4090
  rw [List.length_append]; omega
theorem puts_short {L : Lm} (hL : L.fit) (hr : L.rng) : ∀ l : List Fld, (∀ f ∈ l, f.ok L = true) → (l.flatMap (fun f => f.put L)).length ≤ (l.map Fld.cap).sum
 | [], _ => by simp
 | f :: l, h => by
  have h1 := put_short hL hr f (h f (by simp))
  have h2 := puts_short hL hr l fun g hg => h g (by simp [hg])
  simp only [List.flatMap_cons, List.length_append, List.map_cons, List.sum_cons]; omega
theorem bytesL_short {L : Lm} (hL : L.fit) (hr : L.rng) (hk : isK L.k = true) (ho : okL L = true) : (bytesL L).length ≤ 8192 := by
 have h := puts_short hL hr (fdsL L.k) (okL_of ho)
 have hs : ((fdsL L.k).map Fld.cap).sum ≤ 8000 := by
  rcases kinds hk with e | e | e | e | e | e | e <;> (rw [e]; decide)
 unfold bytesL
 rw [List.length_cons]; omega
end TL
end Go

namespace Go
namespace TL
open Go.RowKit
theorem fresh_apart {α : Type} {w0 w : World} {L : List Chunk} (M : Mem [] w0 w L) {i : Nat} {c : Chunk} (hi : L[i]? = some c) {size : Nat} {f : α → List Value} {v : Value} {l : List α} (S : SeesL w0 size f v l) : 0 < l.length → ∀ k, v.ownBlock = some k → k ∉ c.fp := by
 intro h0 k hk hc
 have h1 := M.own i c hi k hc
 rcases S.sees.2 with ⟨_, hn⟩ | ⟨g, so, cap, rfl, hlt, _⟩
 ·omega
 ·simp [Value.ownBlock] at hk; subst hk
  rcases h1 with h1 | h1
  ·simp at h1
  ·omega
end TL
end Go
namespace Go.Proofs.YtidadhbaomieiaaGreat
open Go.RowKit Go.TL
section
variable {g : Nat} {K : LinkS} {c : Chunk} {w : World}
theorem LinkCount_c (h : c.ok w) (I : IsLink g K c) : Calls Tryz.prog 26 #[.pointer (some ⟨g, 0, none⟩)] w fun e w' => e = .returned (.tuple #[.int .u32 (I32 K.out.b), .int .u64 (I64 K.out.n)]) ∧ Below w.heap.size w w' := by
 obtain ⟨go, gi, Co, Ci, JO, II, rfl⟩ := I
 have RR : (Chunk.row g (linkRow K.me K.o go gi)).ok w := h.2.1.1 0 _ rfl
 have RO : Co.ok w := h.2.1.1 1 _ rfl
 have M := Mem.start [] w
 have nR : g ∉ ([] : List Nat) := by simp
 have CC := Count_c RO JO
 replace CC := Lib.hid CC
 go_enter Tryz.func26, Tryz.ntmps26
 go_wp2_with ((first | (go_at_call 50; (refine (linkNone_no RR).mono ?_; rintro e w1 ⟨rfl, rfl⟩)) | (go_at_call 19; (refine (CC.out).mono ?_; rintro e w1 ⟨rfl, hb⟩; replace M := M.call hb; clear hb)) | ((with_reducible refine tLoad ?_); refine w_at _ _ rfl yI ?_; intro hx; (first | refine w_rowF M RR nR _ _ rfl hx rfl yA (by exact rfl) ?_); clear hx) | ((with_reducible refine tM rfl ?_); refine mS ?_; try (clear M; (first | intro g w1 M | intro w1 M); try simp only [setC] at M)) | ((with_reducible refine tGuard ?_); refine gdC ?_ ?_ <;> (intro hgd; rw [hgd]; try (exfalso; simp at hgd; omega)))) <;> (try conv => arg 5; simp only [apS, setC]))
 go_ret2
 exact ⟨rfl, M.below⟩
theorem Send_bad (L : Lm) (ov pv : Value) (h : c.ok w) (I : IsLink g K c) (hL : L.fit) (hr : L.rng) (S : SeesL w 3 opV ov L.ops) (T : SeesL w 2 prV pv L.prs) {e : Nat} (he : e ≠ 0) (hb : bytesM L = ([], e)) :
  Calls Tryz.prog 24 #[.pointer (some ⟨g, 0, none⟩), .agg (msgC (L.ms ov pv)).toArray] w fun r w' => r = .returned (.tuple #[.agg #[.int .i64 0, .int .i64 0, .string (mkS [])], .int .i64 e]) ∧ Below w.heap.size w w' := by
 obtain ⟨go, gi, Co, Ci, JO, II, rfl⟩ := I
 have RR : (Chunk.row g (linkRow K.me K.o go gi)).ok w := h.2.1.1 0 _ rfl
 have M := Mem.start [] w
 have hmf : (L.ms ov pv).fit := by
  obtain ⟨op, oc, rfl, _⟩ := S.form
  obtain ⟨pp, pc, rfl, _⟩ := T.form
  exact Lm.ms_fit hL rfl rfl
 have BC := fun w S T => Bytes_c L ov pv w hL hr S T
 rw [hb] at BC
 simp only at BC
 replace BC := Lib.hid BC
 have hz1 : ((e : Int) != 0) = true := by simp; exact he
 have hz2 : ((e : Int) == 0) = false := by simp; exact he
 have NN := linkNone_no RR
 clear hb he h
 go_enter Tryz.func24, Tryz.ntmps24
 go_wp2_with ((first | ((with_reducible refine tBox (some 3) ?_); refine w_box M _ _ rfl rfl _ rfl (msgC (L.ms ov pv)) rfl ?_; clear M; intro gm w1 M) | ((with_reducible refine tAlloc (some 4) 58 ?_); refine w_alloc M _ rfl rfl (.agg #[.int .i64 0, .int .i64 0, .string (mkS [])]) ([.int .i64 0, .int .i64 0, .string (mkS [])]) yC rfl ?_; clear M; intro gp w1 M) | (go_at_call 50; (refine (linkNone_no (M.staysF RR (by simp))).mono ?_; rintro e w1 ⟨rfl, rfl⟩)) | ((with_reducible show wpList _ _ _ (Oper.mk _ (Op.load 67 _) _ _ _ _ :: _) _ _); refine w_at _ _ rfl yI ?_; intro hx; refine w_loadMs M 1 _ _ rfl rfl hx rfl yA yC hmf ?_; clear hx) | (go_at_call 51; (refine (BC.out _ (S.now M) (T.now M)).mono ?_; rintro e w1 ⟨rfl, hb⟩; replace M := M.call hb; clear hb)) | ((with_reducible refine tM rfl ?_); refine mS ?_; try (clear M; (first | intro g w1 M | intro w1 M); try simp only [setC] at M))) <;> (try conv => arg 5; simp only [apS, setC]))
 exact bodyPost_ret (results_two rfl _ _ gp 0 [.int .i64 0, .int .i64 0, .string (mkS [])] _ (.int .i64 e) rfl rfl (M.ok 0 _ at0).2.1 Tryz.underlying58 rfl yC) rfl ⟨rfl, M.below⟩
theorem Send_ok (L : Lm) (ov pv : Value) (a b : UInt8) (h : c.ok w) (I : IsLink g K c) (he : EndOf K.me K.o a b) (hm : K.out.m.length ≤ 1000000) (hc : K.out.c ≤ 1048576) (hn : K.out.n.toNat < 9223372036854775808) (hL : L.fit) (hr : L.rng) (S : SeesL w 3 opV ov L.ops) (T : SeesL w 2 prV pv L.prs) (nS : 0 < L.ops.length → ∀ k, ov.ownBlock = some k → k ∉ c.fp) (nT : 0 < L.prs.length → ∀ k, pv.ownBlock = some k → k ∉ c.fp) (hk : isK L.k = true) (ho : okL L = true) (hb : bytesM L = (bytesL L, 0)) :
  Calls Tryz.prog 24 #[.pointer (some ⟨g, 0, none⟩), .agg (msgC (L.ms ov pv)).toArray] w fun r w' => r = .returned (.tuple #[.agg #[.int .i64 K.me, .int .i64 K.o, .string (mkS (envB (K.out.env (aboutK a b) (bytesL L))))], .int .i64 0]) ∧ ∃ c', IsLink g { K with out := { K.out with n := K.out.n + 1 } } c' ∧ Upd w c w' c' := by
 have hsh := bytesL_short hL hr hk ho
 obtain ⟨go, gi, Co, Ci, JO, II, rfl⟩ := I
 have ia : I8 a = K.me ∧ I8 b = K.o := by rcases he with ⟨h1, h2, rfl, rfl⟩ | ⟨h1, h2, rfl, rfl⟩ <;> (rw [h1, h2]; decide)
 have AC := fun w => about_c a b w
 rw [ia.1, ia.2] at AC
 have M : Mem (grp [.row g (linkRow K.me K.o go gi), Co, Ci]).fp w w [.row g (linkRow K.me K.o go gi), Co, Ci] := Mem.startG h
 have N0 : ∀ w' Co' x y, IsRing go { K.out with n := K.out.n + 1 } Co' → Mem (grp [.row g (linkRow K.me K.o go gi), Co, Ci]).fp w w' [x, y, .row g (linkRow K.me K.o go gi), Co', Ci] → ∃ c', IsLink g { K with out := { K.out with n := K.out.n + 1 } } c' ∧ Upd w (grp [.row g (linkRow K.me K.o go gi), Co, Ci]) w' c' := fun w' Co' x y JO' M => ⟨_, ⟨go, gi, Co', Ci, JO', II, rfl⟩, M.tail.tail.updG [] rfl⟩
 obtain ⟨F, eF⟩ : ∃ F, F = (grp [.row g (linkRow K.me K.o go gi), Co, Ci]).fp := ⟨_, rfl⟩
 rw [← eF] at M N0 nS nT
 have hmf : (L.ms ov pv).fit := by
  obtain ⟨op, oc, rfl, _⟩ := S.form
  obtain ⟨pp, pc, rfl, _⟩ := T.form
  exact Lm.ms_fit hL rfl rfl
 have BC := fun w S T => Bytes_c L ov pv w hL hr S T
 rw [hb] at BC
 have WC := fun (w : World) (h : Co.ok w) => Wrap_ok (aboutK a b) (bytesL L) h JO hm hc hn hsh (by rw [aboutK_len]; omega)
 obtain ⟨B, eB⟩ : ∃ B, B = envB (K.out.env (aboutK a b) (bytesL L)) := ⟨_, rfl⟩
 rw [← eB] at WC ⊢
 obtain ⟨t, et⟩ : ∃ t, t = bytesL L := ⟨_, rfl⟩
 rw [← et] at WC BC
 obtain ⟨ab, eab⟩ : ∃ x, x = aboutK a b := ⟨_, rfl⟩
 rw [← eab] at WC AC
 simp only [show ((0 : Nat) : Int) = 0 from rfl] at BC
 replace BC := Lib.hid BC
 replace WC := Lib.hid WC
 replace AC := Lib.hid AC
 replace N0 := Lib.hid N0
 clear eF eB et eab ia hb hk ho hn hc hsh he h
 go_enter Tryz.func24, Tryz.ntmps24
 go_wp2_with ((first | ((with_reducible refine tBox (some 3) ?_); refine w_box M _ _ rfl rfl _ rfl (msgC (L.ms ov pv)) rfl ?_; clear M; intro gm w1 M) | ((with_reducible refine tAlloc (some 4) 58 ?_); refine w_alloc M _ rfl rfl (.agg #[.int .i64 0, .int .i64 0, .string (mkS [])]) ([.int .i64 0, .int .i64 0, .string (mkS [])]) yC rfl ?_; clear M; intro gp w1 M) | (go_at_call 50; (refine (linkNone_no (M.ok 2 _ at2)).mono ?_; rintro e w1 ⟨rfl, rfl⟩)) | ((with_reducible show Code.wp _ (Code.region 6 _ _) _ _ _); (have MR := M; refine region_lowc [(0, false), (1, false), (2, false), (4, false), (5, false), (6, false), (8, false), (9, false), (10, false), (13, false), (3, false), (7, false), (11, false), (12, true), (14, true), (15, false), (16, false), (17, false), (18, false), (19, false)] [(22, .ptr), (26, .ptr), (30, .ptr)] [(3, _), (7, _), (11, _)] (IxOk MR [2]) 20 yC yC rfl yC (lowA MR 2 2 (lowA MR 2 0 (lowA MR 2 1 lows_nil))) (ixOk_self MR _) ?_; replace M := M.drew; simp only [planC, opAt, List.getElem?_toArray, List.getElem?_cons_zero, List.getElem?_cons_succ, Option.getD_some])) | ((with_reducible show Code.wp _ (Code.region 9 _ _) _ _ _); (have MR := M; refine region_lowc [(0, false), (1, false), (2, false), (4, false), (5, false), (6, false), (8, false), (3, false), (7, false), (9, true), (10, true), (11, false)] [(43, .ptr), (47, .ptr)] [(3, _), (7, _)] (IxOk MR [2]) 12 yC yC rfl yC (lowA MR 2 0 (lowA MR 2 1 lows_nil)) (ixOk_self MR _) ?_; replace M := M.drew; simp only [planC, opAt, List.getElem?_toArray, List.getElem?_cons_zero, List.getElem?_cons_succ, Option.getD_some])) | ((with_reducible show wpList _ _ _ (Oper.mk _ (Op.load 67 _) _ _ _ _ :: _) _ _); refine w_at _ _ rfl yI ?_; intro hx; refine w_loadMs M 1 _ _ rfl rfl hx rfl yA yC hmf ?_; clear hx) | (go_at_call 51; (refine (BC.out _ (S.kept0 M.kept nS) (T.kept0 M.kept nT)).mono ?_; rintro e w1 ⟨rfl, hb⟩; replace M := M.call hb; clear hb)) | (go_at_call 52; (refine (AC.out _).mono ?_; rintro e w1 ⟨rfl, hb⟩; replace M := M.call hb; clear hb)) | (go_at_call 14; (refine (WC.out _ (M.ok 3 _ at3)).mono ?_; rintro e w1 ⟨rfl, Co1, IO1, U⟩; replace M := M.upd 3 at3 U; clear U; simp only [setC] at M)) | ((with_reducible refine tM rfl ?_); refine mS ?_; try (clear M; (first | intro g w1 M | intro w1 M); try simp only [setC] at M)) | ((with_reducible first | show Seg _ _ _ _ | show OnlyN _ _ _ _ _); refine rA ?_)) <;> (try conv => arg 5; simp only [apS, setC]))
 exact bodyPost_ret (results_two rfl _ _ gp 0 [.int .i64 K.me, .int .i64 K.o, .string (mkS B)] _ (.int .i64 0) rfl rfl (M.ok 0 _ at0).2.1 Tryz.underlying58 rfl yC) rfl ⟨rfl, N0.out _ _ _ _ IO1 M⟩
end
end Go.Proofs.YtidadhbaomieiaaGreat

namespace Go.Proofs.YtidadhbaomieiaaGreat
open Go.RowKit Go.TL
theorem link_out {F : List Nat} {w0 w : World} {a b x y r p q : Chunk} (M : Mem F w0 w [a, b, x, y, r, p, q]) : Mem F w0 w [a, b, grp [r, p, q]] := by
 have M1 : Mem F w0 w [r, p, q, a, b] := M.sel [4, 5, 6, 0, 1] _ yN rfl
 exact (M1.shut [r, p, q] [a, b] rfl).sel [1, 2, 0] _ yN rfl
section
variable {g : Nat} {K : LinkS} {c : Chunk} {w : World}
theorem Come_ok (data : List UInt8) (a b : UInt8) (h : c.ok w) (I : IsLink g K c) (he : EndOf K.me K.o a b) (hm : K.inn.m.length ≤ 1000000) (hd : data.length ≤ 1000000) (hz : (openL K.inn.m K.inn.c data (aboutK b a)).2 = 0) :
  Calls Tryz.prog 25 #[.pointer (some ⟨g, 0, none⟩), .agg #[.int .i64 K.o, .int .i64 K.me, .string (mkS data)]] w fun e w' => ∃ ov pv c', e = .returned (.tuple #[.agg (msgC ((readM (openL K.inn.m K.inn.c data (aboutK b a)).1).1.ms ov pv)).toArray, .int .i64 (readM (openL K.inn.m K.inn.c data (aboutK b a)).1).2]) ∧ IsLink g K c' ∧ Mem c.fp w w' [.sl 3 ov (readM (openL K.inn.m K.inn.c data (aboutK b a)).1).1.ops.length ((readM (openL K.inn.m K.inn.c data (aboutK b a)).1).1.ops.flatMap opV), .sl 2 pv (readM (openL K.inn.m K.inn.c data (aboutK b a)).1).1.prs.length ((readM (openL K.inn.m K.inn.c data (aboutK b a)).1).1.prs.flatMap prV), c'] := by
 obtain ⟨go, gi, Co, Ci, JO, II, rfl⟩ := I
 obtain ⟨me, o, out, inn⟩ := K
 simp only at he hm hz JO II ⊢
 have ia : I8 a = me ∧ I8 b = o := by rcases he with ⟨h1, h2, rfl, rfl⟩ | ⟨h1, h2, rfl, rfl⟩ <;> (rw [h1, h2]; decide)
 have AC := fun w => about_c b a w
 rw [ia.1, ia.2] at AC
 have M : Mem (grp [.row g (linkRow me o go gi), Co, Ci]).fp w w [.row g (linkRow me o go gi), Co, Ci] := Mem.startG h
 have OC := fun (w : World) (h : Ci.ok w) => RingOpen_c data (aboutK b a) h II hm hd (by rw [aboutK_len]; omega)
 have hl := openL_len inn.m inn.c data (aboutK b a)
 obtain ⟨F, eF⟩ : ∃ F, F = (grp [.row g (linkRow me o go gi), Co, Ci]).fp := ⟨_, rfl⟩
 rw [← eF] at M ⊢
 obtain ⟨⟨t, e⟩, eo⟩ : ∃ x, x = openL inn.m inn.c data (aboutK b a) := ⟨_, rfl⟩
 rw [← eo] at OC hz hl ⊢
 simp only at OC hz hl ⊢
 rw [hz, show ((0 : Nat) : Int) = 0 from rfl] at OC
 have RC := fun w => Read_c t w yE
 have hrf := (readM_form t yE).1
 obtain ⟨ab, eab⟩ : ∃ x, x = aboutK b a := ⟨_, rfl⟩
 rw [← eab] at OC AC
 unfold GivesM at RC
 obtain ⟨⟨R, re⟩, er⟩ : ∃ x, x = readM t := ⟨_, rfl⟩
 rw [← er] at RC hrf ⊢
 simp only at RC hrf ⊢
 replace OC := Lib.hid OC
 replace AC := Lib.hid AC
 replace RC := Lib.hid RC
 clear eF eo eab ia hz he h er
 go_enter Tryz.func25, Tryz.ntmps25
 go_wp2_with ((first | ((with_reducible refine tGuard ?_); first | ((with_reducible refine w_stripE ?_ ?_); exact dcd) | ((with_reducible refine w_skip1 ?_ ?_); exact dcd) | ((with_reducible refine w_skip0 ?_ ?_); exact dcd)) | ((with_reducible refine tBox (some 3) ?_); refine w_box M _ _ rfl rfl _ rfl ([.int .i64 o, .int .i64 me, .string (mkS data)]) rfl ?_; clear M; intro gp w1 M) | ((with_reducible refine tAlloc (some 4) 67 ?_); refine w_alloc M _ rfl rfl (.agg (msgC zeroM).toArray) (msgC zeroM) yC rfl ?_; clear M; intro gm w1 M) | ((with_reducible show Code.wp _ (Code.region 3 _ _) _ _ _); (refine region_det [(0, false), (2, false), (3, false), (4, false), (1, false), (5, false), (6, false), (7, false), (8, false), (10, false), (11, false), (12, false), (9, false), (13, false), (14, false), (15, false), (16, false)] [(15, .ptr), (14, .int), (18, .int), (23, .ptr), (22, .int), (26, .int)] yC yC rfl yC ?_; replace M := M.drew; simp only [reord, opAt, List.map_cons, List.map_nil, List.getElem?_toArray, List.getElem?_cons_zero, List.getElem?_cons_succ, Option.getD_some])) | ((with_reducible show Code.wp _ (Code.region 5 _ _) _ _ _); (have MR := M; refine region_lowc [(0, false), (1, false), (2, false), (4, false), (6, false), (7, false), (8, false), (10, false), (11, false), (12, false), (3, false), (5, false), (9, false), (13, false), (14, true), (15, true), (16, false), (17, false), (18, false), (19, false), (20, false)] [(31, .ptr), (37, .ptr), (41, .ptr)] [(3, _), (5, _), (9, _), (13, _)] (IxOk MR [2, 1]) 21 yC yC rfl yC (lowA MR 2 3 (lowA MR 1 2 (lowA MR 2 1 (lowA MR 2 0 lows_nil)))) (ixOk_self MR _) ?_; replace M := M.drew; simp only [planC, opAt, List.getElem?_toArray, List.getElem?_cons_zero, List.getElem?_cons_succ, Option.getD_some])) | (go_at_call 50; (refine (linkNone_no (M.ok 2 _ at2)).mono ?_; rintro e w1 ⟨rfl, rfl⟩)) | (go_at_call 52; (refine (AC.out _).mono ?_; rintro e w1 ⟨rfl, hb⟩; replace M := M.call hb; clear hb)) | (go_at_call 15; (refine (OC.out _ (M.ok 4 _ at4)).mono ?_; rintro e w1 ⟨rfl, Ci1, II1, U⟩; replace M := M.upd 4 at4 U; clear U; simp only [setC] at M)) | (go_at_call 53; (refine (RC.out _).mono ?_; rintro e w7 ⟨rov, rpv, rfl, N⟩; replace M := M.join N; clear N; simp only [List.cons_append, List.nil_append] at M; have hmf := ms_fit2 hrf M)) | ((with_reducible show wpList _ _ _ (Oper.mk _ (Op.store 67 _ _) _ _ _ _ :: _) _ _); refine w_at2 _ _ _ rfl yI yF ?_; intro hx hy; refine w_storeMs (m := R.ms rov rpv) M 2 _ _ _ rfl rfl hx rfl hy rfl yC hmf zeroM_fit ?_; clear hx hy M; intro w1 M; (try simp only [setC] at M)) | ((with_reducible refine tM rfl ?_); refine mS ?_; try (clear M; (first | intro g w1 M | intro w1 M); try simp only [setC] at M)) | ((with_reducible first | show Seg _ _ _ _ | show OnlyN _ _ _ _ _); refine rA ?_) | ((with_reducible refine tGuard ?_); refine gdC ?_ ?_ <;> (intro hgd; rw [hgd]; try (exfalso; simp at hgd; omega)))) <;> (try conv => arg 5; simp only [apS, setC]))
 exact bodyPost_ret (results_two rfl _ _ gm 0 (msgC (R.ms rov rpv)) _ (.int .i64 re) rfl rfl (M.ok 2 _ at2).2.1 Tryz.underlying67 rfl (by rw [msgC_len hmf]; kernel_rfl)) rfl ⟨_, _, _, rfl, ⟨go, gi, Co, Ci1, JO, II1, rfl⟩, link_out M⟩
end
end Go.Proofs.YtidadhbaomieiaaGreat

namespace Go
namespace TL
open Go.RowKit
def helloM : Lm := ⟨1, 3, 0, 0, 0, 0, [], 0, zeroH, 0, 0, zeroH, zeroH, []⟩
theorem helloM_fit : helloM.fit := ⟨zeroH_len, zeroH_len, zeroH_len⟩
theorem helloM_rng : helloM.rng := ⟨fun q => by cases q <;> decide, by decide, by simp [helloM], by simp [helloM], by simp [helloM], by simp [helloM], by simp [helloM]⟩
theorem helloM_only : onlyL helloM = helloM := rfl
theorem helloM_ok : okL helloM = true := by decide +kernel
theorem helloM_b : bytesM helloM = (bytesL helloM, 0) := by rw [bytesM_eq helloM_fit helloM_rng, if_pos yN, if_pos ⟨helloM_ok, helloM_only⟩]
theorem read_right {L : Lm} (hL : L.fit) (hr : L.rng) (hk : isK L.k = true) (ho : okL L = true) (hn : onlyL L = L) : readM (bytesL L) = (L, 0) := by
 have := readM_back hL hr hk ho []
 rwa [List.append_nil, if_pos rfl, hn] at this
theorem link_open (seed : List UInt8) (a b : UInt8) (boot : UInt32) (n : UInt64) (text : List UInt8) (ht : text.length ≤ 8192) : openL (masterK seed a b) 0 (envB (RingS.env ⟨masterK seed a b, 0, boot, n⟩ (aboutK a b) text)) (aboutK a b) = (text, 0) :=
 openL_ok (R := ⟨masterK seed a b, 0, boot, n⟩) (aboutK a b) text (Nat.zero_le _) ht (Nat.le_refl _)
theorem link_len (seed : List UInt8) (a b : UInt8) (boot : UInt32) (n : UInt64) (text : List UInt8) (ht : text.length ≤ 8192) : (envB (RingS.env ⟨masterK seed a b, 0, boot, n⟩ (aboutK a b) text)).length ≤ 8600 :=
 envB_length (RingS.env_right (R := ⟨masterK seed a b, 0, boot, n⟩) (aboutK a b) text (Nat.zero_le _) ht)
theorem swapH {F : List Nat} {w0 w : World} {c d : Chunk} {L : List Chunk} (M : Mem F w0 w (c :: d :: L)) : Mem F w0 w (d :: c :: L) :=
 M.pick _ (fun i => if i = 0 then 1 else if i = 1 then 0 else i) (fun i j _ _ h => by (try dsimp only at h); split at h <;> split at h <;> (try split at h) <;> (try split at h) <;> omega) (fun i c' h => by
  match i, h with
  | 0, h => simpa using h
  | 1, h => simpa using h
  | i + 2, h => simpa using h)
theorem turn1 {F : List Nat} {w0 w w' : World} {c : Chunk} {K' L : List Chunk} (M : Mem F w0 w (c :: L)) (U : Mem c.fp w w' K') : Mem F w0 w' (K' ++ L) := Mem.turn (K := [c]) M (by simpa using U)
end TL
end Go
namespace Go.Proofs.YtidadhbaomieiaaGreat
open Go.RowKit Go.TL
theorem awake19_c (w : World) : Calls Tryz.prog 27 #[] w fun e w' => e = .returned (.bool true) ∧ Below w.heap.size w w' := by
 have M := Mem.start [] w
 have NA : ∀ w, Calls Tryz.prog 23 #[.int .i64 0, .string (mkS [115]), .int .u32 1] w fun e w' => ∃ g C, e = .returned (.tuple #[.pointer (some ⟨g, 0, none⟩), .int .i64 0]) ∧ IsLink g (linkOf [115] 0 1 0 1 1 0) C ∧ Mem [] w w' [C] := fun w => LinkNew_ok [115] 0 1 0 1 1 w yN (by unfold EndOf; decide)
 have NB : ∀ w, Calls Tryz.prog 23 #[.int .i64 1, .string (mkS [115]), .int .u32 1] w fun e w' => ∃ g C, e = .returned (.tuple #[.pointer (some ⟨g, 0, none⟩), .int .i64 0]) ∧ IsLink g (linkOf [115] 1 0 1 0 1 0) C ∧ Mem [] w w' [C] := fun w => LinkNew_ok [115] 1 0 1 0 1 w yN (by unfold EndOf; decide)
 have hsh := bytesL_short helloM_fit helloM_rng yN helloM_ok
 have SC : ∀ (C : Array Value) (g : Nat) (c : Chunk) (w : World) (h : c.ok w) (I : IsLink g (linkOf [115] 0 1 0 1 1 0) c), C = (msgC (helloM.ms (.slice none 0 0) (.slice none 0 0))).toArray → Calls Tryz.prog 24 #[.pointer (some ⟨g, 0, none⟩), .agg C] w fun r w' => r = .returned (.tuple #[.agg #[.int .i64 0, .int .i64 1, .string (mkS (envB (RingS.env ⟨masterK [115] 0 1, 0, 1, 0⟩ (aboutK 0 1) (bytesL helloM))))], .int .i64 0]) ∧ ∃ c', True ∧ Upd w c w' c' := fun C g c w h I hC => by
  rw [hC]
  refine (Send_ok helloM (.slice none 0 0) (.slice none 0 0) 0 1 h I (.inl ⟨rfl, rfl, rfl, rfl⟩) (by show (masterK [115] 0 1).length ≤ _; rw [masterK_len]; decide) (by show 0 ≤ 1048576; decide) (by show (0 : UInt64).toNat < _; decide) helloM_fit helloM_rng (seesL_nil _ _ opV_len _) (seesL_nil _ _ prV_len _) (by simp [Value.ownBlock]) (by simp [Value.ownBlock]) yN helloM_ok helloM_b).mono ?_
  rintro e w' ⟨rfl, c', _, U⟩
  exact ⟨rfl, c', trivial, U⟩
 have hop := link_open [115] 0 1 1 0 (bytesL helloM) hsh
 have hln := link_len [115] 0 1 1 0 (bytesL helloM) hsh
 have CC := fun (g : Nat) (c : Chunk) (w : World) (h : c.ok w) (I : IsLink g (linkOf [115] 1 0 1 0 1 0) c) => Come_ok (envB (RingS.env ⟨masterK [115] 0 1, 0, 1, 0⟩ (aboutK 0 1) (bytesL helloM))) 1 0 h I (.inr ⟨rfl, rfl, rfl, rfl⟩) (by show (masterK [115] 0 1).length ≤ _; rw [masterK_len]; decide) yE (by show (openL (masterK [115] 0 1) 0 _ (aboutK 0 1)).2 = 0; rw [hop])
 have hop2 : openL (linkOf [115] 1 0 1 0 1 0).inn.m (linkOf [115] 1 0 1 0 1 0).inn.c (envB (RingS.env ⟨masterK [115] 0 1, 0, 1, 0⟩ (aboutK 0 1) (bytesL helloM))) (aboutK 0 1) = (bytesL helloM, 0) := hop
 rw [hop2, read_right helloM_fit helloM_rng yN helloM_ok helloM_only] at CC
 simp only at CC
 obtain ⟨D, eD⟩ : ∃ D, D = envB (RingS.env ⟨masterK [115] 0 1, 0, 1, 0⟩ (aboutK 0 1) (bytesL helloM)) := ⟨_, rfl⟩
 rw [← eD] at SC CC
 have CC' : ∀ (g : Nat) (c : Chunk) (w : World), c.ok w → IsLink g (linkOf [115] 1 0 1 0 1 0) c → Calls Tryz.prog 25 #[.pointer (some ⟨g, 0, none⟩), .agg #[.int .i64 0, .int .i64 1, .string (mkS D)]] w fun e w' => ∃ ov pv c', e = .returned (.tuple #[.agg (msgC (helloM.ms ov pv)).toArray, .int .i64 0]) ∧ IsLink g (linkOf [115] 1 0 1 0 1 0) c' ∧ Mem c.fp w w' [.sl 3 ov helloM.ops.length (helloM.ops.flatMap opV), .sl 2 pv helloM.prs.length (helloM.prs.flatMap prV), c'] := CC
 have hwf := helloM_fit
 have hwk : helloM.k = 1 := rfl
 have hwe : helloM.e = 3 := rfl
 obtain ⟨W, eW⟩ : ∃ W, W = helloM := ⟨_, rfl⟩
 rw [← eW] at CC' hwf hwk hwe
 obtain ⟨KA, eA⟩ : ∃ K, K = linkOf [115] 0 1 0 1 1 0 := ⟨_, rfl⟩
 obtain ⟨KB, eB⟩ : ∃ K, K = linkOf [115] 1 0 1 0 1 0 := ⟨_, rfl⟩
 rw [← eA] at NA SC
 rw [← eB] at NB CC'
 have H0 : ∀ ov pv, (msgC (W.ms ov pv))[0]? = some (.int .u8 1) := fun ov pv => by show some (Value.int .u8 (I8 W.k)) = _; rw [hwk]; rfl
 have H1 : ∀ ov pv, (msgC (W.ms ov pv))[1]? = some (.int .i64 3) := fun ov pv => by show some (Value.int .i64 W.e) = _; rw [hwe]
 replace NA := Lib.hid NA
 replace NB := Lib.hid NB
 replace SC := Lib.hid SC
 replace CC' := Lib.hid CC'
 replace H0 := Lib.hid H0
 replace H1 := Lib.hid H1
 clear CC eW hwk hwe eD hop hop2 hln hsh eA eB
 go_enter Tryz.func27, Tryz.ntmps27
 go_wp2_with ((first | ((with_reducible refine tGuard ?_); first | ((with_reducible refine w_stripE ?_ ?_); exact dcd) | ((with_reducible refine w_skip1 ?_ ?_); exact dcd) | ((with_reducible refine w_skip0 ?_ ?_); exact dcd)) | (go_at_call 23; (first | (with_reducible refine (NA.out _).mono ?_; rintro e w1 ⟨ga, ca, rfl, IA, MJ⟩) | (with_reducible refine (NB.out _).mono ?_; rintro e w1 ⟨gb, cb, rfl, IB, MJ⟩)); replace M := M.join MJ; clear MJ; simp only [List.cons_append, List.nil_append] at M) | (go_at_call 24; (refine (SC.out _ _ _ _ (M.ok 1 _ at1) IA rfl).mono ?_; rintro e w1 ⟨rfl, ca1, _, U⟩; replace M := M.upd 1 at1 U; clear U; simp only [setC] at M)) | ((with_reducible refine tAlloc (some 5) 58 ?_); refine w_alloc M _ rfl rfl (.agg #[.int .i64 0, .int .i64 0, .string (mkS [])]) ([.int .i64 0, .int .i64 0, .string (mkS [])]) yC rfl ?_; clear M; intro gp w1 M) | (go_at_call 25; (replace M := swapH M; refine (CC'.out _ _ _ (M.ok 0 _ at0) IB).mono ?_; rintro e w1 ⟨rov, rpv, cb1, rfl, IB1, U⟩; replace M := turn1 M U; clear U; simp only [List.cons_append, List.nil_append] at M; have hrf := ms_fit2 hwf M)) | ((with_reducible refine tAlloc (some 7) 67 ?_); refine w_alloc M _ rfl rfl (.agg (msgC zeroM).toArray) (msgC zeroM) yC rfl ?_; clear M; intro gm w1 M) | ((with_reducible show wpList _ _ _ (Oper.mk _ (Op.store 67 _ _) _ _ _ _ :: _) _ _); refine w_at2 _ _ _ rfl yI yF ?_; intro hx hy; refine w_storeMs (m := W.ms rov rpv) M 0 _ _ _ rfl rfl hx rfl hy rfl yC hrf zeroM_fit ?_; clear hx hy M; intro w1 M; (try simp only [setC] at M)) | ((with_reducible refine tLoad ?_); refine w_at _ _ rfl yI ?_; intro hx; (first | refine w_load M 0 _ _ rfl rfl hx rfl yA (by with_reducible first | exact H0.out _ _ | exact H1.out _ _) ?_); clear hx) | ((with_reducible refine tM rfl ?_); refine mS ?_; try (clear M; (first | intro g w1 M | intro w1 M); try simp only [setC] at M)) | ((with_reducible refine tGuard ?_); refine gdC ?_ ?_ <;> (intro hgd; rw [hgd]; try (exfalso; simp at hgd; omega)))) <;> (try conv => arg 5; simp only [apS, setC]))
 go_ret
 exact ⟨by first | rfl | simp, M.below⟩
end Go.Proofs.YtidadhbaomieiaaGreat

namespace Go.Proofs.YtidadhbaomieiaaGreat
open Go.RowKit Go.TL
structure SmallL (seed : List UInt8) (l : List Mx) : Prop where
 seed : seed.length ≤ 300
 len : l.length ≤ 12
 each : ∀ x ∈ l, greatL x.L = false
theorem great19_c (seed : List UInt8) (l : List Mx) (v : Value) (w : World) (S : SeesL w 107 mxV v l) (hok : ∀ x ∈ l, MxOk w x) :
  Calls Tryz.prog 29 #[.string (mkS seed), v] w fun e w' => ∃ b, e = .returned (.bool b) ∧ (b = false ↔ SmallL seed l) ∧ Below w.heap.size w w' := by
 obtain ⟨p, cap, rfl, hc⟩ := S.form
 have M := Mem.start [] w
 have GC : ∀ (w' : World) (x : Mx), x ∈ l → Mem [] w w' [] → Calls Tryz.prog 56 #[.agg (mxV x).toArray] w' fun e w'' => e = .returned (.bool (greatL x.L)) ∧ Below w'.heap.size w' w'' := fun w' x hx M => by
  have h := hok x hx
  exact Great_c x.L x.ov x.pv w' h.lfit (h.so.now M) (h.sp.now M) h.lo h.lp
 replace GC := Lib.hid GC
 clear hok
 go_enter Tryz.func29, Tryz.ntmps29
 go_wp2_with fail
 go_loopw [5] (fun kv wr => ∃ k : Nat, k ≤ l.length ∧ k ≤ 13 ∧ kv = .int .i64 k ∧ Hid (∀ (j : Nat) (x : Mx), j < k → l[j]? = some x → greatL x.L = false) ∧ Mem [] w wr []) (fun kv _ => l.length - (intOf kv).toNat)
 case atStart => exact ⟨0, by omega, by omega, rfl, Lib.hid yE, M⟩
 case round =>
  clear M
  obtain ⟨k, hk, hk13, rfl, HK, M⟩ := hrel
  by_cases hlt : k < l.length
  ·by_cases h12 : k ≤ 12
   ·obtain ⟨g, so, rfl⟩ := S.addr yE
    obtain ⟨x, hx⟩ : ∃ x, l[k]? = some x := ⟨_, List.getElem?_eq_getElem hlt⟩
    have HX := Lib.hid hx
    have GX := Lib.hid (fun w' M => GC.out w' x (List.mem_of_getElem? hx) M)
    clear hx
    cases hg : greatL x.L with
    | true =>
     rw [hg] at GX
     have hns : Hid (¬ SmallL seed l) := Lib.hid fun h => by
      have := h.each x (List.mem_of_getElem? HX.out)
      rw [hg] at this; cases this
     go_wp2_with ((first | ((with_reducible refine tGuard ?_); first | ((with_reducible refine w_stripE ?_ ?_); exact dcd) | ((with_reducible refine w_skip1 ?_ ?_); exact dcd) | ((with_reducible refine w_skip0 ?_ ?_); exact dcd)) | (go_at_call 56; (refine (GX.out _ M).mono ?_; rintro e w1 ⟨rfl, hb⟩; replace M := M.call hb; clear hb)) | ((with_reducible show wpList _ _ _ (Oper.mk _ (Op.load 67 _) _ _ _ _ :: _) _ _); refine w_at _ _ rfl yI ?_; intro hx; refine w_seeA M S HX.out _ _ rfl hx rfl yC (by first | rfl | omega | (simp; omega)) (by rw [mxV_len]; kernel_rfl) ?_; clear hx) | ((with_reducible refine tM rfl ?_); refine mS ?_; try (clear M; (first | intro g w1 M | intro w1 M); try simp only [setC] at M))) <;> (try conv => arg 5; simp only [apS, setC]))
     go_ret
     exact ⟨true, rfl, ⟨fun h => (by cases h), fun h => absurd h hns.out⟩, M.below⟩
    | false =>
     rw [hg] at GX
     replace hg := Lib.hid hg
     go_wp2_with ((first | ((with_reducible refine tGuard ?_); first | ((with_reducible refine w_stripE ?_ ?_); exact dcd) | ((with_reducible refine w_skip1 ?_ ?_); exact dcd) | ((with_reducible refine w_skip0 ?_ ?_); exact dcd)) | (go_at_call 56; (refine (GX.out _ M).mono ?_; rintro e w1 ⟨rfl, hb⟩; replace M := M.call hb; clear hb)) | ((with_reducible show wpList _ _ _ (Oper.mk _ (Op.load 67 _) _ _ _ _ :: _) _ _); refine w_at _ _ rfl yI ?_; intro hx; refine w_seeA M S HX.out _ _ rfl hx rfl yC (by first | rfl | omega | (simp; omega)) (by rw [mxV_len]; kernel_rfl) ?_; clear hx) | ((with_reducible refine tM rfl ?_); refine mS ?_; try (clear M; (first | intro g w1 M | intro w1 M); try simp only [setC] at M))) <;> (try conv => arg 5; simp only [apS, setC]))
     go_roundw
     case rel => exact ⟨k + 1, by omega, by omega, by go_num, Lib.hid fun j y hj hyy => by
      by_cases hjk : j < k
      ·exact HK.out j y hjk hyy
      ·obtain rfl : j = k := by omega
       rw [HX.out] at hyy; injection hyy with hyy; subst hyy; exact hg.out, M⟩
     case measure => simp [intOf]; omega
   ·have hns : Hid (¬ SmallL seed l) := Lib.hid fun h => by have := h.len; omega
    go_wp2_with ((first | ((with_reducible refine tGuard ?_); first | ((with_reducible refine w_stripE ?_ ?_); exact dcd) | ((with_reducible refine w_skip1 ?_ ?_); exact dcd) | ((with_reducible refine w_skip0 ?_ ?_); exact dcd)) | ((with_reducible refine tM rfl ?_); refine mS ?_; try (clear M; (first | intro g w1 M | intro w1 M); try simp only [setC] at M))) <;> (try conv => arg 5; simp only [apS, setC]))
    go_ret
    first | exact ⟨true, by first | rfl | (simp; omega), ⟨fun h => (by cases h), fun h => absurd h hns.out⟩, M.below⟩ | exact .inr ⟨by first | rfl | (simp; omega), hns.out, M.below⟩
  ·obtain rfl : k = l.length := by omega
   by_cases h12 : l.length ≤ 12
   ·by_cases h3 : seed.length ≤ 300
    ·have hfin : SmallL seed l := ⟨h3, h12, fun x hx => by
      obtain ⟨j, hj⟩ := List.getElem?_of_mem hx
      exact HK.out j x (List.getElem?_eq_some_iff.1 hj).1 hj⟩
     go_wp2_with ((first | ((with_reducible refine tGuard ?_); first | ((with_reducible refine w_stripE ?_ ?_); exact dcd) | ((with_reducible refine w_skip1 ?_ ?_); exact dcd) | ((with_reducible refine w_skip0 ?_ ?_); exact dcd)) | ((with_reducible refine tM rfl ?_); refine mS ?_; try (clear M; (first | intro g w1 M | intro w1 M); try simp only [setC] at M))) <;> (try conv => arg 5; simp only [apS, setC]))
     go_ret
     exact ⟨false, by first | rfl | (simp; omega), ⟨fun _ => hfin, fun _ => rfl⟩, M.below⟩
    ·have hns : Hid (¬ SmallL seed l) := Lib.hid fun h => by have := h.seed; omega
     go_wp2_with ((first | ((with_reducible refine tGuard ?_); first | ((with_reducible refine w_stripE ?_ ?_); exact dcd) | ((with_reducible refine w_skip1 ?_ ?_); exact dcd) | ((with_reducible refine w_skip0 ?_ ?_); exact dcd)) | ((with_reducible refine tM rfl ?_); refine mS ?_; try (clear M; (first | intro g w1 M | intro w1 M); try simp only [setC] at M))) <;> (try conv => arg 5; simp only [apS, setC]))
     go_ret
     first | exact ⟨true, by first | rfl | (simp; omega), ⟨fun h => (by cases h), fun h => absurd h hns.out⟩, M.below⟩ | exact .inr ⟨by first | rfl | (simp; omega), hns.out, M.below⟩
   ·have hns : Hid (¬ SmallL seed l) := Lib.hid fun h => by have := h.len; omega
    go_wp2_with ((first | ((with_reducible refine tGuard ?_); first | ((with_reducible refine w_stripE ?_ ?_); exact dcd) | ((with_reducible refine w_skip1 ?_ ?_); exact dcd) | ((with_reducible refine w_skip0 ?_ ?_); exact dcd)) | ((with_reducible refine tM rfl ?_); refine mS ?_; try (clear M; (first | intro g w1 M | intro w1 M); try simp only [setC] at M))) <;> (try conv => arg 5; simp only [apS, setC]))
    go_ret
    first | exact ⟨true, by first | rfl | (simp; omega), ⟨fun h => (by cases h), fun h => absurd h hns.out⟩, M.below⟩ | exact .inr ⟨by first | rfl | (simp; omega), hns.out, M.below⟩
theorem great19_no (seed : List UInt8) (l : List Mx) (v : Value) (w : World) (S : SeesL w 107 mxV v l) (hok : ∀ x ∈ l, MxOk w x) (h : ¬ SmallL seed l) :
  Calls Tryz.prog 29 #[.string (mkS seed), v] w fun e w' => e = .returned (.bool true) ∧ Below w.heap.size w w' :=
 (great19_c seed l v w S hok).mono fun e w' ⟨b, he, hb, hbe⟩ => ⟨by cases b with | true => exact he | false => exact absurd (hb.1 rfl) h, hbe⟩
theorem great19_yes (seed : List UInt8) (l : List Mx) (v : Value) (w : World) (S : SeesL w 107 mxV v l) (hok : ∀ x ∈ l, MxOk w x) (h : SmallL seed l) :
  Calls Tryz.prog 29 #[.string (mkS seed), v] w fun e w' => e = .returned (.bool false) ∧ Below w.heap.size w w' :=
 (great19_c seed l v w S hok).mono fun e w' ⟨b, he, hb, hbe⟩ => ⟨by rw [hb.2 h] at he; exact he, hbe⟩
end Go.Proofs.YtidadhbaomieiaaGreat

namespace Go
namespace TL
open Go.RowKit
theorem wf_u32 {a : Int} (h : (Lit.int .u32 a).wf = true) : ∃ x : UInt32, a = I32 x := by
 have hb : IntKind.u32.min ≤ a ∧ a ≤ IntKind.u32.max := by simpa [Lit.wf] using h
 have h0 : IntKind.u32.min = 0 := by decide
 have h1 : IntKind.u32.max = 4294967295 := by decide
 rw [h0, h1] at hb
 refine ⟨UInt32.ofNat a.toNat, ?_⟩
 rw [I32_eq, UInt32.toNat_ofNat']
 omega
end TL
end Go
