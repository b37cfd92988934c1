/- Texts of this seat, put together: SealD, RingE, RingG, LinkL0, LinkA, MsgX, MsgO. Each begins with a remark that says what is proved in it, and under which conditions. -/
import Derived.Test.YtidadhbaomieiaaGreatY
import Derived.Test.YtidadhbaomieiaaGreatZd
import Derived.Test.YtidadhbaomieiaaGreatZg
import Derived.Test.YtidadhbaomieiaaGreatZi
import Derived.Test.YtidadhbaomieiaaGreatZj
import Derived.Test.YtidadhbaomieiaaGreatZm
import Derived.Test.YtidadhbaomieiaaGreatZn
import Derived.Test.YtidadhbaomieiaaGreatZp
set_option maxRecDepth 100000
set_option maxHeartbeats 16000000
namespace Go.Proofs.YtidadhbaomieiaaGreat
open Go.RowKit Go.TL
theorem sealRead_c (s : List UInt8) (w : World) (hs : s.length ≤ 1000000) :
  Calls Tryz.prog 30 #[.string (mkS s)] w fun e w' => e = .returned (.tuple #[.agg (envC (readS s).1.k (readS s).1.b (readS s).1.n (readS s).1.d (readS s).1.t).toArray, .int .i64 (readS s).2]) ∧ Below w.heap.size w w' := by
 have M := Mem.start [] w
 have f0 : (InS.mk s 0 0).fit := by unfold InS.fit; simp only; omega
 have f1 := InS.most_fit f0 1048576
 have f2 := InS.most_fit f1 4294967295
 have f3 := InS.most_fit f2 maxU
 have f4 := InS.text_fit f3 8192
 have hcm := InS.most_le ((InS.mk s 0 0).most 1048576 |>.2 |>.most 4294967295 |>.2) maxU
 have Q1 := fun g (w : World) h => qFy g (InS.mk s 0 0) w h f0 1048576 1048576 rfl yF
 have Q2 := fun g (w : World) h => qFy g _ w h f1 4294967295 4294967295 rfl yF
 have Q3 := fun g (w : World) h => In_Num_c g _ w h f2
 have Q4 := fun g (w : World) h => qCY g _ w h f3 8192 8192 rfl yF
 obtain ⟨⟨a, x1⟩, e1⟩ : ∃ R, R = (InS.mk s 0 0).most 1048576 := ⟨_, rfl⟩
 rw [← e1] at f1 f2 f3 f4 hcm Q1 Q2 Q3 Q4
 simp only at f1 f2 f3 f4 hcm Q1 Q2 Q3 Q4
 obtain ⟨⟨b, x2⟩, e2⟩ : ∃ R, R = x1.most 4294967295 := ⟨_, rfl⟩
 rw [← e2] at f2 f3 f4 hcm Q2 Q3 Q4
 simp only at f2 f3 f4 hcm Q2 Q3 Q4
 obtain ⟨⟨c, x3⟩, e3⟩ : ∃ R, R = x2.most maxU := ⟨_, rfl⟩
 rw [← e3] at f3 f4 hcm Q3 Q4
 simp only at f3 f4 hcm Q3 Q4
 obtain ⟨⟨d, x4⟩, e4⟩ : ∃ R, R = x3.text 8192 := ⟨_, rfl⟩
 rw [← e4] at f4 Q4
 simp only at f4 Q4
 have en : numsS s = ⟨a, b, c, d, x4⟩ := by unfold numsS; simp only [← e1, ← e2, ← e3, ← e4]
 rw [qDj] at hcm
 have ec : (c : Int) = I64 (UInt64.ofNat c) := by rw [qBU, UInt64.toNat_ofNat', Nat.mod_eq_of_lt yF]
 rw [ec] at Q3
 obtain ⟨nn, enn⟩ : ∃ x, x = UInt64.ofNat c := ⟨_, rfl⟩
 rw [← enn] at Q3
 obtain ⟨bb, ebb⟩ : ∃ x, x = UInt32.ofNat b := ⟨_, rfl⟩
 have hbb : w32 (b : Int) = bb := by rw [ebb]; exact w32_nat b
 have TF := fun n => tagS_fit f4 n
 have er : ∀ (x5 : InS) (t : List UInt8), (x5, t) = tagS x4 32 → readS s = if x5.fin = 0 then (⟨a, bb, nn, d, t⟩, 0) else (zeroE, x5.fin) := fun x5 t h => by unfold readS; simp only [en, ← h, ← enn, ← ebb]
 replace Q1 := Lib.hid Q1
 replace Q2 := Lib.hid Q2
 replace Q3 := Lib.hid Q3
 replace Q4 := Lib.hid Q4
 replace er := Lib.hid er
 replace TF := Lib.hid TF
 clear e1 e2 e3 e4 en ec enn ebb hcm f0 f1 f2 f3 f4
 go_enter Tryz.func30, Tryz.ntmps30
 go_wp2_with ((first | ((with_reducible refine tAlloc (some 2) 75 ?_); refine wal M _ rfl rfl (envC 0 0 0 [] zeroT) yD ?_; clear M; intro gr w1 M) | ((with_reducible refine tAlloc (some 5) 75 ?_); refine wal M _ rfl rfl (envC 0 0 0 [] zeroT) yD ?_; clear M; intro gx w1 M) | (go_at_call 57; (refine (qEC s _).mono ?_; rintro e w1 ⟨gi, rfl, MP⟩; replace M := M.join MP; clear MP; simp only [List.cons_append, List.nil_append] at M)) | (go_at_call 58; ((first | (with_reducible refine (Q1.out _ _ (M.ok 0 _ rfl)).mono ?_) | (with_reducible refine (Q2.out _ _ (M.ok 0 _ rfl)).mono ?_)); rintro e w1 ⟨rfl, U⟩; replace M := M.upd 0 rfl U; clear U; simp only [List.set_cons_zero] at M)) | (go_at_call 59; (refine (Q3.out _ _ (M.ok 0 _ rfl)).mono ?_; rintro e w1 ⟨rfl, U⟩; replace M := M.upd 0 rfl U; clear U; simp only [List.set_cons_zero] at M)) | (go_at_call 60; (refine (Q4.out _ _ (M.ok 0 _ rfl)).mono ?_; rintro e w1 ⟨rfl, U⟩; replace M := M.upd 0 rfl U; clear U; simp only [List.set_cons_zero] at M)) | ((with_reducible refine tLoad ?_); refine w_at _ _ rfl yI ?_; intro hx; (first | refine qAu M _ _ _ rfl yL hx rfl yB yB yC ?_ | refine qAj M _ _ _ rfl yL hx rfl yB yB yC ?_); clear hx) | ((with_reducible refine tStore ?_); refine w_at2 _ _ _ rfl yE yE ?_; intro hx hy; (first | refine qAL M _ _ _ _ rfl yL hx rfl hy rfl yB yC yC ?_ | refine qAL (k := 0) (b := 0) (n := 0) (d := []) (tg := zeroT) M _ _ _ _ rfl yL hx rfl hy rfl yB qAO yC ?_ | refine qAL (tg := zeroT) M _ _ _ _ rfl yL hx rfl hy rfl yB qAO yC ?_ | refine qAd M _ _ _ _ rfl yL hx rfl hy yB yC yC ?_ | refine qAU M _ _ _ _ rfl yL hx rfl hy yB ?_ | refine qAe M _ _ _ _ rfl yL hx rfl hy yB ?_); clear hx hy M; intro w1 M; (try simp only [setC] at M)) | ((with_reducible refine tConv _ 70 9 ?_); (first | refine qAT M _ _ _ _ _ rfl rfl yL rfl yC Tryz.underlying70 Tryz.underlying5 Tryz.underlying9 ?_)) | ((with_reducible refine tM rfl ?_); refine mB ?_; try (clear M; (first | intro g w1 M | intro w1 M); try simp only [setC] at M)) | ((with_reducible refine tGuard ?_); refine gdC ?_ ?_ <;> (intro hgd; rw [hgd]; try (exfalso; simp at hgd; omega)))) <;> (try conv => arg 5; simp only [Act.put, List.setIfInBounds_toArray, setC]))
 go_loopw [20] (fun kv wr => ∃ j : Nat, j ≤ 32 ∧ kv = .int .i64 j ∧ Mem [] w wr [.row gx (envC a bb nn d (tagS x4 j).2), .row gi (inV (tagS x4 j).1), .row gr (envC 0 0 0 [] zeroT)]) (fun kv _ => 32 - (intOf kv).toNat)
 case atStart => exact ⟨0, by omega, rfl, M⟩
 case round =>
  clear M
  obtain ⟨j, hj, rfl, M⟩ := hrel
  have fy := TF.out j
  have tl := qCc x4 j
  have TS := qBl x4 j
  have ER := er.out (tagS x4 j).1 (tagS x4 j).2
  obtain ⟨⟨y, t⟩, ey⟩ : ∃ R, R = tagS x4 j := ⟨_, rfl⟩
  rw [← ey] at M fy tl TS ER
  simp only at M fy tl TS ER
  have EY := Lib.hid fun _ : Unit => ey
  clear ey
  by_cases hlt : j < 32
  ·obtain ⟨q, hq⟩ := byte_has y
   have BC := fun (w : World) h => qEO gi y w h fy
   rw [hq, UInt8.ofNat_toNat] at TS
   rw [hq, show ((q.toNat : Nat) : Int) = I8 q from rfl] at BC
   obtain ⟨z, ez⟩ : ∃ z, z = y.byte.2 := ⟨_, rfl⟩
   rw [← ez] at TS BC
   replace BC := Lib.hid BC
   replace TS := Lib.hid fun _ : Unit => TS
   clear ez hq ER
   go_wp2_with ((first | (go_at_call 61; (refine (BC.out _ (M.ok 1 _ rfl)).mono ?_; rintro e w1 ⟨rfl, U⟩; replace M := M.upd 1 rfl U; clear U; simp only [List.set_cons_succ, List.set_cons_zero] at M)) | ((with_reducible show wpList _ _ _ (Oper.mk _ (Op.store _ _ _) _ _ _ _ :: _) _ _); refine w_at2 _ _ _ rfl yE yE ?_; intro hx hy; refine qFE M 0 _ _ _ rfl rfl hx rfl hy yB j yQ yF ?_; clear hx hy M; intro w1 M; simp only [List.set_cons_zero] at M) | ((with_reducible refine tM rfl ?_); refine mB ?_; try (clear M; (first | intro g w1 M | intro w1 M); try simp only [setC] at M)) | ((with_reducible refine tGuard ?_); refine gdC ?_ ?_ <;> (intro hgd; rw [hgd]; try (exfalso; simp at hgd; omega)))) <;> (try conv => arg 5; simp only [Act.put, List.setIfInBounds_toArray, setC]))
   go_roundw
   case rel => exact ⟨j + 1, by omega, by go_num, by rw [TS.out ()]; exact M⟩
   case measure => simp [intOf]; omega
  ·obtain rfl : j = 32 := by omega
   replace ER := ER (EY.out ())
   have EC := fun (w : World) h => End_c gi y w h fy
   by_cases hf : y.fin = 0
   ·rw [if_pos hf] at ER
    rw [hf] at EC
    replace EC := Lib.hid EC
    replace ER := Lib.hid fun _ : Unit => ER
    clear hf
    go_wp2_with ((first | (go_at_call 62; (refine (EC.out _ (M.ok 1 _ rfl)).mono ?_; rintro e w1 ⟨rfl, hb⟩; replace M := M.call hb; clear hb)) | ((with_reducible refine tLoad ?_); refine w_at _ _ rfl yI ?_; intro hx; (first | refine qAu M _ _ _ rfl yM hx rfl yB yB yC ?_ | refine qAj M _ _ _ rfl yM hx rfl yB yB yC ?_); clear hx) | ((with_reducible refine tStore ?_); refine w_at2 _ _ _ rfl yE yE ?_; intro hx hy; (first | refine qAL M _ _ _ _ rfl yM hx rfl hy rfl yB yC yC ?_ | refine qAL (k := 0) (b := 0) (n := 0) (d := []) (tg := zeroT) M _ _ _ _ rfl yM hx rfl hy rfl yB qAO yC ?_ | refine qAL (tg := zeroT) M _ _ _ _ rfl yM hx rfl hy rfl yB qAO yC ?_ | refine qAd M _ _ _ _ rfl yM hx rfl hy yB yC yC ?_ | refine qAU M _ _ _ _ rfl yM hx rfl hy yB ?_ | refine qAe M _ _ _ _ rfl yM hx rfl hy yB ?_); clear hx hy M; intro w1 M; (try simp only [setC] at M)) | ((with_reducible refine tConv _ 70 9 ?_); (first | refine qAT M _ _ _ _ _ rfl rfl yM rfl yC Tryz.underlying70 Tryz.underlying5 Tryz.underlying9 ?_)) | ((with_reducible refine tM rfl ?_); refine mB ?_; try (clear M; (first | intro g w1 M | intro w1 M); try simp only [setC] at M)) | ((with_reducible refine tGuard ?_); refine gdC ?_ ?_ <;> (intro hgd; rw [hgd]; try (exfalso; simp at hgd; omega)))) <;> (try conv => arg 5; simp only [Act.put, List.setIfInBounds_toArray, setC]))
    exact bodyPost_ret (qAl rfl _ _ gr 0 (envC a bb nn d t) _ (.int .i64 0) rfl rfl (M.ok 2 _ rfl).2.1 Tryz.underlying75 rfl (by rw [qBB, tl]; kernel_rfl)) rfl ⟨by rw [ER.out ()]; rfl, M.below⟩
   ·rw [if_neg hf] at ER
    obtain ⟨m, em⟩ : ∃ m, m = y.fin := ⟨_, rfl⟩
    rw [← em] at EC hf ER
    replace ER := Lib.hid fun _ : Unit => ER
    have hz : ((m : Int) == 0) = false := by simp; exact hf
    have hz' : ((m : Int) != 0) = true := by simp; exact hf
    replace EC := Lib.hid EC
    clear hf em
    go_wp2_with ((first | (go_at_call 62; (refine (EC.out _ (M.ok 1 _ rfl)).mono ?_; rintro e w1 ⟨rfl, hb⟩; replace M := M.call hb; clear hb)) | ((with_reducible refine tLoad ?_); refine w_at _ _ rfl yI ?_; intro hx; (first | refine qAu M _ _ _ rfl yM hx rfl yB yB yC ?_ | refine qAj M _ _ _ rfl yM hx rfl yB yB yC ?_); clear hx) | ((with_reducible refine tStore ?_); refine w_at2 _ _ _ rfl yE yE ?_; intro hx hy; (first | refine qAL M _ _ _ _ rfl yM hx rfl hy rfl yB yC yC ?_ | refine qAL (k := 0) (b := 0) (n := 0) (d := []) (tg := zeroT) M _ _ _ _ rfl yM hx rfl hy rfl yB qAO yC ?_ | refine qAL (tg := zeroT) M _ _ _ _ rfl yM hx rfl hy rfl yB qAO yC ?_ | refine qAd M _ _ _ _ rfl yM hx rfl hy yB yC yC ?_ | refine qAU M _ _ _ _ rfl yM hx rfl hy yB ?_ | refine qAe M _ _ _ _ rfl yM hx rfl hy yB ?_); clear hx hy M; intro w1 M; (try simp only [setC] at M)) | ((with_reducible refine tConv _ 70 9 ?_); (first | refine qAT M _ _ _ _ _ rfl rfl yM rfl yC Tryz.underlying70 Tryz.underlying5 Tryz.underlying9 ?_)) | ((with_reducible refine tM rfl ?_); refine mB ?_; try (clear M; (first | intro g w1 M | intro w1 M); try simp only [setC] at M)) | ((with_reducible refine tGuard ?_); refine gdC ?_ ?_ <;> (intro hgd; rw [hgd]; try (exfalso; simp at hgd; omega)))) <;> (try conv => arg 5; simp only [Act.put, List.setIfInBounds_toArray, setC]))
    exact bodyPost_ret (qAl rfl _ _ gr 0 (envC 0 0 0 [] zeroT) _ (.int .i64 (m : Int)) rfl rfl (M.ok 2 _ rfl).2.1 Tryz.underlying75 rfl (by rw [qBB, qAO]; kernel_rfl)) rfl ⟨by rw [ER.out ()]; rfl, M.below⟩
end Go.Proofs.YtidadhbaomieiaaGreat

namespace Go.Proofs.YtidadhbaomieiaaGreat
open Go.RowKit Go.TL
section
variable {g : Nat} {R : RingS} {c : Chunk} {w : World}
theorem openE_c (kk : List UInt8) (x : Env) (about : List UInt8) (hk : kk.length = 32) (hx : rightEnv x) (ha : about.length ≤ 100000) : ∃ (S : List UInt8) (E : Nat),
  (∀ w : World, Calls Tryz.prog 43 #[.agg (bs kk).toArray, .agg (envC x.k x.b x.n x.d x.t).toArray, .string (mkS about)] w fun v w' => v = .returned (.tuple #[.string (mkS S), .int .i64 E]) ∧ Below w.heap.size w w') ∧
  (if x.t = tagL kk x.k x.b x.n about x.d then (sealL kk x.b x.n x.d, 0) else ([], 13)) = (S, E) := by
 obtain ⟨k, b, n, d, t⟩ := x
 obtain ⟨h1, h2, h3⟩ := hx
 simp only at h1 h2 h3 ⊢
 have h : rightE k d = true := by unfold rightE; simp; omega
 by_cases e : t = tagL kk k b n about d
 ·subst e
  exact ⟨_, _, fun w => Open_ok kk k b n d about w hk h ha, if_pos rfl⟩
 ·exact ⟨_, _, fun w => Open_mac kk k b n d t about w hk h3 h ha e, if_neg e⟩
theorem qGV (s about : List UInt8) (h : c.ok w) (I : IsRing g R c) (hm : R.m.length ≤ 1000000) (hs : s.length ≤ 1000000) (ha : about.length ≤ 100000) :
  Calls Tryz.prog 15 #[.pointer (some ⟨g, 0, none⟩), .string (mkS s), .string (mkS about)] w fun e w' => e = .returned (.tuple #[.string (mkS (openL R.m R.c s about).1), .int .i64 (openL R.m R.c s about).2]) ∧ ∃ c', IsRing g R c' ∧ Upd w c w' c' := by
 obtain ⟨gm, K, IK, rfl⟩ := I
 obtain ⟨m, cc, bb, n0⟩ := R
 simp only at hm IK ⊢
 have M : Mem (grp [.row g (ringC ⟨m, cc, bb, n0⟩ gm), K]).fp w w [.row g [.string (mkS m), .int .i64 cc, .int .u32 (I32 bb), .int .u64 (I64 n0), .map (some gm)], K] := Mem.startG h
 have N0 : ∀ w' K' x, IsKeys m gm K' → Mem (grp [.row g (ringC ⟨m, cc, bb, n0⟩ gm), K]).fp w w' [x, .row g [.string (mkS m), .int .i64 cc, .int .u32 (I32 bb), .int .u64 (I64 n0), .map (some gm)], K'] → ∃ c', IsRing g ⟨m, cc, bb, n0⟩ c' ∧ Upd w (grp [.row g (ringC ⟨m, cc, bb, n0⟩ gm), K]) w' c' := fun w' K' x IK' M => ⟨_, ⟨gm, K', IK', rfl⟩, M.tail.updG [] rfl⟩
 obtain ⟨F, eF⟩ : ∃ F, F = (grp [.row g (ringC ⟨m, cc, bb, n0⟩ gm), K]).fp := ⟨_, rfl⟩
 rw [← eF] at M N0
 have NN : ∀ w1, (Chunk.row g [.string (mkS m), .int .i64 cc, .int .u32 (I32 bb), .int .u64 (I64 n0), .map (some gm)]).ok w1 → _ := fun w1 RR => qFU (R := ⟨m, cc, bb, n0⟩) RR
 obtain ⟨nn, en⟩ : ∃ nn, nn = I64 n0 := ⟨_, rfl⟩
 rw [← en] at M N0 NN
 have EN := Lib.hid fun _ : Unit => en
 clear en
 replace NN := Lib.hid NN
 replace N0 := Lib.hid N0
 clear eF h
 have RC := fun w => sealRead_c s w hs
 by_cases hz : (readS s).2 = 0
 ·have hx := (qCy hz).2
  rw [hz, show ((0 : Nat) : Int) = 0 from rfl] at RC
  by_cases hk : cc < (readS s).1.k
  ·rw [openL_far hz hk]
   simp only [show ((20 : Nat) : Int) = 20 from rfl]
   have ht := hx.2.2
   obtain ⟨⟨k, b, n, d, t⟩, ex⟩ : ∃ x, x = (readS s).1 := ⟨_, rfl⟩
   rw [← ex] at RC hk ht
   simp only at RC hk ht
   replace RC := Lib.hid RC
   have hk1 : (cc : Int) < (k : Int) := by omega
   clear ex hz hx hk
   go_enter Tryz.func15, Tryz.ntmps15
   go_wp2_with ((first | ((with_reducible refine tGuard ?_); first | ((with_reducible refine qAC ?_ ?_); exact dcd) | ((with_reducible refine qAH ?_ ?_); exact dcd) | ((with_reducible refine qAI ?_ ?_); exact dcd)) | (go_at_call 37; (refine (NN.out _ (M.ok 0 _ rfl)).mono ?_; rintro e w1 ⟨rfl, rfl⟩)) | (go_at_call 30; (refine (RC.out _).mono ?_; rintro e w1 ⟨rfl, hb⟩; replace M := M.call hb; clear hb)) | ((with_reducible refine tAlloc (some 8) 75 ?_); refine wal M _ rfl rfl (envC 0 0 0 [] zeroT) yD ?_; clear M; intro gx w1 M) | ((with_reducible refine tLoad ?_); refine w_at _ _ rfl yI ?_; intro hx; (first | refine qAu M _ _ _ rfl yL hx rfl yB yB yC ?_ | refine qAj M _ _ _ rfl yL hx rfl yB yB yC ?_); clear hx) | ((with_reducible refine tStore ?_); refine w_at2 _ _ _ rfl yE yE ?_; intro hx hy; (first | refine qAL M _ _ _ _ rfl yL hx rfl hy rfl yB yC yC ?_ | refine qAL (k := 0) (b := 0) (n := 0) (d := []) (tg := zeroT) M _ _ _ _ rfl yL hx rfl hy rfl yB qAO yC ?_ | refine qAL (tg := zeroT) M _ _ _ _ rfl yL hx rfl hy rfl yB qAO yC ?_ | refine qAd M _ _ _ _ rfl yL hx rfl hy yB yC yC ?_ | refine qAU M _ _ _ _ rfl yL hx rfl hy yB ?_ | refine qAe M _ _ _ _ rfl yL hx rfl hy yB ?_); clear hx hy M; intro w1 M; (try simp only [setC] at M)) | ((with_reducible refine tConv _ 70 9 ?_); (first | refine qAT M _ _ _ _ _ rfl rfl yL rfl yC Tryz.underlying70 Tryz.underlying5 Tryz.underlying9 ?_)) | ((with_reducible show Code.wp _ (Code.region 6 _ _) _ _ _); (refine qAF [(0, false), (2, false), (3, false), (4, false), (1, false), (5, false), (6, false), (7, false)] [(24, .ptr), (23, .int), (27, .int)] yD yD rfl yD ?_; replace M := M.drew; simp only [reord, opAt, List.map_cons, List.map_nil, gE])) | ((with_reducible refine tM rfl ?_); refine mS ?_; try (clear M; (first | intro g w1 M | intro w1 M); try simp only [setC] at M)) | ((with_reducible first | show Seg _ _ _ _ | show OnlyN _ _ _ _ _); refine rA ?_) | ((with_reducible refine tGuard ?_); refine gdC ?_ ?_ <;> (intro hgd; rw [hgd]; try (exfalso; simp at hgd; omega)))) <;> (try conv => arg 5; simp only [apS, setC]))
   go_ret2
   exact ⟨rfl, N0.out _ _ _ IK M⟩
  ·have hk32 : (ringK m (readS s).1.k).length = 32 := qFV _ _
   obtain ⟨S, E, OC, HO⟩ := openE_c (ringK m (readS s).1.k) (readS s).1 about hk32 hx ha
   have HL : openL m cc s about = (S, E) := by
    rw [← HO]
    unfold openL
    rw [if_neg (by simpa using hz), if_neg hk]
   rw [HL]
   simp only
   have ht := hx.2.2
   have hkx := hx.1
   have KC := fun (w : World) RR nR hK => ringkey_c ⟨m, cc, bb, n0⟩ g gm K (readS s).1.k w hm RR nR hK IK
   rw [show ringU m (w64 ((readS s).1.k : Int)) = ringK m (readS s).1.k from rfl] at KC
   obtain ⟨kk, ek⟩ : ∃ k, k = ringK m (readS s).1.k := ⟨_, rfl⟩
   rw [← ek] at OC KC hk32
   obtain ⟨⟨k, b, n, d, t⟩, ex⟩ : ∃ x, x = (readS s).1 := ⟨_, rfl⟩
   rw [← ex] at RC hk ht OC KC
   unfold ringC at KC
   simp only at RC hk ht OC KC
   rw [← EN.out ()] at KC
   have hk1 : (k : Int) ≤ (cc : Int) := by omega
   replace RC := Lib.hid RC
   replace OC := Lib.hid OC
   replace KC := Lib.hid KC
   clear ex hz hx hk HO HL ek hkx
   go_enter Tryz.func15, Tryz.ntmps15
   go_wp2_with ((first | ((with_reducible refine tGuard ?_); first | ((with_reducible refine qAC ?_ ?_); exact dcd) | ((with_reducible refine qAH ?_ ?_); exact dcd) | ((with_reducible refine qAI ?_ ?_); exact dcd)) | (go_at_call 37; (refine (NN.out _ (M.ok 0 _ rfl)).mono ?_; rintro e w1 ⟨rfl, rfl⟩)) | (go_at_call 30; (refine (RC.out _).mono ?_; rintro e w1 ⟨rfl, hb⟩; replace M := M.call hb; clear hb)) | ((with_reducible refine tAlloc (some 8) 75 ?_); refine wal M _ rfl rfl (envC 0 0 0 [] zeroT) yD ?_; clear M; intro gx w1 M) | ((with_reducible show Code.wp _ (Code.region 6 _ _) _ _ _); (refine qAF [(0, false), (2, false), (3, false), (4, false), (1, false), (5, false), (6, false), (7, false)] [(24, .ptr), (23, .int), (27, .int)] yD yD rfl yD ?_; replace M := M.drew; simp only [reord, opAt, List.map_cons, List.map_nil, gE])) | ((with_reducible show Code.wp _ (Code.region 8 _ _) _ _ _); (have MR := M; refine qAB [(0, false), (1, false), (5, false), (2, false), (4, false), (3, true), (6, true), (7, false), (8, false), (9, false), (10, false)] [] [(2, _), (4, _)] (IxOk MR [0]) 11 yD yD rfl yD (lowA MR 0 0 (qAa (qCd MR 0 rfl rfl yN yB yB yA1) qAN)) (qAJ MR _) ?_; replace M := M.drew; simp only [planC, opAt, gE])) | (go_at_call 40; (with_reducible refine (KC.out _ (M.ok 1 _ at1) (M.nd 1 2 _ _ yN at1 at2 g yG1) (M.ok 2 _ at2)).mono ?_; rintro e w1 ⟨rfl, K1, IK1, U⟩; replace M := M.upd 2 rfl U; clear U; simp only [setC] at M)) | (go_at_call 43; (refine (OC.out _).mono ?_; rintro e w1 ⟨rfl, hb⟩; replace M := M.call hb; clear hb)) | ((with_reducible refine tLoad ?_); refine w_at _ _ rfl yI ?_; intro hx; (first | refine qAu M _ _ _ rfl yL hx rfl yB yB yC ?_ | refine qAj M _ _ _ rfl yL hx rfl yB yB yC ?_); clear hx) | ((with_reducible refine tStore ?_); refine w_at2 _ _ _ rfl yE yE ?_; intro hx hy; (first | refine qAL M _ _ _ _ rfl yL hx rfl hy rfl yB yC yC ?_ | refine qAL (k := 0) (b := 0) (n := 0) (d := []) (tg := zeroT) M _ _ _ _ rfl yL hx rfl hy rfl yB qAO yC ?_ | refine qAL (tg := zeroT) M _ _ _ _ rfl yL hx rfl hy rfl yB qAO yC ?_ | refine qAd M _ _ _ _ rfl yL hx rfl hy yB yC yC ?_ | refine qAU M _ _ _ _ rfl yL hx rfl hy yB ?_ | refine qAe M _ _ _ _ rfl yL hx rfl hy yB ?_); clear hx hy M; intro w1 M; (try simp only [setC] at M)) | ((with_reducible refine tConv _ 70 9 ?_); (first | refine qAT M _ _ _ _ _ rfl rfl yL rfl yC Tryz.underlying70 Tryz.underlying5 Tryz.underlying9 ?_)) | ((with_reducible refine tM rfl ?_); refine mS ?_; try (clear M; (first | intro g w1 M | intro w1 M); try simp only [setC] at M)) | ((with_reducible first | show Seg _ _ _ _ | show OnlyN _ _ _ _ _); refine rA ?_) | ((with_reducible refine tGuard ?_); refine gdC ?_ ?_ <;> (intro hgd; rw [hgd]; try (exfalso; simp at hgd; omega)))) <;> (try conv => arg 5; simp only [apS, setC]))
   go_ret2
   exact ⟨rfl, N0.out _ _ _ IK1 M⟩
 ·rw [openL_bad hz]
  simp only
  have hzz := qGK hz
  have e1 : (readS s).1 = zeroE := by rw [hzz]
  rw [e1] at RC
  obtain ⟨e, ee⟩ : ∃ e, e = (readS s).2 := ⟨_, rfl⟩
  rw [← ee] at RC hz ⊢
  have RC' : ∀ w, Calls Tryz.prog 30 #[.string (mkS s)] w fun v w' => v = .returned (.tuple #[.agg (envC 0 0 0 [] zeroT).toArray, .int .i64 e]) ∧ Below w.heap.size w w' := RC
  replace RC := Lib.hid RC'
  have hz1 : ((e : Int) != 0) = true := by simp; exact hz
  have hz2 : ((e : Int) == 0) = false := by simp; exact hz
  clear ee hz hzz e1 RC'
  go_enter Tryz.func15, Tryz.ntmps15
  go_wp2_with ((first | ((with_reducible refine tGuard ?_); first | ((with_reducible refine qAC ?_ ?_); exact dcd) | ((with_reducible refine qAH ?_ ?_); exact dcd) | ((with_reducible refine qAI ?_ ?_); exact dcd)) | (go_at_call 37; (refine (NN.out _ (M.ok 0 _ rfl)).mono ?_; rintro e w1 ⟨rfl, rfl⟩)) | (go_at_call 30; (refine (RC.out _).mono ?_; rintro e w1 ⟨rfl, hb⟩; replace M := M.call hb; clear hb)) | ((with_reducible refine tAlloc (some 8) 75 ?_); refine wal M _ rfl rfl (envC 0 0 0 [] zeroT) yD ?_; clear M; intro gx w1 M) | ((with_reducible refine tLoad ?_); refine w_at _ _ rfl yI ?_; intro hx; (first | refine qAu M _ _ _ rfl yL hx rfl yB yB yC ?_ | refine qAj M _ _ _ rfl yL hx rfl yB yB yC ?_); clear hx) | ((with_reducible refine tStore ?_); refine w_at2 _ _ _ rfl yE yE ?_; intro hx hy; (first | refine qAL M _ _ _ _ rfl yL hx rfl hy rfl yB yC yC ?_ | refine qAL (k := 0) (b := 0) (n := 0) (d := []) (tg := zeroT) M _ _ _ _ rfl yL hx rfl hy rfl yB qAO yC ?_ | refine qAL (tg := zeroT) M _ _ _ _ rfl yL hx rfl hy rfl yB qAO yC ?_ | refine qAd M _ _ _ _ rfl yL hx rfl hy yB yC yC ?_ | refine qAU M _ _ _ _ rfl yL hx rfl hy yB ?_ | refine qAe M _ _ _ _ rfl yL hx rfl hy yB ?_); clear hx hy M; intro w1 M; (try simp only [setC] at M)) | ((with_reducible refine tConv _ 70 9 ?_); (first | refine qAT M _ _ _ _ _ rfl rfl yL rfl yC Tryz.underlying70 Tryz.underlying5 Tryz.underlying9 ?_)) | ((with_reducible refine tM rfl ?_); refine mS ?_; try (clear M; (first | intro g w1 M | intro w1 M); try simp only [setC] at M)) | ((with_reducible refine tGuard ?_); refine gdC ?_ ?_ <;> (intro hgd; rw [hgd]; try (exfalso; simp at hgd; omega)))) <;> (try conv => arg 5; simp only [apS, setC]))
  go_ret2
  exact ⟨rfl, N0.out _ _ _ IK M⟩
end
end Go.Proofs.YtidadhbaomieiaaGreat

namespace Go.Proofs.YtidadhbaomieiaaGreat
open Go.RowKit Go.TL
end Go.Proofs.YtidadhbaomieiaaGreat

namespace Go
namespace TL
def linkT : List UInt8 := [108, 105, 110, 107]
def aboutK (a b : UInt8) : List UInt8 := linkT ++ [a, b]
theorem qBf (a b : UInt8) : (aboutK a b).length = 6 := rfl
def masterK (seed : List UInt8) (a b : UInt8) : List UInt8 := macL seed (aboutK a b)
theorem qCE (seed : List UInt8) (a b : UInt8) : (masterK seed a b).length = 32 := qCj _ _
structure LinkS where
 me : Int
 o : Int
 out : RingS
 inn : RingS
def linkOf (seed : List UInt8) (me o : Int) (a b : UInt8) (boot : UInt32) (n : UInt64) : LinkS := ⟨me, o, ⟨masterK seed a b, 0, boot, n⟩, ⟨masterK seed b a, 0, 0, 0⟩⟩
end TL
end Go

namespace Go
namespace TL
open Go.RowKit
section
variable {P : Program} {ops : Array Oper} {rest : List Oper} {o : Oper} {a : Act} {w w0 : World} {Q : Exit → Act → World → Prop} {F : List Nat} {L : List Chunk}
theorem w_build2 (M : Mem F w0 w L) {t e : TypeId} {bytes : Nat} (T : SliceT P t e 1 bytes) (x y : Operand) (ho : o.op = .buildSlice t 2 #[(0, x), (1, y)]) (hw : Region.wanted o (yielded ops a.tmps) = true) {b0 b1 : UInt8} (hx : a.eval x = .int .u8 (I8 b0)) (hy : a.eval y = .int .u8 (I8 b1))
  (h : ∀ (g : Nat) (w' : World), Mem F w0 w' (.sl 1 (.slice (some ⟨g, 0, none⟩) 2 2) 2 (bs [b0, b1]) :: L) → wpList P ops Q rest (a.put o.dst (.slice (some ⟨g, 0, none⟩) 2 2)) w') : wpList P ops Q (o :: rest) a w := by
 have T' := T
 obtain ⟨ht, ⟨i, z', hi, hz', hsize, hby, hzs⟩, hsz⟩ := T'
 refine qCI M T 2 _ ho hw ⟨by omega, by omega⟩ z' (by simp [hi, hz']) (bs [b0, b1]) ?_ fun g w' M' => h g w' ?_
 ·have r4 : Array.range (2 * 1) = #[0, 1] := by decide
  rw [r4]
  simp only [List.map_toArray, List.map_cons, List.map_nil, hx, hy]
  generalize z'.cells[0 % z'.cells.size]! = c0
  generalize z'.cells[1 % z'.cells.size]! = c1
  rfl
 ·have hok := M'.ok 0 _ rfl
  have := M'.upd 0 rfl (c' := .sl 1 (.slice (some ⟨g, 0, none⟩) 2 2) 2 (bs [b0, b1])) ⟨Kept.refl _ _, ⟨rfl, .inr ⟨g, 0, 2, rfl, Nat.zero_le _, hok.1, Nat.le_refl _, by simp only [maxLen]; omega, hok.2.1, hok.2.2⟩⟩, fun k hk => .inl (by simpa [Chunk.fp, Value.ownBlock] using hk)⟩
  simpa using this
end
end TL
end Go
namespace Go.Proofs.YtidadhbaomieiaaGreat
open Go.RowKit Go.TL
theorem about_c (a b : UInt8) (w : World) : Calls Tryz.prog 52 #[.int .i64 (I8 a), .int .i64 (I8 b)] w fun e w' => e = .returned (.string (mkS (aboutK a b))) ∧ Below w.heap.size w w' := by
 have M := Mem.start [] w
 go_enter Tryz.func52, Tryz.ntmps52
 go_wp2_with ((first | ((with_reducible show wpList _ _ _ (Oper.mk _ (Op.buildSlice 70 2 _) _ _ _ _ :: _) _ _); (refine w_build2 M bytesT (b0 := a) (b1 := b) _ _ rfl rfl rfl rfl ?_; clear M; intro g w1 M)) | ((with_reducible refine tM rfl ?_); refine mB ?_; try (clear M; (first | intro g w1 M | intro w1 M); try simp only [setC] at M)) | ((with_reducible refine tGuard ?_); refine gdC ?_ ?_ <;> (intro hgd; rw [hgd]; try (exfalso; simp at hgd; omega)))) <;> (try conv => arg 5; simp only [apS, setC]))
 go_ret
 exact ⟨rfl, M.below⟩
theorem master_c (seed : List UInt8) (a b : UInt8) (w : World) (hs : seed.length ≤ 1000000) : Calls Tryz.prog 49 #[.string (mkS seed), .int .i64 (I8 a), .int .i64 (I8 b)] w fun e w' => e = .returned (.string (mkS (masterK seed a b))) ∧ Below w.heap.size w w' := by
 have M := Mem.start [] w
 have TC := fun w => Tag_c seed (aboutK a b) w yF (by rw [qBf]; omega)
 have hr : (macL seed (aboutK a b)).length = 32 := qAq _ _
 have SE : masterK seed a b = macL seed (aboutK a b) := rfl
 have AC := fun w => about_c a b w
 obtain ⟨r, er⟩ : ∃ r, r = macL seed (aboutK a b) := ⟨_, rfl⟩
 rw [← er] at TC hr SE
 rw [SE]
 obtain ⟨k, ek⟩ : ∃ k, k = aboutK a b := ⟨_, rfl⟩
 rw [← ek] at TC AC
 replace TC := Lib.hid TC
 replace AC := Lib.hid AC
 clear er ek SE
 go_enter Tryz.func49, Tryz.ntmps49
 go_wp2_with ((first | ((with_reducible refine tAlloc (some 7) 64 ?_); refine wal M _ rfl rfl (bs (List.replicate 32 (0 : UInt8))) yD ?_; clear M; intro gh w1 M) | (go_at_call 52; (refine (AC.out _).mono ?_; rintro e w1 ⟨rfl, hb⟩; replace M := M.call hb; clear hb)) | (go_at_call 47; (refine (TC.out _).mono ?_; rintro e w1 ⟨rfl, hb⟩; replace M := M.call hb; clear hb)) | ((with_reducible refine tM rfl ?_); refine mB ?_; try (clear M; (first | intro g w1 M | intro w1 M); try simp only [setC] at M)) | ((with_reducible refine tGuard ?_); refine gdC ?_ ?_ <;> (intro hgd; rw [hgd]; try (exfalso; simp at hgd; omega)))) <;> (try conv => arg 5; simp only [apS, setC]))
 go_ret
 exact ⟨rfl, M.below⟩
abbrev linkRow (me o : Int) (go gi : Nat) : List Value := [.int .i64 me, .int .i64 o, .pointer (some ⟨go, 0, none⟩), .pointer (some ⟨gi, 0, none⟩)]
def IsLink (g : Nat) (K : LinkS) (c : Chunk) : Prop := ∃ go gi Co Ci, IsRing go K.out Co ∧ IsRing gi K.inn Ci ∧ c = grp [.row g (linkRow K.me K.o go gi), Co, Ci]
theorem qCF {g go gi : Nat} {me o : Int} {w : World} (RR : (Chunk.row g (linkRow me o go gi)).ok w) : Calls Tryz.prog 50 #[.pointer (some ⟨g, 0, none⟩)] w fun e w' => e = .returned (.bool false) ∧ w = w' := by
 have M := Mem.start [] w
 have nR : g ∉ ([] : List Nat) := by simp
 go_enter Tryz.func50, Tryz.ntmps50
 go_wp2_with ((first | ((with_reducible refine tLoad ?_); refine w_at _ _ rfl yI ?_; intro hx; (first | refine qBk M RR nR _ _ rfl hx rfl yB (by exact rfl) ?_); clear hx) | ((with_reducible refine tM rfl ?_); refine mS ?_; try (clear M; (first | intro g w1 M | intro w1 M); try simp only [setC] at M)) | ((with_reducible refine tGuard ?_); refine gdC ?_ ?_ <;> (intro hgd; rw [hgd]; try (exfalso; simp at hgd; omega)))) <;> (try conv => arg 5; simp only [apS, setC]))
 go_ret
 exact ⟨rfl, rfl⟩
def EndOf (me o : Int) (a b : UInt8) : Prop := (me = 0 ∧ o = 1 ∧ a = 0 ∧ b = 1) ∨ (me = 1 ∧ o = 0 ∧ a = 1 ∧ b = 0)
theorem qDV (seed : List UInt8) (me o : Int) (a b : UInt8) (boot : UInt32) (w : World) (hs : seed.length ≤ 1000000) (he : EndOf me o a b) : Calls Tryz.prog 23 #[.int .i64 me, .string (mkS seed), .int .u32 (I32 boot)] w fun e w' => ∃ g C, e = .returned (.tuple #[.pointer (some ⟨g, 0, none⟩), .int .i64 0]) ∧ IsLink g (linkOf seed me o a b boot 0) C ∧ Mem [] w w' [C] := by
 have M := Mem.start [] w
 have I0 : I8 a = me ∧ I8 b = o ∧ 0 ≤ me ∧ me < 2 ∧ 1 - me = o := by rcases he with ⟨rfl, rfl, rfl, rfl⟩ | ⟨rfl, rfl, rfl, rfl⟩ <;> decide
 obtain ⟨ia, ib, h0, h1, h2⟩ := I0
 have M1 := fun w => master_c seed a b w hs
 have M2 := fun w => master_c seed b a w hs
 rw [ia, ib] at M1 M2
 have N1 := fun w => New_ok (masterK seed a b) 0 boot w yF
 have N2 : ∀ w, Calls Tryz.prog 12 #[.string (mkS (masterK seed b a)), .int .i64 0, .int .u32 0] w fun e w' => ∃ g C, e = .returned (.tuple #[.pointer (some ⟨g, 0, none⟩), .int .i64 0]) ∧ IsRing g ⟨masterK seed b a, 0, 0, 0⟩ C ∧ Mem [] w w' [C] := fun w => New_ok (masterK seed b a) 0 0 w yF
 rw [show ((0 : Nat) : Int) = 0 from rfl] at N1
 unfold linkOf
 obtain ⟨k1, e1⟩ : ∃ k, k = masterK seed a b := ⟨_, rfl⟩
 obtain ⟨k2, e2⟩ : ∃ k, k = masterK seed b a := ⟨_, rfl⟩
 rw [← e1] at M1 N1 ⊢
 rw [← e2] at M2 N2 ⊢
 replace M1 := Lib.hid M1
 replace M2 := Lib.hid M2
 replace N1 := Lib.hid N1
 replace N2 := Lib.hid N2
 clear ia ib he e1 e2
 go_enter Tryz.func23, Tryz.ntmps23
 go_wp2_with ((first | ((with_reducible refine tGuard ?_); first | ((with_reducible refine qAC ?_ ?_); exact dcd) | ((with_reducible refine qAH ?_ ?_); exact dcd) | ((with_reducible refine qAI ?_ ?_); exact dcd)) | ((with_reducible refine tBox (some 22) ?_); refine w_box M _ _ rfl rfl _ rfl ([.int .i64 me, .int .i64 o, .pointer none, .pointer none]) rfl ?_; clear M; intro g w1 M) | ((with_reducible show Code.wp _ (Code.region 4 _ _) _ _ _); (have MR := M; refine qAB [(0, false), (1, false), (2, false), (3, false), (5, false), (6, false), (7, false), (10, false), (4, false), (8, false), (9, true), (11, true), (12, false), (13, false), (14, false), (15, false), (16, false)] [(25, .ptr), (29, .ptr)] [(4, _), (8, _)] (IxOk MR [0]) 17 yD yD rfl yD (lowA MR 0 0 (lowA MR 0 1 qAN)) (qAJ MR _) ?_; replace M := M.drew; simp only [planC, opAt, gE])) | ((with_reducible show Code.wp _ (Code.region 7 _ _) _ _ _); (have MR := M; refine qAB [(0, false), (1, false), (2, false), (3, false), (5, false), (6, false), (7, false), (4, false), (8, false), (9, true), (10, true), (11, false), (12, false), (13, false), (14, false), (15, false)] [(43, .ptr), (47, .ptr)] [(4, _), (8, _)] (IxOk MR [1]) 16 yD yD rfl yD (lowA MR 1 1 (lowA MR 1 0 qAN)) (qAJ MR _) ?_; replace M := M.drew; simp only [planC, opAt, gE])) | (go_at_call 49; ((first | (with_reducible refine (M1.out _).mono ?_) | (with_reducible refine (M2.out _).mono ?_)); rintro e w1 ⟨rfl, hb⟩; replace M := M.call hb; clear hb)) | (go_at_call 12; (first | (with_reducible refine (N1.out _).mono ?_; rintro e w1 ⟨go, Co, rfl, JO, MJ⟩) | (with_reducible refine (N2.out _).mono ?_; rintro e w1 ⟨gi, Ci, rfl, II, MJ⟩)); replace M := M.join MJ; clear MJ; simp only [List.cons_append, List.nil_append] at M) | ((with_reducible refine tM rfl ?_); refine mS ?_; try (clear M; (first | intro g w1 M | intro w1 M); try simp only [setC] at M)) | ((with_reducible first | show Seg _ _ _ _ | show OnlyN _ _ _ _ _); refine rA ?_) | ((with_reducible refine tGuard ?_); refine gdC ?_ ?_ <;> (intro hgd; rw [hgd]; try (exfalso; simp at hgd; omega)))) <;> (try conv => arg 5; simp only [apS, setC]))
 have MC : Mem [] w _ [.row g (linkRow me o go gi), Co, Ci] := M.pick _ (fun i => 2 - i) (by intro i j hi hj h; simp at hi hj; omega) (by
  intro i c h
  match i, h with
  | 0, h => simpa using h
  | 1, h => simpa using h
  | 2, h => simpa using h)
 go_ret2
 exact ⟨_, _, rfl, ⟨go, gi, Co, Ci, JO, II, rfl⟩, MC.shut [.row g (linkRow me o go gi), Co, Ci] [] rfl⟩
end Go.Proofs.YtidadhbaomieiaaGreat

namespace Go
namespace TL
open Go.RowKit
/-! ### Fields, one beside the other -/
def Fld.eqv (A B : Lm) : Fld → Prop
 | .num q => q.gl A = q.gl B
 | .hash q => q.gl A = q.gl B
 | .bat => A.bi = B.bi ∧ A.be = B.be ∧ A.ops = B.ops
 | .prs => A.prs = B.prs
def Fld.cp (L : Lm) (A : Lm) : Fld → Lm
 | .num q => q.sl A (q.gl L)
 | .hash q => q.sl A (q.gl L)
 | .bat => { A with bi := L.bi, be := L.be, ops := L.ops }
 | .prs => { A with prs := L.prs }
theorem Fld.cp_other {f g : Fld} (h : f ≠ g) (L A : Lm) : f.eqv (g.cp L A) A := by
 cases g with
 | num q' =>
  cases f with
  | num q => cases q <;> cases q' <;> first | rfl | exact absurd rfl h
  | hash q => cases q <;> cases q' <;> rfl
  | bat => cases q' <;> exact ⟨rfl, rfl, rfl⟩
  | prs => cases q' <;> rfl
 | hash q' =>
  cases f with
  | num q => cases q <;> cases q' <;> rfl
  | hash q => cases q <;> cases q' <;> first | rfl | exact absurd rfl h
  | bat => cases q' <;> exact ⟨rfl, rfl, rfl⟩
  | prs => cases q' <;> rfl
 | bat =>
  cases f with
  | num q => cases q <;> rfl
  | hash q => cases q <;> rfl
  | bat => exact absurd rfl h
  | prs => rfl
 | prs =>
  cases f with
  | num q => cases q <;> rfl
  | hash q => cases q <;> rfl
  | bat => exact ⟨rfl, rfl, rfl⟩
  | prs => exact absurd rfl h
def cpAll (l : List Fld) (L A : Lm) : Lm := l.foldl (fun B f => f.cp L B) A
theorem cpAll_cons (f : Fld) (l : List Fld) (L A : Lm) : cpAll (f :: l) L A = cpAll l L (f.cp L A) := rfl
/-! ### Read back -/
theorem byte_at (b : UInt8) (r : List UInt8) (k : Nat) : InS.byte ⟨b :: r, k, 0⟩ = (b.toNat, ⟨r, k + 1, 0⟩) := rfl
theorem qFp (h0 : List UInt8) (x : InS) : ∀ n, n ≤ h0.length → x.err = 0 → n ≤ x.rest.length → hashS h0 x n = (⟨x.rest.drop n, x.read + n, 0⟩, x.rest.take n ++ h0.drop n)
 | 0, _, he, _ => by
  obtain ⟨r, k, e⟩ := x
  simp only at he; subst he
  simp [hashS]
 | n + 1, h1, he, h2 => by
  rw [qCV, qFp h0 x n yF he yF]
  have hd : x.rest.drop n = x.rest[n] :: x.rest.drop (n + 1) := List.drop_eq_getElem_cons yF
  simp only [hd, byte_at, UInt8.ofNat_toNat, Prod.mk.injEq]
  refine ⟨by rw [Nat.add_assoc], ?_⟩
  rw [List.set_append_right _ _ (by rw [List.length_take]; omega), List.length_take, Nat.min_eq_left yF, Nat.sub_self, List.take_succ_eq_append_getElem yF, List.append_assoc]
  congr 1
  rw [List.drop_eq_getElem_cons (by omega : n < h0.length)]
  rfl
theorem InS.byte_err {x : InS} (h : x.err ≠ 0) : x.byte = (0, x) := by unfold InS.byte; rw [if_neg h]
theorem hashS_err (h0 : List UInt8) {x : InS} (h : x.err ≠ 0) : ∀ n, (hashS h0 x n).1 = x
 | 0 => rfl
 | n + 1 => by rw [qCV, hashS_err h0 h n, InS.byte_err h]
theorem prS_cons (x : InS) : ∀ n, prS x (n + 1) = (((x.text 33).1, ((x.text 33).2.text 32).1) :: (prS ((x.text 33).2.text 32).2 n).1, (prS ((x.text 33).2.text 32).2 n).2)
 | 0 => rfl
 | n + 1 => by rw [qDM, prS_cons x n, qDM]; rfl
theorem prS_back : ∀ (l : List (List UInt8 × List UInt8)) (r : List UInt8) (k : Nat), l.all okP = true → ∃ k', prS ⟨l.flatMap prBm ++ r, k, 0⟩ l.length = (l, ⟨r, k', 0⟩)
 | [], r, k, _ => ⟨k, by simp [prS]⟩
 | (a, b) :: l, r, k, h => by
  rw [List.all_cons, Bool.and_eq_true] at h
  obtain ⟨h1, h2⟩ := h
  simp only [okP, Bool.and_eq_true, decide_eq_true_eq] at h1
  obtain ⟨ha, hb⟩ := h1
  have e : ((a, b) :: l).flatMap prBm ++ r = textL a ++ (textL b ++ (l.flatMap prBm ++ r)) := by simp only [List.flatMap_cons, prBm, List.append_assoc]
  rw [e, List.length_cons, prS_cons, qBy ha yF]
  simp only
  rw [qBy hb yF]
  simp only
  obtain ⟨k', hk⟩ := prS_back l r (k + (textL a).length + (textL b).length) h2
  rw [hk]
  exact ⟨k', rfl⟩
theorem hash_back {h0 h r : List UInt8} {k : Nat} (hh : h.length = 32) (h0l : h0.length = 32) : hashS h0 ⟨h ++ r, k, 0⟩ 32 = (⟨r, k + 32, 0⟩, h) := by
 rw [qFp h0 _ 32 yF rfl (by simp only [List.length_append]; omega)]
 have e1 : (h ++ r).drop 32 = r := by rw [← hh, List.drop_left]
 have e2 : (h ++ r).take 32 = h := by rw [← hh, List.take_left]
 simp only [e1, e2]
 rw [List.drop_of_length_le yF, List.append_nil]
theorem bytes_bat {i e : Int} {ops : List Opr} (h : (bytesB i e ops).2 = 0) : rightB i e ops = 0 ∧ (bytesB i e ops).1 = batB i.toNat e.toNat ops := by
 by_cases hr : rightB i e ops = 0
 ·exact ⟨hr, by rw [bytesB_ok hr]⟩
 ·rw [bytesB_no hr] at h; exact absurd h hr
theorem Fld.bat_get {A : Lm} {x y : InS} {s : List UInt8} (h : x.text 512 = (s, y)) : Fld.bat.get A x = if y.err = 0 then ((readB s).2, { A with bi := (readB s).1.1, be := (readB s).1.2.1, ops := (readB s).1.2.2 }, y) else (y.err, A, y) := by
 simp only [Fld.get, h]
theorem Fld.get_back {L : Lm} (hL : L.fit) (hr : L.rng) (f : Fld) (ho : f.ok L = true) {A : Lm} (hA : A.fit) (hp : f = .prs → A.prs = []) (r : List UInt8) (k : Nat) : ∃ k', f.get A ⟨f.put L ++ r, k, 0⟩ = (0, f.cp L A, ⟨r, k', 0⟩) := by
 cases f with
 | num q =>
  simp only [Fld.ok, decide_eq_true_eq] at ho
  have hn := (hr.num q).2
  simp only [Fld.get, Fld.put, Fld.cp]
  rw [qCL yF yF]
  simp only
  rw [show ((q.gl L).toNat : Int) = q.gl L by omega]
  exact ⟨_, rfl⟩
 | hash q =>
  have h1 := q.gl_len hL
  have h2 := q.gl_len hA
  simp only [Fld.get, Fld.put, Fld.cp]
  rw [hash_back h1 h2]
  exact ⟨_, rfl⟩
 | bat =>
  simp only [Fld.ok, Bool.and_eq_true, beq_iff_eq, decide_eq_true_eq] at ho
  obtain ⟨h1, h2⟩ := ho
  obtain ⟨h3, h4⟩ := bytes_bat h1
  obtain ⟨g1, g2, g3, g4, _⟩ := qDI h3
  rw [Fld.bat_get (show InS.text ⟨Fld.bat.put L ++ r, k, 0⟩ 512 = _ from qBy h2 yF), if_pos rfl]
  simp only [Fld.cp]
  have hb := hr.be
  have e := read_bat (i := L.bi.toNat) (e := L.be.toNat) (ops := L.ops) (by rw [show ((L.bi.toNat : Nat) : Int) = L.bi by omega, show ((L.be.toNat : Nat) : Int) = L.be by omega]; exact h3) yF []
  rw [List.append_nil, if_pos rfl] at e
  rw [h4, e]
  simp only
  rw [show ((L.bi.toNat : Nat) : Int) = L.bi by omega, show ((L.be.toNat : Nat) : Int) = L.be by omega]
  exact ⟨_, rfl⟩
 | prs =>
  simp only [Fld.ok, Bool.and_eq_true, decide_eq_true_eq] at ho
  obtain ⟨h1, h2⟩ := ho
  simp only [Fld.get, Fld.put, Fld.cp]
  rw [hp rfl, List.append_assoc, qCL h1 yF]
  simp only
  obtain ⟨k', e⟩ := prS_back L.prs r (k + (numL L.prs.length).length) h2
  rw [e]
  exact ⟨_, rfl⟩
theorem Fld.say_ok {f : Fld} {A A' : Lm} {x y : InS} (h : f.get A x = (0, A', y)) (hy : y.err = 0) : Fld.say (f.get A x) = 0 := by rw [h]; unfold Fld.say; rw [if_pos hy]
theorem Fld.cp_fit {L A : Lm} (hL : L.fit) (hA : A.fit) (f : Fld) : (f.cp L A).fit := by
 cases f with
 | num q => exact q.sl_fit hA _
 | hash q => exact q.sl_fit hA (q.gl_len hL)
 | bat => exact hA
 | prs => exact hA
theorem runF_back {L : Lm} (hL : L.fit) (hr : L.rng) (r : List UInt8) : ∀ (l : List Fld), l.Nodup → (∀ f ∈ l, f.ok L = true) → ∀ (A : Lm) (k : Nat), A.fit → (.prs ∈ l → A.prs = []) → ∃ k', runF l A ⟨l.flatMap (fun f => f.put L) ++ r, k, 0⟩ = (0, cpAll l L A, ⟨r, k', 0⟩)
 | [], _, _, A, k, _, _ => ⟨k, by simp [runF, cpAll]⟩
 | f :: l, hd, ho, A, k, hA, hp => by
  obtain ⟨hf, hd⟩ := List.nodup_cons.1 hd
  obtain ⟨k1, e1⟩ := f.get_back hL hr (ho f List.mem_cons_self) hA (fun e => hp (e ▸ List.mem_cons_self)) (l.flatMap (fun f => f.put L) ++ r) k
  rw [List.flatMap_cons, List.append_assoc, runF, if_pos (Fld.say_ok e1 rfl), e1, cpAll_cons]
  refine runF_back hL hr r l hd (fun g hg => ho g (List.mem_cons_of_mem _ hg)) _ _ (f.cp_fit hL hA) fun hm => ?_
  have hne : Fld.prs ≠ f := fun e => hf (e ▸ hm)
  exact (Fld.cp_other hne L A : (f.cp L A).prs = A.prs).trans (hp (List.mem_cons_of_mem _ hm))
theorem fds_nodup (k : UInt8) : (fdsL k).Nodup := by
 unfold fdsL
 repeat' split
 all_goals simp
def onlyL (L : Lm) : Lm := cpAll (fdsL L.k) L (kindL L.k)
def bytesL (L : Lm) : List UInt8 := L.k :: (fdsL L.k).flatMap (fun f => f.put L)
def okL (L : Lm) : Bool := (fdsL L.k).all fun f => f.ok L
theorem okL_of {L : Lm} (h : okL L = true) : ∀ f ∈ fdsL L.k, f.ok L = true := List.all_eq_true.1 h
theorem qGN {L : Lm} (hL : L.fit) (hr : L.rng) (hk : isK L.k = true) (ho : okL L = true) (r : List UInt8) : readM (bytesL L ++ r) = if r = [] then (onlyL L, 0) else (zeroL, 8) := by
 have hb : (inStart (bytesL L ++ r)).byte = (L.k.toNat, ⟨(fdsL L.k).flatMap (fun f => f.put L) ++ r, 0 + 1, 0⟩) := rfl
 obtain ⟨k', e⟩ := runF_back hL hr r (fdsL L.k) (fds_nodup _) (okL_of ho) (kindL L.k) (0 + 1) (qFl _) (fun _ => rfl)
 rw [qDA hb rfl hk 0 _ _ e, if_pos rfl]
 by_cases h : r = []
 ·rw [if_pos h, if_pos (by unfold InS.fin; rw [if_pos rfl, h]; rfl)]; rfl
 ·have hf : (InS.mk r k' 0).fin = 8 := by unfold InS.fin; rw [if_pos rfl, if_neg yE1]
  rw [if_neg h, if_neg (by rw [hf]; decide), hf]
theorem bytesM_eq {L : Lm} (hL : L.fit) (hr : L.rng) : bytesM L = if isK L.k = true then (if okL L = true ∧ onlyL L = L then (bytesL L, 0) else ([], 1)) else ([], 10) := by
 unfold bytesM
 by_cases hk : isK L.k = true
 ·rw [if_pos hk, if_pos hk]
  by_cases ho : okL L = true
  ·have e := qGN hL hr hk ho []
   rw [List.append_nil, if_pos rfl] at e
   have hE : readM (L.k :: (fdsL L.k).flatMap (fun f => f.put L)) = (onlyL L, 0) := e
   by_cases hs : onlyL L = L
   ·rw [if_pos ⟨ho, by rw [hE, hs]⟩, if_pos ⟨ho, hs⟩]; rfl
   ·rw [if_neg (fun h => hs (by have := h.2; rw [hE] at this; injection this)), if_neg (fun h => hs h.2)]
  ·rw [if_neg (fun h => ho h.1), if_neg (fun h => ho h.1)]
 ·rw [if_neg hk, if_neg hk]
/-! ### What is read has just its bytes -/
end TL
end Go

namespace Go
namespace TL
open Go.RowKit
end TL
end Go
namespace Go.Proofs.YtidadhbaomieiaaGreat
open Go.RowKit Go.TL
end Go.Proofs.YtidadhbaomieiaaGreat
