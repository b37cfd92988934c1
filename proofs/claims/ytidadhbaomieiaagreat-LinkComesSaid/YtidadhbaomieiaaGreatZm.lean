/- Texts of this seat, put together: Ref06, BatD, BatT, BatB, MsgP, BatF0, BatR, MsgQ. Each begins with a remark that says what is proved in it, and under which conditions. -/
import Derived.Test.YtidadhbaomieiaaGreatY
import Derived.Test.YtidadhbaomieiaaGreatZd
import Derived.Test.YtidadhbaomieiaaGreatZe
import Derived.Test.YtidadhbaomieiaaGreatZf
import Derived.Test.YtidadhbaomieiaaGreatZi
import Derived.Test.YtidadhbaomieiaaGreatZl
set_option maxRecDepth 100000
set_option maxHeartbeats 16000000
namespace Go
namespace TL
open Go.RowKit
abbrev ringR (R : RingS) : List Value := [.string (mkS R.m), .int .i64 R.c, .int .u32 (I32 R.b), .int .u64 (I64 R.n)]
end TL
end Go
namespace Go.Proofs.YtidadhbaomieiaaGreat
open Go.RowKit Go.TL
theorem rOpenE_c (kk : List UInt8) (x : Env) (about : List UInt8) (hk : kk.length = 32) (hx : rightEnv x) (ha : about.length ≤ 100000) : ∃ (S : List UInt8) (E : Nat),
  (∀ w : World, Calls Tryz.prog 45 #[.agg (bs kk).toArray, .agg (envC x.k x.b x.n x.d x.t).toArray, .string (mkS about)] w fun v w' => v = .returned (.tuple #[.string (mkS S), .int .i64 E]) ∧ Below w.heap.size w w') ∧
  (if x.t = tagL kk x.k x.b x.n about x.d then (sealL kk x.b x.n x.d, 0) else ([], 13)) = (S, E) := by
 obtain ⟨k, b, n, d, t⟩ := x
 obtain ⟨h1, h2, h3⟩ := hx
 simp only at h1 h2 h3 ⊢
 have h : rightE k d = true := by unfold rightE; simp; omega
 by_cases e : t = tagL kk k b n about d
 ·subst e
  exact ⟨_, _, fun w => refOpen_ok kk k b n d about w hk h ha, if_pos rfl⟩
 ·exact ⟨_, _, fun w => refOpen_mac kk k b n d t about w hk h3 h ha e, if_neg e⟩
theorem rOpen06_c (R : RingS) (s about : List UInt8) (w : World) (hm : R.m.length ≤ 1000000) (hs : s.length ≤ 1000000) (ha : about.length ≤ 100000) :
  Calls Tryz.prog 16 #[.agg (ringR R).toArray, .string (mkS s), .string (mkS about)] w fun e w' => e = .returned (.tuple #[.string (mkS (openL R.m R.c s about).1), .int .i64 (openL R.m R.c s about).2]) ∧ Below w.heap.size w w' := by
 obtain ⟨m, cc, bb, n0⟩ := R
 simp only at hm ⊢
 have M := Mem.start [] w
 have RC := fun w => refRead_c s w hs
 by_cases hz : (readS s).2 = 0
 ·have hx := (qCy hz).2
  rw [hz, show ((0 : Nat) : Int) = 0 from rfl] at RC
  by_cases hk : cc < (readS s).1.k
  ·rw [openL_far hz hk]
   simp only [show ((20 : Nat) : Int) = 20 from rfl]
   have ht := hx.2.2
   obtain ⟨⟨k, b, n, d, t⟩, ex⟩ : ∃ x, x = (readS s).1 := ⟨_, rfl⟩
   rw [← ex] at RC hk ht
   simp only at RC hk ht
   replace RC := Lib.hid RC
   have hk1 : (cc : Int) < (k : Int) := by omega
   clear ex hz hx hk
   go_enter Tryz.func16, Tryz.ntmps16
   go_wp2_with ((first | ((with_reducible refine tGuard ?_); first | ((with_reducible refine qAC ?_ ?_); exact dcd) | ((with_reducible refine qAH ?_ ?_); exact dcd) | ((with_reducible refine qAI ?_ ?_); exact dcd)) | ((with_reducible refine tBox (some 3) ?_); refine w_box M _ _ rfl rfl _ rfl (ringR ⟨m, cc, bb, n0⟩) rfl ?_; clear M; intro gr w1 M) | (go_at_call 44; (refine (RC.out _).mono ?_; rintro e w1 ⟨rfl, hb⟩; replace M := M.call hb; clear hb)) | ((with_reducible refine tAlloc (some 8) 75 ?_); refine wal M _ rfl rfl (envC 0 0 0 [] zeroT) yD ?_; clear M; intro gx w1 M) | ((with_reducible refine tLoad ?_); refine w_at _ _ rfl yI ?_; intro hx; (first | refine qAu M _ _ _ rfl yL hx rfl yB yB yC ?_ | refine qAj M _ _ _ rfl yL hx rfl yB yB yC ?_); clear hx) | ((with_reducible refine tStore ?_); refine w_at2 _ _ _ rfl yE yE ?_; intro hx hy; (first | refine qAL M _ _ _ _ rfl yL hx rfl hy rfl yB yC yC ?_ | refine qAL (k := 0) (b := 0) (n := 0) (d := []) (tg := zeroT) M _ _ _ _ rfl yL hx rfl hy rfl yB qAO yC ?_ | refine qAL (tg := zeroT) M _ _ _ _ rfl yL hx rfl hy rfl yB qAO yC ?_ | refine qAd M _ _ _ _ rfl yL hx rfl hy yB yC yC ?_ | refine qAU M _ _ _ _ rfl yL hx rfl hy yB ?_ | refine qAe M _ _ _ _ rfl yL hx rfl hy yB ?_); clear hx hy M; intro w1 M; (try simp only [setC] at M)) | ((with_reducible refine tConv _ 70 9 ?_); (first | refine qAT M _ _ _ _ _ rfl rfl yL rfl yC Tryz.underlying70 Tryz.underlying5 Tryz.underlying9 ?_)) | ((with_reducible refine tM rfl ?_); refine mS ?_; try (clear M; (first | intro g w1 M | intro w1 M); try simp only [setC] at M)) | ((with_reducible refine tGuard ?_); refine gdC ?_ ?_ <;> (intro hgd; rw [hgd]; try (exfalso; simp at hgd; omega)))) <;> (try conv => arg 5; simp only [apS, setC]))
   go_ret2
   exact ⟨rfl, M.below⟩
  ·have hk32 : (ringK m (readS s).1.k).length = 32 := qFV _ _
   obtain ⟨S, E, OC, HO⟩ := rOpenE_c (ringK m (readS s).1.k) (readS s).1 about hk32 hx ha
   have HL : openL m cc s about = (S, E) := by
    rw [← HO]
    unfold openL
    rw [if_neg (by simpa using hz), if_neg hk]
   rw [HL]
   simp only
   have ht := hx.2.2
   have KC := fun (w : World) => rKey06_c m (readS s).1.k w hm
   rw [show ringU m (w64 ((readS s).1.k : Int)) = ringK m (readS s).1.k from rfl] at KC
   obtain ⟨kk, ek⟩ : ∃ k, k = ringK m (readS s).1.k := ⟨_, rfl⟩
   rw [← ek] at OC KC hk32
   obtain ⟨⟨k, b, n, d, t⟩, ex⟩ : ∃ x, x = (readS s).1 := ⟨_, rfl⟩
   rw [← ex] at RC hk ht OC KC
   simp only at RC hk ht OC KC
   have hk1 : (k : Int) ≤ (cc : Int) := by omega
   replace RC := Lib.hid RC
   replace OC := Lib.hid OC
   replace KC := Lib.hid KC
   clear ex hz hx hk HO HL ek
   go_enter Tryz.func16, Tryz.ntmps16
   go_wp2_with ((first | ((with_reducible refine tGuard ?_); first | ((with_reducible refine qAC ?_ ?_); exact dcd) | ((with_reducible refine qAH ?_ ?_); exact dcd) | ((with_reducible refine qAI ?_ ?_); exact dcd)) | ((with_reducible refine tBox (some 3) ?_); refine w_box M _ _ rfl rfl _ rfl (ringR ⟨m, cc, bb, n0⟩) rfl ?_; clear M; intro gr w1 M) | (go_at_call 44; (refine (RC.out _).mono ?_; rintro e w1 ⟨rfl, hb⟩; replace M := M.call hb; clear hb)) | ((with_reducible refine tAlloc (some 8) 75 ?_); refine wal M _ rfl rfl (envC 0 0 0 [] zeroT) yD ?_; clear M; intro gx w1 M) | ((with_reducible show Code.wp _ (Code.region 6 _ _) _ _ _); (have MR := M; refine qAB [(0, false), (2, false), (6, false), (1, false), (3, false), (5, false), (4, true), (7, true), (8, false), (9, false), (10, false), (11, false)] [] [(1, _), (3, _), (5, _)] (IxOk MR [1, 0]) 12 yD yD rfl yD (lowA MR 1 0 (lowA MR 0 0 (qAa (qCd MR 0 rfl rfl yN yB yB yA1) qAN))) (qAJ MR _) ?_; replace M := M.drew; simp only [planC, opAt, gE])) | (go_at_call 22; (refine (KC.out _).mono ?_; rintro e w1 ⟨rfl, hb⟩; replace M := M.call hb; clear hb)) | (go_at_call 45; (refine (OC.out _).mono ?_; rintro e w1 ⟨rfl, hb⟩; replace M := M.call hb; clear hb)) | ((with_reducible refine tLoad ?_); refine w_at _ _ rfl yI ?_; intro hx; (first | refine qAu M _ _ _ rfl yL hx rfl yB yB yC ?_ | refine qAj M _ _ _ rfl yL hx rfl yB yB yC ?_); clear hx) | ((with_reducible refine tStore ?_); refine w_at2 _ _ _ rfl yE yE ?_; intro hx hy; (first | refine qAL M _ _ _ _ rfl yL hx rfl hy rfl yB yC yC ?_ | refine qAL (k := 0) (b := 0) (n := 0) (d := []) (tg := zeroT) M _ _ _ _ rfl yL hx rfl hy rfl yB qAO yC ?_ | refine qAL (tg := zeroT) M _ _ _ _ rfl yL hx rfl hy rfl yB qAO yC ?_ | refine qAd M _ _ _ _ rfl yL hx rfl hy yB yC yC ?_ | refine qAU M _ _ _ _ rfl yL hx rfl hy yB ?_ | refine qAe M _ _ _ _ rfl yL hx rfl hy yB ?_); clear hx hy M; intro w1 M; (try simp only [setC] at M)) | ((with_reducible refine tConv _ 70 9 ?_); (first | refine qAT M _ _ _ _ _ rfl rfl yL rfl yC Tryz.underlying70 Tryz.underlying5 Tryz.underlying9 ?_)) | ((with_reducible refine tM rfl ?_); refine mS ?_; try (clear M; (first | intro g w1 M | intro w1 M); try simp only [setC] at M)) | ((with_reducible first | show Seg _ _ _ _ | show OnlyN _ _ _ _ _); refine rA ?_) | ((with_reducible refine tGuard ?_); refine gdC ?_ ?_ <;> (intro hgd; rw [hgd]; try (exfalso; simp at hgd; omega)))) <;> (try conv => arg 5; simp only [apS, setC]))
   go_ret2
   exact ⟨rfl, M.below⟩
 ·rw [openL_bad hz]
  simp only
  have hzz := qGK hz
  have e1 : (readS s).1 = zeroE := by rw [hzz]
  rw [e1] at RC
  obtain ⟨e, ee⟩ : ∃ e, e = (readS s).2 := ⟨_, rfl⟩
  rw [← ee] at RC hz ⊢
  have RC' : ∀ w, Calls Tryz.prog 44 #[.string (mkS s)] w fun v w' => v = .returned (.tuple #[.agg (envC 0 0 0 [] zeroT).toArray, .int .i64 e]) ∧ Below w.heap.size w w' := RC
  replace RC := Lib.hid RC'
  have hz1 : ((e : Int) != 0) = true := by simp; exact hz
  have hz2 : ((e : Int) == 0) = false := by simp; exact hz
  clear ee hz hzz e1 RC'
  go_enter Tryz.func16, Tryz.ntmps16
  go_wp2_with ((first | ((with_reducible refine tGuard ?_); first | ((with_reducible refine qAC ?_ ?_); exact dcd) | ((with_reducible refine qAH ?_ ?_); exact dcd) | ((with_reducible refine qAI ?_ ?_); exact dcd)) | ((with_reducible refine tBox (some 3) ?_); refine w_box M _ _ rfl rfl _ rfl (ringR ⟨m, cc, bb, n0⟩) rfl ?_; clear M; intro gr w1 M) | (go_at_call 44; (refine (RC.out _).mono ?_; rintro e w1 ⟨rfl, hb⟩; replace M := M.call hb; clear hb)) | ((with_reducible refine tAlloc (some 8) 75 ?_); refine wal M _ rfl rfl (envC 0 0 0 [] zeroT) yD ?_; clear M; intro gx w1 M) | ((with_reducible refine tLoad ?_); refine w_at _ _ rfl yI ?_; intro hx; (first | refine qAu M _ _ _ rfl yL hx rfl yB yB yC ?_ | refine qAj M _ _ _ rfl yL hx rfl yB yB yC ?_); clear hx) | ((with_reducible refine tStore ?_); refine w_at2 _ _ _ rfl yE yE ?_; intro hx hy; (first | refine qAL M _ _ _ _ rfl yL hx rfl hy rfl yB yC yC ?_ | refine qAL (k := 0) (b := 0) (n := 0) (d := []) (tg := zeroT) M _ _ _ _ rfl yL hx rfl hy rfl yB qAO yC ?_ | refine qAL (tg := zeroT) M _ _ _ _ rfl yL hx rfl hy rfl yB qAO yC ?_ | refine qAd M _ _ _ _ rfl yL hx rfl hy yB yC yC ?_ | refine qAU M _ _ _ _ rfl yL hx rfl hy yB ?_ | refine qAe M _ _ _ _ rfl yL hx rfl hy yB ?_); clear hx hy M; intro w1 M; (try simp only [setC] at M)) | ((with_reducible refine tConv _ 70 9 ?_); (first | refine qAT M _ _ _ _ _ rfl rfl yL rfl yC Tryz.underlying70 Tryz.underlying5 Tryz.underlying9 ?_)) | ((with_reducible refine tM rfl ?_); refine mS ?_; try (clear M; (first | intro g w1 M | intro w1 M); try simp only [setC] at M)) | ((with_reducible refine tGuard ?_); refine gdC ?_ ?_ <;> (intro hgd; rw [hgd]; try (exfalso; simp at hgd; omega)))) <;> (try conv => arg 5; simp only [apS, setC]))
  go_ret2
  exact ⟨rfl, M.below⟩
end Go.Proofs.YtidadhbaomieiaaGreat

namespace Go
namespace TL
theorem InS.byte_q (x : InS) : ∃ q : UInt8, x.byte.1 = q.toNat := by
 unfold InS.byte
 split
 ·split
  ·exact ⟨0, rfl⟩
  ·rename_i b _ _; exact ⟨b, rfl⟩
 ·exact ⟨0, rfl⟩
theorem rdO_zero (x : InS) : rdOps 0 x = ([], x) := rfl
theorem rdO_err {m n : Nat} {x x1 : InS} (h : x.byte = (n, x1)) (he : x1.err ≠ 0) : rdOps (m + 1) x = ([], x1) := by rw [rdOps, h, if_neg he]
theorem rdO_kind {m : Nat} {q : UInt8} {x x1 : InS} (h : x.byte = (q.toNat, x1)) (he : x1.err = 0) (hq : ¬ (q = 1 ∨ q = 2)) : rdOps (m + 1) x = ([], x1.bad 10) := by
 rw [rdOps, h, if_pos he, if_neg]
 rintro (e | e)
 ·exact hq (.inl (UInt8.toNat_inj.1 e))
 ·exact hq (.inr (UInt8.toNat_inj.1 e))
theorem rdO_put {m : Nat} {x x1 : InS} (h : x.byte = (UInt8.toNat 1, x1)) (he : x1.err = 0) : rdOps (m + 1) x = ((1, (x1.text 33).1, ((x1.text 33).2.text 32).1) :: (rdOps m ((x1.text 33).2.text 32).2).1, (rdOps m ((x1.text 33).2.text 32).2).2) := by
 simp only [rdOps, h, if_pos he]; rfl
theorem rdO_del {m : Nat} {x x1 : InS} (h : x.byte = (UInt8.toNat 2, x1)) (he : x1.err = 0) : rdOps (m + 1) x = ((2, (x1.text 33).1, []) :: (rdOps m (x1.text 33).2).1, (rdOps m (x1.text 33).2).2) := by
 simp only [rdOps, h, if_pos he]; rfl
theorem qFY {s : List UInt8} {i e n : Nat} {x0 x : InS} {d : List Opr} (h : nums3 s = (i, e, n, x0)) (hr : rdOps n x0 = (d, x)) (hf : x.fin ≠ 0) : readB s = ((0, 0, []), x.fin) := by
 unfold readB; simp only [h, hr]; rw [if_neg hf]
theorem readB_bad {s : List UInt8} {i e n : Nat} {x0 x : InS} {d : List Opr} {r : Nat} (h : nums3 s = (i, e, n, x0)) (hr : rdOps n x0 = (d, x)) (hf : x.fin = 0) (hp : rightB i e d = r) (hr0 : r ≠ 0) : readB s = ((0, 0, []), r) := by
 unfold readB; simp only [h, hr]; rw [if_pos hf, if_neg (by rw [hp]; exact hr0), hp]
theorem readB_ok {s : List UInt8} {i e n : Nat} {x0 x : InS} {d : List Opr} (h : nums3 s = (i, e, n, x0)) (hr : rdOps n x0 = (d, x)) (hf : x.fin = 0) (hp : rightB i e d = 0) : readB s = ((i, e, d), 0) := by
 unfold readB; simp only [h, hr]; rw [if_pos hf, if_pos hp]
theorem bad_fin (x : InS) {e : Nat} (h : e ≠ 0) : (x.bad e).fin = e := by unfold InS.bad InS.fin; rw [if_neg h]
theorem qDL {x : InS} (h : x.err ≠ 0) : ∀ m, (rdOps m x).2.err = x.err
 | 0 => rfl
 | m + 1 => by
  have e : x.byte = (0, x) := by unfold InS.byte; rw [if_neg h]
  rw [rdO_err e h]
end TL
end Go

namespace Go
namespace TL
def fitO (x : Opr) : Prop := (x.1 = 1 ∨ x.1 = 2) ∧ x.2.1.length ≤ 33 ∧ x.2.2.length ≤ 32 ∧ (x.1 = 2 → x.2.2 = [])
theorem qCW (b : UInt8) (r : List UInt8) (k : Nat) : InS.byte ⟨b :: r, k, 0⟩ = (b.toNat, ⟨r, k + 1, 0⟩) := rfl
theorem byte_nilB (k : Nat) : InS.byte ⟨[], k, 0⟩ = (0, ⟨[], k, 7⟩) := rfl
theorem opB_1 (p v : List UInt8) : opB (1, p, v) = 1 :: (textL p ++ textL v) := rfl
theorem opB_2 (p v : List UInt8) : opB (2, p, v) = 2 :: textL p := by unfold opB; rw [if_neg yB1, List.append_nil]
theorem rd_ops : ∀ (l : List Opr) (r : List UInt8) (k : Nat), (∀ x ∈ l, fitO x) → ∃ k', rdOps l.length ⟨l.flatMap opB ++ r, k, 0⟩ = (l, ⟨r, k', 0⟩)
 | [], r, k, _ => ⟨k, by simp [rdOps]⟩
 | (q, p, v) :: l, r, k, h => by
  obtain ⟨hq, h1, h2, h3⟩ := h (q, p, v) List.mem_cons_self
  simp only at hq h1 h2 h3
  rcases hq with rfl | rfl
  ·obtain ⟨k', ih⟩ := rd_ops l r (k + 1 + (textL p).length + (textL v).length) fun y hy => h y (List.mem_cons_of_mem _ hy)
   refine ⟨k', ?_⟩
   rw [List.length_cons, List.flatMap_cons, opB_1, List.cons_append, List.cons_append, List.append_assoc, List.append_assoc]
   rw [rdO_put (qCW _ _ _) rfl, qBy h1 yF]
   simp only
   rw [qBy h2 yF]
   simp only
   rw [ih]
  ·obtain rfl := h3 rfl
   obtain ⟨k', ih⟩ := rd_ops l r (k + 1 + (textL p).length) fun y hy => h y (List.mem_cons_of_mem _ hy)
   refine ⟨k', ?_⟩
   rw [List.length_cons, List.flatMap_cons, opB_2, List.cons_append, List.cons_append, List.append_assoc]
   rw [rdO_del (qCW _ _ _) rfl, qBy h1 yF]
   simp only
   rw [ih]
theorem rd_oonly : ∀ (n : Nat) (x : InS) (l : List Opr) (y : InS), rdOps n x = (l, y) → x.err = 0 → y.err = 0 → x.rest = l.flatMap opB ++ y.rest ∧ l.length = n
 | 0, x, l, y, h, _, _ => by
  simp only [rdOps, Prod.mk.injEq] at h
  obtain ⟨rfl, rfl⟩ := h
  simp
 | n + 1, x, l, y, h, hx, hy => by
  obtain ⟨rest, k, er⟩ := x
  simp only at hx; subst hx
  cases rest with
  | nil =>
   rw [rdO_err (byte_nilB k) yB1] at h
   simp only [Prod.mk.injEq] at h
   obtain ⟨_, rfl⟩ := h
   cases hy
  | cons b r =>
   by_cases hq : b = 1 ∨ b = 2
   ·rcases hq with rfl | rfl
    ·rw [rdO_put (qCW _ _ _) rfl] at h
     obtain ⟨⟨p, x3⟩, e3⟩ : ∃ R, R = InS.text ⟨r, k + 1, 0⟩ 33 := ⟨_, rfl⟩
     rw [← e3] at h
     simp only at h
     obtain ⟨⟨v, x4⟩, e4⟩ : ∃ R, R = x3.text 32 := ⟨_, rfl⟩
     rw [← e4] at h
     simp only [Prod.mk.injEq] at h
     obtain ⟨rfl, rfl⟩ := h
     have h4 : x4.err = 0 := by
      by_cases h0 : x4.err = 0
      ·exact h0
      ·rw [qDL h0] at hy; exact hy
     have h3 : x3.err = 0 := qFI (m := 32) (by rw [← e4]; exact h4)
     have t1 := text_ok e3.symm rfl h3
     have t2 := text_ok e4.symm h3 h4
     obtain ⟨r1, r2⟩ := rd_oonly n x4 _ _ (Prod.ext rfl rfl) h4 hy
     refine ⟨?_, by simp [r2]⟩
     simp only at t1 ⊢
     rw [List.flatMap_cons, opB_1, List.cons_append, List.cons_append, t1.1, t2.1, r1]
     simp only [List.append_assoc]
    ·rw [rdO_del (qCW _ _ _) rfl] at h
     obtain ⟨⟨p, x3⟩, e3⟩ : ∃ R, R = InS.text ⟨r, k + 1, 0⟩ 33 := ⟨_, rfl⟩
     rw [← e3] at h
     simp only [Prod.mk.injEq] at h
     obtain ⟨rfl, rfl⟩ := h
     have h3 : x3.err = 0 := by
      by_cases h0 : x3.err = 0
      ·exact h0
      ·rw [qDL h0] at hy; exact hy
     have t1 := text_ok e3.symm rfl h3
     obtain ⟨r1, r2⟩ := rd_oonly n x3 _ _ (Prod.ext rfl rfl) h3 hy
     refine ⟨?_, by simp [r2]⟩
     simp only at t1 ⊢
     rw [List.flatMap_cons, opB_2, List.cons_append, List.cons_append, t1.1, r1]
     simp only [List.append_assoc]
   ·rw [rdO_kind (qCW _ _ _) rfl hq] at h
    simp only [Prod.mk.injEq] at h
    obtain ⟨_, rfl⟩ := h
    cases hy
/-! ### Batches -/
theorem cutE_ok {p : List UInt8} (h : cutE p = 0) : p.length ≤ 33 ∧ (cutL p).2.2 = true := by
 unfold cutE at h
 split at h
 ·rename_i h0
  obtain ⟨⟨m, k, ok⟩, e⟩ : ∃ c, c = cutL p := ⟨_, rfl⟩
  rw [← e] at h0 ⊢
  simp only at h0; subst h0
  obtain ⟨hp, _, _, hm, hk', _⟩ := cut_ok e.symm
  refine ⟨?_, rfl⟩
  rw [hp]; simp; omega
 ·cases h
theorem qFW {i e : Int} {ops : List Opr} (h : rightB i e ops = 0) : ∀ x ∈ ops, fitO x := fun x hx => by
 obtain ⟨_, _, _, _, h4⟩ := qDI h
 obtain ⟨k1, k2, k3, k4⟩ := op_zero (each_ok h4 x hx)
 exact ⟨k1, (cutE_ok k2).1, k3, k4⟩
theorem nums_bat {i e : Nat} {ops : List Opr} (r : List UInt8) (hi : i ≤ 4611686018427387904) (he : e ≤ 9223372036854775807) (hl : ops.length ≤ 4) : ∃ k, nums3 (batB i e ops ++ r) = (i, e, ops.length, ⟨ops.flatMap opB ++ r, k, 0⟩) := by
 unfold nums3 batB
 simp only [List.append_assoc]
 rw [qCL hi yF]
 simp only
 rw [qCL he yF]
 simp only
 rw [qCL hl yF]
 exact ⟨_, rfl⟩
theorem read_bat {i e : Nat} {ops : List Opr} (h : rightB i e ops = 0) (he : e ≤ 9223372036854775807) (r : List UInt8) : readB (batB i e ops ++ r) = if r = [] then ((i, e, ops), 0) else ((0, 0, []), 8) := by
 obtain ⟨h1, h2, h3, h4, _⟩ := qDI h
 obtain ⟨k, hn⟩ := nums_bat (ops := ops) r (by omega : i ≤ 4611686018427387904) he h4
 obtain ⟨k', hr⟩ := rd_ops ops r k (qFW h)
 by_cases e0 : r = []
 ·subst e0
  rw [if_pos rfl]
  exact readB_ok hn hr rfl h
 ·rw [if_neg e0]
  have hf : (InS.mk r k' 0).fin = 8 := by unfold InS.fin; rw [if_pos rfl, if_neg (by simpa using e0)]
  rw [qFY hn hr (by rw [hf]; decide), hf]
theorem readB_zero {s : List UInt8} (h : (readB s).2 ≠ 0) : (readB s).1 = (0, 0, []) := by
 unfold readB at h ⊢
 simp only at h ⊢
 split
 ·rename_i h1
  rw [if_pos h1] at h
  split
  ·rename_i h2; rw [if_pos h2] at h; exact absurd rfl h
  ·rfl
 ·rfl
theorem read_batonly {s : List UInt8} {i e : Nat} {d : List Opr} (h : readB s = ((i, e, d), 0)) : s = batB i e d ∧ rightB i e d = 0 ∧ e ≤ 9223372036854775807 := by
 unfold readB at h
 simp only at h
 split at h
 ·rename_i hfin
  split at h
  ·rename_i hr
   simp only [Prod.mk.injEq, and_true] at h
   obtain ⟨rfl, rfl, rfl⟩ := h
   refine ⟨?_, hr, InS.most_le _ _⟩
   unfold nums3 at hfin hr ⊢
   simp only at hfin hr ⊢
   obtain ⟨⟨i, x0⟩, e0⟩ : ∃ R, R = InS.most ⟨s, 0, 0⟩ 4611686018427387904 := ⟨_, rfl⟩
   rw [← e0] at hfin hr ⊢
   simp only at hfin hr ⊢
   obtain ⟨⟨e, x1⟩, e1⟩ : ∃ R, R = x0.most 9223372036854775807 := ⟨_, rfl⟩
   rw [← e1] at hfin hr ⊢
   simp only at hfin hr ⊢
   obtain ⟨⟨n, x2⟩, e2⟩ : ∃ R, R = x1.most 4 := ⟨_, rfl⟩
   rw [← e2] at hfin hr ⊢
   simp only at hfin hr ⊢
   obtain ⟨⟨l, x⟩, e3⟩ : ∃ R, R = rdOps n x2 := ⟨_, rfl⟩
   rw [← e3] at hfin hr ⊢
   simp only at hfin hr ⊢
   have hx : x.err = 0 := by
    unfold InS.fin at hfin; split at hfin
    ·assumption
    ·assumption
   have hxr : x.rest = [] := by
    unfold InS.fin at hfin; rw [if_pos hx] at hfin; split at hfin
    ·rename_i hz; simpa using hz
    ·cases hfin
   have hx2 : x2.err = 0 := by
    by_cases h0 : x2.err = 0
    ·exact h0
    ·have := qDL h0 n
     rw [← e3] at this
     exact absurd (this.symm.trans hx) h0
   have hx1 : x1.err = 0 := qDC (m := 4) (by rw [← e2]; exact hx2)
   have hx0 : x0.err = 0 := qDC (m := 9223372036854775807) (by rw [← e1]; exact hx1)
   have m0 := qEb e0.symm rfl hx0
   have m1 := qEb e1.symm hx0 hx1
   have m2 := qEb e2.symm hx1 hx2
   obtain ⟨r1, r2⟩ := rd_oonly n x2 l x e3.symm hx2 hx
   rw [hxr, List.append_nil] at r1
   have : s = numL i ++ x0.rest := m0.1
   unfold batB
   rw [this, m1.1, m2.1, r1, r2]
  ·simp only [Prod.mk.injEq] at h
   rename_i hr
   exact absurd h.2 hr
 ·rename_i hfin
  simp only [Prod.mk.injEq] at h
  exact absurd h.2 hfin
/-! ### What is shipped -/
/-! ### What fits -/
end TL
end Go

namespace Go
namespace TL
theorem opB_len {x : Opr} (h1 : x.2.1.length ≤ 1000) (h2 : x.2.2.length ≤ 1000) : (opB x).length ≤ 2021 := by
 unfold opB textL
 have := qAG x.2.1.length yF
 have := qAG x.2.2.length yF
 split <;> simp <;> omega
theorem opsB_len : ∀ {l : List Opr}, (∀ x ∈ l, x.2.1.length ≤ 1000 ∧ x.2.2.length ≤ 1000) → (l.flatMap opB).length ≤ l.length * 2021
 | [], _ => by simp
 | x :: l, h => by
  have h1 := h x List.mem_cons_self
  have := opB_len h1.1 h1.2
  have := opsB_len (l := l) fun y hy => h y (List.mem_cons_of_mem _ hy)
  simp only [List.flatMap_cons, List.length_append, List.length_cons]; omega
theorem flatO_take {l : List Opr} {k : Nat} {x : Opr} (h : l[k]? = some x) : (l.take (k + 1)).flatMap opB = (l.take k).flatMap opB ++ opB x := by
 obtain ⟨hk, rfl⟩ := List.getElem?_eq_some_iff.1 h
 rw [List.take_succ_eq_append_getElem hk, List.flatMap_append, List.flatMap_cons, List.flatMap_nil, List.append_nil]
theorem opB_put {q : UInt8} {a b : List UInt8} (h : q = 1) : opB (q, a, b) = [q] ++ textL a ++ textL b := by unfold opB; rw [if_pos h]; rfl
theorem opB_del {q : UInt8} {a b : List UInt8} (h : q ≠ 1) : opB (q, a, b) = [q] ++ textL a := by unfold opB; rw [if_neg h, List.append_nil]; rfl
theorem bytesB_no {i e : Int} {ops : List Opr} (h : rightB i e ops ≠ 0) : bytesB i e ops = ([], rightB i e ops) := if_neg h
theorem bytesB_ok {i e : Int} {ops : List Opr} (h : rightB i e ops = 0) : bytesB i e ops = (batB i.toNat e.toNat ops, 0) := if_pos h
end TL
end Go
namespace Go.Proofs.YtidadhbaomieiaaGreat
open Go.RowKit Go.TL
theorem bBytes_c (i e : Int) (he : e ≤ 9223372036854775807) (ops : List Opr) (v : Value) (w : World) (S : SeesL w 3 opV v ops) (hl : ops.length ≤ 1000) (hm0 : ∀ x ∈ ops, x.2.1.length ≤ 100000000 ∧ x.2.2.length ≤ 100000000) :
  Calls Tryz.prog 168 #[.agg #[.int .i64 i, .int .i64 e, v]] w fun r w' => r = .returned (.tuple #[.string (mkS (bytesB i e ops).1), .int .i64 (bytesB i e ops).2]) ∧ Below w.heap.size w w' := by
 have M := Mem.start [] w
 have Y := fun w (S : SeesL w 3 opV v ops) => bRight_c i e ops v w S yF (fun x hx => by have := hm0 x hx; omega)
 have BN := @bytesB_no i e ops
 have BO := @bytesB_ok i e ops
 have RO := @qDI i e ops
 have hm : rightB i e ops = 0 → ∀ x ∈ ops, x.2.1.length ≤ 1000 ∧ x.2.2.length ≤ 1000 := fun h x hx => by
  obtain ⟨_, k2, k3, _⟩ := qFW h x hx
  omega
 obtain ⟨A, eA⟩ : ∃ A, A = bytesB i e ops := ⟨_, rfl⟩
 obtain ⟨R, eR⟩ : ∃ R, R = rightB i e ops := ⟨_, rfl⟩
 rw [← eA, ← eR] at BN
 rw [← eA, ← eR] at BO
 rw [← eR] at RO Y hm
 rw [← eA]
 replace Y := Lib.hid Y
 clear eA eR
 obtain ⟨p, cap, rfl, hc⟩ := S.form
 by_cases hR : R = 0
 ·subst hR
  obtain ⟨h1, h2, h3, h4, _⟩ := RO rfl
  have e0 := BO rfl
  replace hm := hm rfl
  clear BN BO RO
  obtain ⟨i, rfl⟩ : ∃ n : Nat, i = n := ⟨i.toNat, by omega⟩
  obtain ⟨e, rfl⟩ : ∃ n : Nat, e = n := ⟨e.toNat, by omega⟩
  rw [Int.toNat_natCast, Int.toNat_natCast] at e0
  unfold batB at e0
  subst e0
  have hni := qAG i yF
  have hne := qAG e yF
  have hnn := qAG ops.length yF
  have hz : (i : Int) ≤ 4611686018427387904 := by omega
  have hz' : (e : Int) ≤ 9223372036854775807 := by omega
  have hz2 : 0 ≤ (i : Int) := by omega
  have hz3 : 0 ≤ (e : Int) := by omega
  go_enter Tryz.func168, Tryz.ntmps168
  have hmB := fun k => opsB_len (l := ops.take k) (fun x hx => hm x (List.mem_of_mem_take hx))
  go_wp2_with ((first | ((with_reducible refine tBox (some 1) ?_); refine w_box M _ _ rfl rfl _ rfl ([.int .i64 i, .int .i64 e, .slice p ops.length cap]) rfl ?_; clear M; intro gb w1 M) | ((with_reducible refine tBox (some 14) ?_); refine w_box M _ _ rfl rfl _ rfl ([.slice none 0 0]) rfl ?_; clear M; intro go w1 M) | (go_at_call 187; (refine (Y.out _ (S.now M)).mono ?_; rintro e w1 ⟨rfl, hb⟩; replace M := M.call hb; clear hb)) | (go_at_call 113; (first | ((with_reducible refine (Num_c _ _ _ i _ (qBG i yF) _ yF yB1 (M.outNew.ok 0 _ rfl)).mono ?_); rintro e w2 ⟨rfl, v1, U⟩; replace M := M.outNew.upd 0 rfl U; clear U; simp only [List.set_cons_zero, List.nil_append] at M) | ((with_reducible refine (Num_c _ _ _ e _ (qBG e yF) _ yF yF (M.ok 0 _ rfl)).mono ?_); rintro e w2 ⟨rfl, v1, U⟩; replace M := M.upd 0 rfl U; clear U; simp only [List.set_cons_zero] at M) | ((with_reducible refine (Num_c _ _ _ ops.length _ (qBG ops.length yF) _ yF yC1 (M.ok 0 _ rfl)).mono ?_); rintro e w2 ⟨rfl, v1, U⟩; replace M := M.upd 0 rfl U; clear U; simp only [List.set_cons_zero] at M))) | ((with_reducible refine tM rfl ?_); refine mS ?_; try (clear M; (first | intro g w1 M | intro w1 M); try simp only [setC] at M))) <;> (try conv => arg 5; simp only [apS, setC]))
  rw [List.append_assoc] at M
  go_loopw [34] (fun iv wr => ∃ (k : Nat) (v : Value), k ≤ ops.length ∧ iv = .int .i64 k ∧ Mem [] w wr [outC go v (numL i ++ (numL e ++ (numL ops.length ++ (ops.take k).flatMap opB))), .row gb [.int .i64 i, .int .i64 e, .slice p ops.length cap]]) (fun iv _ => ops.length - (intOf iv).toNat)
  case atStart => exact ⟨0, _, by omega, rfl, by simpa using M⟩
  case round =>
   clear M
   obtain ⟨k, v0, hk, rfl, M⟩ := hrel
   have hB := hmB k
   have hk2 : (ops.take k).length ≤ k := List.length_take_le _ _
   by_cases hlt : k < ops.length
   ·obtain ⟨g, so, rfl⟩ := S.addr yF
    obtain ⟨⟨q, a, b⟩, hx⟩ : ∃ x, ops[k]? = some x := ⟨_, List.getElem?_eq_getElem hlt⟩
    obtain ⟨ha, hb⟩ := hm (q, a, b) (List.mem_of_getElem? hx)
    simp only at ha hb
    have HT := Lib.hid (flatO_take hx)
    obtain ⟨d, ed⟩ : ∃ d, d = numL i ++ (numL e ++ (numL ops.length ++ (ops.take k).flatMap opB)) := ⟨_, rfl⟩
    have hd : d.length ≤ 200000 := by rw [ed]; simp only [List.length_append]; omega
    rw [← ed] at M
    have ED := Lib.hid ed
    have HX := Lib.hid hx
    have hta : (textL a).length ≤ 1010 := by unfold textL; have := qAG a.length yF; simp; omega
    clear hx ed hmB hB
    by_cases hq : q = 1
    ·have HQ := Lib.hid hq
     have hq1 : (I8 q == 1) = true := by rw [hq]; rfl
     clear hq
     go_wp2_with ((first | ((with_reducible refine tLoad ?_); refine w_at _ _ rfl yI ?_; intro hx; first | (refine qBD M S HX.out _ _ rfl hx rfl yB yG yD ?_; clear hx; (try conv => arg 5; simp only [Act.put, List.setIfInBounds_toArray, setC, qBR])) | (refine w_see M S HX.out _ _ rfl hx rfl yB 0 yG rfl ?_; clear hx) | (refine w_see M S HX.out _ _ rfl hx rfl yB 1 yG rfl ?_; clear hx) | (refine w_see M S HX.out _ _ rfl hx rfl yB 2 yG rfl ?_; clear hx)) | ((with_reducible refine tAlloc (some 7) 181 ?_); refine wal M _ rfl rfl (opV (0, [], [])) yD ?_; clear M; intro gx w1 M) | (go_at_call 91; (refine (qDU _ _ _ q _ yF (M.ok 1 _ rfl)).mono ?_; rintro e w2 ⟨rfl, v1, U⟩; replace M := M.upd 1 rfl U; clear U; simp only [List.set_cons_zero, List.set_cons_succ] at M)) | (go_at_call 80; (refine (qBJ _ _ _ _ _ yF yW (M.ok 1 _ rfl)).mono ?_; rintro e w2 ⟨rfl, v1, U⟩; replace M := M.upd 1 rfl U; clear U; simp only [List.set_cons_zero, List.set_cons_succ] at M)) | ((with_reducible refine tM rfl ?_); refine mS ?_; try (clear M; (first | intro g w1 M | intro w1 M); try simp only [setC] at M))) <;> (try conv => arg 5; simp only [apS, setC]))
     go_roundw
     case rel => exact ⟨k + 1, _, by omega, by go_num, by
      rw [HT.out, opB_put HQ.out]
      have e9 : numL i ++ (numL e ++ (numL ops.length ++ ((ops.take k).flatMap opB ++ ([q] ++ textL a ++ textL b)))) = d ++ [q] ++ textL a ++ textL b := by rw [ED.out]; simp only [List.append_assoc]
      rw [e9]; exact M.tail⟩
     case measure => simp [intOf]; omega
    ·have HQ := Lib.hid hq
     obtain ⟨hq1, hq2⟩ := I8_ne (q := q) (c := 1) hq
     rw [show I8 1 = 1 from rfl] at hq1 hq2
     clear hq
     go_wp2_with ((first | ((with_reducible refine tLoad ?_); refine w_at _ _ rfl yI ?_; intro hx; first | (refine qBD M S HX.out _ _ rfl hx rfl yB yG yD ?_; clear hx; (try conv => arg 5; simp only [Act.put, List.setIfInBounds_toArray, setC, qBR])) | (refine w_see M S HX.out _ _ rfl hx rfl yB 0 yG rfl ?_; clear hx) | (refine w_see M S HX.out _ _ rfl hx rfl yB 1 yG rfl ?_; clear hx) | (refine w_see M S HX.out _ _ rfl hx rfl yB 2 yG rfl ?_; clear hx)) | ((with_reducible refine tAlloc (some 7) 181 ?_); refine wal M _ rfl rfl (opV (0, [], [])) yD ?_; clear M; intro gx w1 M) | (go_at_call 91; (refine (qDU _ _ _ q _ yF (M.ok 1 _ rfl)).mono ?_; rintro e w2 ⟨rfl, v1, U⟩; replace M := M.upd 1 rfl U; clear U; simp only [List.set_cons_zero, List.set_cons_succ] at M)) | (go_at_call 80; (refine (qBJ _ _ _ _ _ yF yW (M.ok 1 _ rfl)).mono ?_; rintro e w2 ⟨rfl, v1, U⟩; replace M := M.upd 1 rfl U; clear U; simp only [List.set_cons_zero, List.set_cons_succ] at M)) | ((with_reducible refine tM rfl ?_); refine mS ?_; try (clear M; (first | intro g w1 M | intro w1 M); try simp only [setC] at M))) <;> (try conv => arg 5; simp only [apS, setC]))
     go_roundw
     case rel => exact ⟨k + 1, _, by omega, by go_num, by
      rw [HT.out, opB_del HQ.out]
      have e9 : numL i ++ (numL e ++ (numL ops.length ++ ((ops.take k).flatMap opB ++ ([q] ++ textL a)))) = d ++ [q] ++ textL a := by rw [ED.out]; simp only [List.append_assoc]
      rw [e9]; exact M.tail⟩
     case measure => simp [intOf]; omega
   ·obtain rfl : k = ops.length := by omega
    rw [List.take_length] at M
    go_wp2_with (first | (go_at_call 81; (refine (qBT _ _ _ _ (M.ok 0 _ rfl)).mono ?_; rintro e w1 ⟨rfl, rfl⟩)))
    go_ret2
    exact ⟨rfl, M.below⟩
 ·have e0 := BN hR
  subst e0
  clear BN BO RO
  have hz : ((R : Int) == 0) = false := by simp; exact hR
  have hz' : ((R : Int) != 0) = true := by simp; exact hR
  clear hR
  go_enter Tryz.func168, Tryz.ntmps168
  go_wp2_with ((first | ((with_reducible refine tBox (some 1) ?_); refine w_box M _ _ rfl rfl _ rfl ([.int .i64 i, .int .i64 e, .slice p ops.length cap]) rfl ?_; clear M; intro gb w1 M) | (go_at_call 187; (refine (Y.out _ (S.now M)).mono ?_; rintro e w1 ⟨rfl, hb⟩; replace M := M.call hb; clear hb)) | ((with_reducible refine tM rfl ?_); refine mS ?_; try (clear M; (first | intro g w1 M | intro w1 M); try simp only [setC] at M))) <;> (try conv => arg 5; simp only [apS, setC]))
  go_ret2
  exact ⟨rfl, M.below⟩
end Go.Proofs.YtidadhbaomieiaaGreat

namespace Go
namespace TL
open Go.RowKit
theorem qGU {i e : Int} (he : e ≤ 9223372036854775807) (ops : List Opr) : (bytesB i e ops).1.length ≤ 10000 := by
 unfold bytesB
 split
 ·rename_i h
  obtain ⟨h1, h2, h3, h4, _⟩ := qDI h
  have := opsB_len (l := ops) fun x hx => by obtain ⟨_, k2, k3, _⟩ := qFW h x hx; omega
  have := qAG i.toNat yF
  have := qAG e.toNat yF
  have := qAG ops.length yF
  unfold batB
  simp only [List.length_append]
  omega
 ·simp
section
variable {P : Program} {ops : Array Oper} {rest : List Oper} {o : Oper} {a : Act} {w w0 : World} {Q : Exit → Act → World → Prop} {F : List Nat} {L : List Chunk} {g : Nat}
theorem w_rowFBt {m : Ms} (M : Mem F w0 w L) (R : (Chunk.row g (msgC m)).ok w0) (hF : g ∉ F) (t : TypeId) (x : Operand) (ho : o.op = .load t x) (hx : a.eval x = .pointer (some ⟨g, 4, none⟩)) (hw : Region.wanted o (yielded ops a.tmps) = true)
  (ht : rowT P t = true) (hn : (P.info? t).map (·.size) = some 3) (h : wpList P ops Q rest (a.put o.dst (.agg #[.int .i64 m.bi, .int .i64 m.be, m.ov])) w) : wpList P ops Q (o :: rest) a w :=
 w_rowFA M R hF t x ho hx hw ht [.int .u8 (I8 m.k), .int .i64 m.e, .int .i64 m.a, .int .i64 m.o] [.int .i64 m.bi, .int .i64 m.be, m.ov] ([.int .i64 m.p] ++ (bs m.r ++ ([.int .i64 m.v, .int .i64 m.i] ++ (bs m.lf ++ (bs m.rt ++ [m.pv]))))) rfl rfl hn h
end
theorem qCs {α : Type} {P : Program} {ops : Array Oper} {rest : List Oper} {o : Oper} {a : Act} {w : World} {Q : Exit → Act → World → Prop} {size : Nat} {f : α → List Value} {l : List α} {g so n cap : Nat} (S : SeesL w size f (.slice (some ⟨g, so, none⟩) n cap) l) {k : Nat} {x : α} (hk : l[k]? = some x) (t : TypeId) (op : Operand) (ho : o.op = .load t op) {off : Nat} (hx : a.eval op = .pointer (some ⟨g, off, none⟩)) (hw : Region.wanted o (yielded ops a.tmps) = true)
  (ht : rowT P t = true) (hoff : off = so + k * size) (hn : (P.info? t).map (·.size) = some (f x).length) (h : wpList P ops Q rest (a.put o.dst (.agg (f x).toArray)) w) : wpList P ops Q (o :: rest) a w :=
 wpW hw fun _ hK => by
  subst hoff
  unfold rowT at ht
  cases hu : P.underlying t with
  | none => simp [hu] at ht
  | some d =>
   simp only [hu] at ht
   refine wp_load_mid t op ho g _ hx (f x) d ?_ hu ht hn (hK _ _ h)
   intro j val hv
   rw [Nat.add_assoc]
   exact S.cell hk hv
theorem SeesL.nowF {α : Type} {size : Nat} {f : α → List Value} {v : Value} {l : List α} {F : List Nat} {w0 w : World} {L : List Chunk} (M : Mem F w0 w L) (S : SeesL w0 size f v l) (hF : 0 < l.length → ∀ k, v.ownBlock = some k → k ∉ F) : SeesL w size f v l := S.kept0 M.kept hF
end TL
end Go
namespace Go.Proofs.YtidadhbaomieiaaGreat
open Go.RowKit Go.TL
theorem putBatch_c (L : Lm) (ov pv : Value) (gm go : Nat) (v : Value) (l : List UInt8) (w : World) (_hm : (L.ms ov pv).fit) (hbe : L.be ≤ 9223372036854775807) (hl : l.length ≤ 900000) (ho : (outC go v l).ok w)
  (R : (Chunk.row gm (msgC (L.ms ov pv))).ok w) (n0 : gm ∉ (outC go v l).fp) (S : SeesL w 3 opV ov L.ops) (h1 : L.ops.length ≤ 1000) (h2 : ∀ x ∈ L.ops, x.2.1.length ≤ 100000000 ∧ x.2.2.length ≤ 100000000) :
  Calls Tryz.prog 133 #[.pointer (some ⟨go, 0, none⟩), .pointer (some ⟨gm, 0, none⟩)] w fun e w' => e = .returned (.bool (Fld.bat.ok L)) ∧ ∃ v', Upd w (outC go v l) w' (outC go v' (l ++ Fld.bat.put L)) := by
 have M := Mem.start1 ho
 have Y := fun w (S : SeesL w 3 opV ov L.ops) => bBytes_c L.bi L.be hbe L.ops ov w S h1 h2
 have hA := qGU (i := L.bi) hbe L.ops
 simp only [Fld.ok, Fld.put]
 obtain ⟨⟨s, e⟩, eA⟩ : ∃ A, A = bytesB L.bi L.be L.ops := ⟨_, rfl⟩
 rw [← eA] at Y hA ⊢
 simp only at Y hA ⊢
 clear eA
 replace Y := Lib.hid Y
 go_enter Tryz.func133, Tryz.ntmps133
 by_cases he : e = 0
 ·subst he
  go_wp2_with ((first | ((with_reducible refine tLoad ?_); (refine w_at _ _ rfl yI ?_; intro hx; (first | refine w_rowFBt M R n0 _ _ rfl hx rfl yB yD ?_); clear hx)) | (go_at_call 168; (refine (Y.out _ S).mono ?_; rintro e w1 ⟨rfl, hb⟩; replace M := M.call hb; clear hb)) | (go_at_call 80; (refine (qBJ _ _ l s _ yF yF (M.ok 0 _ rfl)).mono ?_; rintro r w2 ⟨rfl, v1, U⟩; replace M := M.upd 0 rfl U; clear U; simp only [setC] at M)) | ((with_reducible refine tGuard ?_); first | ((with_reducible refine qAC ?_ ?_); exact dcd) | ((with_reducible refine qAH ?_ ?_); exact dcd) | ((with_reducible refine qAI ?_ ?_); exact dcd)) | ((with_reducible refine tM rfl ?_); refine mS ?_; try (clear M; (first | intro g w1 M | intro w1 M); try simp only [setC] at M))) <;> (try conv => arg 5; simp only [apS, setC]))
  go_ret
  exact ⟨by simp; omega, _, M.upd1 0 rfl⟩
 ·have hz : ((e : Int) == 0) = false := by simp; exact he
  have hz2 : (e == 0) = false := by simp; exact he
  clear he
  go_wp2_with ((first | ((with_reducible refine tLoad ?_); (refine w_at _ _ rfl yI ?_; intro hx; (first | refine w_rowFBt M R n0 _ _ rfl hx rfl yB yD ?_); clear hx)) | (go_at_call 168; (refine (Y.out _ S).mono ?_; rintro e w1 ⟨rfl, hb⟩; replace M := M.call hb; clear hb)) | (go_at_call 80; (refine (qBJ _ _ l s _ yF yF (M.ok 0 _ rfl)).mono ?_; rintro r w2 ⟨rfl, v1, U⟩; replace M := M.upd 0 rfl U; clear U; simp only [setC] at M)) | ((with_reducible refine tGuard ?_); first | ((with_reducible refine qAC ?_ ?_); exact dcd) | ((with_reducible refine qAH ?_ ?_); exact dcd) | ((with_reducible refine qAI ?_ ?_); exact dcd)) | ((with_reducible refine tM rfl ?_); refine mS ?_; try (clear M; (first | intro g w1 M | intro w1 M); try simp only [setC] at M))) <;> (try conv => arg 5; simp only [apS, setC]))
  go_ret
  exact ⟨by rw [hz2]; rfl, _, M.upd1 0 rfl⟩
theorem putPairs_c (L : Lm) (ov pv : Value) (gm go : Nat) (v : Value) (l : List UInt8) (w : World) (hm : (L.ms ov pv).fit) (hl : l.length ≤ 700000) (ho : (outC go v l).ok w)
  (R : (Chunk.row gm (msgC (L.ms ov pv))).ok w) (n0 : gm ∉ (outC go v l).fp) (S : SeesL w 2 prV pv L.prs) (nS : 0 < L.prs.length → ∀ k, pv.ownBlock = some k → k ∉ (outC go v l).fp) (h1 : L.prs.length ≤ 1000) (h2 : ∀ x ∈ L.prs, x.1.length ≤ 100000 ∧ x.2.length ≤ 100000) (h3 : (L.prs.flatMap prBm).length ≤ 100000) :
  Calls Tryz.prog 135 #[.pointer (some ⟨go, 0, none⟩), .pointer (some ⟨gm, 0, none⟩)] w fun e w' => e = .returned (.bool (Fld.prs.ok L)) ∧ ∃ v', Upd w (outC go v l) w' (outC go v' (l ++ Fld.prs.put L)) := by
 have M := Mem.start1 ho
 simp only [Fld.ok, Fld.put]
 have HQ := qBo hm .pv
 obtain ⟨p, cap, rfl, hc⟩ := S.form
 obtain ⟨d, ed⟩ : ∃ d, d = L.prs := ⟨_, rfl⟩
 rw [← ed] at S h1 h2 h3 hc ⊢
 have HQ' : Nf.pv.get (L.ms ov (.slice p L.prs.length cap)) = .slice p d.length cap := by rw [ed]; rfl
 rw [HQ'] at HQ
 have R0 := R
 clear R HQ'
 obtain ⟨cs, ecs⟩ : ∃ cs, cs = msgC (L.ms ov (.slice p L.prs.length cap)) := ⟨_, rfl⟩
 rw [← ed] at nS
 rw [← ecs] at R0 HQ
 clear ecs ed hm
 replace HQ := Lib.hid HQ
 have hnl := qAG d.length yF
 have e1 := qBG d.length yF
 go_enter Tryz.func135, Tryz.ntmps135
 go_wp2_with ((first | ((with_reducible refine tLoad ?_); (refine w_at _ _ rfl yI ?_; intro hx; (first | refine qBk M R0 n0 _ _ rfl hx rfl yB HQ.out ?_); clear hx)) | (go_at_call 113; (refine (Num_c _ _ l d.length (d.length : Int) rfl _ yF yF (M.ok 0 _ rfl)).mono ?_; rintro r w2 ⟨rfl, v1, U⟩; replace M := M.upd 0 rfl U; clear U; simp only [setC] at M)) | ((with_reducible refine tM rfl ?_); refine mS ?_; try (clear M; (first | intro g w1 M | intro w1 M); try simp only [setC] at M))) <;> (try conv => arg 5; simp only [apS, setC]))
 have HB : ∀ (k : Nat) (x : List UInt8 × List UInt8), d[k]? = some x → (decide (d.length ≤ 48) && (d.take (k + 1)).all okP) = ((decide (d.length ≤ 48) && (d.take k).all okP) && okP x) := fun k x hx => by
  obtain ⟨hk, rfl⟩ := List.getElem?_eq_some_iff.1 hx
  rw [List.take_succ_eq_append_getElem hk, List.all_append, List.all_cons, List.all_nil, Bool.and_true, Bool.and_assoc]
 have HT : ∀ (k : Nat) (x : List UInt8 × List UInt8), d[k]? = some x → (d.take (k + 1)).flatMap prBm = (d.take k).flatMap prBm ++ (textL x.1 ++ textL x.2) := fun k x hx => by
  obtain ⟨hk, rfl⟩ := List.getElem?_eq_some_iff.1 hx
  rw [List.take_succ_eq_append_getElem hk, List.flatMap_append, List.flatMap_cons, List.flatMap_nil, List.append_nil]; rfl
 have HL : ∀ k, ((d.take k).flatMap prBm).length ≤ 100000 := fun k => by
  have : (d.take k).flatMap prBm ++ (d.drop k).flatMap prBm = d.flatMap prBm := by rw [← List.flatMap_append, List.take_append_drop]
  have := congrArg List.length this
  rw [List.length_append] at this
  omega
 have hfp : ∀ (v v' : Value) (l l' : List UInt8), True := fun _ _ _ _ => trivial
 clear hfp
 replace HB := Lib.hid HB
 replace HT := Lib.hid HT
 replace HL := Lib.hid HL
 clear h3
 go_loopw [5, 27] (fun bv iv wr => ∃ (k : Nat) (v1 : Value), k ≤ d.length ∧ iv = .int .i64 k ∧ bv = .bool (decide (d.length ≤ 48) && (d.take k).all okP) ∧ Mem (outC go v l).fp w wr [outC go v1 (l ++ (numL d.length ++ (d.take k).flatMap prBm))]) (fun _ iv _ => d.length - (intOf iv).toNat)
 case atStart => exact ⟨0, _, by omega, rfl, by simp; omega, by simpa using M⟩
 case round =>
  clear M
  obtain ⟨k, v1, hk, rfl, rfl, M⟩ := hrel
  have hB := HL.out k
  by_cases hlt : k < d.length
  ·have S' := S.nowF M nS
   obtain ⟨g, so, rfl⟩ := S.addr yF
   obtain ⟨⟨x, y⟩, hx⟩ : ∃ x, d[k]? = some x := ⟨_, List.getElem?_eq_getElem hlt⟩
   obtain ⟨hx1, hy1⟩ := h2 (x, y) (List.mem_of_getElem? hx)
   simp only at hx1 hy1
   have HB1 := HB.out k _ hx
   have HT1 := HT.out k _ hx
   simp only at HT1
   obtain ⟨b, eb⟩ : ∃ b, b = (decide (d.length ≤ 48) && (d.take k).all okP) := ⟨_, rfl⟩
   rw [← eb] at HB1 ⊢
   obtain ⟨z, ez⟩ : ∃ z, z = l ++ (numL d.length ++ (d.take k).flatMap prBm) := ⟨_, rfl⟩
   have hz : z.length ≤ 800010 := by rw [ez]; simp only [List.length_append]; omega
   have EZ : l ++ (numL d.length ++ (d.take (k + 1)).flatMap prBm) = z ++ textL x ++ textL y := by rw [HT1, ez]; simp only [List.append_assoc]
   rw [← ez] at M
   have hta : (textL x).length ≤ 100010 := by unfold textL; have := qAG x.length yF; simp; omega
   replace EZ := Lib.hid EZ
   replace HB1 := Lib.hid HB1
   have HX := Lib.hid hx
   have hkt : (k : Int) < (d.length : Int) := by omega
   have hkt2 : decide ((k : Int) < (d.length : Int)) = true := decide_eq_true hkt
   clear ez eb HT1 hx hB
   cases b with
   | false =>
    go_wp2_with ((first | ((with_reducible show wpList _ _ _ (Oper.mk _ (Op.load 120 _) _ _ _ _ :: _) _ _); (refine w_at _ _ rfl yI ?_; intro hx; refine qCs S' HX.out _ _ rfl hx rfl yB yG yD ?_; clear hx; (try conv => arg 5; simp only [Act.put, List.setIfInBounds_toArray, setC, qEB]))) | ((with_reducible refine tAlloc (some 7) 120 ?_); refine wal M _ rfl rfl (prV ([], [])) yD ?_; clear M; intro gx w1 M) | (go_at_call 80; (refine (qBJ _ _ _ _ _ yF yW (M.ok 1 _ rfl)).mono ?_; rintro e w2 ⟨rfl, v1, U⟩; replace M := M.upd 1 rfl U; clear U; simp only [setC] at M)) | ((with_reducible refine tGuard ?_); first | ((with_reducible refine qAC ?_ ?_); exact dcd) | ((with_reducible refine qAH ?_ ?_); exact dcd) | ((with_reducible refine qAI ?_ ?_); exact dcd)) | ((with_reducible refine tM rfl ?_); refine mS ?_; try (clear M; (first | intro g w1 M | intro w1 M); try simp only [setC] at M))) <;> (try conv => arg 5; simp only [apS, setC]))
    go_roundw
    case rel => exact ⟨k + 1, _, by omega, by go_num, by rw [HB1.out]; rfl, by rw [EZ.out]; exact M.tail⟩
    case measure => simp [intOf]; omega
   | true =>
    by_cases hx33 : x.length ≤ 33
    ·have hok : okP (x, y) = decide (y.length ≤ 32) := by unfold okP; rw [decide_eq_true hx33]; rfl
     replace hok := Lib.hid hok
     go_wp2_with ((first | ((with_reducible show wpList _ _ _ (Oper.mk _ (Op.load 120 _) _ _ _ _ :: _) _ _); (refine w_at _ _ rfl yI ?_; intro hx; refine qCs S' HX.out _ _ rfl hx rfl yB yG yD ?_; clear hx; (try conv => arg 5; simp only [Act.put, List.setIfInBounds_toArray, setC, qEB]))) | ((with_reducible refine tAlloc (some 7) 120 ?_); refine wal M _ rfl rfl (prV ([], [])) yD ?_; clear M; intro gx w1 M) | (go_at_call 80; (refine (qBJ _ _ _ _ _ yF yW (M.ok 1 _ rfl)).mono ?_; rintro e w2 ⟨rfl, v1, U⟩; replace M := M.upd 1 rfl U; clear U; simp only [setC] at M)) | ((with_reducible refine tGuard ?_); first | ((with_reducible refine qAC ?_ ?_); exact dcd) | ((with_reducible refine qAH ?_ ?_); exact dcd) | ((with_reducible refine qAI ?_ ?_); exact dcd)) | ((with_reducible refine tM rfl ?_); refine mS ?_; try (clear M; (first | intro g w1 M | intro w1 M); try simp only [setC] at M))) <;> (try conv => arg 5; simp only [apS, setC]))
     go_roundw
     case rel => exact ⟨k + 1, _, by omega, by go_num, by rw [HB1.out, hok.out, Bool.true_and, decide_eq_true (show (x.length : Int) ≤ 33 by omega), Bool.true_and]; simp; omega, by rw [EZ.out]; exact M.tail⟩
     case measure => simp [intOf]; omega
    ·have hok : okP (x, y) = false := by unfold okP; rw [decide_eq_false hx33]; rfl
     replace hok := Lib.hid hok
     go_wp2_with ((first | ((with_reducible show wpList _ _ _ (Oper.mk _ (Op.load 120 _) _ _ _ _ :: _) _ _); (refine w_at _ _ rfl yI ?_; intro hx; refine qCs S' HX.out _ _ rfl hx rfl yB yG yD ?_; clear hx; (try conv => arg 5; simp only [Act.put, List.setIfInBounds_toArray, setC, qEB]))) | ((with_reducible refine tAlloc (some 7) 120 ?_); refine wal M _ rfl rfl (prV ([], [])) yD ?_; clear M; intro gx w1 M) | (go_at_call 80; (refine (qBJ _ _ _ _ _ yF yW (M.ok 1 _ rfl)).mono ?_; rintro e w2 ⟨rfl, v1, U⟩; replace M := M.upd 1 rfl U; clear U; simp only [setC] at M)) | ((with_reducible refine tGuard ?_); first | ((with_reducible refine qAC ?_ ?_); exact dcd) | ((with_reducible refine qAH ?_ ?_); exact dcd) | ((with_reducible refine qAI ?_ ?_); exact dcd)) | ((with_reducible refine tM rfl ?_); refine mS ?_; try (clear M; (first | intro g w1 M | intro w1 M); try simp only [setC] at M))) <;> (try conv => arg 5; simp only [apS, setC]))
     go_roundw
     case rel => exact ⟨k + 1, _, by omega, by go_num, by rw [HB1.out, hok.out]; rfl, by rw [EZ.out]; exact M.tail⟩
     case measure => simp [intOf]; omega
  ·obtain rfl : k = d.length := by omega
   rw [List.take_length] at M ⊢
   go_wp2_with ((first | ((with_reducible refine tM rfl ?_); refine mS ?_; try (clear M; (first | intro g w1 M | intro w1 M); try simp only [setC] at M))) <;> (try conv => arg 5; simp only [apS, setC]))
   go_ret
   exact ⟨rfl, _, M.upd1 0 rfl⟩
end Go.Proofs.YtidadhbaomieiaaGreat

namespace Go.Proofs.YtidadhbaomieiaaGreat
open Go.RowKit Go.TL
set_option maxRecDepth 1000000 in
theorem opT : SliceT Tryz.prog 61 181 3 40 := ⟨Tryz.underlying61, ⟨_, _, rfl, rfl, rfl, rfl, rfl⟩, by omega⟩
end Go.Proofs.YtidadhbaomieiaaGreat

namespace Go
namespace TL
open Go.RowKit
def batR (i e r : Nat) (z : Value) : Value := .tuple #[.agg #[.int .i64 i, .int .i64 e, z], .int .i64 r]
end TL
end Go
namespace Go.Proofs.YtidadhbaomieiaaGreat
open Go.RowKit Go.TL
theorem bRead_c (s : List UInt8) (w : World) (hs : s.length ≤ 1000000) :
  Calls Tryz.prog 169 #[.string (mkS s)] w (Gives 3 opV (readB s).1.2.2 (batR (readB s).1.1 (readB s).1.2.1 (readB s).2) w) := by
 have M := (Mem.start [] w).nil 3
 have hst : (inStart s).fit := by unfold inStart InS.fit; simp; omega
 have RF := @qFY s
 have RB := @readB_bad s
 have RO := @readB_ok s
 obtain ⟨A, eA⟩ : ∃ A, A = readB s := ⟨_, rfl⟩
 rw [← eA] at RF RB RO ⊢
 clear eA
 have e3 : nums3 s = (((inStart s).most 4611686018427387904).1, ((inStart s).most 4611686018427387904).2.most 9223372036854775807 |>.1, (((inStart s).most 4611686018427387904).2.most 9223372036854775807).2.most 4) := rfl
 have T0 := fun g w h => qFy g (inStart s) w h hst 4611686018427387904 4611686018427387904 rfl yF
 have hf0 := InS.most_fit hst 4611686018427387904
 have hi0 := InS.most_le (inStart s) 4611686018427387904
 obtain ⟨⟨i, x0⟩, e0⟩ : ∃ R, R = (inStart s).most 4611686018427387904 := ⟨_, rfl⟩
 rw [← e0] at e3 T0 hf0 hi0
 simp only at e3 T0 hf0 hi0
 clear e0
 have T1 := fun g w h => qFy g x0 w h hf0 9223372036854775807 9223372036854775807 rfl yF
 have hf1 := InS.most_fit hf0 9223372036854775807
 have hi1 := InS.most_le x0 9223372036854775807
 obtain ⟨⟨e, x1⟩, e1⟩ : ∃ R, R = x0.most 9223372036854775807 := ⟨_, rfl⟩
 rw [← e1] at e3 T1 hf1 hi1
 simp only at e3 T1 hf1 hi1
 clear e1
 have T2 := fun g w h => qFy g x1 w h hf1 4 4 rfl yF
 have hf2 := InS.most_fit hf1 4
 have hi2 := InS.most_le x1 4
 obtain ⟨⟨n0, x2⟩, e2⟩ : ∃ R, R = x1.most 4 := ⟨_, rfl⟩
 rw [← e2] at e3 T2 hf2 hi2
 simp only at e3 T2 hf2 hi2
 clear e2
 replace RF := fun d x => @RF i e n0 x2 x d e3
 replace RB := fun d x r => @RB i e n0 x2 x d r e3
 replace RO := fun d x => @RO i e n0 x2 x d e3
 replace RF := Lib.hid RF
 replace RB := Lib.hid RB
 replace RO := Lib.hid RO
 replace T0 := Lib.hid T0
 replace T1 := Lib.hid T1
 replace T2 := Lib.hid T2
 clear e3
 go_enter Tryz.func169, Tryz.ntmps169
 go_wp2_with ((first | ((with_reducible refine tAlloc (some 2) 63 ?_); refine wal M _ rfl rfl ([.int .i64 0, .int .i64 0, .slice none 0 0]) yD ?_; clear M; intro gr w1 M) | (go_at_call 57; (refine (qEC _ _).mono ?_; rintro e w1 ⟨gi, rfl, MP⟩; replace M := M.join MP; clear MP; simp only [List.cons_append, List.nil_append] at M)) | (go_at_call 58; (first | ((first | (with_reducible refine (T0.out gi _ (M.ok 0 _ rfl)).mono ?_) | (with_reducible refine (T1.out gi _ (M.ok 0 _ rfl)).mono ?_)); rintro e w1 ⟨rfl, U⟩; replace M := M.upd 0 rfl U; clear U; simp only [List.set_cons_zero] at M) | ((with_reducible refine (T2.out gi _ (M.ok 1 _ rfl)).mono ?_); rintro e w1 ⟨rfl, U⟩; replace M := M.upd 1 rfl U; clear U; simp only [List.set_cons_zero, List.set_cons_succ] at M))) | ((with_reducible refine tAlloc (some 5) 63 ?_); refine wal M _ rfl rfl ([.int .i64 0, .int .i64 0, .slice none 0 0]) yD ?_; clear M; intro gb w1 M) | ((with_reducible refine tM rfl ?_); refine mS ?_; try (clear M; (first | intro g w1 M | intro w1 M); try simp only [setC] at M))) <;> (try conv => arg 5; simp only [apS, setC]))
 clear T0 T1 T2
 go_loopw [6] (fun nv wr => ∃ (m : Nat) (d : List Opr) (x : InS) (q : Option Addr) (c : Nat), nv = .int .i64 m ∧ x.fit ∧ d.length + m ≤ 4 ∧ Hid (rdOps n0 x2 = (d ++ (rdOps m x).1, (rdOps m x).2) ∧ ∀ y ∈ d, y.2.1.length ≤ 33 ∧ y.2.2.length ≤ 32) ∧ Mem [] w wr [.row gb [.int .i64 i, .int .i64 e, .slice q d.length c], .row gi (inV x), .row gr [.int .i64 0, .int .i64 0, .slice none 0 0], .sl 3 (.slice q d.length c) d.length (d.flatMap opV)]) (fun nv _ => (intOf nv).toNat)
 case atStart => exact ⟨n0, [], x2, none, 0, rfl, hf2, by simp; omega, Lib.hid ⟨by simp, by simp⟩, M⟩
 case round =>
  clear M
  obtain ⟨m, d, x, q, c, rfl, hf, hdm, HR, M⟩ := hrel
  cases m with
  | zero =>
   have hR : rdOps n0 x2 = (d, x) := by simpa [rdO_zero] using HR.out.1
   have hm := HR.out.2
   have RA := RF.out d x hR
   have RC := RB.out d x
   have RD := RO.out d x hR
   replace RC := fun r => RC r hR
   clear hR
   by_cases hfin : x.fin = 0
   ·have P := fun w S => bRight_c i e d (.slice q d.length c) w S yF (fun y hy => by have := hm y hy; omega)
    replace RC := RC _ hfin rfl
    replace RD := RD hfin
    obtain ⟨pe, ep⟩ : ∃ R, R = rightB i e d := ⟨_, rfl⟩
    rw [← ep] at P RC RD
    replace RC := Lib.hid RC
    replace RD := Lib.hid RD
    replace P := Lib.hid P
    have E := fun w h => End_c gi x w h hf
    rw [hfin] at E
    replace E := Lib.hid E
    clear ep hfin RA
    by_cases hpe : pe = 0
    ·subst hpe
     have e0 := RD.out rfl
     subst e0
     clear RC RD
     go_wp2_with ((first | (go_at_call 62; (refine (E.out _ (M.ok 1 _ rfl)).mono ?_; rintro e w1 ⟨rfl, hb⟩; replace M := M.call hb; clear hb)) | (go_at_call 187; (refine (P.out _ (SeesL.own M 3 rfl rfl qCD)).mono ?_; rintro e w1 ⟨rfl, hb⟩; replace M := M.call hb; clear hb)) | ((with_reducible refine tM rfl ?_); refine mS ?_; try (clear M; (first | intro g w1 M | intro w1 M); try simp only [setC] at M))) <;> (try conv => arg 5; simp only [apS, setC]))
     refine bodyPost_ret (qAK rfl _ _ gr 0 [.int .i64 i, .int .i64 e, .slice q d.length c] _ (.int .i64 ((0 : Nat) : Int)) rfl rfl (M.ok 2 _ rfl).2.1 Tryz.underlying63 rfl yD) rfl (Gives.at (r := batR i e 0) M 3 rfl)
    ·have e0 := RC.out hpe
     subst e0
     clear RC RD
     have hz : ((pe : Int) == 0) = false := by simp; exact hpe
     have hz' : ((pe : Int) != 0) = true := by simp; exact hpe
     clear hpe
     go_wp2_with ((first | (go_at_call 62; (refine (E.out _ (M.ok 1 _ rfl)).mono ?_; rintro e w1 ⟨rfl, hb⟩; replace M := M.call hb; clear hb)) | (go_at_call 187; (refine (P.out _ (SeesL.own M 3 rfl rfl qCD)).mono ?_; rintro e w1 ⟨rfl, hb⟩; replace M := M.call hb; clear hb)) | ((with_reducible refine tM rfl ?_); refine mS ?_; try (clear M; (first | intro g w1 M | intro w1 M); try simp only [setC] at M))) <;> (try conv => arg 5; simp only [apS, setC]))
     refine bodyPost_ret (qAK rfl _ _ gr 0 [.int .i64 0, .int .i64 0, .slice none 0 0] _ (.int .i64 ((pe : Nat) : Int)) rfl rfl (M.ok 2 _ rfl).2.1 Tryz.underlying63 rfl yD) rfl (Gives.intro (r := batR 0 0 pe) (p := none) (cap := 0) (M.nil 3))
   ·have e0 := RA hfin
    have E := fun w h => End_c gi x w h hf
    obtain ⟨fe, efe⟩ : ∃ f, f = x.fin := ⟨_, rfl⟩
    rw [← efe] at e0 E hfin
    subst e0
    replace E := Lib.hid E
    clear RA RC RD efe
    have hz : ((fe : Int) == 0) = false := by simp; exact hfin
    have hz' : ((fe : Int) != 0) = true := by simp; exact hfin
    clear hfin
    go_wp2_with ((first | (go_at_call 62; (refine (E.out _ (M.ok 1 _ rfl)).mono ?_; rintro e w1 ⟨rfl, hb⟩; replace M := M.call hb; clear hb)) | ((with_reducible refine tM rfl ?_); refine mS ?_; try (clear M; (first | intro g w1 M | intro w1 M); try simp only [setC] at M))) <;> (try conv => arg 5; simp only [apS, setC]))
    refine bodyPost_ret (qAK rfl _ _ gr 0 [.int .i64 0, .int .i64 0, .slice none 0 0] _ (.int .i64 ((fe : Nat) : Int)) rfl rfl (M.ok 2 _ rfl).2.1 Tryz.underlying63 rfl yD) rfl (Gives.intro (r := batR 0 0 fe) (p := none) (cap := 0) (M.nil 3))
  | succ m =>
   obtain ⟨ki, hki⟩ := InS.byte_q x
   have hf1 := InS.byte_fit hf
   have B := fun g w h => qEO g x w h hf
   have GE := @rdO_err m ki.toNat x
   have GK := @rdO_kind m ki x
   have GP := fun x1 (h : x.byte = (ki.toNat, x1)) (h1 : ki = 1) => @rdO_put m x x1 (by rw [h, h1])
   have GD := fun x1 (h : x.byte = (ki.toNat, x1)) (h1 : ki = 2) => @rdO_del m x x1 (by rw [h, h1])
   obtain ⟨⟨nb, x3⟩, e1⟩ : ∃ R, R = x.byte := ⟨_, rfl⟩
   rw [← e1] at hki hf1 B GE GK GP GD
   simp only at hki hf1 B
   subst hki
   simp only [← I8_eq] at B
   replace GE := GE rfl
   replace GK := GK rfl
   replace GP := GP _ rfl
   replace GD := GD _ rfl
   replace B := Lib.hid B
   clear e1
   by_cases he : x3.err = 0
   ·have HE := Lib.hid he
    replace GK := GK he
    clear he GE
    by_cases hq : ki = 1 ∨ ki = 2
    ·clear GK
     have hf4 := InS.text_fit hf1 33
     have hp := InS.text_len x3 33
     have T1 := fun g w h => qCY g x3 w h hf1 33 33 rfl yF
     replace GP := fun h => GP h HE.out
     replace GD := fun h => GD h HE.out
     obtain ⟨⟨pa, x4⟩, e1⟩ : ∃ R, R = x3.text 33 := ⟨_, rfl⟩
     rw [← e1] at hf4 hp T1 GP GD
     simp only at hf4 hp T1 GP GD
     replace T1 := Lib.hid T1
     clear e1
     by_cases h1 : ki = 1
     ·replace GP := GP h1
      clear GD hq
      subst h1
      have hf5 := InS.text_fit hf4 32
      have hv := InS.text_len x4 32
      have T2 := fun g w h => qCY g x4 w h hf4 32 32 rfl yF
      obtain ⟨⟨va, x5⟩, e2⟩ : ∃ R, R = x4.text 32 := ⟨_, rfl⟩
      rw [← e2] at hf5 hv T2 GP
      simp only at hf5 hv T2 GP
      replace T2 := Lib.hid T2
      replace GP := Lib.hid GP
      clear e2
      go_wp2_with ((first | ((with_reducible refine tGuard ?_); first | ((with_reducible refine qAC ?_ ?_); exact dcd) | ((with_reducible refine qAH ?_ ?_); exact dcd) | ((with_reducible refine qAI ?_ ?_); exact dcd)) | (go_at_call 61; (refine (B.out _ _ (M.ok 1 _ rfl)).mono ?_; rintro e w1 ⟨rfl, U⟩; replace M := M.upd 1 rfl U; clear U; simp only [List.set_cons_zero, List.set_cons_succ] at M)) | (go_at_call 60; ((first | (with_reducible refine (T1.out _ _ (M.ok 2 _ rfl)).mono ?_) | (with_reducible refine (T2.out _ _ (M.ok 2 _ rfl)).mono ?_)); rintro e w1 ⟨rfl, U⟩; replace M := M.upd 2 rfl U; clear U; simp only [List.set_cons_zero, List.set_cons_succ] at M)) | ((with_reducible refine tAlloc (some 7) 181 ?_); refine wal M _ rfl rfl (opV (0, [], [])) yD ?_; clear M; intro gp w1 M) | (go_at_call 92; (refine (qBj _ _ _ (M.ok 2 _ rfl) HE.out).mono ?_; rintro e w1 ⟨rfl, rfl⟩)) | ((with_reducible show wpList _ _ _ (Oper.mk _ (Op.buildSlice _ 1 _) _ _ _ _ :: _) _ _); (refine qAV M opT yN _ rfl rfl yE _ rfl rfl ?_; clear M; intro g w1 M)) | ((with_reducible refine tApp ?_); (refine qAg M 4 opT _ _ rfl rfl rfl rfl rfl rfl yJ yN yS yW ?_; clear M; intro q cap w1 M; (try simp only [setC] at M))) | ((with_reducible refine tM rfl ?_); refine mS ?_; try (clear M; (first | intro g w1 M | intro w1 M); try simp only [setC] at M))) <;> (try conv => arg 5; simp only [apS, setC]))
      go_roundw
      case rel => exact ⟨m, d ++ [(1, pa, va)], x5, q, cap, by go_num, hf5, by simp; omega, Lib.hid ⟨by rw [HR.out.1, GP.out]; simp, fun y hy => by
       rcases List.mem_append.1 hy with hy | hy
       ·exact HR.out.2 y hy
       ·obtain rfl : y = (1, pa, va) := by simpa using hy
        exact ⟨hp, hv⟩⟩, by simpa [opV] using M.tail⟩
      case measure => simp [intOf]
     ·have h2 : ki = 2 := hq.resolve_left h1
      replace GD := GD h2
      clear GP hq h1
      subst h2
      replace GD := Lib.hid GD
      go_wp2_with ((first | ((with_reducible refine tGuard ?_); first | ((with_reducible refine qAC ?_ ?_); exact dcd) | ((with_reducible refine qAH ?_ ?_); exact dcd) | ((with_reducible refine qAI ?_ ?_); exact dcd)) | (go_at_call 61; (refine (B.out _ _ (M.ok 1 _ rfl)).mono ?_; rintro e w1 ⟨rfl, U⟩; replace M := M.upd 1 rfl U; clear U; simp only [List.set_cons_zero, List.set_cons_succ] at M)) | (go_at_call 60; (refine (T1.out _ _ (M.ok 2 _ rfl)).mono ?_; rintro e w1 ⟨rfl, U⟩; replace M := M.upd 2 rfl U; clear U; simp only [List.set_cons_zero, List.set_cons_succ] at M)) | ((with_reducible refine tAlloc (some 7) 181 ?_); refine wal M _ rfl rfl (opV (0, [], [])) yD ?_; clear M; intro gp w1 M) | (go_at_call 92; (refine (qBj _ _ _ (M.ok 2 _ rfl) HE.out).mono ?_; rintro e w1 ⟨rfl, rfl⟩)) | ((with_reducible show wpList _ _ _ (Oper.mk _ (Op.buildSlice _ 1 _) _ _ _ _ :: _) _ _); (refine qAV M opT yN _ rfl rfl yE _ rfl rfl ?_; clear M; intro g w1 M)) | ((with_reducible refine tApp ?_); (refine qAg M 4 opT _ _ rfl rfl rfl rfl rfl rfl yJ yN yS yW ?_; clear M; intro q cap w1 M; (try simp only [setC] at M))) | ((with_reducible refine tM rfl ?_); refine mS ?_; try (clear M; (first | intro g w1 M | intro w1 M); try simp only [setC] at M))) <;> (try conv => arg 5; simp only [apS, setC]))
      go_roundw
      case rel => exact ⟨m, d ++ [(2, pa, [])], x4, q, cap, by go_num, hf4, by simp; omega, Lib.hid ⟨by rw [HR.out.1, GD.out]; simp, fun y hy => by
       rcases List.mem_append.1 hy with hy | hy
       ·exact HR.out.2 y hy
       ·obtain rfl : y = (2, pa, []) := by simpa using hy
        exact ⟨hp, by simp⟩⟩, by simpa [opV] using M.tail⟩
      case measure => simp [intOf]
    ·replace GK := GK hq
     have hR : rdOps n0 x2 = (d, x3.bad 10) := by rw [HR.out.1, GK]; simp
     have e0 := RF.out _ _ hR (by rw [bad_fin _ yN]; decide)
     rw [bad_fin _ yN] at e0
     obtain ⟨h1, h1'⟩ := I8_ne (q := ki) (c := 1) (fun h => hq (.inl h))
     obtain ⟨h2, h2'⟩ := I8_ne (q := ki) (c := 2) (fun h => hq (.inr h))
     rw [show I8 1 = 1 from rfl] at h1 h1'
     rw [show I8 2 = 2 from rfl] at h2 h2'
     subst e0
     clear hq GK GP GD hR
     go_wp2_with ((first | ((with_reducible refine tGuard ?_); first | ((with_reducible refine qAC ?_ ?_); exact dcd) | ((with_reducible refine qAH ?_ ?_); exact dcd) | ((with_reducible refine qAI ?_ ?_); exact dcd)) | (go_at_call 61; (refine (B.out _ _ (M.ok 1 _ rfl)).mono ?_; rintro e w1 ⟨rfl, U⟩; replace M := M.upd 1 rfl U; clear U; simp only [List.set_cons_zero, List.set_cons_succ] at M)) | ((with_reducible refine tAlloc (some 7) 181 ?_); refine wal M _ rfl rfl (opV (0, [], [])) yD ?_; clear M; intro gp w1 M) | (go_at_call 92; (refine (qBj _ _ _ (M.ok 2 _ rfl) HE.out).mono ?_; rintro e w1 ⟨rfl, rfl⟩)) | ((with_reducible refine tM rfl ?_); refine mS ?_; try (clear M; (first | intro g w1 M | intro w1 M); try simp only [setC] at M))) <;> (try conv => arg 5; simp only [apS, setC]))
     refine bodyPost_ret (qAK rfl _ _ gr 0 [.int .i64 0, .int .i64 0, .slice none 0 0] _ (.int .i64 ((10 : Nat) : Int)) rfl rfl (M.ok 3 _ rfl).2.1 Tryz.underlying63 rfl yD) rfl (Gives.intro (r := batR 0 0 10) (p := none) (cap := 0) (M.nil 3))
   ·have HE := Lib.hid he
    replace GE := GE he
    have hR : rdOps n0 x2 = (d, x3) := by rw [HR.out.1, GE]; simp
    have e0 := RF.out _ _ hR (by rw [fin_err he]; exact he)
    rw [fin_err he] at e0
    obtain ⟨fe, efe⟩ : ∃ f, f = x3.err := ⟨_, rfl⟩
    have F := fun w h => qEQ gi x3 w h HE.out
    rw [← efe] at e0 F HE
    have HF := HE.out
    have hz : ((fe : Int) == 0) = false := by simp; exact HF
    have hz' : ((fe : Int) != 0) = true := by simp; exact HF
    replace F := Lib.hid F
    subst e0
    clear efe hR HF he GE GK GP GD
    go_wp2_with ((first | (go_at_call 61; (refine (B.out _ _ (M.ok 1 _ rfl)).mono ?_; rintro e w1 ⟨rfl, U⟩; replace M := M.upd 1 rfl U; clear U; simp only [List.set_cons_zero, List.set_cons_succ] at M)) | ((with_reducible refine tAlloc (some 7) 181 ?_); refine wal M _ rfl rfl (opV (0, [], [])) yD ?_; clear M; intro gp w1 M) | (go_at_call 92; (refine (F.out _ (M.ok 2 _ rfl)).mono ?_; rintro e w1 ⟨rfl, hb⟩; replace M := M.call hb; clear hb)) | ((with_reducible refine tM rfl ?_); refine mS ?_; try (clear M; (first | intro g w1 M | intro w1 M); try simp only [setC] at M))) <;> (try conv => arg 5; simp only [apS, setC]))
    refine bodyPost_ret (qAK rfl _ _ gr 0 [.int .i64 0, .int .i64 0, .slice none 0 0] _ (.int .i64 ((fe : Nat) : Int)) rfl rfl (M.ok 3 _ rfl).2.1 Tryz.underlying63 rfl yD) rfl (Gives.intro (r := batR 0 0 fe) (p := none) (cap := 0) (M.nil 3))
end Go.Proofs.YtidadhbaomieiaaGreat

namespace Go
namespace TL
open Go.RowKit
theorem Mem.sel {F : List Nat} {w0 w : World} {L : List Chunk} (M : Mem F w0 w L) (is : List Nat) (L' : List Chunk) (hd : is.Nodup) (hl : L'.map some = is.map (L[·]?)) : Mem F w0 w L' := by
 have hn : L'.length = is.length := by simpa using congrArg List.length hl
 have key : ∀ (i : Nat) (c : Chunk), L'[i]? = some c → ∃ k, is[i]? = some k ∧ L[k]? = some c := fun i c h => by
  have h2 := congrArg (fun l : List (Option Chunk) => l[i]?) hl
  simp only [List.getElem?_map, h, Option.map_some] at h2
  cases hk : is[i]? with
  | none => rw [hk] at h2; cases h2
  | some k => rw [hk] at h2; simp only [Option.map_some, Option.some.injEq] at h2; exact ⟨k, rfl, h2.symm⟩
 refine M.pick L' (fun i => is.getD i 0) (fun i j hi hj h => ?_) fun i c h => ?_
 ·have hi' : i < is.length := by omega
  have hj' : j < is.length := by omega
  simp only [List.getD_eq_getElem?_getD, List.getElem?_eq_getElem hi', List.getElem?_eq_getElem hj', Option.getD_some] at h
  exact (List.getElem_inj hd).1 h
 ·obtain ⟨k, hk, hc⟩ := key i c h
  simp only [List.getD_eq_getElem?_getD, hk, Option.getD_some]
  exact hc
theorem qCw {w : World} {size n : Nat} {v : Value} {xs : List Value} (h : (Chunk.sl size v n xs).ok w) : ∃ p cap, v = .slice p n cap := by
 obtain ⟨p, cap, e, _⟩ := (Own.sees h).form; exact ⟨p, cap, e⟩
end TL
end Go
namespace Go.Proofs.YtidadhbaomieiaaGreat
open Go.RowKit Go.TL
theorem getBatch_c (L : Lm) (ov pv : Value) (gm gi : Nat) (x : InS) (F : List Nat) (w : World) (hL : L.fit) (hf : x.fit)
  (M : Mem F w w [.row gi (inV x), .row gm (msgC (L.ms ov pv)), .sl 3 ov L.ops.length (L.ops.flatMap opV), .sl 2 pv L.prs.length (L.prs.flatMap prV)]) :
  Calls Tryz.prog 134 #[.pointer (some ⟨gi, 0, none⟩), .pointer (some ⟨gm, 0, none⟩)] w fun e w' => e = .returned (.int .i64 (Fld.bat.get L x).1) ∧ ∃ ov', Mem F w w' [.row gi (inV (Fld.bat.get L x).2.2), .row gm (msgC ((Fld.bat.get L x).2.1.ms ov' pv)), .sl 3 ov' (Fld.bat.get L x).2.1.ops.length ((Fld.bat.get L x).2.1.ops.flatMap opV), .sl 2 pv (Fld.bat.get L x).2.1.prs.length ((Fld.bat.get L x).2.1.prs.flatMap prV)] := by
 obtain ⟨op, oc, rfl⟩ := qCw (M.ok 2 _ rfl)
 obtain ⟨pp, pc, rfl⟩ := qCw (M.ok 3 _ rfl)
 have T := fun g w h => qCY g x w h hf 512 512 rfl yF
 have hl := InS.text_len x 512
 have hfit := Lm.ms_fit hL (ov := .slice op L.ops.length oc) (pv := .slice pp L.prs.length pc) rfl rfl
 simp only [Fld.get]
 obtain ⟨⟨s, y⟩, ey⟩ : ∃ R, R = x.text 512 := ⟨_, rfl⟩
 rw [← ey] at T hl ⊢
 simp only at T hl ⊢
 clear ey
 replace T := Lib.hid T
 replace hL := Lib.hid hL
 by_cases hy : y.err = 0
 ·rw [if_pos hy]
  have Y := fun w => bRead_c s w yF
  obtain ⟨⟨⟨i, e, d⟩, r⟩, er⟩ : ∃ R, R = readB s := ⟨_, rfl⟩
  rw [← er] at Y ⊢
  simp only at Y ⊢
  clear er
  replace Y := Lib.hid Y
  have HY := Lib.hid hy
  clear hy
  go_enter Tryz.func134, Tryz.ntmps134
  go_wp2_with ((first | (go_at_call 60; (refine (T.out gi _ (M.ok 0 _ rfl)).mono ?_; rintro e w1 ⟨rfl, U⟩; replace M := M.upd 0 rfl U; clear U; simp only [setC] at M)) | (go_at_call 92; (refine (qBj gi y _ (M.ok 0 _ rfl) HY.out).mono ?_; rintro e w1 ⟨rfl, rfl⟩)) | (go_at_call 169; (refine (Y.out _).mono ?_; rintro e w1 ⟨q, c, rfl, N⟩; simp only [batR]; replace M := M.join N; clear N; simp only [List.cons_append, List.nil_append] at M)) | ((with_reducible refine tAlloc (some 8) 63 ?_); refine wal M _ rfl rfl ([.int .i64 0, .int .i64 0, .slice none 0 0]) yD ?_; clear M; intro gb w1 M) | ((with_reducible refine tStore ?_); refine w_at2 _ _ _ rfl yI yE ?_; intro hx hy; (refine qBW M 3 _ _ _ rfl rfl hx rfl hy yB rfl ?_); clear hx hy M; intro w1 M; (try simp only [setC] at M)) | ((with_reducible refine tM rfl ?_); refine mS ?_; try (clear M; (first | intro g w1 M | intro w1 M); try simp only [setC] at M))) <;> (try conv => arg 5; simp only [apS, setC]))
  go_ret
  exact ⟨rfl, _, M.sel [2, 3, 1, 5] _ yN rfl⟩
 ·rw [if_neg hy]
  simp only
  have HY := Lib.hid hy
  obtain ⟨r, er⟩ : ∃ r, r = y.err := ⟨_, rfl⟩
  rw [← er] at hy
  have hz : ((r : Int) == 0) = false := by simp; exact hy
  have hz' : ((r : Int) != 0) = true := by simp; exact hy
  rw [← er]
  have N := fun w h => qEQ gi y w h HY.out
  rw [← er] at N
  replace N := Lib.hid N
  clear hy er
  go_enter Tryz.func134, Tryz.ntmps134
  go_wp2_with ((first | (go_at_call 60; (refine (T.out gi _ (M.ok 0 _ rfl)).mono ?_; rintro e w1 ⟨rfl, U⟩; replace M := M.upd 0 rfl U; clear U; simp only [setC] at M)) | (go_at_call 92; (refine (N.out _ (M.ok 0 _ rfl)).mono ?_; rintro e w1 ⟨rfl, hb⟩; replace M := M.call hb; clear hb)) | ((with_reducible refine tM rfl ?_); refine mS ?_; try (clear M; (first | intro g w1 M | intro w1 M); try simp only [setC] at M))) <;> (try conv => arg 5; simp only [apS, setC]))
  go_ret
  exact ⟨rfl, _, M⟩
theorem pairT18 : SliceT Tryz.prog 65 120 2 32 := ⟨Tryz.underlying65, ⟨_, _, rfl, rfl, rfl, rfl, rfl⟩, by omega⟩
theorem getPairs_c (L : Lm) (ov pv : Value) (gm gi : Nat) (x : InS) (F : List Nat) (w : World) (hL : L.fit) (hf : x.fit) (hp : L.prs.length ≤ 1000)
  (M : Mem F w w [.row gi (inV x), .row gm (msgC (L.ms ov pv)), .sl 3 ov L.ops.length (L.ops.flatMap opV), .sl 2 pv L.prs.length (L.prs.flatMap prV)]) :
  Calls Tryz.prog 136 #[.pointer (some ⟨gi, 0, none⟩), .pointer (some ⟨gm, 0, none⟩)] w fun e w' => e = .returned (.int .i64 0) ∧ ∃ pv', Mem F w w' [.row gi (inV (Fld.prs.get L x).2.2), .row gm (msgC ((Fld.prs.get L x).2.1.ms ov pv')), .sl 3 ov (Fld.prs.get L x).2.1.ops.length ((Fld.prs.get L x).2.1.ops.flatMap opV), .sl 2 pv' (Fld.prs.get L x).2.1.prs.length ((Fld.prs.get L x).2.1.prs.flatMap prV)] := by
 obtain ⟨op, oc, rfl⟩ := qCw (M.ok 2 _ rfl)
 obtain ⟨pp, pc, rfl⟩ := qCw (M.ok 3 _ rfl)
 have T := fun g w h => qFy g x w h hf 48 48 rfl yF
 have hf0 := InS.most_fit hf 48
 have hn := InS.most_le x 48
 simp only [Fld.get]
 obtain ⟨⟨n, y⟩, ey⟩ : ∃ R, R = x.most 48 := ⟨_, rfl⟩
 rw [← ey] at T hf0 hn ⊢
 simp only at T hf0 hn ⊢
 clear ey
 replace T := Lib.hid T
 have sn := qDM y
 have s0 := prS_zero y
 have sl := prS_len y
 have sf := prS_fit hf0
 obtain ⟨S, eS⟩ : ∃ S, S = prS y := ⟨_, rfl⟩
 rw [← eS] at sn s0 sl sf ⊢
 clear eS
 replace sn := Lib.hid sn
 replace sf := Lib.hid sf
 replace sl := Lib.hid sl
 have hx2 : ∀ (z : InS), z.fit → (z.text 33).2.fit ∧ ((z.text 33).2.text 32).2.fit := fun z h => ⟨InS.text_fit h 33, InS.text_fit (InS.text_fit h 33) 32⟩
 have HPV : ∀ v : Value, v.oneCell' = true → (msgC (L.ms (.slice op L.ops.length oc) v))[106]? = some v := fun v hv => qBo (Lm.ms_fit hL (ov := .slice op L.ops.length oc) rfl hv) .pv
 have HFT : ∀ v : Value, v.oneCell' = true → (L.ms (.slice op L.ops.length oc) v).fit := fun v hv => Lm.ms_fit hL rfl hv
 replace HPV := Lib.hid HPV
 replace HFT := Lib.hid HFT
 replace hL := Lib.hid hL
 go_enter Tryz.func136, Tryz.ntmps136
 go_wp2_with ((first | (go_at_call 58; (refine (T.out gi _ (M.ok 0 _ rfl)).mono ?_; rintro e w1 ⟨rfl, U⟩; replace M := M.upd 0 rfl U; clear U; simp only [setC] at M)) | ((with_reducible refine tM rfl ?_); refine mS ?_; try (clear M; (first | intro g w1 M | intro w1 M); try simp only [setC] at M))) <;> (try conv => arg 5; simp only [apS, setC]))
 go_loopw [7] (fun iv wr => ∃ (j : Nat) (q : Option Addr) (c : Nat), j ≤ n ∧ iv = .int .i64 j ∧ Mem F w wr [.row gi (inV (S j).2), .row gm (msgC (L.ms (.slice op L.ops.length oc) (.slice q (L.prs.length + j) c))), .sl 3 (.slice op L.ops.length oc) L.ops.length (L.ops.flatMap opV), .sl 2 (.slice q (L.prs.length + j) c) (L.prs.length + j) ((L.prs ++ (S j).1).flatMap prV)]) (fun iv _ => n - (intOf iv).toNat)
 case atStart => exact ⟨0, pp, pc, by omega, rfl, by rw [s0]; simpa using M⟩
 case round =>
  clear M
  obtain ⟨j, q, c, hj, rfl, M⟩ := hrel
  by_cases hlt : j < n
  ·have SN := sn.out j
   have SL := sl.out j
   have hfy := sf.out j
   have hkt2 : decide ((j : Int) < (n : Int)) = true := decide_eq_true yF
   obtain ⟨z, ez⟩ : ∃ z, z = (S j).2 := ⟨_, rfl⟩
   obtain ⟨d, ed⟩ : ∃ d, d = (S j).1 := ⟨_, rfl⟩
   rw [← ez] at M SN hfy
   rw [← ed] at M SN SL
   obtain ⟨hfz, _⟩ := hx2 z hfy
   have A := fun g w h => qCY g z w h hfy 33 33 rfl yF
   have B := fun g w h => qCY g (z.text 33).2 w h hfz 32 32 rfl yF
   have HQ := HPV.out (.slice q (L.prs.length + j) c) rfl
   have hfit := HFT.out (.slice q (L.prs.length + j) c) rfl
   replace HQ := Lib.hid HQ
   obtain ⟨⟨a, z1⟩, e1⟩ : ∃ R, R = z.text 33 := ⟨_, rfl⟩
   rw [← e1] at A B SN
   simp only at A B SN
   obtain ⟨⟨b, z2⟩, e2⟩ : ∃ R, R = z1.text 32 := ⟨_, rfl⟩
   rw [← e2] at B SN
   simp only at B SN
   replace A := Lib.hid A
   replace B := Lib.hid B
   replace SN := Lib.hid fun _ : Unit => SN
   clear e1 e2 ez ed
   go_wp2_with ((first | ((with_reducible show Code.wp _ (Code.region 3 _ _) _ _ _); (have MR := M; refine qAB [(0, false), (1, false), (2, false), (3, false), (5, false), (7, false), (4, false), (6, true), (8, true), (9, true), (10, true), (11, true), (12, true), (13, false), (14, true)] [(10, .ptr)] [(4, _)] (IxOk MR [1]) 14 yD yD rfl yD (qAa (qCv MR 1 106 rfl rfl yN yB HQ.out) qAN) (qAJ MR _) ?_; replace M := M.drew; simp only [planC, opAt, gE])) | (go_at_call 60; ((first | (with_reducible refine (A.out gi _ (M.ok 0 _ rfl)).mono ?_) | (with_reducible refine (B.out gi _ (M.ok 0 _ rfl)).mono ?_)); rintro e w1 ⟨rfl, U⟩; replace M := M.upd 0 rfl U; clear U; simp only [setC] at M)) | ((with_reducible refine tLoad ?_); refine w_at _ _ rfl yI ?_; intro hx; refine qAM M 1 _ _ rfl rfl hx rfl yB HQ.out ?_; clear hx) | ((with_reducible show wpList _ _ _ (Oper.mk _ (Op.buildSlice _ 1 _) _ _ _ _ :: _) _ _); (refine qAV M pairT18 yN _ rfl rfl yE _ rfl rfl ?_; clear M; intro g w1 M)) | ((with_reducible refine tApp ?_); (refine qAg M 3 pairT18 _ _ rfl rfl rfl rfl rfl rfl yJ yN yS yW ?_; clear M; intro q cap w1 M; (try simp only [setC] at M))) | ((with_reducible refine tStore ?_); refine w_at2 _ _ _ rfl yI yE ?_; intro hx hy; (refine qCN M 1 _ _ _ rfl rfl hx rfl hy rfl rfl yB hfit ?_); clear hx hy M; intro w1 M; (try simp only [setC] at M)) | ((with_reducible refine tM rfl ?_); refine mS ?_; try (clear M; (first | intro g w1 M | intro w1 M); try simp only [setC] at M)) | ((with_reducible first | show Seg _ _ _ _ | show OnlyN _ _ _ _ _); refine rA ?_)) <;> (try conv => arg 5; simp only [apS, setC]))
   go_roundw
   case rel => exact ⟨j + 1, _, _, by omega, by go_num, by
    rw [SN.out ()]
    simp only
    rw [← List.append_assoc, List.flatMap_append (xs := L.prs ++ d)]
    exact M⟩
   case measure => simp [intOf]; omega
  ·obtain rfl : j = n := by omega
   go_wp2_with fail
   go_ret
   refine ⟨rfl, .slice q (L.prs.length + j) c, ?_⟩
   rw [List.length_append, sl.out]
   exact M
end Go.Proofs.YtidadhbaomieiaaGreat
