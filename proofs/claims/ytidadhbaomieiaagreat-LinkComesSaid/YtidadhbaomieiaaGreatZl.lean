/- Texts of this seat, put together: Ref05O, Ref01L, Ref05L, Ref01, Ref01M, Ref05B, Ref05. Each begins with a remark that says what is proved in it, and under which conditions. -/
import Derived.Test.YtidadhbaomieiaaGreatY
import Derived.IntWalk
import Derived.OwnWalk
import Derived.Test.YtidadhbaomieiaaGreatZd
import Derived.Test.YtidadhbaomieiaaGreatZe
import Derived.Test.YtidadhbaomieiaaGreatZi
import Derived.Test.YtidadhbaomieiaaGreatZj
import Derived.Test.YtidadhbaomieiaaGreatZk
set_option maxRecDepth 100000
set_option maxHeartbeats 16000000
namespace Go.Proofs.YtidadhbaomieiaaGreat
open Go.RowKit Go.TL
theorem refOpen_mac (key : List UInt8) (k : Nat) (b : UInt32) (n : UInt64) (d t about : List UInt8) (w : World) (hk : key.length = 32) (ht : t.length = 32) (h : rightE k d = true) (ha : about.length ≤ 100000) (hne : t ≠ tagL key k b n about d) :
  Calls Tryz.prog 45 #[.agg (bs key).toArray, .agg (envC k b n d t).toArray, .string (mkS about)] w fun e w' => e = .returned (.tuple #[.string (mkS []), .int .i64 13]) ∧ Below w.heap.size w w' := by
 have M := Mem.start [] w
 have R := fun w => qGJ k b n d t w
 obtain ⟨_, hkk, hdd⟩ := qDx h
 have TC := fun w => qGI key k b n d t about w hk ht yF ha yF
 have hr : (tagL key k b n about d).length = 32 := qAq _ _
 obtain ⟨u, eu⟩ : ∃ u, u = tagL key k b n about d := ⟨_, rfl⟩
 rw [← eu] at TC hr hne
 have hu : (u == t) = false := beq_eq_false_iff_ne.2 (Ne.symm hne)
 rw [h] at R
 replace R := Lib.hid R
 replace TC := Lib.hid TC
 clear h eu hne
 go_enter Tryz.func45, Tryz.ntmps45
 go_wp2_with ((first | ((with_reducible refine tBox (some 3) ?_); refine w_box M _ _ rfl rfl _ rfl (bs key) rfl ?_; clear M; intro gk w1 M) | ((with_reducible refine tBox (some 4) ?_); refine w_box M _ _ rfl rfl _ rfl (envC k b n d t) rfl ?_; clear M; intro gx w1 M) | (go_at_call 70; (refine (R.out _).mono ?_; rintro e w1 ⟨rfl, hb⟩; replace M := M.call hb; clear hb)) | (go_at_call 69; (refine (TC.out _).mono ?_; rintro e w1 ⟨rfl, hb⟩; replace M := M.call hb; clear hb)) | ((with_reducible show Code.wp _ (Code.region 3 _ _) _ _ _); (have MR := M; refine qAB [(2, false), (4, false), (0, false), (1, false), (5, false), (3, true), (6, false)] [(14, .nums), (16, .nums)] [(0, _), (1, _), (5, _)] (IxOk MR [1, 0]) 7 yD yD rfl yD (lowA MR 1 0 (qAa (qCd MR 0 rfl rfl yN yB yB yA1) (qAa (qEu MR 0 rfl rfl yN yB yB yA1) qAN))) (qAJ MR _) ?_; replace M := M.drew; simp only [planC, opAt, gE])) | ((with_reducible refine tLoad ?_); refine w_at _ _ rfl yI ?_; intro hx; (first | refine qAu M _ _ _ rfl yL hx rfl yB yB yC ?_ | refine qAj M _ _ _ rfl yL hx rfl yB yB yC ?_); clear hx) | ((with_reducible refine tStore ?_); refine w_at2 _ _ _ rfl yE yE ?_; intro hx hy; (first | refine qAL M _ _ _ _ rfl yL hx rfl hy rfl yB yC yC ?_ | refine qAL (k := 0) (b := 0) (n := 0) (d := []) (tg := zeroT) M _ _ _ _ rfl yL hx rfl hy rfl yB qAO yC ?_ | refine qAL (tg := zeroT) M _ _ _ _ rfl yL hx rfl hy rfl yB qAO yC ?_ | refine qAd M _ _ _ _ rfl yL hx rfl hy yB yC yC ?_ | refine qAU M _ _ _ _ rfl yL hx rfl hy yB ?_ | refine qAe M _ _ _ _ rfl yL hx rfl hy yB ?_); clear hx hy M; intro w1 M; (try simp only [setC] at M)) | ((with_reducible refine tConv _ 70 9 ?_); (first | refine qAT M _ _ _ _ _ rfl rfl yL rfl yC Tryz.underlying70 Tryz.underlying5 Tryz.underlying9 ?_)) | ((with_reducible refine tM rfl ?_); refine mB ?_; try (clear M; (first | intro g w1 M | intro w1 M); try simp only [setC] at M)) | ((with_reducible first | show Seg _ _ _ _ | show OnlyN _ _ _ _ _); refine rA ?_) | ((with_reducible refine tGuard ?_); refine gdC ?_ ?_ <;> (intro hgd; rw [hgd]; try (exfalso; simp at hgd; omega)))) <;> (try conv => arg 5; simp only [Act.put, List.setIfInBounds_toArray, setC]))
 go_ret2
 exact ⟨rfl, M.below⟩
theorem refOpen_ok (key : List UInt8) (k : Nat) (b : UInt32) (n : UInt64) (d about : List UInt8) (w : World) (hk : key.length = 32) (h : rightE k d = true) (ha : about.length ≤ 100000) :
  Calls Tryz.prog 45 #[.agg (bs key).toArray, .agg (envC k b n d (tagL key k b n about d)).toArray, .string (mkS about)] w fun e w' => e = .returned (.tuple #[.string (mkS (sealL key b n d)), .int .i64 0]) ∧ Below w.heap.size w w' := by
 have M := Mem.start [] w
 obtain ⟨_, hkk, hdd⟩ := qDx h
 have ht : (tagL key k b n about d).length = 32 := qAq _ _
 have TC := fun w => qGI key k b n d (tagL key k b n about d) about w hk ht yF ha yF
 obtain ⟨t, et⟩ : ∃ t, t = tagL key k b n about d := ⟨_, rfl⟩
 rw [← et] at TC ht
 rw [← et]
 have R := fun w => qGJ k b n d t w
 have hu : (t == t) = true := beq_self_eq_true t
 rw [h] at R
 have SC := fun w => refStream_c key k b n d t d w hk ht yF
 obtain ⟨s, es⟩ : ∃ s, s = sealL key b n d := ⟨_, rfl⟩
 rw [← es] at SC
 rw [← es]
 replace R := Lib.hid R
 replace TC := Lib.hid TC
 replace SC := Lib.hid SC
 clear h et es
 go_enter Tryz.func45, Tryz.ntmps45
 go_wp2_with ((first | ((with_reducible refine tBox (some 3) ?_); refine w_box M _ _ rfl rfl _ rfl (bs key) rfl ?_; clear M; intro gk w1 M) | ((with_reducible refine tBox (some 4) ?_); refine w_box M _ _ rfl rfl _ rfl (envC k b n d t) rfl ?_; clear M; intro gx w1 M) | (go_at_call 70; (refine (R.out _).mono ?_; rintro e w1 ⟨rfl, hb⟩; replace M := M.call hb; clear hb)) | (go_at_call 69; (refine (TC.out _).mono ?_; rintro e w1 ⟨rfl, hb⟩; replace M := M.call hb; clear hb)) | (go_at_call 68; (refine (SC.out _).mono ?_; rintro e w1 ⟨rfl, hb⟩; replace M := M.call hb; clear hb)) | ((with_reducible show Code.wp _ (Code.region 3 _ _) _ _ _); (have MR := M; refine qAB [(2, false), (4, false), (0, false), (1, false), (5, false), (3, true), (6, false)] [(14, .nums), (16, .nums)] [(0, _), (1, _), (5, _)] (IxOk MR [1, 0]) 7 yD yD rfl yD (lowA MR 1 0 (qAa (qCd MR 0 rfl rfl yN yB yB yA1) (qAa (qEu MR 0 rfl rfl yN yB yB yA1) qAN))) (qAJ MR _) ?_; replace M := M.drew; simp only [planC, opAt, gE])) | ((with_reducible refine tLoad ?_); refine w_at _ _ rfl yI ?_; intro hx; (first | refine qAu M _ _ _ rfl yL hx rfl yB yB yC ?_ | refine qAj M _ _ _ rfl yL hx rfl yB yB yC ?_); clear hx) | ((with_reducible refine tStore ?_); refine w_at2 _ _ _ rfl yE yE ?_; intro hx hy; (first | refine qAL M _ _ _ _ rfl yL hx rfl hy rfl yB yC yC ?_ | refine qAL (k := 0) (b := 0) (n := 0) (d := []) (tg := zeroT) M _ _ _ _ rfl yL hx rfl hy rfl yB qAO yC ?_ | refine qAL (tg := zeroT) M _ _ _ _ rfl yL hx rfl hy rfl yB qAO yC ?_ | refine qAd M _ _ _ _ rfl yL hx rfl hy yB yC yC ?_ | refine qAU M _ _ _ _ rfl yL hx rfl hy yB ?_ | refine qAe M _ _ _ _ rfl yL hx rfl hy yB ?_); clear hx hy M; intro w1 M; (try simp only [setC] at M)) | ((with_reducible refine tConv _ 70 9 ?_); (first | refine qAT M _ _ _ _ _ rfl rfl yL rfl yC Tryz.underlying70 Tryz.underlying5 Tryz.underlying9 ?_)) | ((with_reducible refine tM rfl ?_); refine mB ?_; try (clear M; (first | intro g w1 M | intro w1 M); try simp only [setC] at M)) | ((with_reducible first | show Seg _ _ _ _ | show OnlyN _ _ _ _ _); refine rA ?_) | ((with_reducible refine tGuard ?_); refine gdC ?_ ?_ <;> (intro hgd; rw [hgd]; try (exfalso; simp at hgd; omega)))) <;> (try conv => arg 5; simp only [Act.put, List.setIfInBounds_toArray, setC]))
 go_ret2
 exact ⟨rfl, M.below⟩
end Go.Proofs.YtidadhbaomieiaaGreat

namespace Go
namespace TL
theorem readN_value (s : List UInt8) (h : lead s ≤ 9) (h1 : lead s < s.length) :
  readN s maxU = if numL (numV (s.take (lead s + 1)) % 18446744073709551616) = s.take (lead s + 1) then (numV (s.take (lead s + 1)) % 18446744073709551616, lead s + 1, 0) else (0, 0, 8) := by
 obtain ⟨v, ev⟩ : ∃ v, v = numV (s.take (lead s + 1)) := ⟨_, rfl⟩
 have hv : v % 18446744073709551616 < 18446744073709551616 := Nat.mod_lt _ yF
 rw [← ev]
 by_cases e : numL (v % 18446744073709551616) = s.take (lead s + 1)
 ·rw [if_pos e]
  have hs : s = numL (v % 18446744073709551616) ++ s.drop (lead s + 1) := by rw [e, List.take_append_drop]
  have hl : (numL (v % 18446744073709551616)).length = lead s + 1 := by rw [e, List.length_take]; omega
  have hr := read_num (v % 18446744073709551616) maxU (s.drop (lead s + 1)) hv
  rw [← hs, if_neg (by rw [qDj]; omega), hl] at hr
  exact hr
 ·rw [if_neg e]
  rcases qCK s maxU with h0 | h7 | h8
  ·exfalso
   obtain ⟨⟨n, k, er⟩, eR⟩ : ∃ R, R = readN s maxU := ⟨_, rfl⟩
   rw [← eR] at h0
   simp only at h0
   subst h0
   obtain ⟨r1, r2, _, r4⟩ := qFX eR.symm
   have hl := qEH n (s.drop k)
   rw [← r1] at hl
   have ht : s.take (lead s + 1) = numL n := by
    rw [hl]
    have := List.take_left' (l₁ := numL n) (l₂ := s.drop k) (i := (numL n).length) rfl
    rwa [← r1] at this
   have hvn : v = n := by rw [ev, ht, numV_numL]
   apply e
   rw [ht, hvn, Nat.mod_eq_of_lt r4]
  ·exfalso
   by_cases c : lead s = 9 ∧ 1 < (s.getD 9 0).toNat
   ·rw [qCz s c.1 h1 c.2] at h7; cases h7
   ·have hz := qGL s h h1 (fun e9 => by
     have : ¬ 1 < (s.getD 9 0).toNat := fun hh => c ⟨e9, hh⟩
     omega)
    rw [h7] at hz
    have hz' := congrArg (fun x => x.2.2) hz
    split at hz' <;> simp at hz'
  ·exact h8
def OnS (s : List UInt8) (x : InS) : Prop := x.rest = s.drop x.read ∧ x.read ≤ s.length
theorem OnS.start (s : List UInt8) : OnS s ⟨s, 0, 0⟩ := ⟨rfl, Nat.zero_le _⟩
theorem OnS.len {s : List UInt8} {x : InS} (h : OnS s x) : x.rest.length = s.length - x.read := by rw [h.1, List.length_drop]
theorem OnS.take {s : List UInt8} {x : InS} (h : OnS s x) {k e : Nat} (hk : k ≤ x.rest.length) : OnS s (x.take k e) := by
 have hl := h.len
 unfold InS.take
 split
 ·exact ⟨by simp only; rw [h.1, List.drop_drop], by simp only; have := h.2; omega⟩
 ·exact h
theorem OnS.most {s : List UInt8} {x : InS} (h : OnS s x) (m : Nat) : OnS s (x.most m).2 := by
 unfold InS.most
 split
 ·exact h.take (qEA x.rest m).1
 ·exact h
theorem OnS.text {s : List UInt8} {x : InS} (h : OnS s x) (m : Nat) : OnS s (x.text m).2 := by
 unfold InS.text
 split
 ·split
  ·split
   ·have := (qEA x.rest m).1
    exact h.take yF
   ·exact h.take (Nat.zero_le _)
  ·exact h.take (Nat.zero_le _)
 ·exact h
theorem OnS.byte {s : List UInt8} {x : InS} (h : OnS s x) : OnS s x.byte.2 := by
 unfold InS.byte
 split
 ·split
  ·exact h.take (Nat.zero_le _)
  ·rename_i b l e
   exact h.take (by rw [e]; simp)
 ·exact h
theorem OnS.fit {s : List UInt8} {x : InS} (h : OnS s x) (hs : s.length ≤ 1000000000) : x.fit := by
 have := h.len
 have := h.2
 unfold InS.fit; omega
theorem most_max (x : InS) : x.err = 0 → x.most maxU = ((readN x.rest maxU).1, x.take (readN x.rest maxU).2.1 (readN x.rest maxU).2.2) := fun h => by unfold InS.most; rw [if_pos h]
theorem most_of (x : InS) (m : Nat) (h : x.err = 0) : x.most m = if (x.most maxU).2.err = 0 then (if m < (x.most maxU).1 then (0, ⟨x.rest, x.read, 8⟩) else x.most maxU) else (0, (x.most maxU).2) := by
 obtain ⟨rest, read, err⟩ := x
 simp only at h
 subst h
 have hm := readN_max rest m
 have he := qCK rest maxU
 unfold InS.most InS.take
 simp only [if_true]
 rw [hm]
 obtain ⟨⟨n, k, er⟩, eR⟩ : ∃ R, R = readN rest maxU := ⟨_, rfl⟩
 rw [← eR] at he ⊢
 simp only at he ⊢
 by_cases e0 : er = 0
 ·subst e0
  simp only [if_true, true_and]
  by_cases hlt : m < n
  ·rw [if_pos hlt, if_pos hlt]; rfl
  ·rw [if_neg hlt, if_neg hlt]; simp
 ·simp only [if_neg e0, if_neg (fun hh : er = 0 ∧ m < n => e0 hh.1)]
  rcases he with h0 | h7 | h8
  ·exact absurd h0 e0
  ·cases h7; simp
  ·cases h8; simp
theorem text_of (x : InS) (m : Nat) (h : x.err = 0) : x.text m = if (x.most m).2.err = 0 then (if (x.most m).1 ≤ (x.most m).2.rest.length then ((x.most m).2.rest.take (x.most m).1, ⟨(x.most m).2.rest.drop (x.most m).1, (x.most m).2.read + (x.most m).1, 0⟩) else ([], ⟨x.rest, x.read, 7⟩)) else ([], (x.most m).2) := by
 obtain ⟨rest, read, err⟩ := x
 simp only at h
 subst h
 unfold InS.text InS.most InS.take
 simp only [if_true]
 obtain ⟨⟨n, k, er⟩, eR⟩ : ∃ R, R = readN rest m := ⟨_, rfl⟩
 rw [← eR]
 simp only
 by_cases e0 : er = 0
 ·subst e0
  simp only [if_true, List.length_drop, List.drop_drop]
  by_cases hlt : n ≤ rest.length - k
  ·rw [if_pos hlt, if_pos hlt, Nat.add_assoc]
  ·rw [if_neg hlt, if_neg hlt]; simp
 ·simp only [if_neg e0]
end TL
end Go

namespace Go
namespace TL
theorem qFJ (rest : List UInt8) (k : Nat) : ∀ n, n ≤ rest.length → (tagS ⟨rest, k, 0⟩ n).1 = ⟨rest.drop n, k + n, 0⟩
 | 0, _ => rfl
 | n + 1, h => by
  have hd : rest.drop n = rest[n] :: rest.drop (n + 1) := List.drop_eq_getElem_cons yF
  rw [qBl, qFJ rest k n yF, hd, qFu]; rfl
theorem tagS_stay (x : InS) (n : Nat) (h : (tagS x n).1.err ≠ 0) : ∀ j, (tagS x (n + j)).1 = (tagS x n).1
 | 0 => rfl
 | j + 1 => by
  have ih := tagS_stay x n h j
  rw [show n + (j + 1) = (n + j) + 1 by omega, qBl, ih, byte_bad h]
theorem qGB (rest : List UInt8) (k : Nat) (h : rest.length < 32) : (tagS ⟨rest, k, 0⟩ 32).1.fin = 7 := by
 have e := qFJ rest k rest.length (Nat.le_refl _)
 rw [List.drop_eq_nil_of_le (Nat.le_refl _)] at e
 have e1 : (tagS ⟨rest, k, 0⟩ (rest.length + 1)).1 = ⟨[], k + rest.length, 7⟩ := by rw [qBl, e, byte_nil]
 have e2 := tagS_stay ⟨rest, k, 0⟩ (rest.length + 1) (by rw [e1]; show (7 : Nat) ≠ 0; decide) (32 - (rest.length + 1))
 rw [show rest.length + 1 + (32 - (rest.length + 1)) = 32 by omega, e1] at e2
 rw [e2]; rfl
theorem tagS_fin_long (rest : List UInt8) (k : Nat) (h : 32 < rest.length) : (tagS ⟨rest, k, 0⟩ 32).1.fin = 8 := by
 rw [qFJ rest k 32 yF]
 unfold InS.fin
 rw [if_pos rfl, if_neg (by rw [List.length_drop]; omega)]
theorem tagS_fin_ok (rest : List UInt8) (k : Nat) (h : rest.length = 32) : (tagS ⟨rest, k, 0⟩ 32).1.fin = 0 ∧ (tagS ⟨rest, k, 0⟩ 32).2 = rest := by
 have e := qFK rest [] k h 32 (Nat.le_refl _)
 rw [List.append_nil] at e
 have hl := qCc ⟨rest, k, 0⟩ 32
 rw [List.take_of_length_le yF, List.take_of_length_le yF] at e
 refine ⟨?_, e.2⟩
 rw [e.1, List.drop_eq_nil_of_le yF]; rfl
def layT (t : List UInt8) : Nat → List UInt8
 | 0 => List.replicate 32 0
 | j + 1 => (layT t j).set j (t.getD j 0)
theorem qFj (t : List UInt8) (j : Nat) : layT t (j + 1) = (layT t j).set j (t.getD j 0) := rfl
theorem qEz (t : List UInt8) : ∀ j, (layT t j).length = 32
 | 0 => List.length_replicate
 | j + 1 => by rw [qFj, List.length_set]; exact qEz t j
theorem layT_take (t : List UInt8) (ht : t.length = 32) : ∀ j, j ≤ 32 → (layT t j).take j = t.take j
 | 0, _ => rfl
 | j + 1, h => by
  have hl := qEz t j
  rw [qFj, qCe _ _ _ yF, layT_take t ht j yF, List.take_succ_eq_append_getElem yF, List.getD_eq_getElem?_getD, List.getElem?_eq_getElem yF]; rfl
theorem take_both {l t : List UInt8} {n : Nat} (h : l.take n = t.take n) (hl : l.length ≤ n) (ht : t.length ≤ n) : l = t := by
 rwa [List.take_of_length_le hl, List.take_of_length_le ht] at h
theorem layT_all (t : List UInt8) (ht : t.length = 32) : layT t 32 = t := take_both (layT_take t ht 32 (Nat.le_refl _)) (Nat.le_of_eq (qEz t 32)) (Nat.le_of_eq ht)
theorem readS_bad {s : List UInt8} {N : Nums} (h : numsS s = N) (he : N.x.err ≠ 0) : readS s = (zeroE, N.x.err) := by
 unfold readS
 simp only [h]
 rw [tagS_bad he, fin_err he, if_neg he]
theorem readS_short {s : List UInt8} {N : Nums} (h : numsS s = N) (he : N.x.err = 0) (hl : N.x.rest.length < 32) : readS s = (zeroE, 7) := by
 unfold readS
 simp only [h]
 obtain ⟨a, b, c, d, ⟨rest, k, er⟩⟩ := N
 simp only at he hl
 subst he
 rw [qGB rest k hl, if_neg yN]
theorem readS_long {s : List UInt8} {N : Nums} (h : numsS s = N) (he : N.x.err = 0) (hl : 32 < N.x.rest.length) : readS s = (zeroE, 8) := by
 unfold readS
 simp only [h]
 obtain ⟨a, b, c, d, ⟨rest, k, er⟩⟩ := N
 simp only at he hl
 subst he
 rw [tagS_fin_long rest k hl, if_neg yN]
theorem readS_good {s : List UInt8} {N : Nums} (h : numsS s = N) (he : N.x.err = 0) (hl : N.x.rest.length = 32) : readS s = (⟨N.k, UInt32.ofNat N.b, UInt64.ofNat N.n, N.d, N.x.rest⟩, 0) := by
 unfold readS
 simp only [h]
 obtain ⟨a, b, c, d, ⟨rest, k, er⟩⟩ := N
 simp only at he hl
 subst he
 obtain ⟨e1, e2⟩ := tagS_fin_ok rest k hl
 rw [e1, if_pos rfl, e2]
end TL
end Go

namespace Go
namespace TL
open Go.RowKit
def irB (s : List UInt8) (x : InS) : List Value := [.string (mkS s), .int .i64 x.read, .int .i64 x.err]
theorem numV_step (s : List UInt8) (j : Nat) (h : j < s.length) : 128 * UInt64.ofNat (numV (s.drop (j + 1))) + w64 ((I8 (bt s j)).tmod 128) = UInt64.ofNat (numV (s.drop j)) := by
 rw [qFc s j h, I8_eq, show bt s j = s.getD j 0 from rfl, show (((s.getD j 0).toNat : Int).tmod 128) = (((s.getD j 0).toNat % 128 : Nat) : Int) from rfl, qBM]
 apply UInt64.toNat_inj.1
 simp
 omega
end TL
end Go
namespace Go.Proofs.YtidadhbaomieiaaGreat
open Go.RowKit Go.TL
theorem Value01_c (t : List UInt8) (w : World) (ht : t.length ≤ 100) :
  Calls Tryz.prog 155 #[.string (mkS t)] w fun e w' => e = .returned (.tuple #[.int .u64 (I64 (UInt64.ofNat (numV t))), .bool (numL (numV t % 18446744073709551616) == t)]) ∧ Below w.heap.size w w' := by
 have M := Mem.start [] w
 go_enter Tryz.func155, Tryz.ntmps155
 go_wp2_with fail
 go_loopw [4, 5] (fun nv iv wr => ∃ j : Nat, j ≤ t.length ∧ iv = .int .i64 ((j : Int) - 1) ∧ nv = .int .u64 (I64 (UInt64.ofNat (numV (t.drop j)))) ∧ Mem [] w wr []) (fun _ iv _ => (intOf iv + 1).toNat)
 case atStart => exact ⟨t.length, Nat.le_refl _, rfl, by rw [List.drop_eq_nil_of_le (Nat.le_refl _)]; rfl, M⟩
 case round =>
  clear M
  obtain ⟨j, hj, rfl, rfl, M⟩ := hrel
  by_cases h0 : j = 0
  ·subst h0
   obtain ⟨V, eV⟩ : ∃ V, V = UInt64.ofNat (numV (t.drop 0)) := ⟨_, rfl⟩
   have eN : I64 V = ((numV t % 18446744073709551616 : Nat) : Int) := by rw [eV, qBU, UInt64.toNat_ofNat']; rfl
   have NC := fun w => qFx (numV t % 18446744073709551616) (I64 V) eN w (Nat.mod_lt _ yF)
   obtain ⟨r, er⟩ : ∃ r, r = numL (numV t % 18446744073709551616) := ⟨_, rfl⟩
   rw [← er] at NC
   rw [← eV]
   have ER := Lib.hid er
   have EV := Lib.hid eV
   replace NC := Lib.hid NC
   clear er eV eN
   go_wp2_with (first | (go_at_call 107; (refine (NC.out _).mono ?_; rintro e w1 ⟨rfl, hb⟩; replace M := M.call hb; clear hb)))
   go_ret2
   exact ⟨by rw [EV.out, ER.out]; rfl, M.below⟩
  ·obtain ⟨i, rfl⟩ : ∃ i, j = i + 1 := ⟨j - 1, by omega⟩
   have NS := Lib.hid (numV_step t i yF)
   obtain ⟨V, eV⟩ : ∃ V, V = UInt64.ofNat (numV (t.drop (i + 1))) := ⟨_, rfl⟩
   rw [← eV] at NS
   rw [← eV]
   clear eV
   have hi1 : (((i + 1 : Nat) : Int) - 1) = (i : Int) := by omega
   rw [hi1]
   have hi0 : (0 : Int) ≤ (i : Int) := by omega
   go_wp2_with fail
   go_roundw
   case rel => exact ⟨i, by omega, by go_num, by rw [← NS.out], M⟩
   case measure => simp [intOf]
section
variable (g : Nat) (s : List UInt8) (x : InS) (w : World) (h : (Chunk.row g (irB s x)).ok w) (hx : OnS s x) (hs : s.length ≤ 1000000000)
include h hx hs
theorem next01_c : Calls Tryz.prog 115 #[.pointer (some ⟨g, 0, none⟩)] w fun e w' =>
  e = .returned (.tuple #[.int .u64 (readN x.rest maxU).1, .int .i64 (readN x.rest maxU).2.1, .int .i64 (readN x.rest maxU).2.2]) ∧ Upd w (.row g (irB s x)) w' (.row g (irB s x)) := by
 obtain ⟨rest, r, er⟩ := x
 obtain ⟨hr, hle⟩ := hx
 simp only at hr hle
 subst hr
 have M := Mem.start1 (c := .row g [.string (mkS s), .int .i64 r, .int .i64 er]) h
 simp only
 show Calls _ _ _ _ fun e w' => e = _ ∧ Upd w (.row g [.string (mkS s), .int .i64 r, .int .i64 er]) w' (.row g [.string (mkS s), .int .i64 r, .int .i64 er])
 obtain ⟨⟨v, c, e⟩, eR⟩ : ∃ R, R = readN (s.drop r) maxU := ⟨_, rfl⟩
 rw [← eR]
 simp only
 have ER := Lib.hid fun _ : Unit => eR
 clear eR
 have hl : (s.drop r).length = s.length - r := List.length_drop
 obtain ⟨L, eL⟩ : ∃ L, L = lead (s.drop r) := ⟨_, rfl⟩
 have hL : L ≤ s.length - r := by rw [eL, ← hl]; exact lead_le _
 have EL := Lib.hid fun _ : Unit => eL
 clear eL hl
 go_enter Tryz.func115, Tryz.ntmps115
 go_wp2_with ((first | ((with_reducible refine tM rfl ?_); refine mB ?_; try (clear M; (first | intro g w1 M | intro w1 M); try simp only [setC] at M)) | ((with_reducible refine tGuard ?_); refine gdC ?_ ?_ <;> (intro hgd; rw [hgd]; try (exfalso; simp at hgd; omega)))) <;> (try conv => arg 5; simp only [apS, setC]))
 go_loopw [5] (fun nv wr => ∃ k : Nat, k ≤ L ∧ k ≤ 10 ∧ nv = .int .i64 ((k : Int) + 1) ∧ Mem (Chunk.row g [.string (mkS s), .int .i64 r, .int .i64 er]).fp w wr [.row g [.string (mkS s), .int .i64 r, .int .i64 er]]) (fun nv _ => 11 - (intOf nv).toNat)
 case atStart => exact ⟨0, by omega, by omega, rfl, M⟩
 case round =>
  clear M
  obtain ⟨k, hk, hk10, rfl, M⟩ := hrel
  by_cases h10 : k = 10
  ·subst h10
   have e0 := ER.out ()
   rw [qCQ _ (by rw [← EL.out ()]; omega)] at e0
   simp only [Prod.mk.injEq] at e0
   obtain ⟨rfl, rfl, rfl⟩ := e0
   go_wp2_with ((first | ((with_reducible refine tM rfl ?_); refine mB ?_; try (clear M; (first | intro g w1 M | intro w1 M); try simp only [setC] at M)) | ((with_reducible refine tGuard ?_); refine gdC ?_ ?_ <;> (intro hgd; rw [hgd]; try (exfalso; simp at hgd; omega)))) <;> (try conv => arg 5; simp only [apS, setC]))
   go_ret3
   exact ⟨rfl, M.upd1 0 rfl⟩
  ·have hk9 : (k : Int) + 1 ≤ 10 := by omega
   by_cases hend : s.length - r ≤ k
   ·have e0 := ER.out ()
    rw [qCA _ (by rw [← EL.out ()]; omega) (by rw [← EL.out ()]; rw [List.length_drop]; omega)] at e0
    simp only [Prod.mk.injEq] at e0
    obtain ⟨rfl, rfl, rfl⟩ := e0
    have hgt : (s.length : Int) < (r : Int) + ((k : Int) + 1) := by omega
    go_wp2_with ((first | ((with_reducible show Code.wp _ (Code.region 4 _ _) _ _ _); (refine qAF [(0, false), (1, false), (2, false), (4, false), (6, false), (7, false), (8, false), (3, false), (5, false), (9, false), (10, false), (11, false)] [(12, .ptr), (18, .ptr), (15, .int), (16, .int), (17, .int), (22, .int)] yD yD rfl yD ?_; replace M := M.drew; simp only [reord, opAt, List.map_cons, List.map_nil, gE])) | ((with_reducible refine tM rfl ?_); refine mB ?_; try (clear M; (first | intro g w1 M | intro w1 M); try simp only [setC] at M)) | ((with_reducible first | show Seg _ _ _ _ | show OnlyN _ _ _ _ _); refine rA ?_) | ((with_reducible refine tGuard ?_); refine gdC ?_ ?_ <;> (intro hgd; rw [hgd]; try (exfalso; simp at hgd; omega)))) <;> (try conv => arg 5; simp only [apS, setC]))
    go_ret3
    exact ⟨rfl, M.upd1 0 rfl⟩
   ·have hgt : (r : Int) + ((k : Int) + 1) ≤ (s.length : Int) := by omega
    have hix : ((r : Int) + ((k : Int) + 1) - 1) = ((r + k : Nat) : Int) := by omega
    by_cases h128 : (bt s (r + k)).toNat < 128
    ·have hc : I8 (bt s (r + k)) < 128 := by rw [I8_eq]; omega
     have hLk : lead (s.drop r) = k := lead_stop (s.drop r) k (by rw [← EL.out ()]; exact hk) (by rw [List.getD_eq_getElem?_getD, List.getElem?_drop, ← List.getD_eq_getElem?_getD]; exact h128)
     have hv := readN_value (s.drop r) (by rw [hLk]; omega) (by rw [hLk, List.length_drop]; omega)
     rw [hLk] at hv
     have hdt : (s.drop r).take (k + 1) = (s.take (r + (k + 1))).drop r := by rw [List.drop_take, Nat.add_sub_cancel_left]
     obtain ⟨t, et⟩ : ∃ t, t = (s.drop r).take (k + 1) := ⟨_, rfl⟩
     have VC0 := fun w => Value01_c t w (by rw [et, List.length_take]; omega)
     have VC : ∀ w : World, Calls Tryz.prog 155 #[.string (mkS (List.drop r (List.take (r + (k + 1)) s)))] w fun e w' => e = .returned (.tuple #[.int .u64 (I64 (UInt64.ofNat (numV t))), .bool (numL (numV t % 18446744073709551616) == t)]) ∧ Below w.heap.size w w' := fun w => by
      rw [← hdt, ← et]; exact VC0 w
     clear VC0
     rw [← et] at hv
     rw [← ER.out ()] at hv
     obtain ⟨V, eV⟩ : ∃ V, V = numV t % 18446744073709551616 := ⟨_, rfl⟩
     have eI : I64 (UInt64.ofNat (numV t)) = (V : Int) := by rw [eV, qBU, UInt64.toNat_ofNat']
     rw [eI, ← eV] at VC
     rw [← eV] at hv
     by_cases hq : numL V = t
     ·rw [if_pos hq] at hv
      simp only [Prod.mk.injEq] at hv
      obtain ⟨rfl, rfl, rfl⟩ := hv
      rw [hq, beq_self_eq_true] at VC
      replace VC := Lib.hid VC
      clear eV eI hq hLk et hdt
      go_wp2_with ((first | ((with_reducible show Code.wp _ (Code.region 4 _ _) _ _ _); (refine qAF [(0, false), (1, false), (2, false), (4, false), (6, false), (7, false), (8, false), (3, false), (5, false), (9, false), (10, false), (11, false)] [(12, .ptr), (18, .ptr), (15, .int), (16, .int), (17, .int), (22, .int)] yD yD rfl yD ?_; replace M := M.drew; simp only [reord, opAt, List.map_cons, List.map_nil, gE])) | ((with_reducible show Code.wp _ (Code.region 6 _ _) _ _ _); (refine qAF [(0, false), (1, false), (2, false), (4, false), (5, false), (6, false), (8, false), (3, false), (7, false), (9, false), (10, false), (11, false), (12, false)] [(24, .ptr), (28, .ptr), (31, .int), (32, .int), (33, .int), (35, .int)] yD yD rfl yD ?_; replace M := M.drew; simp only [reord, opAt, List.map_cons, List.map_nil, gE])) | ((with_reducible show Code.wp _ (Code.region 7 _ _) _ _ _); (refine qAF [(0, false), (1, false), (2, false), (4, false), (5, false), (6, false), (8, false), (9, false), (10, false), (12, false), (3, false), (7, false), (11, false), (13, false), (14, false), (15, true), (16, false), (17, false), (18, false), (19, false), (20, false)] [(38, .ptr), (42, .ptr), (46, .ptr), (49, .int), (50, .int)] yD yD rfl yD ?_; replace M := M.drew; simp only [reord, opAt, List.map_cons, List.map_nil, gE])) | (go_at_call 155; (refine (VC.out _).mono ?_; rintro e w1 ⟨rfl, hb⟩; replace M := M.call hb; clear hb)) | ((with_reducible refine tM rfl ?_); refine mB ?_; try (clear M; (first | intro g w1 M | intro w1 M); try simp only [setC] at M)) | ((with_reducible first | show Seg _ _ _ _ | show OnlyN _ _ _ _ _); refine rA ?_) | ((with_reducible refine tGuard ?_); refine gdC ?_ ?_ <;> (intro hgd; rw [hgd]; try (exfalso; simp at hgd; omega)))) <;> (try conv => arg 5; simp only [apS, setC]))
      go_ret3
      exact ⟨rfl, M.upd1 0 rfl⟩
     ·rw [if_neg hq] at hv
      simp only [Prod.mk.injEq] at hv
      obtain ⟨rfl, rfl, rfl⟩ := hv
      rw [beq_eq_false_iff_ne.2 hq] at VC
      replace VC := Lib.hid VC
      clear eV eI hq hLk et hdt
      go_wp2_with ((first | ((with_reducible show Code.wp _ (Code.region 4 _ _) _ _ _); (refine qAF [(0, false), (1, false), (2, false), (4, false), (6, false), (7, false), (8, false), (3, false), (5, false), (9, false), (10, false), (11, false)] [(12, .ptr), (18, .ptr), (15, .int), (16, .int), (17, .int), (22, .int)] yD yD rfl yD ?_; replace M := M.drew; simp only [reord, opAt, List.map_cons, List.map_nil, gE])) | ((with_reducible show Code.wp _ (Code.region 6 _ _) _ _ _); (refine qAF [(0, false), (1, false), (2, false), (4, false), (5, false), (6, false), (8, false), (3, false), (7, false), (9, false), (10, false), (11, false), (12, false)] [(24, .ptr), (28, .ptr), (31, .int), (32, .int), (33, .int), (35, .int)] yD yD rfl yD ?_; replace M := M.drew; simp only [reord, opAt, List.map_cons, List.map_nil, gE])) | ((with_reducible show Code.wp _ (Code.region 7 _ _) _ _ _); (refine qAF [(0, false), (1, false), (2, false), (4, false), (5, false), (6, false), (8, false), (9, false), (10, false), (12, false), (3, false), (7, false), (11, false), (13, false), (14, false), (15, true), (16, false), (17, false), (18, false), (19, false), (20, false)] [(38, .ptr), (42, .ptr), (46, .ptr), (49, .int), (50, .int)] yD yD rfl yD ?_; replace M := M.drew; simp only [reord, opAt, List.map_cons, List.map_nil, gE])) | (go_at_call 155; (refine (VC.out _).mono ?_; rintro e w1 ⟨rfl, hb⟩; replace M := M.call hb; clear hb)) | ((with_reducible refine tM rfl ?_); refine mB ?_; try (clear M; (first | intro g w1 M | intro w1 M); try simp only [setC] at M)) | ((with_reducible first | show Seg _ _ _ _ | show OnlyN _ _ _ _ _); refine rA ?_) | ((with_reducible refine tGuard ?_); refine gdC ?_ ?_ <;> (intro hgd; rw [hgd]; try (exfalso; simp at hgd; omega)))) <;> (try conv => arg 5; simp only [apS, setC]))
      go_ret3
      exact ⟨rfl, M.upd1 0 rfl⟩
    ·have hc : 128 ≤ I8 (bt s (r + k)) := by rw [I8_eq]; omega
     have hkL : k < L := by
      have hne : lead (s.drop r) ≠ k := fun e => by
       have := qCT (s.drop r) (by rw [e, List.length_drop]; omega)
       rw [e, List.getD_eq_getElem?_getD, List.getElem?_drop, ← List.getD_eq_getElem?_getD] at this
       exact h128 this
      rw [← EL.out ()] at hne
      omega
     go_wp2_with ((first | ((with_reducible show Code.wp _ (Code.region 4 _ _) _ _ _); (refine qAF [(0, false), (1, false), (2, false), (4, false), (6, false), (7, false), (8, false), (3, false), (5, false), (9, false), (10, false), (11, false)] [(12, .ptr), (18, .ptr), (15, .int), (16, .int), (17, .int), (22, .int)] yD yD rfl yD ?_; replace M := M.drew; simp only [reord, opAt, List.map_cons, List.map_nil, gE])) | ((with_reducible show Code.wp _ (Code.region 6 _ _) _ _ _); (refine qAF [(0, false), (1, false), (2, false), (4, false), (5, false), (6, false), (8, false), (3, false), (7, false), (9, false), (10, false), (11, false), (12, false)] [(24, .ptr), (28, .ptr), (31, .int), (32, .int), (33, .int), (35, .int)] yD yD rfl yD ?_; replace M := M.drew; simp only [reord, opAt, List.map_cons, List.map_nil, gE])) | ((with_reducible refine tM rfl ?_); refine mB ?_; try (clear M; (first | intro g w1 M | intro w1 M); try simp only [setC] at M)) | ((with_reducible first | show Seg _ _ _ _ | show OnlyN _ _ _ _ _); refine rA ?_) | ((with_reducible refine tGuard ?_); refine gdC ?_ ?_ <;> (intro hgd; rw [hgd]; try (exfalso; simp at hgd; omega)))) <;> (try conv => arg 5; simp only [apS, setC]))
     go_roundw
     case rel => exact ⟨k + 1, by omega, by omega, by go_num, M⟩
     case measure => simp [intOf]; omega
end
end Go.Proofs.YtidadhbaomieiaaGreat

namespace Go.Proofs.YtidadhbaomieiaaGreat
open Go.RowKit Go.TL
section
variable (g : Nat) (s : List UInt8) (x : InS) (w : World) (h : (Chunk.row g (irB s x)).ok w) (hx : OnS s x) (hs : s.length ≤ 1000000000)
include h hx hs
theorem InNum01_c : Calls Tryz.prog 85 #[.pointer (some ⟨g, 0, none⟩)] w fun e w' =>
  e = .returned (.int .u64 (x.most maxU).1) ∧ Upd w (.row g (irB s x)) w' (.row g (irB s (x.most maxU).2)) := by
 by_cases h0 : x.err = 0
 ·rw [most_max x h0]
  have NC := fun (w : World) h => next01_c g s x w h hx hs
  have he := qCK x.rest maxU
  have hb := (qEA x.rest maxU)
  obtain ⟨⟨v, k, er⟩, eR⟩ : ∃ R, R = readN x.rest maxU := ⟨_, rfl⟩
  rw [← eR] at NC he hb ⊢
  simp only at NC he hb ⊢
  have hxl := hx.2
  obtain ⟨rest, r, er0⟩ := x
  simp only at h0 hxl
  subst h0
  have ht : irB s (InS.take ⟨rest, r, 0⟩ k er) = [.string (mkS s), .int .i64 ((r : Int) + k), .int .i64 er] := by
   unfold InS.take irB
   by_cases e0 : er = 0
   ·subst e0; rw [if_pos rfl]; rfl
   ·rw [if_neg e0]
    rcases he with h1 | h1 | h1
    ·exact absurd h1 e0
    ·cases h1; simp
    ·cases h1; simp
  rw [ht]
  have M := Mem.start1 h
  have hk : (k : Int) ≤ 10 := by omega
  have hr : (r : Int) ≤ 1000000000 := by omega
  replace NC := Lib.hid NC
  clear he hb ht eR hxl
  go_enter Tryz.func85, Tryz.ntmps85
  go_wp2_with ((first | (go_at_call 115; (refine (NC.out _ (M.ok 0 _ rfl)).mono ?_; rintro e w1 ⟨rfl, U⟩; replace M := M.upd 0 rfl U; clear U; simp only [List.set_cons_zero, irB] at M)) | ((with_reducible refine tM rfl ?_); refine mB ?_; try (clear M; (first | intro g w1 M | intro w1 M); try simp only [setC] at M)) | ((with_reducible refine tGuard ?_); refine gdC ?_ ?_ <;> (intro hgd; rw [hgd]; try (exfalso; simp at hgd; omega)))) <;> (try conv => arg 5; simp only [apS, setC]))
  go_ret
  exact ⟨rfl, M.upd1 0 rfl⟩
 ·have e : x.most maxU = (0, x) := InS.most_err h0 _
  rw [e]
  obtain ⟨rest, r, er⟩ := x
  simp only at h0
  have M := Mem.start1 h
  have hz : ((er : Int) == 0) = false := by simp; exact h0
  have hz' : ((er : Int) != 0) = true := by simp; exact h0
  clear e
  go_enter Tryz.func85, Tryz.ntmps85
  go_wp2_with ((first | ((with_reducible refine tM rfl ?_); refine mB ?_; try (clear M; (first | intro g w1 M | intro w1 M); try simp only [setC] at M)) | ((with_reducible refine tGuard ?_); refine gdC ?_ ?_ <;> (intro hgd; rw [hgd]; try (exfalso; simp at hgd; omega)))) <;> (try conv => arg 5; simp only [apS, setC]))
  go_ret
  exact ⟨rfl, M.upd1 0 rfl⟩
theorem qAf (m : Nat) (a : Int) (ha : a = (m : Int)) (hm : m < 9223372036854775808) : Calls Tryz.prog 84 #[.pointer (some ⟨g, 0, none⟩), .int .i64 a] w fun e w' =>
  e = .returned (.int .i64 (x.most m).1) ∧ Upd w (.row g (irB s x)) w' (.row g (irB s (x.most m).2)) := by
 subst ha
 have NC := fun (w : World) h => InNum01_c g s x w h hx hs
 have M := Mem.start1 h
 by_cases h0 : x.err = 0
 ·rw [most_of x m h0]
  have hxl := hx.2
  obtain ⟨⟨v, y⟩, eN⟩ : ∃ N, N = x.most maxU := ⟨_, rfl⟩
  have hv : v ≤ maxU := by have := InS.most_le x maxU; rw [← eN] at this; exact this
  rw [qDj] at hv
  rw [← eN] at NC ⊢
  simp only at NC ⊢
  replace NC := Lib.hid NC
  clear eN
  obtain ⟨rest, r, er0⟩ := x
  simp only at h0 hxl
  subst h0
  obtain ⟨yr, yn, ye⟩ := y
  by_cases e0 : ye = 0
  ·subst e0
   have ev : w64 (m : Int) = UInt64.ofNat m := qBM _
   have em : I64 (w64 (m : Int)) = (m : Int) := qBG _ yF
   have hm0 : (0 : Int) ≤ (m : Int) := by omega
   by_cases hlt : m < v
   ·rw [if_pos rfl, if_pos hlt]
    have hlt' : I64 (UInt64.ofNat m) < (v : Int) := by rw [← ev, em]; omega
    go_enter Tryz.func84, Tryz.ntmps84
    go_wp2_with ((first | (go_at_call 85; (refine (NC.out _ (M.ok 0 _ rfl)).mono ?_; rintro e w1 ⟨rfl, U⟩; replace M := M.upd 0 rfl U; clear U; simp only [List.set_cons_zero, irB] at M)) | ((with_reducible refine tM rfl ?_); refine mB ?_; try (clear M; (first | intro g w1 M | intro w1 M); try simp only [setC] at M)) | ((with_reducible refine tGuard ?_); refine gdC ?_ ?_ <;> (intro hgd; rw [hgd]; try (exfalso; simp at hgd; omega)))) <;> (try conv => arg 5; simp only [apS, setC]))
    go_ret
    exact ⟨rfl, M.upd1 0 rfl⟩
   ·rw [if_pos rfl, if_neg hlt]
    have hlt' : (v : Int) ≤ I64 (UInt64.ofNat m) := by rw [← ev, em]; omega
    go_enter Tryz.func84, Tryz.ntmps84
    go_wp2_with ((first | (go_at_call 85; (refine (NC.out _ (M.ok 0 _ rfl)).mono ?_; rintro e w1 ⟨rfl, U⟩; replace M := M.upd 0 rfl U; clear U; simp only [List.set_cons_zero, irB] at M)) | ((with_reducible refine tM rfl ?_); refine mB ?_; try (clear M; (first | intro g w1 M | intro w1 M); try simp only [setC] at M)) | ((with_reducible refine tGuard ?_); refine gdC ?_ ?_ <;> (intro hgd; rw [hgd]; try (exfalso; simp at hgd; omega)))) <;> (try conv => arg 5; simp only [apS, setC]))
    go_ret
    exact ⟨rfl, M.upd1 0 rfl⟩
  ·rw [if_neg e0]
   have hz : ((ye : Int) == 0) = false := by simp; exact e0
   have hz' : ((ye : Int) != 0) = true := by simp; exact e0
   go_enter Tryz.func84, Tryz.ntmps84
   go_wp2_with ((first | (go_at_call 85; (refine (NC.out _ (M.ok 0 _ rfl)).mono ?_; rintro e w1 ⟨rfl, U⟩; replace M := M.upd 0 rfl U; clear U; simp only [List.set_cons_zero, irB] at M)) | ((with_reducible refine tM rfl ?_); refine mB ?_; try (clear M; (first | intro g w1 M | intro w1 M); try simp only [setC] at M)) | ((with_reducible refine tGuard ?_); refine gdC ?_ ?_ <;> (intro hgd; rw [hgd]; try (exfalso; simp at hgd; omega)))) <;> (try conv => arg 5; simp only [apS, setC]))
   go_ret
   exact ⟨rfl, M.upd1 0 rfl⟩
 ·rw [InS.most_err h0 m]
  rw [InS.most_err h0 maxU] at NC
  obtain ⟨rest, r, er⟩ := x
  simp only at h0 NC
  replace NC := Lib.hid NC
  have hz : ((er : Int) == 0) = false := by simp; exact h0
  have hz' : ((er : Int) != 0) = true := by simp; exact h0
  go_enter Tryz.func84, Tryz.ntmps84
  go_wp2_with ((first | (go_at_call 85; (refine (NC.out _ (M.ok 0 _ rfl)).mono ?_; rintro e w1 ⟨rfl, U⟩; replace M := M.upd 0 rfl U; clear U; simp only [List.set_cons_zero, irB] at M)) | ((with_reducible refine tM rfl ?_); refine mB ?_; try (clear M; (first | intro g w1 M | intro w1 M); try simp only [setC] at M)) | ((with_reducible refine tGuard ?_); refine gdC ?_ ?_ <;> (intro hgd; rw [hgd]; try (exfalso; simp at hgd; omega)))) <;> (try conv => arg 5; simp only [apS, setC]))
  go_ret
  exact ⟨rfl, M.upd1 0 rfl⟩
theorem qDX (m : Nat) (a : Int) (ha : a = (m : Int)) (hm : m < 9223372036854775808) : Calls Tryz.prog 86 #[.pointer (some ⟨g, 0, none⟩), .int .i64 a] w fun e w' =>
  e = .returned (.string (mkS (x.text m).1)) ∧ Upd w (.row g (irB s x)) w' (.row g (irB s (x.text m).2)) := by
 have MC := fun (w : World) h => qAf g s x w h hx hs m a ha hm
 subst ha
 have M := Mem.start1 h
 by_cases h0 : x.err = 0
 ·rw [text_of x m h0]
  have hxl := hx.2
  have hon := hx.most m
  have hml := InS.most_le x m
  obtain ⟨⟨n, y⟩, eN⟩ : ∃ N, N = x.most m := ⟨_, rfl⟩
  rw [← eN] at MC hon hml ⊢
  simp only at MC hon hml ⊢
  replace MC := Lib.hid MC
  clear eN
  obtain ⟨rest, r, er0⟩ := x
  simp only at h0 hxl
  subst h0
  obtain ⟨yr, yn, ye⟩ := y
  obtain ⟨hon1, hon2⟩ := hon
  simp only at hon1 hon2 ⊢
  by_cases e0 : ye = 0
  ·subst e0
   have hyl : yr.length = s.length - yn := by rw [hon1, List.length_drop]
   by_cases hlt : n ≤ yr.length
   ·rw [if_pos rfl, if_pos hlt]
    have hlt' : (n : Int) ≤ (s.length : Int) - (yn : Int) := by omega
    have hn9 : (n : Int) ≤ 1000000000 := by omega
    have hyn9 : (yn : Int) ≤ 1000000000 := by omega
    have hq : (s.take (yn + n)).drop yn = yr.take n := by rw [hon1, List.drop_take, Nat.add_sub_cancel_left]
    have hq' := Lib.hid fun _ : Unit => hq
    clear hq hon1
    go_enter Tryz.func86, Tryz.ntmps86
    go_wp2_with ((first | (go_at_call 84; (refine (MC.out _ (M.ok 0 _ rfl)).mono ?_; rintro e w1 ⟨rfl, U⟩; replace M := M.upd 0 rfl U; clear U; simp only [List.set_cons_zero, irB] at M)) | ((with_reducible show Code.wp _ (Code.region 3 _ _) _ _ _); (refine qAF [(0, false), (1, false), (2, false), (3, false), (4, false), (5, false), (6, false), (7, false), (8, false), (11, false), (12, false), (13, false), (16, false), (9, false), (10, false), (14, false), (15, false), (17, false), (18, false)] [(14, .ptr), (17, .int), (20, .ptr), (25, .ptr), (24, .int), (28, .int), (29, .int), (30, .int)] yD yD rfl yD ?_; replace M := M.drew; simp only [reord, opAt, List.map_cons, List.map_nil, gE])) | ((with_reducible show Code.wp _ (Code.region 9 _ _) _ _ _); (refine qAF [(0, false), (1, false), (2, false), (4, false), (5, false), (6, false), (8, false), (10, false), (11, false), (12, false), (3, false), (7, false), (9, false), (13, false), (14, false), (15, false)] [(54, .ptr), (58, .ptr), (64, .ptr), (61, .int), (62, .int)] yD yD rfl yD ?_; replace M := M.drew; simp only [reord, opAt, List.map_cons, List.map_nil, gE])) | ((with_reducible refine tM rfl ?_); refine mB ?_; try (clear M; (first | intro g w1 M | intro w1 M); try simp only [setC] at M)) | ((with_reducible first | show Seg _ _ _ _ | show OnlyN _ _ _ _ _); refine rA ?_) | ((with_reducible refine tGuard ?_); refine gdC ?_ ?_ <;> (intro hgd; rw [hgd]; try (exfalso; simp at hgd; omega)))) <;> (try conv => arg 5; simp only [apS, setC]))
    go_ret
    exact ⟨congrArg (fun z => Ending.returned (.string (mkS z))) (hq'.out ()), M.upd1 0 rfl⟩
   ·rw [if_pos rfl, if_neg hlt]
    have hlt' : (s.length : Int) - (yn : Int) < (n : Int) := by omega
    go_enter Tryz.func86, Tryz.ntmps86
    go_wp2_with ((first | (go_at_call 84; (refine (MC.out _ (M.ok 0 _ rfl)).mono ?_; rintro e w1 ⟨rfl, U⟩; replace M := M.upd 0 rfl U; clear U; simp only [List.set_cons_zero, irB] at M)) | ((with_reducible show Code.wp _ (Code.region 3 _ _) _ _ _); (refine qAF [(0, false), (1, false), (2, false), (3, false), (4, false), (5, false), (6, false), (7, false), (8, false), (11, false), (12, false), (13, false), (16, false), (9, false), (10, false), (14, false), (15, false), (17, false), (18, false)] [(14, .ptr), (17, .int), (20, .ptr), (25, .ptr), (24, .int), (28, .int), (29, .int), (30, .int)] yD yD rfl yD ?_; replace M := M.drew; simp only [reord, opAt, List.map_cons, List.map_nil, gE])) | ((with_reducible show Code.wp _ (Code.region 9 _ _) _ _ _); (refine qAF [(0, false), (1, false), (2, false), (4, false), (5, false), (6, false), (8, false), (10, false), (11, false), (12, false), (3, false), (7, false), (9, false), (13, false), (14, false), (15, false)] [(54, .ptr), (58, .ptr), (64, .ptr), (61, .int), (62, .int)] yD yD rfl yD ?_; replace M := M.drew; simp only [reord, opAt, List.map_cons, List.map_nil, gE])) | ((with_reducible refine tM rfl ?_); refine mB ?_; try (clear M; (first | intro g w1 M | intro w1 M); try simp only [setC] at M)) | ((with_reducible first | show Seg _ _ _ _ | show OnlyN _ _ _ _ _); refine rA ?_) | ((with_reducible refine tGuard ?_); refine gdC ?_ ?_ <;> (intro hgd; rw [hgd]; try (exfalso; simp at hgd; omega)))) <;> (try conv => arg 5; simp only [apS, setC]))
    go_ret
    exact ⟨rfl, M.upd1 0 rfl⟩
  ·rw [if_neg e0]
   have hz : ((ye : Int) == 0) = false := by simp; exact e0
   have hz' : ((ye : Int) != 0) = true := by simp; exact e0
   go_enter Tryz.func86, Tryz.ntmps86
   go_wp2_with ((first | (go_at_call 84; (refine (MC.out _ (M.ok 0 _ rfl)).mono ?_; rintro e w1 ⟨rfl, U⟩; replace M := M.upd 0 rfl U; clear U; simp only [List.set_cons_zero, irB] at M)) | ((with_reducible show Code.wp _ (Code.region 3 _ _) _ _ _); (refine qAF [(0, false), (1, false), (2, false), (3, false), (4, false), (5, false), (6, false), (7, false), (8, false), (11, false), (12, false), (13, false), (16, false), (9, false), (10, false), (14, false), (15, false), (17, false), (18, false)] [(14, .ptr), (17, .int), (20, .ptr), (25, .ptr), (24, .int), (28, .int), (29, .int), (30, .int)] yD yD rfl yD ?_; replace M := M.drew; simp only [reord, opAt, List.map_cons, List.map_nil, gE])) | ((with_reducible show Code.wp _ (Code.region 9 _ _) _ _ _); (refine qAF [(0, false), (1, false), (2, false), (4, false), (5, false), (6, false), (8, false), (10, false), (11, false), (12, false), (3, false), (7, false), (9, false), (13, false), (14, false), (15, false)] [(54, .ptr), (58, .ptr), (64, .ptr), (61, .int), (62, .int)] yD yD rfl yD ?_; replace M := M.drew; simp only [reord, opAt, List.map_cons, List.map_nil, gE])) | ((with_reducible refine tM rfl ?_); refine mB ?_; try (clear M; (first | intro g w1 M | intro w1 M); try simp only [setC] at M)) | ((with_reducible first | show Seg _ _ _ _ | show OnlyN _ _ _ _ _); refine rA ?_) | ((with_reducible refine tGuard ?_); refine gdC ?_ ?_ <;> (intro hgd; rw [hgd]; try (exfalso; simp at hgd; omega)))) <;> (try conv => arg 5; simp only [apS, setC]))
   go_ret
   exact ⟨rfl, M.upd1 0 rfl⟩
 ·rw [InS.text_err h0 m]
  rw [InS.most_err h0 m] at MC
  obtain ⟨rest, r, er⟩ := x
  simp only at h0 MC
  replace MC := Lib.hid MC
  have hz : ((er : Int) == 0) = false := by simp; exact h0
  have hz' : ((er : Int) != 0) = true := by simp; exact h0
  go_enter Tryz.func86, Tryz.ntmps86
  go_wp2_with ((first | (go_at_call 84; (refine (MC.out _ (M.ok 0 _ rfl)).mono ?_; rintro e w1 ⟨rfl, U⟩; replace M := M.upd 0 rfl U; clear U; simp only [List.set_cons_zero, irB] at M)) | ((with_reducible show Code.wp _ (Code.region 3 _ _) _ _ _); (refine qAF [(0, false), (1, false), (2, false), (3, false), (4, false), (5, false), (6, false), (7, false), (8, false), (11, false), (12, false), (13, false), (16, false), (9, false), (10, false), (14, false), (15, false), (17, false), (18, false)] [(14, .ptr), (17, .int), (20, .ptr), (25, .ptr), (24, .int), (28, .int), (29, .int), (30, .int)] yD yD rfl yD ?_; replace M := M.drew; simp only [reord, opAt, List.map_cons, List.map_nil, gE])) | ((with_reducible show Code.wp _ (Code.region 9 _ _) _ _ _); (refine qAF [(0, false), (1, false), (2, false), (4, false), (5, false), (6, false), (8, false), (10, false), (11, false), (12, false), (3, false), (7, false), (9, false), (13, false), (14, false), (15, false)] [(54, .ptr), (58, .ptr), (64, .ptr), (61, .int), (62, .int)] yD yD rfl yD ?_; replace M := M.drew; simp only [reord, opAt, List.map_cons, List.map_nil, gE])) | ((with_reducible refine tM rfl ?_); refine mB ?_; try (clear M; (first | intro g w1 M | intro w1 M); try simp only [setC] at M)) | ((with_reducible first | show Seg _ _ _ _ | show OnlyN _ _ _ _ _); refine rA ?_) | ((with_reducible refine tGuard ?_); refine gdC ?_ ?_ <;> (intro hgd; rw [hgd]; try (exfalso; simp at hgd; omega)))) <;> (try conv => arg 5; simp only [apS, setC]))
  go_ret
  exact ⟨rfl, M.upd1 0 rfl⟩
end
end Go.Proofs.YtidadhbaomieiaaGreat

namespace Go.Proofs.YtidadhbaomieiaaGreat
open Go.RowKit Go.TL
end Go.Proofs.YtidadhbaomieiaaGreat

namespace Go
namespace TL
open Go.RowKit
section
variable {P : Program} {ops : Array Oper} {rest : List Oper} {o : Oper} {a : Act} {w w0 : World} {Q : Exit → Act → World → Prop} {F : List Nat} {L : List Chunk} {g : Nat} {k : Int} {b : UInt32} {n : UInt64} {d tg : List UInt8}
theorem qDG (M : Mem F w0 w L) (i : Nat) (t : TypeId) (x y : Operand) (ho : o.op = .store t x y) {k' : Int} (hi : L[i]? = some (.row g (envC k' b n d tg))) (hx : a.eval x = .pointer (some ⟨g, 0, none⟩)) (hw : Region.wanted o (yielded ops a.tmps) = true)
  (hy : a.eval y = .int .i64 k) (hn : (P.info? t).map (·.size) = some 1)
  (h : ∀ w' : World, Mem F w0 w' (L.set i (.row g (envC k b n d tg))) → wpList P ops Q rest (a.put o.dst undef) w') : wpList P ops Q (o :: rest) a w :=
 qBn M i t x y ho hi hx hw hy rfl rfl hn (by rw [qBB]; omega) fun w' M' => h w' M'
theorem qCa (M : Mem F w0 w L) (i : Nat) (t : TypeId) (x y : Operand) (ho : o.op = .store t x y) {b' : UInt32} (hi : L[i]? = some (.row g (envC k b' n d tg))) (hx : a.eval x = .pointer (some ⟨g, 1, none⟩)) (hw : Region.wanted o (yielded ops a.tmps) = true)
  (hy : a.eval y = .int .u32 (I32 b)) (hn : (P.info? t).map (·.size) = some 1)
  (h : ∀ w' : World, Mem F w0 w' (L.set i (.row g (envC k b n d tg))) → wpList P ops Q rest (a.put o.dst undef) w') : wpList P ops Q (o :: rest) a w :=
 qBn M i t x y ho hi hx hw hy rfl rfl hn (by rw [qBB]; omega) fun w' M' => h w' M'
end
end TL
end Go
namespace Go.Proofs.YtidadhbaomieiaaGreat
open Go.RowKit Go.TL
theorem refRead_c (s : List UInt8) (w : World) (hs : s.length ≤ 1000000) :
  Calls Tryz.prog 44 #[.string (mkS s)] w fun e w' => e = .returned (.tuple #[.agg (envC (readS s).1.k (readS s).1.b (readS s).1.n (readS s).1.d (readS s).1.t).toArray, .int .i64 (readS s).2]) ∧ Below w.heap.size w w' := by
 have M := Mem.start [] w
 have f0 := OnS.start s
 have f1 := f0.most 1048576
 have f2 := f1.most 4294967295
 have f3 := f2.most maxU
 have f4 := f3.text 8192
 have hs9 : s.length ≤ 1000000000 := by omega
 have hcm := InS.most_le ((InS.mk s 0 0).most 1048576 |>.2 |>.most 4294967295 |>.2) maxU
 have Q1 := fun g (w : World) h => qAf g s _ w h f0 hs9 1048576 1048576 rfl yF
 have Q2 := fun g (w : World) h => qAf g s _ w h f1 hs9 4294967295 4294967295 rfl yF
 have Q3 := fun g (w : World) h => InNum01_c g s _ w h f2 hs9
 have Q4 := fun g (w : World) h => qDX g s _ w h f3 hs9 8192 8192 rfl yF
 obtain ⟨⟨a, x1⟩, e1⟩ : ∃ R, R = (InS.mk s 0 0).most 1048576 := ⟨_, rfl⟩
 rw [← e1] at f1 f2 f3 f4 hcm Q1 Q2 Q3 Q4
 simp only at f1 f2 f3 f4 hcm Q1 Q2 Q3 Q4
 obtain ⟨⟨b, x2⟩, e2⟩ : ∃ R, R = x1.most 4294967295 := ⟨_, rfl⟩
 rw [← e2] at f2 f3 f4 hcm Q2 Q3 Q4
 simp only at f2 f3 f4 hcm Q2 Q3 Q4
 obtain ⟨⟨c, x3⟩, e3⟩ : ∃ R, R = x2.most maxU := ⟨_, rfl⟩
 rw [← e3] at f3 f4 hcm Q3 Q4
 simp only at f3 f4 hcm Q3 Q4
 obtain ⟨⟨d, x4⟩, e4⟩ : ∃ R, R = x3.text 8192 := ⟨_, rfl⟩
 rw [← e4] at f4 Q4
 simp only at f4 Q4
 have en : numsS s = ⟨a, b, c, d, x4⟩ := by unfold numsS; simp only [← e1, ← e2, ← e3, ← e4]
 rw [qDj] at hcm
 have ec : (c : Int) = I64 (UInt64.ofNat c) := by rw [qBU, UInt64.toNat_ofNat', Nat.mod_eq_of_lt yF]
 rw [ec] at Q3
 have RB := readS_bad en
 have RS := readS_short en
 have RL := readS_long en
 have RG := readS_good en
 simp only at RB RS RL RG
 obtain ⟨nn, enn⟩ : ∃ x, x = UInt64.ofNat c := ⟨_, rfl⟩
 rw [← enn] at Q3 RG
 obtain ⟨bb, ebb⟩ : ∃ x, x = UInt32.ofNat b := ⟨_, rfl⟩
 rw [← ebb] at RG
 have hbb : w32 (b : Int) = bb := by rw [ebb]; exact w32_nat b
 obtain ⟨rest, r, er⟩ := x4
 obtain ⟨g1, g2⟩ := f4
 simp only at g1 g2 RB RS RL RG
 have hrl : rest.length = s.length - r := by rw [g1, List.length_drop]
 replace Q1 := Lib.hid Q1
 replace Q2 := Lib.hid Q2
 replace Q3 := Lib.hid Q3
 replace Q4 := Lib.hid Q4
 clear e1 e2 e3 e4 en ec enn ebb hcm f0 f1 f2 f3
 by_cases h0 : er = 0
 rotate_left
 ·have RR := Lib.hid fun _ : Unit => RB h0
  have hz : ((er : Int) == 0) = false := by simp; exact h0
  have hz' : ((er : Int) != 0) = true := by simp; exact h0
  clear RB RS RL RG g1 h0
  go_enter Tryz.func44, Tryz.ntmps44
  go_wp2_with ((first | ((with_reducible refine tAlloc (some 2) 75 ?_); refine wal M _ rfl rfl (envC 0 0 0 [] zeroT) yD ?_; clear M; intro gr w1 M) | ((with_reducible refine tAlloc (some 5) 75 ?_); refine wal M _ rfl rfl (envC 0 0 0 [] zeroT) yD ?_; clear M; intro gx w1 M) | ((with_reducible refine tBox (some 9) ?_); refine w_box M _ _ rfl rfl _ rfl (irB s ⟨s, 0, 0⟩) rfl ?_; clear M; intro gi w1 M) | (go_at_call 84; ((first | (with_reducible refine (Q1.out _ _ (M.ok 1 _ rfl)).mono ?_) | (with_reducible refine (Q2.out _ _ (M.ok 1 _ rfl)).mono ?_)); rintro e w1 ⟨rfl, U⟩; replace M := M.upd 1 rfl U; clear U; simp only [List.set_cons_succ, List.set_cons_zero] at M)) | (go_at_call 85; (refine (Q3.out _ _ (M.ok 1 _ rfl)).mono ?_; rintro e w1 ⟨rfl, U⟩; replace M := M.upd 1 rfl U; clear U; simp only [List.set_cons_succ, List.set_cons_zero] at M)) | (go_at_call 86; (refine (Q4.out _ _ (M.ok 1 _ rfl)).mono ?_; rintro e w1 ⟨rfl, U⟩; replace M := M.upd 1 rfl U; clear U; simp only [List.set_cons_succ, List.set_cons_zero] at M)) | ((with_reducible show Code.wp _ (Code.region 8 _ _) _ _ _); (have MR := M; refine qAB [(1, false), (2, false), (3, false), (4, false), (0, true), (5, true), (6, false)] [(29, .ptr)] [(4, _)] (IxOk MR [1]) 7 yD yD rfl yD (lowA MR 1 2 qAN) (qAJ MR _) ?_; replace M := M.drew; simp only [planC, opAt, gE])) | ((with_reducible refine tStore ?_); refine w_at2 _ _ _ rfl yI yE ?_; intro hx hy; (first | refine qDG M 0 _ _ _ rfl rfl hx rfl hy yB ?_ | refine qCa M 0 _ _ _ rfl rfl hx rfl hy yB ?_); clear hx hy M; intro w1 M; (try simp only [setC] at M)) | ((with_reducible refine tLoad ?_); refine w_at _ _ rfl yI ?_; intro hx; (first | refine qAu M _ _ _ rfl yM hx rfl yB yB yC ?_ | refine qAj M _ _ _ rfl yM hx rfl yB yB yC ?_); clear hx) | ((with_reducible refine tStore ?_); refine w_at2 _ _ _ rfl yE yE ?_; intro hx hy; (first | refine qAL M _ _ _ _ rfl yM hx rfl hy rfl yB yC yC ?_ | refine qAL (k := 0) (b := 0) (n := 0) (d := []) (tg := zeroT) M _ _ _ _ rfl yM hx rfl hy rfl yB qAO yC ?_ | refine qAL (tg := zeroT) M _ _ _ _ rfl yM hx rfl hy rfl yB qAO yC ?_ | refine qAd M _ _ _ _ rfl yM hx rfl hy yB yC yC ?_ | refine qAU M _ _ _ _ rfl yM hx rfl hy yB ?_ | refine qAe M _ _ _ _ rfl yM hx rfl hy yB ?_); clear hx hy M; intro w1 M; (try simp only [setC] at M)) | ((with_reducible refine tConv _ 70 9 ?_); (first | refine qAT M _ _ _ _ _ rfl rfl yM rfl yC Tryz.underlying70 Tryz.underlying5 Tryz.underlying9 ?_)) | ((with_reducible refine tM rfl ?_); refine mB ?_; try (clear M; (first | intro g w1 M | intro w1 M); try simp only [setC] at M)) | ((with_reducible first | show Seg _ _ _ _ | show OnlyN _ _ _ _ _); refine rA ?_) | ((with_reducible refine tGuard ?_); refine gdC ?_ ?_ <;> (intro hgd; rw [hgd]; try (exfalso; simp at hgd; omega)))) <;> (try conv => arg 5; simp only [Act.put, List.setIfInBounds_toArray, setC]))
  exact bodyPost_ret (qAl rfl _ _ gr 0 (envC 0 0 0 [] zeroT) _ (.int .i64 (er : Int)) rfl rfl (M.ok 2 _ rfl).2.1 Tryz.underlying75 rfl (by rw [qBB, qAO]; kernel_rfl)) rfl ⟨by rw [RR.out ()]; rfl, M.below⟩
 subst h0
 by_cases h1 : rest.length < 32
 ·have RR := Lib.hid fun _ : Unit => RS rfl h1
  have hc : (s.length : Int) - (r : Int) < 32 := by omega
  clear RB RS RL RG g1
  go_enter Tryz.func44, Tryz.ntmps44
  go_wp2_with ((first | ((with_reducible refine tAlloc (some 2) 75 ?_); refine wal M _ rfl rfl (envC 0 0 0 [] zeroT) yD ?_; clear M; intro gr w1 M) | ((with_reducible refine tAlloc (some 5) 75 ?_); refine wal M _ rfl rfl (envC 0 0 0 [] zeroT) yD ?_; clear M; intro gx w1 M) | ((with_reducible refine tBox (some 9) ?_); refine w_box M _ _ rfl rfl _ rfl (irB s ⟨s, 0, 0⟩) rfl ?_; clear M; intro gi w1 M) | (go_at_call 84; ((first | (with_reducible refine (Q1.out _ _ (M.ok 1 _ rfl)).mono ?_) | (with_reducible refine (Q2.out _ _ (M.ok 1 _ rfl)).mono ?_)); rintro e w1 ⟨rfl, U⟩; replace M := M.upd 1 rfl U; clear U; simp only [List.set_cons_succ, List.set_cons_zero] at M)) | (go_at_call 85; (refine (Q3.out _ _ (M.ok 1 _ rfl)).mono ?_; rintro e w1 ⟨rfl, U⟩; replace M := M.upd 1 rfl U; clear U; simp only [List.set_cons_succ, List.set_cons_zero] at M)) | (go_at_call 86; (refine (Q4.out _ _ (M.ok 1 _ rfl)).mono ?_; rintro e w1 ⟨rfl, U⟩; replace M := M.upd 1 rfl U; clear U; simp only [List.set_cons_succ, List.set_cons_zero] at M)) | ((with_reducible show Code.wp _ (Code.region 8 _ _) _ _ _); (have MR := M; refine qAB [(1, false), (2, false), (3, false), (4, false), (0, true), (5, true), (6, false)] [(29, .ptr)] [(4, _)] (IxOk MR [1]) 7 yD yD rfl yD (lowA MR 1 2 qAN) (qAJ MR _) ?_; replace M := M.drew; simp only [planC, opAt, gE])) | ((with_reducible refine tStore ?_); refine w_at2 _ _ _ rfl yI yE ?_; intro hx hy; (first | refine qDG M 0 _ _ _ rfl rfl hx rfl hy yB ?_ | refine qCa M 0 _ _ _ rfl rfl hx rfl hy yB ?_); clear hx hy M; intro w1 M; (try simp only [setC] at M)) | ((with_reducible refine tLoad ?_); refine w_at _ _ rfl yI ?_; intro hx; (first | refine qAu M _ _ _ rfl yM hx rfl yB yB yC ?_ | refine qAj M _ _ _ rfl yM hx rfl yB yB yC ?_); clear hx) | ((with_reducible refine tStore ?_); refine w_at2 _ _ _ rfl yE yE ?_; intro hx hy; (first | refine qAL M _ _ _ _ rfl yM hx rfl hy rfl yB yC yC ?_ | refine qAL (k := 0) (b := 0) (n := 0) (d := []) (tg := zeroT) M _ _ _ _ rfl yM hx rfl hy rfl yB qAO yC ?_ | refine qAL (tg := zeroT) M _ _ _ _ rfl yM hx rfl hy rfl yB qAO yC ?_ | refine qAd M _ _ _ _ rfl yM hx rfl hy yB yC yC ?_ | refine qAU M _ _ _ _ rfl yM hx rfl hy yB ?_ | refine qAe M _ _ _ _ rfl yM hx rfl hy yB ?_); clear hx hy M; intro w1 M; (try simp only [setC] at M)) | ((with_reducible refine tConv _ 70 9 ?_); (first | refine qAT M _ _ _ _ _ rfl rfl yM rfl yC Tryz.underlying70 Tryz.underlying5 Tryz.underlying9 ?_)) | ((with_reducible refine tM rfl ?_); refine mB ?_; try (clear M; (first | intro g w1 M | intro w1 M); try simp only [setC] at M)) | ((with_reducible first | show Seg _ _ _ _ | show OnlyN _ _ _ _ _); refine rA ?_) | ((with_reducible refine tGuard ?_); refine gdC ?_ ?_ <;> (intro hgd; rw [hgd]; try (exfalso; simp at hgd; omega)))) <;> (try conv => arg 5; simp only [Act.put, List.setIfInBounds_toArray, setC]))
  exact bodyPost_ret (qAl rfl _ _ gr 0 (envC 0 0 0 [] zeroT) _ (.int .i64 7) rfl rfl (M.ok 2 _ rfl).2.1 Tryz.underlying75 rfl (by rw [qBB, qAO]; kernel_rfl)) rfl ⟨by rw [RR.out ()]; rfl, M.below⟩
 by_cases h2 : 32 < rest.length
 ·have RR := Lib.hid fun _ : Unit => RL rfl h2
  have hc : (32 : Int) < (s.length : Int) - (r : Int) := by omega
  clear RB RS RL RG g1
  go_enter Tryz.func44, Tryz.ntmps44
  go_wp2_with ((first | ((with_reducible refine tAlloc (some 2) 75 ?_); refine wal M _ rfl rfl (envC 0 0 0 [] zeroT) yD ?_; clear M; intro gr w1 M) | ((with_reducible refine tAlloc (some 5) 75 ?_); refine wal M _ rfl rfl (envC 0 0 0 [] zeroT) yD ?_; clear M; intro gx w1 M) | ((with_reducible refine tBox (some 9) ?_); refine w_box M _ _ rfl rfl _ rfl (irB s ⟨s, 0, 0⟩) rfl ?_; clear M; intro gi w1 M) | (go_at_call 84; ((first | (with_reducible refine (Q1.out _ _ (M.ok 1 _ rfl)).mono ?_) | (with_reducible refine (Q2.out _ _ (M.ok 1 _ rfl)).mono ?_)); rintro e w1 ⟨rfl, U⟩; replace M := M.upd 1 rfl U; clear U; simp only [List.set_cons_succ, List.set_cons_zero] at M)) | (go_at_call 85; (refine (Q3.out _ _ (M.ok 1 _ rfl)).mono ?_; rintro e w1 ⟨rfl, U⟩; replace M := M.upd 1 rfl U; clear U; simp only [List.set_cons_succ, List.set_cons_zero] at M)) | (go_at_call 86; (refine (Q4.out _ _ (M.ok 1 _ rfl)).mono ?_; rintro e w1 ⟨rfl, U⟩; replace M := M.upd 1 rfl U; clear U; simp only [List.set_cons_succ, List.set_cons_zero] at M)) | ((with_reducible show Code.wp _ (Code.region 8 _ _) _ _ _); (have MR := M; refine qAB [(1, false), (2, false), (3, false), (4, false), (0, true), (5, true), (6, false)] [(29, .ptr)] [(4, _)] (IxOk MR [1]) 7 yD yD rfl yD (lowA MR 1 2 qAN) (qAJ MR _) ?_; replace M := M.drew; simp only [planC, opAt, gE])) | ((with_reducible refine tStore ?_); refine w_at2 _ _ _ rfl yI yE ?_; intro hx hy; (first | refine qDG M 0 _ _ _ rfl rfl hx rfl hy yB ?_ | refine qCa M 0 _ _ _ rfl rfl hx rfl hy yB ?_); clear hx hy M; intro w1 M; (try simp only [setC] at M)) | ((with_reducible refine tLoad ?_); refine w_at _ _ rfl yI ?_; intro hx; (first | refine qAu M _ _ _ rfl yM hx rfl yB yB yC ?_ | refine qAj M _ _ _ rfl yM hx rfl yB yB yC ?_); clear hx) | ((with_reducible refine tStore ?_); refine w_at2 _ _ _ rfl yE yE ?_; intro hx hy; (first | refine qAL M _ _ _ _ rfl yM hx rfl hy rfl yB yC yC ?_ | refine qAL (k := 0) (b := 0) (n := 0) (d := []) (tg := zeroT) M _ _ _ _ rfl yM hx rfl hy rfl yB qAO yC ?_ | refine qAL (tg := zeroT) M _ _ _ _ rfl yM hx rfl hy rfl yB qAO yC ?_ | refine qAd M _ _ _ _ rfl yM hx rfl hy yB yC yC ?_ | refine qAU M _ _ _ _ rfl yM hx rfl hy yB ?_ | refine qAe M _ _ _ _ rfl yM hx rfl hy yB ?_); clear hx hy M; intro w1 M; (try simp only [setC] at M)) | ((with_reducible refine tConv _ 70 9 ?_); (first | refine qAT M _ _ _ _ _ rfl rfl yM rfl yC Tryz.underlying70 Tryz.underlying5 Tryz.underlying9 ?_)) | ((with_reducible refine tM rfl ?_); refine mB ?_; try (clear M; (first | intro g w1 M | intro w1 M); try simp only [setC] at M)) | ((with_reducible first | show Seg _ _ _ _ | show OnlyN _ _ _ _ _); refine rA ?_) | ((with_reducible refine tGuard ?_); refine gdC ?_ ?_ <;> (intro hgd; rw [hgd]; try (exfalso; simp at hgd; omega)))) <;> (try conv => arg 5; simp only [Act.put, List.setIfInBounds_toArray, setC]))
  exact bodyPost_ret (qAl rfl _ _ gr 0 (envC 0 0 0 [] zeroT) _ (.int .i64 8) rfl rfl (M.ok 2 _ rfl).2.1 Tryz.underlying75 rfl (by rw [qBB, qAO]; kernel_rfl)) rfl ⟨by rw [RR.out ()]; rfl, M.below⟩
 have h32 : rest.length = 32 := by omega
 have RR := Lib.hid fun _ : Unit => RG rfl h32
 have hc1 : (s.length : Int) - (r : Int) ≤ 32 := by omega
 have hc2 : (32 : Int) ≤ (s.length : Int) - (r : Int) := by omega
 have LL := layT_all rest h32
 have LN := qEz rest
 have LS := fun j => qFj rest j
 have GB : ∀ j, rest.getD j 0 = bt s (r + j) := fun j => by rw [g1, List.getD_eq_getElem?_getD, List.getElem?_drop, ← List.getD_eq_getElem?_getD]; rfl
 replace LL := Lib.hid fun _ : Unit => LL
 replace LN := Lib.hid LN
 replace LS := Lib.hid LS
 replace GB := Lib.hid GB
 clear RB RS RL RG g1 h1 h2 hrl
 go_enter Tryz.func44, Tryz.ntmps44
 go_wp2_with ((first | ((with_reducible refine tAlloc (some 2) 75 ?_); refine wal M _ rfl rfl (envC 0 0 0 [] zeroT) yD ?_; clear M; intro gr w1 M) | ((with_reducible refine tAlloc (some 5) 75 ?_); refine wal M _ rfl rfl (envC 0 0 0 [] zeroT) yD ?_; clear M; intro gx w1 M) | ((with_reducible refine tBox (some 9) ?_); refine w_box M _ _ rfl rfl _ rfl (irB s ⟨s, 0, 0⟩) rfl ?_; clear M; intro gi w1 M) | (go_at_call 84; ((first | (with_reducible refine (Q1.out _ _ (M.ok 1 _ rfl)).mono ?_) | (with_reducible refine (Q2.out _ _ (M.ok 1 _ rfl)).mono ?_)); rintro e w1 ⟨rfl, U⟩; replace M := M.upd 1 rfl U; clear U; simp only [List.set_cons_succ, List.set_cons_zero] at M)) | (go_at_call 85; (refine (Q3.out _ _ (M.ok 1 _ rfl)).mono ?_; rintro e w1 ⟨rfl, U⟩; replace M := M.upd 1 rfl U; clear U; simp only [List.set_cons_succ, List.set_cons_zero] at M)) | (go_at_call 86; (refine (Q4.out _ _ (M.ok 1 _ rfl)).mono ?_; rintro e w1 ⟨rfl, U⟩; replace M := M.upd 1 rfl U; clear U; simp only [List.set_cons_succ, List.set_cons_zero] at M)) | ((with_reducible show Code.wp _ (Code.region 8 _ _) _ _ _); (have MR := M; refine qAB [(1, false), (2, false), (3, false), (4, false), (0, true), (5, true), (6, false)] [(29, .ptr)] [(4, _)] (IxOk MR [1]) 7 yD yD rfl yD (lowA MR 1 2 qAN) (qAJ MR _) ?_; replace M := M.drew; simp only [planC, opAt, gE])) | ((with_reducible refine tStore ?_); refine w_at2 _ _ _ rfl yI yE ?_; intro hx hy; (first | refine qDG M 0 _ _ _ rfl rfl hx rfl hy yB ?_ | refine qCa M 0 _ _ _ rfl rfl hx rfl hy yB ?_); clear hx hy M; intro w1 M; (try simp only [setC] at M)) | ((with_reducible refine tLoad ?_); refine w_at _ _ rfl yI ?_; intro hx; (first | refine qAu M _ _ _ rfl yM hx rfl yB yB yC ?_ | refine qAj M _ _ _ rfl yM hx rfl yB yB yC ?_); clear hx) | ((with_reducible refine tStore ?_); refine w_at2 _ _ _ rfl yE yE ?_; intro hx hy; (first | refine qAL M _ _ _ _ rfl yM hx rfl hy rfl yB yC yC ?_ | refine qAL (k := 0) (b := 0) (n := 0) (d := []) (tg := zeroT) M _ _ _ _ rfl yM hx rfl hy rfl yB qAO yC ?_ | refine qAL (tg := zeroT) M _ _ _ _ rfl yM hx rfl hy rfl yB qAO yC ?_ | refine qAd M _ _ _ _ rfl yM hx rfl hy yB yC yC ?_ | refine qAU M _ _ _ _ rfl yM hx rfl hy yB ?_ | refine qAe M _ _ _ _ rfl yM hx rfl hy yB ?_); clear hx hy M; intro w1 M; (try simp only [setC] at M)) | ((with_reducible refine tConv _ 70 9 ?_); (first | refine qAT M _ _ _ _ _ rfl rfl yM rfl yC Tryz.underlying70 Tryz.underlying5 Tryz.underlying9 ?_)) | ((with_reducible refine tM rfl ?_); refine mB ?_; try (clear M; (first | intro g w1 M | intro w1 M); try simp only [setC] at M)) | ((with_reducible first | show Seg _ _ _ _ | show OnlyN _ _ _ _ _); refine rA ?_) | ((with_reducible refine tGuard ?_); refine gdC ?_ ?_ <;> (intro hgd; rw [hgd]; try (exfalso; simp at hgd; omega)))) <;> (try conv => arg 5; simp only [Act.put, List.setIfInBounds_toArray, setC]))
 rw [show ((0 : Nat) : Int) = 0 from rfl]
 go_loopw [6] (fun kv wr => ∃ j : Nat, j ≤ 32 ∧ kv = .int .i64 j ∧ Mem [] w wr [.row gx (envC a bb nn d (layT rest j)), .row gi (irB s ⟨rest, r, 0⟩), .row gr (envC 0 0 0 [] zeroT)]) (fun kv _ => 32 - (intOf kv).toNat)
 case atStart => exact ⟨0, by omega, rfl, M⟩
 case round =>
  clear M
  obtain ⟨j, hj, rfl, M⟩ := hrel
  by_cases hlt : j < 32
  ·have tl := LN.out j
   have ts := LS.out j
   rw [GB.out j] at ts
   obtain ⟨t, et⟩ : ∃ t, t = layT rest j := ⟨_, rfl⟩
   rw [← et] at M tl ts
   replace ts := Lib.hid fun _ : Unit => ts
   clear et
   have hb : (r : Int) + (j : Int) < (s.length : Int) := by omega
   go_wp2_with ((first | ((with_reducible show wpList _ _ _ (Oper.mk _ (Op.store _ _ _) _ _ _ _ :: _) _ _); refine w_at2 _ _ _ rfl yE yE ?_; intro hx hy; refine qFE M 0 _ _ _ rfl rfl hx rfl hy yB j yQ yF ?_; clear hx hy M; intro w1 M; simp only [List.set_cons_zero] at M) | ((with_reducible refine tM rfl ?_); refine mB ?_; try (clear M; (first | intro g w1 M | intro w1 M); try simp only [setC] at M)) | ((with_reducible refine tGuard ?_); refine gdC ?_ ?_ <;> (intro hgd; rw [hgd]; try (exfalso; simp at hgd; omega)))) <;> (try conv => arg 5; simp only [Act.put, List.setIfInBounds_toArray, setC]))
   go_roundw
   case rel => exact ⟨j + 1, by omega, by go_num, by rw [ts.out ()]; exact M⟩
   case measure => simp [intOf]; omega
  ·obtain rfl : j = 32 := by omega
   rw [LL.out ()] at M
   go_wp2_with ((first | ((with_reducible refine tLoad ?_); refine w_at _ _ rfl yI ?_; intro hx; (first | refine qAu M _ _ _ rfl yM hx rfl yB yB yC ?_ | refine qAj M _ _ _ rfl yM hx rfl yB yB yC ?_); clear hx) | ((with_reducible refine tStore ?_); refine w_at2 _ _ _ rfl yE yE ?_; intro hx hy; (first | refine qAL M _ _ _ _ rfl yM hx rfl hy rfl yB yC yC ?_ | refine qAL (k := 0) (b := 0) (n := 0) (d := []) (tg := zeroT) M _ _ _ _ rfl yM hx rfl hy rfl yB qAO yC ?_ | refine qAL (tg := zeroT) M _ _ _ _ rfl yM hx rfl hy rfl yB qAO yC ?_ | refine qAd M _ _ _ _ rfl yM hx rfl hy yB yC yC ?_ | refine qAU M _ _ _ _ rfl yM hx rfl hy yB ?_ | refine qAe M _ _ _ _ rfl yM hx rfl hy yB ?_); clear hx hy M; intro w1 M; (try simp only [setC] at M)) | ((with_reducible refine tConv _ 70 9 ?_); (first | refine qAT M _ _ _ _ _ rfl rfl yM rfl yC Tryz.underlying70 Tryz.underlying5 Tryz.underlying9 ?_)) | ((with_reducible refine tM rfl ?_); refine mB ?_; try (clear M; (first | intro g w1 M | intro w1 M); try simp only [setC] at M)) | ((with_reducible refine tGuard ?_); refine gdC ?_ ?_ <;> (intro hgd; rw [hgd]; try (exfalso; simp at hgd; omega)))) <;> (try conv => arg 5; simp only [Act.put, List.setIfInBounds_toArray, setC]))
   exact bodyPost_ret (qAl rfl _ _ gr 0 (envC a bb nn d rest) _ (.int .i64 0) rfl rfl (M.ok 2 _ rfl).2.1 Tryz.underlying75 rfl (by rw [qBB, h32]; kernel_rfl)) rfl ⟨by rw [RR.out ()]; rfl, M.below⟩
end Go.Proofs.YtidadhbaomieiaaGreat
