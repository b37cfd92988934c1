/- Plain: the reference's layer 4, step by step, and that it computes what package aes does. No program in this text. No conditions but those each lemma names. -/
import Derived.Test.YtidadhbaomieiaaGreatZc
namespace Go
namespace TL
theorem iterN_head {α : Type} (f : Nat → α → α) (h : ∀ i j s, f i s = f j s) : ∀ (n : Nat) (s : α), iterN f (n + 1) s = iterN f n (f 0 s)
  | 0, _ => rfl
  | n + 1, s => by rw [iterN_succ, iterN_head f h n s, iterN_succ]; exact h _ _ _
/-! ### times, S -/
structure TmS where
  n : UInt8
  a : UInt8
  b : UInt8
def tmStep (_ : Nat) (x : TmS) : TmS := ⟨if x.b &&& 1 = 1 then x.n ^^^ x.a else x.n, if 128 ≤ x.a then x.a * 2 ^^^ 27 else x.a * 2, x.b / 2⟩
def timesS (a b : UInt8) (n : Nat) : TmS := iterN tmStep n ⟨0, a, b⟩
def timesL (a b : UInt8) : UInt8 := (timesS a b 8).n
def mirL (b : UInt8) (n : Nat) : UInt8 := iterN (fun i m => if timesL b (UInt8.ofNat (i + 1)) = 1 then UInt8.ofNat (i + 1) else m) n 0
def affL (m : UInt8) : UInt8 := m ^^^ rl m 1 ^^^ rl m 2 ^^^ rl m 3 ^^^ rl m 4 ^^^ 99
def refS (b : UInt8) : UInt8 := affL (mirL b 255)
def refA (n : Nat) : List UInt8 := (List.range n).map fun i => refS (UInt8.ofNat i)
def tmN : Nat → Nat → Nat → Nat → Nat
  | 0, n, _, _ => n
  | k + 1, n, a, b => tmN k (bif b % 2 == 1 then n ^^^ a else n) (bif Nat.ble 128 a then (a * 2 % 256) ^^^ 27 else a * 2) (b / 2)
def mirN (b : Nat) : Nat → Nat
  | 0 => 0
  | n + 1 => bif tmN 8 0 b (n + 1) == 1 then n + 1 else mirN b n
theorem tmN_eq : ∀ (k : Nat) (x : TmS), (iterN tmStep k x).n.toNat = tmN k x.n.toNat x.a.toNat x.b.toNat
  | 0, _ => rfl
  | k + 1, x => by
    have ha := x.a.toNat_lt
    rw [iterN_head tmStep (fun _ _ _ => rfl), tmN_eq k]
    unfold tmStep
    simp only
    rw [tmN]
    congr 1
    · have e : (x.b &&& 1 = 1) ↔ (x.b.toNat % 2 == 1) = true := by
        rw [← UInt8.toNat_inj, UInt8.toNat_and]
        rw [show (1 : UInt8).toNat = 1 from rfl, Nat.and_one_is_mod]
        simp
      by_cases h : x.b &&& 1 = 1
      · rw [if_pos h, e.1 h, UInt8.toNat_xor]; rfl
      · rw [if_neg h]
        cases hb : x.b.toNat % 2 == 1
        · rfl
        · exact absurd (e.2 hb) h
    · by_cases h : 128 ≤ x.a
      · have h' : 128 ≤ x.a.toNat := by simpa using UInt8.le_iff_toNat_le.1 h
        rw [if_pos h, UInt8.toNat_xor, UInt8.toNat_mul, show Nat.ble 128 x.a.toNat = true from Nat.ble_eq ▸ h']; rfl
      · have h' : ¬ 128 ≤ x.a.toNat := fun hh => h (UInt8.le_iff_toNat_le.2 (by simpa using hh))
        have hb : Nat.ble 128 x.a.toNat = false := by
          cases hq : Nat.ble 128 x.a.toNat
          · rfl
          · exact absurd (Nat.ble_eq ▸ hq) h'
        rw [if_neg h, UInt8.toNat_mul, hb, show (2 : UInt8).toNat = 2 from rfl, Nat.mod_eq_of_lt (by omega)]; rfl
theorem timesL_eq (a b : UInt8) : (timesL a b).toNat = tmN 8 0 a.toNat b.toNat := tmN_eq 8 ⟨0, a, b⟩
theorem mirN_eq (b : UInt8) : ∀ (n : Nat), n ≤ 255 → (mirL b n).toNat = mirN b.toNat n
  | 0, _ => rfl
  | n + 1, h => by
    have ih := mirN_eq b n (by omega)
    unfold mirL at ih ⊢
    rw [iterN_succ, mirN]
    have e1 : (UInt8.ofNat (n + 1)).toNat = n + 1 := by rw [UInt8.toNat_ofNat']; omega
    have e := timesL_eq b (UInt8.ofNat (n + 1))
    rw [e1] at e
    rw [← e]
    by_cases h1 : timesL b (UInt8.ofNat (n + 1)) = 1
    · rw [if_pos h1, h1, e1]; rfl
    · rw [if_neg h1]
      have : ((timesL b (UInt8.ofNat (n + 1))).toNat == 1) = false := by
        rw [beq_eq_false_iff_ne]
        exact fun hh => h1 (UInt8.toNat_inj.1 hh)
      rw [this]; exact ih
theorem box_mir : boxL = (List.range 256).map fun i => affL (UInt8.ofNat (mirN i 255)) := by decide +kernel
/-- The reference's table is package aes' one. -/
theorem refA_box : refA 256 = boxL := by
  rw [box_mir]
  unfold refA
  refine List.map_congr_left fun i hi => ?_
  have hi' : i < 256 := List.mem_range.1 hi
  unfold refS
  congr 1
  apply UInt8.toNat_inj.1
  have e1 : (UInt8.ofNat i).toNat = i := by rw [UInt8.toNat_ofNat']; omega
  have e := mirN_eq (UInt8.ofNat i) 255 (by omega)
  rw [e1] at e
  rw [e, UInt8.toNat_ofNat', ← e]
  have := (mirL (UInt8.ofNat i) 255).toNat_lt
  omega
theorem times_two (a : UInt8) : timesL a 2 = tw a := by
  have h : ∀ i, i < 256 → timesL (UInt8.ofNat i) 2 = tw (UInt8.ofNat i) := by decide +kernel
  have := h a.toNat a.toNat_lt
  rwa [UInt8.ofNat_toNat] at this
theorem times_three (a : UInt8) : timesL a 3 = tw a ^^^ a := by
  have h : ∀ i, i < 256 → timesL (UInt8.ofNat i) 3 = tw (UInt8.ofNat i) ^^^ UInt8.ofNat i := by decide +kernel
  have := h a.toNat a.toNat_lt
  rwa [UInt8.ofNat_toNat] at this
/-! ### A key's words -/
abbrev wd (w : List (List UInt8)) (i : Nat) : List UInt8 := w.getD i []
def rw2 (w : List (List UInt8)) (i : Nat) : List UInt8 := if i % 8 = 0 then rotT (wd w (i - 1)) else wd w (i - 1)
def rw3 (s : List UInt8) (w : List (List UInt8)) (i : Nat) : List UInt8 := if i % 8 = 0 ∨ i % 8 = 4 then iterN (subT s) 4 (rw2 w i) else rw2 w i
def rpw (n : Nat) : UInt8 := iterN (fun _ p => timesL p 2) n 1
def rw4 (s : List UInt8) (w : List (List UInt8)) (i : Nat) : List UInt8 := if i % 8 = 0 then (rw3 s w i).set 0 (nth (rw3 s w i) 0 ^^^ rpw (i / 8 - 1)) else rw3 s w i
def xorT (u : List UInt8) (k : Nat) (t : List UInt8) : List UInt8 := t.set k (nth t k ^^^ nth u k)
def rw5 (s : List UInt8) (w : List (List UInt8)) (i : Nat) : List UInt8 := iterN (xorT (wd w (i - 8))) 4 (rw4 s w i)
def key8 (key : List UInt8) (n : Nat) : List (List UInt8) := (List.range n).map fun i => [nth key (4 * i), nth key (4 * i + 1), nth key (4 * i + 2), nth key (4 * i + 3)]
def rsch (s key : List UInt8) (n : Nat) : List (List UInt8) := iterN (fun n w => w ++ [rw5 s w (n + 8)]) n (key8 key 8)
theorem rsch_succ (s key : List UInt8) (n : Nat) : rsch s key (n + 1) = rsch s key n ++ [rw5 s (rsch s key n) (n + 8)] := rfl
theorem key8_succ (key : List UInt8) (n : Nat) : key8 key (n + 1) = key8 key n ++ [[nth key (4 * n), nth key (4 * n + 1), nth key (4 * n + 2), nth key (4 * n + 3)]] := by unfold key8; rw [List.range_succ, List.map_append]; rfl
theorem key8_len (key : List UInt8) (n : Nat) : (key8 key n).length = n := by unfold key8; simp
theorem rsch_len (s key : List UInt8) : ∀ n, (rsch s key n).length = n + 8
  | 0 => key8_len key 8
  | n + 1 => by rw [rsch_succ, List.length_append, rsch_len s key n, List.length_singleton]
theorem subT4_len (s : List UInt8) (n : Nat) (t : List UInt8) : (iterN (subT s) n t).length = t.length := iterN_len _ (subT_len s) n t
theorem xorT_len (u : List UInt8) (n : Nat) (t : List UInt8) : (xorT u n t).length = t.length := by unfold xorT; rw [List.length_set]
theorem rw2_len {w : List (List UInt8)} {i : Nat} (h : (wd w (i - 1)).length = 4) : (rw2 w i).length = 4 := by
  unfold rw2; split
  · rfl
  · exact h
theorem rw3_len {s : List UInt8} {w : List (List UInt8)} {i : Nat} (h : (wd w (i - 1)).length = 4) : (rw3 s w i).length = 4 := by
  unfold rw3; split
  · rw [subT4_len]; exact rw2_len h
  · exact rw2_len h
theorem rw4_len {s : List UInt8} {w : List (List UInt8)} {i : Nat} (h : (wd w (i - 1)).length = 4) : (rw4 s w i).length = 4 := by
  unfold rw4; split
  · rw [List.length_set]; exact rw3_len h
  · exact rw3_len h
theorem rw5_len {s : List UInt8} {w : List (List UInt8)} {i : Nat} (h : (wd w (i - 1)).length = 4) : (rw5 s w i).length = 4 := by
  unfold rw5; rw [iterN_len _ (xorT_len _)]; exact rw4_len h
theorem wd_len (s key : List UInt8) : ∀ (n i : Nat), i < n + 8 → (wd (rsch s key n) i).length = 4
  | 0, i, h => by
    unfold wd rsch key8
    rw [List.getD_eq_getElem?_getD, iterN, List.getElem?_map, List.getElem?_range (by omega)]; rfl
  | n + 1, i, h => by
    rw [rsch_succ]
    have hl := rsch_len s key n
    by_cases e : i < n + 8
    · have := wd_len s key n i e
      unfold wd at this ⊢
      rwa [List.getD_eq_getElem?_getD, List.getElem?_append_left (by omega), ← List.getD_eq_getElem?_getD]
    · unfold wd
      rw [List.getD_eq_getElem?_getD, List.getElem?_append_right (by omega), hl, show i - (n + 8) = 0 by omega]
      exact rw5_len (wd_len s key n (n + 8 - 1) (by omega))
/-- One more word. -/
theorem addT4_nth (t W : List UInt8) (i : Nat) (h8 : 8 ≤ i) (hi : i < 60) (hW : W.length = 240) : ∀ (n j : Nat), n ≤ 4 → nth (iterN (addT t i) n W) j = if 4 * i ≤ j ∧ j < 4 * i + n then nth W (j - 32) ^^^ nth t (j - 4 * i) else nth W j
  | 0, j, _ => by rw [if_neg (by omega)]; rfl
  | n + 1, j, hn => by
    have ih := addT4_nth t W i h8 hi hW n
    have hl : (iterN (addT t i) n W).length = 240 := by rw [iterN_len _ (addT_len t i)]; exact hW
    rw [iterN_succ]
    unfold addT at ih hl ⊢
    rw [nth_set _ _ _ _ (by rw [hl]; omega)]
    by_cases e : 4 * i + n = j
    · rw [if_pos e, if_pos (by omega), ih _ (by omega), if_neg (by omega)]
      congr 2 <;> omega
    · rw [if_neg e, ih _ (by omega)]
      by_cases e2 : 4 * i ≤ j ∧ j < 4 * i + n
      · rw [if_pos e2, if_pos (by omega)]
      · rw [if_neg e2, if_neg (by omega)]
theorem xorT4_nth (u t : List UInt8) (ht : t.length = 4) : ∀ (n j : Nat), n ≤ 4 → nth (iterN (xorT u) n t) j = if j < n then nth t j ^^^ nth u j else nth t j
  | 0, j, _ => by rw [if_neg (by omega)]; rfl
  | n + 1, j, hn => by
    have ih := xorT4_nth u t ht n
    have hl : (iterN (xorT u) n t).length = 4 := by rw [iterN_len _ (xorT_len u)]; exact ht
    rw [iterN_succ]
    unfold xorT at ih hl ⊢
    rw [nth_set _ _ _ _ (by rw [hl]; omega)]
    by_cases e : n = j
    · subst e; rw [if_pos rfl, if_pos (by omega), ih _ (by omega), if_neg (by omega)]
    · rw [if_neg e, ih _ (by omega)]
      by_cases e2 : j < n
      · rw [if_pos e2, if_pos (by omega)]
      · rw [if_neg e2, if_neg (by omega)]
theorem nth_take4 (W : List UInt8) (o j : Nat) (h : j < 4) : nth ((W.drop o).take 4) j = nth W (o + j) := by
  unfold nth; rw [List.getD_eq_getElem?_getD, List.getElem?_take, if_pos h, List.getElem?_drop, ← List.getD_eq_getElem?_getD]
theorem nth_drop0 (l : List UInt8) (o i : Nat) : nth (l.drop o) i = nth l (o + i) := by
  unfold nth; rw [List.getD_eq_getElem?_getD, List.getElem?_drop, ← List.getD_eq_getElem?_getD]
/-- The power that a schedule has come to. -/
theorem schP (s key : List UInt8) : ∀ n, (schS s key n).2 = rpw ((n + 7) / 8)
  | 0 => rfl
  | n + 1 => by
    have ih := schP s key n
    show powI (schS s key n).2 (n + 8) = _
    rw [ih]
    unfold powI
    by_cases h : (n + 8) % 8 = 0
    · rw [if_pos h, ← times_two, show (n + 1 + 7) / 8 = (n + 7) / 8 + 1 by omega]; rfl
    · rw [if_neg h, show (n + 1 + 7) / 8 = (n + 7) / 8 by omega]
/-- The reference's words are those of package aes. -/
theorem rsch_sch (s key : List UInt8) (hk : key.length = 32) : ∀ (n : Nat), n ≤ 52 → ∀ i, i < n + 8 → wd (rsch s key n) i = ((schS s key n).1.drop (4 * i)).take 4
  | 0, _, i, hi => by
    have e : wd (rsch s key 0) i = [nth key (4 * i), nth key (4 * i + 1), nth key (4 * i + 2), nth key (4 * i + 3)] := by
      unfold wd rsch key8
      rw [List.getD_eq_getElem?_getD, iterN, List.getElem?_map, List.getElem?_range (by omega)]; rfl
    rw [e]
    show _ = ((key ++ List.replicate 208 0).drop (4 * i)).take 4
    refine ext_nth (by rw [List.length_take, List.length_drop, List.length_append, hk, List.length_replicate]; simp only [List.length_cons, List.length_nil]; omega) fun j hj => ?_
    have hj4 : j < 4 := by simpa using hj
    rw [nth_take4 _ _ _ hj4]
    have e2 : nth (key ++ List.replicate 208 0) (4 * i + j) = nth key (4 * i + j) := by
      unfold nth; rw [List.getD_eq_getElem?_getD, List.getElem?_append_left (by omega), ← List.getD_eq_getElem?_getD]
    rw [e2]
    match j, hj4 with
    | 0, _ => rfl
    | 1, _ => rfl
    | 2, _ => rfl
    | 3, _ => rfl
  | n + 1, hn, i, hi => by
    have ih := rsch_sch s key hk n (by omega)
    have hl := rsch_len s key n
    have hp := schP s key n
    have hW := schS_len s key hk n
    have hwd := wd_len s key n
    rw [rsch_succ]
    have es : schS s key (n + 1) = schW s n (schS s key n) := rfl
    rw [es]
    obtain ⟨w, ew⟩ : ∃ w, w = rsch s key n := ⟨_, rfl⟩
    obtain ⟨⟨W, p⟩, eW⟩ : ∃ W, W = schS s key n := ⟨_, rfl⟩
    rw [← ew, ← eW] at ih
    rw [← eW] at hp hW
    rw [← ew] at hl hwd
    rw [← ew, ← eW]
    simp only at ih hp hW
    unfold schW
    simp only
    have hA := fun (t : List UInt8) (j : Nat) => addT4_nth t W (n + 8) (by omega) (by omega) hW 4 j (Nat.le_refl _)
    have hAl : ∀ t : List UInt8, (iterN (addT t (n + 8)) 4 W).length = 240 := fun t => by rw [iterN_len _ (addT_len t _)]; exact hW
    by_cases e : i < n + 8
    · have h1 : wd (w ++ [rw5 s w (n + 8)]) i = wd w i := by
        unfold wd; rw [List.getD_eq_getElem?_getD, List.getElem?_append_left (by omega), ← List.getD_eq_getElem?_getD]
      rw [h1, ih i e]
      refine ext_nth (by simp only [List.length_take, List.length_drop, hAl, hW]) fun j hj => ?_
      have hj4 : j < 4 := by simp only [List.length_take] at hj; omega
      rw [nth_take4 _ _ _ hj4, nth_take4 _ _ _ hj4, hA, if_neg (by omega)]
    · obtain rfl : i = n + 8 := by omega
      have h1 : wd (w ++ [rw5 s w (n + 8)]) (n + 8) = rw5 s w (n + 8) := by
        unfold wd; rw [List.getD_eq_getElem?_getD, List.getElem?_append_right (by omega), hl, Nat.sub_self]; rfl
      have e2 : wd w (n + 8 - 1) = word1 W (n + 8) := ih _ (by omega)
      have e3 : rw2 w (n + 8) = word2 W (n + 8) := by unfold rw2 word2; rw [e2]
      have e4 : rw3 s w (n + 8) = word3 s W (n + 8) := by
        unfold rw3 word3; rw [e3]
        by_cases q : (n + 8) % 4 = 0
        · rw [if_pos (by omega), if_pos q]
        · rw [if_neg (by omega), if_neg q]
      have e5 : rw4 s w (n + 8) = word4 s W p (n + 8) := by
        unfold rw4 word4; rw [e4]
        by_cases q : (n + 8) % 8 = 0
        · rw [if_pos q, if_pos q, hp, show (n + 8) / 8 - 1 = (n + 7) / 8 by omega]
        · rw [if_neg q, if_neg q]
      have hl4 : (word4 s W p (n + 8)).length = 4 := by rw [← e5]; exact rw4_len (hwd _ (by omega))
      rw [h1]
      unfold rw5
      rw [e5]
      refine ext_nth ?_ fun j hj => ?_
      · rw [iterN_len _ (xorT_len _), hl4, List.length_take, List.length_drop, hAl]; omega
      · rw [iterN_len _ (xorT_len _), hl4] at hj
        rw [xorT4_nth _ _ hl4 _ _ (Nat.le_refl _), if_pos hj, nth_take4 _ _ _ hj, hA, if_pos (by omega), ih _ (by omega), nth_take4 _ _ _ hj, UInt8.xor_comm]
        congr 2 <;> omega
/-! ### A block -/
def withL (b : List UInt8) (w : List (List UInt8)) (r n : Nat) : List UInt8 := (List.range n).map fun i => nth b i ^^^ nth (wd w (4 * r + i / 4)) (i % 4)
theorem withL_succ (b : List UInt8) (w : List (List UInt8)) (r n : Nat) : withL b w r (n + 1) = withL b w r n ++ [nth b n ^^^ nth (wd w (4 * r + n / 4)) (n % 4)] := by unfold withL; rw [List.range_succ, List.map_append]; rfl
theorem withL_len (b : List UInt8) (w : List (List UInt8)) (r n : Nat) : (withL b w r n).length = n := by unfold withL; simp
theorem withL_nth (b : List UInt8) (w : List (List UInt8)) (r n j : Nat) (h : j < n) : nth (withL b w r n) j = nth b j ^^^ nth (wd w (4 * r + j / 4)) (j % 4) := by
  unfold withL nth; rw [List.getD_eq_getElem?_getD, List.getElem?_map, List.getElem?_range h]; rfl
theorem addL_nth (W b : List UInt8) (r j : Nat) (hb : b.length = 16) : nth (addL W b r) j = if j < 16 then nth b j ^^^ nth W (16 * r + j) else nth b j := by
  unfold addL
  rw [iterN_nth (addB W r) 0 (fun i l => nth l i ^^^ nth W (16 * r + i)) (fun i l => by unfold addB; rw [Nat.zero_add]) (fun i l m _ h => by rw [Nat.zero_add] at h; rw [h]) b 16 (by omega)]
  simp only [Nat.zero_le, true_and, Nat.zero_add, Nat.sub_zero]
/-- Row by row, column by column. -/
def rsubC (s b : List UInt8) (row col : Nat) (t : List UInt8) : List UInt8 := t.set (4 * col + row) (nth s (nth b (4 * ((col + row) % 4) + row)).toNat)
def rsubR (s b : List UInt8) (row : Nat) (t : List UInt8) : List UInt8 := iterN (rsubC s b row) 4 t
def rsubL (s b : List UInt8) (n : Nat) : List UInt8 := iterN (rsubR s b) n (List.replicate 16 0)
def rmixC (t : List UInt8) (c : Nat) (m : List UInt8) : List UInt8 :=
  (((m.set c (timesL (nth t c) 2 ^^^ timesL (nth t (c + 1)) 3 ^^^ nth t (c + 2) ^^^ nth t (c + 3))).set (c + 1) (nth t c ^^^ timesL (nth t (c + 1)) 2 ^^^ timesL (nth t (c + 2)) 3 ^^^ nth t (c + 3))).set (c + 2) (nth t c ^^^ nth t (c + 1) ^^^ timesL (nth t (c + 2)) 2 ^^^ timesL (nth t (c + 3)) 3)).set (c + 3) (timesL (nth t c) 3 ^^^ nth t (c + 1) ^^^ nth t (c + 2) ^^^ timesL (nth t (c + 3)) 2)
def rmixL (t : List UInt8) (n : Nat) : List UInt8 := iterN (fun i m => rmixC t (4 * i) m) n (List.replicate 16 0)
def roneS (w : List (List UInt8)) (s : List UInt8) (b : List UInt8) (n : Nat) : List UInt8 :=
  iterN (fun n b => withL (if n + 1 < 14 then rmixL (rsubL s b 4) 4 else rsubL s b 4) w (n + 1) 16) n (withL b w 0 16)
theorem roneS_zero (w : List (List UInt8)) (s b : List UInt8) : roneS w s b 0 = withL b w 0 16 := rfl
theorem roneS_succ (w : List (List UInt8)) (s b : List UInt8) (n : Nat) : roneS w s b (n + 1) = withL (if n + 1 < 14 then rmixL (rsubL s (roneS w s b n) 4) 4 else rsubL s (roneS w s b n) 4) w (n + 1) 16 := rfl
theorem iterN_zero {α : Type} (f : Nat → α → α) (s : α) : iterN f 0 s = s := rfl
def roneL (w : List (List UInt8)) (s b : List UInt8) : List UInt8 := roneS w s b 14
theorem rsubC_len (s b : List UInt8) (row col : Nat) (t : List UInt8) : (rsubC s b row col t).length = t.length := by unfold rsubC; rw [List.length_set]
theorem rsubR_len (s b : List UInt8) (row : Nat) (t : List UInt8) : (rsubR s b row t).length = t.length := iterN_len _ (rsubC_len s b row) _ _
theorem rsubL_len (s b : List UInt8) (n : Nat) : (rsubL s b n).length = 16 := by unfold rsubL; rw [iterN_len _ (rsubR_len s b)]; exact List.length_replicate
theorem rmixC_len (t : List UInt8) (c : Nat) (m : List UInt8) : (rmixC t c m).length = m.length := by unfold rmixC; simp only [List.length_set]
theorem rmixL_len (t : List UInt8) (n : Nat) : (rmixL t n).length = 16 := by unfold rmixL; rw [iterN_len _ (fun n m => rmixC_len t (4 * n) m)]; exact List.length_replicate
theorem roneS_len (w : List (List UInt8)) (s b : List UInt8) : ∀ n, (roneS w s b n).length = 16
  | 0 => by rw [roneS_zero]; exact withL_len _ _ _ _
  | n + 1 => by rw [roneS_succ]; exact withL_len _ _ _ _
theorem list16 {l : List UInt8} (h : l.length = 16) : ∃ a0 a1 a2 a3 a4 a5 a6 a7 a8 a9 a10 a11 a12 a13 a14 a15, l = [a0, a1, a2, a3, a4, a5, a6, a7, a8, a9, a10, a11, a12, a13, a14, a15] := by
  match l, h with
  | [a0, a1, a2, a3, a4, a5, a6, a7, a8, a9, a10, a11, a12, a13, a14, a15], _ => exact ⟨a0, a1, a2, a3, a4, a5, a6, a7, a8, a9, a10, a11, a12, a13, a14, a15, rfl⟩
theorem rsub_sub (s b : List UInt8) (hb : b.length = 16) : rsubL s b 4 = subL s b := by
  obtain ⟨a0, a1, a2, a3, a4, a5, a6, a7, a8, a9, a10, a11, a12, a13, a14, a15, rfl⟩ := list16 hb
  kernel_rfl
theorem xor_r1 (x y z v : UInt8) : x ^^^ tw y ^^^ (tw z ^^^ z) ^^^ v = tw y ^^^ tw z ^^^ z ^^^ v ^^^ x := by
  simp only [UInt8.xor_assoc]; rw [UInt8.xor_comm x]; simp only [UInt8.xor_assoc]
theorem xor_r2 (x y z v : UInt8) : x ^^^ y ^^^ tw z ^^^ (tw v ^^^ v) = tw z ^^^ tw v ^^^ v ^^^ x ^^^ y := by
  rw [UInt8.xor_assoc (x ^^^ y), UInt8.xor_comm (x ^^^ y)]; simp only [UInt8.xor_assoc]
theorem xor_r3 (x y z v : UInt8) : tw x ^^^ x ^^^ y ^^^ z ^^^ tw v = tw v ^^^ tw x ^^^ x ^^^ y ^^^ z := by
  rw [UInt8.xor_comm _ (tw v)]; simp only [UInt8.xor_assoc]
theorem xor_r0 (x y z v : UInt8) : tw x ^^^ (tw y ^^^ y) ^^^ z ^^^ v = tw x ^^^ tw y ^^^ y ^^^ z ^^^ v := by simp only [UInt8.xor_assoc]
theorem rmix_mix (t : List UInt8) (ht : t.length = 16) : rmixL t 4 = mixL t := by
  obtain ⟨a0, a1, a2, a3, a4, a5, a6, a7, a8, a9, a10, a11, a12, a13, a14, a15, rfl⟩ := list16 ht
  unfold rmixL rmixC
  simp only [times_two, times_three, xor_r0, xor_r1, xor_r2, xor_r3]
  kernel_rfl
theorem with_add (w : List (List UInt8)) (W b : List UInt8) (r : Nat) (hb : b.length = 16) (hw : ∀ i, i < 60 → wd w i = (W.drop (4 * i)).take 4) (hr : r ≤ 14) : withL b w r 16 = addL W b r := by
  refine ext_nth (by rw [withL_len, addL_len, hb]) fun j hj => ?_
  rw [withL_len] at hj
  rw [withL_nth _ _ _ _ _ hj, addL_nth _ _ _ _ hb, if_pos hj, hw _ (by omega), nth_take4 _ _ _ (by omega), show 4 * (4 * r + j / 4) + j % 4 = 16 * r + j by omega]
theorem rone_block (w : List (List UInt8)) (s W b : List UInt8) (hb : b.length = 16) (hw : ∀ i, i < 60 → wd w i = (W.drop (4 * i)).take 4) : roneL w s b = blockL s W b := by
  have key : ∀ n, n ≤ 14 → roneS w s b n = iterN (roundL s W) n (addL W b 0) := by
    intro n
    induction n with
    | zero => intro _; rw [roneS_zero, iterN_zero]; exact with_add w W b 0 hb hw (by omega)
    | succ n ih =>
      intro hn
      rw [iterN_succ, ← ih (by omega)]
      have h16 := roneS_len w s b n
      rw [roneS_succ]
      obtain ⟨q, eq⟩ : ∃ q, q = roneS w s b n := ⟨_, rfl⟩
      rw [← eq] at h16 ⊢
      unfold roundL
      rw [rsub_sub s q h16, rmix_mix _ (subL_len s q)]
      refine with_add w W _ (n + 1) ?_ hw (by omega)
      split
      · exact mixL_len _
      · exact subL_len _ _
  exact key 14 (Nat.le_refl _)
/-! ### A stream -/
def cntL (n : Nat) : List UInt8 := [UInt8.ofNat (n / 16777216), UInt8.ofNat (n / 65536), UInt8.ofNat (n / 256), UInt8.ofNat n]
def rstrB (b text : List UInt8) (at' m : Nat) : List UInt8 := (List.range m).map fun i => nth text (at' + i) ^^^ nth b i
theorem rstrB_succ (b text : List UInt8) (at' m : Nat) : rstrB b text at' (m + 1) = rstrB b text at' m ++ [nth text (at' + m) ^^^ nth b m] := by unfold rstrB; rw [List.range_succ, List.map_append]; rfl
theorem rstrB_len (b text : List UInt8) (at' m : Nat) : (rstrB b text at' m).length = m := by unfold rstrB; simp
def rstrS (w : List (List UInt8)) (s nonce text : List UInt8) (n : Nat) : List UInt8 := iterN (fun n out => out ++ rstrB (roneL w s (nonce ++ cntL n)) text (16 * n) (min 16 (text.length - 16 * n))) n []
theorem rstrS_succ (w : List (List UInt8)) (s nonce text : List UInt8) (n : Nat) : rstrS w s nonce text (n + 1) = rstrS w s nonce text n ++ rstrB (roneL w s (nonce ++ cntL n)) text (16 * n) (min 16 (text.length - 16 * n)) := rfl
theorem rstrS_len (w : List (List UInt8)) (s nonce text : List UInt8) : ∀ n, (rstrS w s nonce text n).length = min (16 * n) text.length
  | 0 => by simp [rstrS, iterN]
  | n + 1 => by rw [rstrS_succ, List.length_append, rstrS_len w s nonce text n, rstrB_len]; omega
theorem cnt_big (n : Nat) (h : n < 4294967296) : cntL n = bigB (UInt64.ofNat n) 4 := by
  have e : ∀ m k : Nat, m < 64 → 2 ^ m = k → (UInt64.ofNat n >>> UInt64.ofNat m).toUInt8 = UInt8.ofNat (n / k) := fun m k hm hk => by
    apply UInt8.toNat_inj.1
    rw [UInt64.toNat_toUInt8, UInt64.toNat_shiftRight, UInt64.toNat_ofNat', UInt64.toNat_ofNat', UInt8.toNat_ofNat', Nat.shiftRight_eq_div_pow, Nat.mod_eq_of_lt (by omega : n < 2 ^ 64), Nat.mod_eq_of_lt (by omega : m < 2 ^ 64), Nat.mod_eq_of_lt hm, hk]
  have e0 := e 0 1 (by omega) rfl
  have e1 := e 8 256 (by omega) rfl
  have e2 := e 16 65536 (by omega) rfl
  have e3 := e 24 16777216 (by omega) rfl
  rw [Nat.div_one] at e0
  unfold cntL
  rw [← e0, ← e1, ← e2, ← e3]
  rfl
/-- What the reference's stream has come to. -/
theorem rstr_stream (w : List (List UInt8)) (key nonce text : List UInt8) (hn : nonce.length = 12) (ht : text.length ≤ 1000000) (hw : ∀ i, i < 60 → wd w i = ((schL boxL key).drop (4 * i)).take 4) : ∀ n, 16 * n < text.length + 16 → rstrS w boxL nonce text n = (streamL key nonce text).take (16 * n)
  | 0, _ => rfl
  | n + 1, h => by
    have ih := rstr_stream w key nonce text hn ht hw n (by omega)
    have hl := rstrS_len w boxL nonce text n
    rw [rstrS_succ, ih, rone_block w boxL (schL boxL key) _ (by rw [List.length_append, hn]; rfl) hw, cnt_big n (by omega), show 16 * (n + 1) = 16 * n + 16 by omega, List.take_add]
    congr 1
    have hsl := streamL_len key nonce text
    refine ext_nth (by rw [rstrB_len, List.length_take, List.length_drop, hsl]) fun j hj => ?_
    rw [rstrB_len] at hj
    have e1 : nth ((List.drop (16 * n) (streamL key nonce text)).take 16) j = nth (streamL key nonce text) (16 * n + j) := by
      unfold nth; rw [List.getD_eq_getElem?_getD, List.getElem?_take, if_pos (by omega), List.getElem?_drop, ← List.getD_eq_getElem?_getD]
    rw [e1, streamL_nth _ _ _ _ (by omega), show (16 * n + j) / 16 = n by omega, show (16 * n + j) % 16 = j by omega]
    unfold rstrB nth
    rw [List.getD_eq_getElem?_getD, List.getElem?_map, List.getElem?_range hj]; rfl
/-- The reference's stream is package aes' one. -/
theorem rstr_all (key nonce text : List UInt8) (hk : key.length = 32) (hn : nonce.length = 12) (ht : text.length ≤ 1000000) (n : Nat) (h1 : text.length ≤ 16 * n) (h2 : 16 * n < text.length + 16) : rstrS (rsch boxL key 52) boxL nonce text n = streamL key nonce text := by
  rw [rstr_stream _ key nonce text hn ht (fun i hi => rsch_sch boxL key hk 52 (Nat.le_refl _) i (by omega)) n h2, List.take_of_length_le (by rw [streamL_len]; omega)]
end TL
end Go
