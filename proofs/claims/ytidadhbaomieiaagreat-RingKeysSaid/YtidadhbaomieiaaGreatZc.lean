/- Texts of this seat, put together: AesL, AesA, AesB, AesC, AesS, PackL. Each begins with a remark that says what is proved in it, and under which conditions. -/
import Derived.Lib.BitFns
import Derived.Test.YtidadhbaomieiaaGreatZa
import Derived.Test.YtidadhbaomieiaaGreatZb
/- Plain: what package aes computes, step by step as its code does. No program in this text. No conditions but those each lemma names. -/
namespace Go
namespace TL
/-- A count of steps, each told its number. -/
def iterN {α : Type} (f : Nat → α → α) : Nat → α → α
  | 0, s => s
  | n + 1, s => f n (iterN f n s)
theorem iterN_succ {α : Type} (f : Nat → α → α) (n : Nat) (s : α) : iterN f (n + 1) s = f n (iterN f n s) := rfl
theorem iterN_inv {α : Type} (f : Nat → α → α) (p : α → Prop) (hf : ∀ n s, p s → p (f n s)) : ∀ (n : Nat) (s : α), p s → p (iterN f n s)
  | 0, _, h => h
  | n + 1, s, h => hf n _ (iterN_inv f p hf n s h)
theorem iterN_len (f : Nat → List UInt8 → List UInt8) (hf : ∀ n s, (f n s).length = s.length) (n : Nat) (s : List UInt8) : (iterN f n s).length = s.length := by
  induction n with
  | zero => rfl
  | succ n ih => rw [iterN_succ, hf, ih]
abbrev nth (l : List UInt8) (i : Nat) : UInt8 := l.getD i 0
/-! ### S -/
def tw (b : UInt8) : UInt8 := b <<< 1 ^^^ b >>> 7 * 27
def rl (b n : UInt8) : UInt8 := b <<< n ||| b >>> (8 - n)
structure BoxS where
  s : List UInt8
  p : UInt8
  q : UInt8
def boxQ (q : UInt8) : UInt8 :=
  let q1 := q ^^^ q <<< 1
  let q2 := q1 ^^^ q1 <<< 2
  let q3 := q2 ^^^ q2 <<< 4
  q3 ^^^ q3 >>> 7 * 9
def boxStep (_ : Nat) (x : BoxS) : BoxS := ⟨x.s.set x.p.toNat (x.q ^^^ rl x.q 1 ^^^ rl x.q 2 ^^^ rl x.q 3 ^^^ rl x.q 4 ^^^ 99), x.p ^^^ tw x.p, boxQ x.q⟩
def boxS (n : Nat) : BoxS := iterN boxStep n ⟨List.replicate 256 0, 1, 1⟩
theorem boxS_len (n : Nat) : (boxS n).s.length = 256 :=
  iterN_inv boxStep (fun x => x.s.length = 256) (fun n s h => by unfold boxStep; simpa using h) n _ (List.length_replicate ..)
def boxL : List UInt8 := (boxS 255).s.set 0 99
theorem boxL_len : boxL.length = 256 := by unfold boxL; rw [List.length_set]; exact boxS_len _
/-! ### A key's words -/
/-- A word's place is rotated, put through S, and so on: the i-th word of a schedule. -/
def rotT (t : List UInt8) : List UInt8 := [nth t 1, nth t 2, nth t 3, nth t 0]
def subT (s : List UInt8) (k : Nat) (t : List UInt8) : List UInt8 := t.set k (nth s (nth t k).toNat)
def word1 (W : List UInt8) (i : Nat) : List UInt8 := (W.drop (4 * (i - 1))).take 4
def word2 (W : List UInt8) (i : Nat) : List UInt8 := if i % 8 = 0 then rotT (word1 W i) else word1 W i
def word3 (s W : List UInt8) (i : Nat) : List UInt8 := if i % 4 = 0 then iterN (subT s) 4 (word2 W i) else word2 W i
def word4 (s W : List UInt8) (pw : UInt8) (i : Nat) : List UInt8 := if i % 8 = 0 then (word3 s W i).set 0 (nth (word3 s W i) 0 ^^^ pw) else word3 s W i
def powI (pw : UInt8) (i : Nat) : UInt8 := if i % 8 = 0 then tw pw else pw
def addT (t : List UInt8) (i k : Nat) (W : List UInt8) : List UInt8 := W.set (4 * i + k) (nth W (4 * (i - 8) + k) ^^^ nth t k)
def schW (s : List UInt8) (n : Nat) (x : List UInt8 × UInt8) : List UInt8 × UInt8 := (iterN (addT (word4 s x.1 x.2 (n + 8)) (n + 8)) 4 x.1, powI x.2 (n + 8))
def schS (s key : List UInt8) (n : Nat) : List UInt8 × UInt8 := iterN (schW s) n (key ++ List.replicate 208 0, 1)
def schL (s key : List UInt8) : List UInt8 := (schS s key 52).1
theorem addT_len (t : List UInt8) (i n : Nat) (W : List UInt8) : (addT t i n W).length = W.length := by unfold addT; rw [List.length_set]
theorem schS_len (s key : List UInt8) (hk : key.length = 32) (n : Nat) : (schS s key n).1.length = 240 :=
  iterN_inv (schW s) (fun x => x.1.length = 240) (fun n x h => by unfold schW; simp only; rw [iterN_len _ (addT_len _ _)]; exact h) n _ (by show (key ++ _).length = 240; rw [List.length_append, hk, List.length_replicate])
theorem schL_len (s key : List UInt8) (hk : key.length = 32) : (schL s key).length = 240 := schS_len s key hk _
theorem word1_len {W : List UInt8} {i : Nat} (hW : W.length = 240) (h1 : 1 ≤ i) (h2 : i ≤ 60) : (word1 W i).length = 4 := by unfold word1; simp; omega
theorem subT_len (s : List UInt8) (k : Nat) (t : List UInt8) : (subT s k t).length = t.length := by unfold subT; rw [List.length_set]
/-! ### A block -/
def addB (W : List UInt8) (round i : Nat) (b : List UInt8) : List UInt8 := b.set i (nth b i ^^^ nth W (16 * round + i))
def addL (W b : List UInt8) (round : Nat) : List UInt8 := iterN (addB W round) 16 b
def mixN (b : List UInt8) (i k : Nat) : UInt8 := nth b (i / 4 * 4 + (i + k) % 4)
def mixB (b : List UInt8) (i : Nat) (out : List UInt8) : List UInt8 := out.set i (tw (mixN b i 0) ^^^ tw (mixN b i 1) ^^^ mixN b i 1 ^^^ mixN b i 2 ^^^ mixN b i 3)
def mixL (b : List UInt8) : List UInt8 := iterN (mixB b) 16 (List.replicate 16 0)
def subB (s b : List UInt8) (i : Nat) (t : List UInt8) : List UInt8 := t.set i (nth s (nth b ((i + 4 * (i % 4)) % 16)).toNat)
def subL (s b : List UInt8) : List UInt8 := iterN (subB s b) 16 (List.replicate 16 0)
def roundL (s W : List UInt8) (n : Nat) (b : List UInt8) : List UInt8 := addL W (if n + 1 < 14 then mixL (subL s b) else subL s b) (n + 1)
def blockL (s W b : List UInt8) : List UInt8 := iterN (roundL s W) 14 (addL W b 0)
theorem addB_len (W : List UInt8) (r i : Nat) (b : List UInt8) : (addB W r i b).length = b.length := by unfold addB; rw [List.length_set]
theorem addL_len (W b : List UInt8) (r : Nat) : (addL W b r).length = b.length := iterN_len _ (addB_len W r) _ _
theorem mixL_len (b : List UInt8) : (mixL b).length = 16 := by unfold mixL; rw [iterN_len _ (fun n s => by unfold mixB; rw [List.length_set]), List.length_replicate]
theorem subL_len (s b : List UInt8) : (subL s b).length = 16 := by unfold subL; rw [iterN_len _ (fun n s => by unfold subB; rw [List.length_set]), List.length_replicate]
theorem roundL_len (s W : List UInt8) (n : Nat) (b : List UInt8) : (roundL s W n b).length = 16 := by unfold roundL; rw [addL_len]; split; exact mixL_len _; exact subL_len _ _
theorem blockL_len (s W b : List UInt8) (hb : b.length = 16) : (blockL s W b).length = 16 :=
  iterN_inv _ (fun l => l.length = 16) (fun n x _ => roundL_len s W n x) 14 _ (by rw [addL_len]; exact hb)
/-! ### A stream -/
def xorB (out : List UInt8) (at' i : Nat) (b : List UInt8) : List UInt8 := b.set (at' + i) (nth b (at' + i) ^^^ nth out i)
def strB (s W nonce : List UInt8) (k : Nat) (b : List UInt8) : List UInt8 := iterN (xorB (blockL s W (nonce ++ bigB (UInt64.ofNat k) 4)) (16 * k)) (min 16 (b.length - 16 * k)) b
def strN (s W nonce : List UInt8) (n : Nat) (b : List UInt8) : List UInt8 := iterN (strB s W nonce) n b
def streamL (key nonce text : List UInt8) : List UInt8 := strN boxL (schL boxL key) nonce ((text.length + 15) / 16) text
theorem xorB_len (out : List UInt8) (a i : Nat) (b : List UInt8) : (xorB out a i b).length = b.length := by unfold xorB; rw [List.length_set]
theorem strB_len (s W nonce : List UInt8) (k : Nat) (b : List UInt8) : (strB s W nonce k b).length = b.length := iterN_len _ (xorB_len _ _) _ _
theorem strN_len (s W nonce : List UInt8) (n : Nat) (b : List UInt8) : (strN s W nonce n b).length = b.length := iterN_len _ (strB_len s W nonce) _ _
theorem streamL_len (key nonce text : List UInt8) : (streamL key nonce text).length = text.length := strN_len _ _ _ _ _
/-! ### Twice a stream -/
/-- What xors a place with what does not hang on the text, done for many places. -/
theorem nth_set (l : List UInt8) (i j : Nat) (v : UInt8) (h : i < l.length) : nth (l.set i v) j = if i = j then v else nth l j := by
  unfold nth
  simp only [List.getD_eq_getElem?_getD, List.getElem?_set]
  by_cases e : i = j
  · subst e; simp [h]
  · simp [e]
theorem nth_ge (l : List UInt8) (i : Nat) (h : l.length ≤ i) : nth l i = 0 := by unfold nth; simp [List.getD_eq_getElem?_getD, List.getElem?_eq_none h]
theorem ext_nth {l m : List UInt8} (h : l.length = m.length) (hh : ∀ i, i < l.length → nth l i = nth m i) : l = m := by
  apply List.ext_getElem h
  intro i h1 h2
  have := hh i h1
  unfold nth at this
  simpa [List.getD_eq_getElem?_getD, List.getElem?_eq_getElem h1, List.getElem?_eq_getElem h2] using this
/-- Cells told one by one. -/
theorem iterN_nth (f : Nat → List UInt8 → List UInt8) (o : Nat) (v : Nat → List UInt8 → UInt8) (hf : ∀ i l, f i l = l.set (o + i) (v i l)) (hv : ∀ i l m, l.length = m.length → nth l (o + i) = nth m (o + i) → v i l = v i m) (l : List UInt8) :
    ∀ (n : Nat), o + n ≤ l.length → ∀ j, nth (iterN f n l) j = if o ≤ j ∧ j < o + n then v (j - o) l else nth l j
  | 0, _, j => by rw [if_neg (by omega)]; rfl
  | n + 1, h, j => by
    have ih := iterN_nth f o v hf hv l n (by omega)
    have hl : (iterN f n l).length = l.length := iterN_len f (fun i m => by rw [hf, List.length_set]) n l
    rw [iterN_succ, hf, nth_set _ _ _ _ (by rw [hl]; omega)]
    by_cases e : o + n = j
    · subst e
      rw [if_pos rfl, if_pos (by omega)]
      rw [hv n _ l hl (by rw [ih]; rw [if_neg (by omega)])]
      congr 1; omega
    · rw [if_neg e, ih]
      by_cases h2 : o ≤ j ∧ j < o + n
      · rw [if_pos h2, if_pos (by omega)]
      · rw [if_neg h2, if_neg (by omega)]
theorem strB_nth (s W nonce : List UInt8) (k : Nat) (b : List UInt8) (j : Nat) (hk : 16 * k ≤ b.length) : nth (strB s W nonce k b) j = if 16 * k ≤ j ∧ j < 16 * k + 16 ∧ j < b.length then nth b j ^^^ nth (blockL s W (nonce ++ bigB (UInt64.ofNat k) 4)) (j - 16 * k) else nth b j := by
  unfold strB
  rw [iterN_nth (xorB (blockL s W (nonce ++ bigB (UInt64.ofNat k) 4)) (16 * k)) (16 * k) (fun i l => nth l (16 * k + i) ^^^ nth (blockL s W (nonce ++ bigB (UInt64.ofNat k) 4)) i) (fun i l => rfl) (fun i l m _ h => by rw [h]) b _ (by omega)]
  by_cases h : 16 * k ≤ j ∧ j < 16 * k + min 16 (b.length - 16 * k)
  · rw [if_pos h, if_pos (by omega), show 16 * k + (j - 16 * k) = j by omega]
  · rw [if_neg h, if_neg (by omega)]
theorem strN_nth (s W nonce : List UInt8) (b : List UInt8) : ∀ (n j : Nat), 16 * n < b.length + 16 → nth (strN s W nonce n b) j = if j < 16 * n ∧ j < b.length then nth b j ^^^ nth (blockL s W (nonce ++ bigB (UInt64.ofNat (j / 16)) 4)) (j % 16) else nth b j
  | 0, j, _ => by rw [if_neg (by omega)]; rfl
  | n + 1, j, h => by
    have ih := strN_nth s W nonce b n j (by omega)
    have hl := strN_len s W nonce n b
    unfold strN at ih hl ⊢
    rw [iterN_succ, strB_nth _ _ _ _ _ _ (by rw [hl]; omega), hl]
    by_cases h1 : 16 * n ≤ j ∧ j < 16 * n + 16 ∧ j < b.length
    · rw [if_pos h1, if_pos (by omega), ih, if_neg (by omega), show j / 16 = n by omega, show j % 16 = j - 16 * n by omega]
    · rw [if_neg h1, ih]
      by_cases h2 : j < 16 * n ∧ j < b.length
      · rw [if_pos h2, if_pos (by omega)]
      · rw [if_neg h2, if_neg (by omega)]
theorem streamL_nth (key nonce text : List UInt8) (j : Nat) (hj : j < text.length) : nth (streamL key nonce text) j = nth text j ^^^ nth (blockL boxL (schL boxL key) (nonce ++ bigB (UInt64.ofNat (j / 16)) 4)) (j % 16) := by
  unfold streamL
  rw [strN_nth _ _ _ _ _ _ (by omega), if_pos (by omega)]
/-- Twice streamed, a text is itself. -/
theorem streamL_twice (key nonce text : List UInt8) : streamL key nonce (streamL key nonce text) = text := by
  refine ext_nth (by rw [streamL_len, streamL_len]) fun i hi => ?_
  rw [streamL_len, streamL_len] at hi
  rw [streamL_nth _ _ _ _ (by rw [streamL_len]; exact hi), streamL_nth _ _ _ _ hi, UInt8.xor_assoc, UInt8.xor_self, UInt8.xor_zero]
end TL
end Go

/- The walks of package aes: a byte's double, S, big numbers' bytes, and what is done to a block. Conditions: lengths. -/
namespace Go
namespace TL
theorem I8_toNat (x : UInt8) : (I8 x).toNat = x.toNat := by unfold I8; simp
end TL
end Go
namespace Go.Proofs.YtidadhbaomieiaaGreat
open Go.RowKit Go.TL
set_option maxRecDepth 100000 in
theorem twice_c (b : UInt8) (w : World) :
    Calls Tryz.prog 177 #[.int .u8 (I8 b)] w fun e w' => e = .returned (.int .u8 (I8 (tw b))) ∧ w = w' := by
  go_enter Tryz.func177, Tryz.ntmps177
  go_wp2
  go_ret
  exact ⟨rfl, rfl⟩
set_option maxRecDepth 100000 in
theorem rot8_c (b n : UInt8) (k : Int) (w : World) (hk : (k = 1 ∧ n = 1) ∨ (k = 2 ∧ n = 2) ∨ (k = 3 ∧ n = 3) ∨ (k = 4 ∧ n = 4)) :
    Calls Tryz.prog 191 #[.int .u8 (I8 b), .int .i64 k] w fun e w' => e = .returned (.int .u8 (I8 (rl b n))) ∧ w = w' := by
  have h1 : I64 (1 &&& 7) = 1 := by decide
  have h2 : I64 (2 &&& 7) = 2 := by decide
  have h3 : I64 (3 &&& 7) = 3 := by decide
  have h4 : I64 (4 &&& 7) = 4 := by decide
  have k7 : I64 7 = 7 := by decide
  have k6 : I64 6 = 6 := by decide
  have k5 : I64 5 = 5 := by decide
  have k4 : I64 4 = 4 := by decide
  rcases hk with ⟨rfl, rfl⟩ | ⟨rfl, rfl⟩ | ⟨rfl, rfl⟩ | ⟨rfl, rfl⟩
  all_goals
    go_enter Tryz.func191, Tryz.ntmps191
    go_wp2
    go_ret
    exact ⟨rfl, rfl⟩
set_option maxRecDepth 100000 in
set_option maxHeartbeats 4000000 in
theorem box_c (w : World) :
    Calls Tryz.prog 176 #[] w fun e w' => e = .returned (.agg (bs boxL).toArray) ∧ Below w.heap.size w w' := by
  have M := Mem.start [] w
  go_enter Tryz.func176, Tryz.ntmps176
  go_wp2_with ((first | ((with_reducible refine tAlloc (some 0) 256 ?_); refine w_alloc M _ rfl rfl (.agg (Array.replicate 256 (.int .u8 0))) (bs (List.replicate 256 (0 : UInt8))) (by kernel_rfl) rfl ?_; clear M; intro gs w1 M) | ((with_reducible refine tGuard ?_); first | refine w_strip rfl (by with_reducible rfl) ?_ | ((fail_if_success (refine w_lit false rfl (by with_reducible rfl) ?_)); (fail_if_success (refine w_lit true rfl (by with_reducible rfl) ?_)); refine w_case rfl ?_ ?_ <;> (intro hgd; rw [hgd]; try (exfalso; simp at hgd; omega)))) | ((with_reducible refine tConv _ 70 9 ?_); go_must (first | refine w_stringW M _ _ _ _ _ rfl rfl (by first | exact at0) rfl (by first | assumption | exact lenI | exact lenS ‹_› | rfl) (by decide) Tryz.underlying70 Tryz.underlying5 Tryz.underlying9 ?_ | refine w_string M _ _ _ _ _ rfl rfl (by first | exact at0) (by first | rfl | (simp; done) | assumption) rfl Tryz.underlying70 Tryz.underlying5 Tryz.underlying9 ?_)) | ((with_reducible refine tLoad ?_); go_must (refine w_at _ _ rfl (by exact ev_tmp rfl) ?_; intro hx; (first | refine w_load M _ _ _ rfl (by first | exact at0) hx rfl (by decide +kernel) (by exact rfl) ?_ | refine w_loadB M _ _ _ rfl (by first | exact at0) hx rfl (by decide +kernel) (by first | assumption | omega | (simp; omega)) ?_ | refine w_loadH M _ _ _ rfl (by first | exact at0) hx rfl (by decide +kernel) (by first | assumption | exact lenI | exact lenS ‹_› | rfl) (by decide +kernel) ?_ | refine w_loadR M _ _ _ rfl (by first | exact at0) hx rfl (by decide +kernel) (by kernel_rfl) ?_); clear hx)) | ((with_reducible refine tStore ?_); go_must (refine w_at2 _ _ _ rfl (by exact ev_tmp rfl) (by first | exact ev_tmp rfl | exact ev_const) ?_; intro hx hy; (first | refine w_storeB M _ _ _ _ rfl (by first | exact at0) hx rfl hy (by decide +kernel) (by first | assumption | omega | (simp; omega)) ?_ | refine w_storeH M _ _ _ _ rfl (by first | exact at0) hx rfl hy (by first | assumption | exact lenI | exact lenS ‹_› | rfl) (by decide +kernel) (by first | assumption | exact lenI | exact lenS ‹_› | rfl) ?_ | refine w_store M _ _ _ _ rfl (by first | exact at0) hx rfl hy rfl rfl (by decide +kernel) (by first | decide | simp | (simp; omega)) ?_ | refine w_storeR M _ _ _ _ rfl (by first | exact at0) hx rfl _ hy rfl (by kernel_rfl) (by simp [Value.oneCell']) (by first | rfl | assumption) ?_); clear hx hy M; intro w1 M; (try simp only [setC] at M))) | ((with_reducible refine tBox _ ?_); (refine w_box M _ _ rfl rfl _ rfl _ rfl ?_; clear M; intro g w1 M))) <;> (try conv => arg 5; simp only [Act.put, List.setIfInBounds_toArray, setC]))
  go_loopw [1, 2, 3] (fun pv qv kv wr => ∃ k : Nat, k ≤ 255 ∧ kv = .int .i64 k ∧ pv = .int .u8 (I8 (boxS k).p) ∧ qv = .int .u8 (I8 (boxS k).q) ∧ Mem [] w wr [.row gs (bs (boxS k).s)]) (fun _ _ kv _ => 255 - (intOf kv).toNat)
  case atStart => exact ⟨0, by omega, rfl, rfl, rfl, M⟩
  case round =>
    clear M
    obtain ⟨k, hk, rfl, rfl, rfl, M⟩ := hrel
    have hl := boxS_len k
    by_cases hlt : k < 255
    · obtain ⟨x, ex⟩ : ∃ x, x = boxS k := ⟨_, rfl⟩
      rw [← ex] at M hl
      rw [← ex]
      have e : boxS (k + 1) = boxStep k x := by rw [ex]; rfl
      have E := Lib.hid e
      have hp := x.p.toNat_lt
      have hp0 := (I8_bd x.p).1
      have hp1 := (I8_bd x.p).2
      have hp2 := I8_toNat x.p
      have hp3 : x.p.toNat < 256 := hp
      clear e ex hp
      go_wp2_with ((first | (go_at_call 177; go_must (refine (twice_c _ _).mono ?_; rintro e w1 ⟨rfl, rfl⟩)) | (go_at_call 191; go_must ((first | (with_reducible refine (rot8_c _ 1 1 _ (by decide)).mono ?_) | (with_reducible refine (rot8_c _ 2 2 _ (by decide)).mono ?_) | (with_reducible refine (rot8_c _ 3 3 _ (by decide)).mono ?_) | (with_reducible refine (rot8_c _ 4 4 _ (by decide)).mono ?_)); rintro e w1 ⟨rfl, rfl⟩)) | ((with_reducible refine tGuard ?_); first | refine w_strip rfl (by with_reducible rfl) ?_ | ((fail_if_success (refine w_lit false rfl (by with_reducible rfl) ?_)); (fail_if_success (refine w_lit true rfl (by with_reducible rfl) ?_)); refine w_case rfl ?_ ?_ <;> (intro hgd; rw [hgd]; try (exfalso; simp at hgd; omega)))) | ((with_reducible refine tConv _ 70 9 ?_); go_must (first | refine w_stringW M _ _ _ _ _ rfl rfl (by first | exact at0) rfl (by first | assumption | exact lenI | exact lenS ‹_› | rfl) (by decide) Tryz.underlying70 Tryz.underlying5 Tryz.underlying9 ?_ | refine w_string M _ _ _ _ _ rfl rfl (by first | exact at0) (by first | rfl | (simp; done) | assumption) rfl Tryz.underlying70 Tryz.underlying5 Tryz.underlying9 ?_)) | ((with_reducible refine tLoad ?_); go_must (refine w_at _ _ rfl (by exact ev_tmp rfl) ?_; intro hx; (first | refine w_load M _ _ _ rfl (by first | exact at0) hx rfl (by decide +kernel) (by exact rfl) ?_ | refine w_loadB M _ _ _ rfl (by first | exact at0) hx rfl (by decide +kernel) (by first | assumption | omega | (simp; omega)) ?_ | refine w_loadH M _ _ _ rfl (by first | exact at0) hx rfl (by decide +kernel) (by first | assumption | exact lenI | exact lenS ‹_› | rfl) (by decide +kernel) ?_ | refine w_loadR M _ _ _ rfl (by first | exact at0) hx rfl (by decide +kernel) (by kernel_rfl) ?_); clear hx)) | ((with_reducible refine tStore ?_); go_must (refine w_at2 _ _ _ rfl (by exact ev_tmp rfl) (by first | exact ev_tmp rfl | exact ev_const) ?_; intro hx hy; (first | refine w_storeB M _ _ _ _ rfl (by first | exact at0) hx rfl hy (by decide +kernel) (by first | assumption | omega | (simp; omega)) ?_ | refine w_storeH M _ _ _ _ rfl (by first | exact at0) hx rfl hy (by first | assumption | exact lenI | exact lenS ‹_› | rfl) (by decide +kernel) (by first | assumption | exact lenI | exact lenS ‹_› | rfl) ?_ | refine w_store M _ _ _ _ rfl (by first | exact at0) hx rfl hy rfl rfl (by decide +kernel) (by first | decide | simp | (simp; omega)) ?_ | refine w_storeR M _ _ _ _ rfl (by first | exact at0) hx rfl _ hy rfl (by kernel_rfl) (by simp [Value.oneCell']) (by first | rfl | assumption) ?_); clear hx hy M; intro w1 M; (try simp only [setC] at M))) | ((with_reducible refine tBox _ ?_); (refine w_box M _ _ rfl rfl _ rfl _ rfl ?_; clear M; intro g w1 M))) <;> (try conv => arg 5; simp only [Act.put, List.setIfInBounds_toArray, setC]))
      go_roundw
      case rel => exact ⟨k + 1, by omega, by go_num, by rw [E.out]; rfl, by rw [E.out]; rfl, by rw [E.out]; exact M⟩
      case measure => simp [intOf]; omega
    · obtain rfl : k = 255 := by omega
      have E := Lib.hid (show boxL = (boxS 255).s.set 0 99 from rfl)
      obtain ⟨x, ex⟩ : ∃ x, x = boxS 255 := ⟨_, rfl⟩
      rw [← ex] at M hl
      rw [← ex]
      rw [← ex] at E
      clear ex
      have hl2 : (x.s.set 0 99).length = 256 := by rw [List.length_set]; exact hl
      go_wp2_with ((first | ((with_reducible refine tGuard ?_); first | refine w_strip rfl (by with_reducible rfl) ?_ | ((fail_if_success (refine w_lit false rfl (by with_reducible rfl) ?_)); (fail_if_success (refine w_lit true rfl (by with_reducible rfl) ?_)); refine w_case rfl ?_ ?_ <;> (intro hgd; rw [hgd]; try (exfalso; simp at hgd; omega)))) | ((with_reducible refine tConv _ 70 9 ?_); go_must (first | refine w_stringW M _ _ _ _ _ rfl rfl (by first | exact at0) rfl (by first | assumption | exact lenI | exact lenS ‹_› | rfl) (by decide) Tryz.underlying70 Tryz.underlying5 Tryz.underlying9 ?_ | refine w_string M _ _ _ _ _ rfl rfl (by first | exact at0) (by first | rfl | (simp; done) | assumption) rfl Tryz.underlying70 Tryz.underlying5 Tryz.underlying9 ?_)) | ((with_reducible refine tLoad ?_); go_must (refine w_at _ _ rfl (by exact ev_tmp rfl) ?_; intro hx; (first | refine w_load M _ _ _ rfl (by first | exact at0) hx rfl (by decide +kernel) (by exact rfl) ?_ | refine w_loadB M _ _ _ rfl (by first | exact at0) hx rfl (by decide +kernel) (by first | assumption | omega | (simp; omega)) ?_ | refine w_loadH M _ _ _ rfl (by first | exact at0) hx rfl (by decide +kernel) (by first | assumption | exact lenI | exact lenS ‹_› | rfl) (by decide +kernel) ?_ | refine w_loadR M _ _ _ rfl (by first | exact at0) hx rfl (by decide +kernel) (by kernel_rfl) ?_); clear hx)) | ((with_reducible refine tStore ?_); go_must (refine w_at2 _ _ _ rfl (by exact ev_tmp rfl) (by first | exact ev_tmp rfl | exact ev_const) ?_; intro hx hy; (first | refine w_storeB M _ _ _ _ rfl (by first | exact at0) hx rfl hy (by decide +kernel) (by first | assumption | omega | (simp; omega)) ?_ | refine w_storeH M _ _ _ _ rfl (by first | exact at0) hx rfl hy (by first | assumption | exact lenI | exact lenS ‹_› | rfl) (by decide +kernel) (by first | assumption | exact lenI | exact lenS ‹_› | rfl) ?_ | refine w_storeBc M _ _ _ _ rfl (by first | exact at0) hx rfl hy (by decide) (by decide +kernel) (by first | assumption | omega | (simp; omega)) ?_ | refine w_store M _ _ _ _ rfl (by first | exact at0) hx rfl hy rfl rfl (by decide +kernel) (by first | decide | simp | (simp; omega)) ?_ | refine w_storeR M _ _ _ _ rfl (by first | exact at0) hx rfl _ hy rfl (by kernel_rfl) (by simp [Value.oneCell']) (by first | rfl | assumption) ?_); clear hx hy M; intro w1 M; (try simp only [setC] at M); (try simp only [w8_lit] at M))) | ((with_reducible refine tBox _ ?_); (refine w_box M _ _ rfl rfl _ rfl _ rfl ?_; clear M; intro g w1 M))) <;> (try conv => arg 5; simp only [Act.put, List.setIfInBounds_toArray, setC]))
      rw [← E.out] at M
      exact bodyPost_ret (results_row rfl _ _ gs 0 (bs boxL) _ rfl (M.ok 0 _ rfl).2.1 Tryz.underlying256 rfl (by rw [bs_length, boxL_len]; kernel_rfl)) rfl ⟨rfl, M.below⟩
set_option maxRecDepth 100000 in
set_option maxHeartbeats 400000 in
theorem aesPut (base : Nat) (v : Value) (l : List UInt8) (x : UInt64) (n : Nat) (w : World) (hown : OwnB w base v l) (hbase : base ≤ w.heap.size) (hn : n ≤ 8) (hl : l.length ≤ 1000000000000) :
    Calls Tryz.prog 149 #[v, .int .u64 (I64 x), .int .i64 n] w fun e w' => ∃ v', e = .returned v' ∧ OwnB w' base v' (l ++ bigB x n) ∧ w.grownBy w' v.ownBlock ∧ FreshOr w v v' := by
  go_enter Tryz.func149, Tryz.ntmps149
  go_wp2
  go_loopw [0, 7] (fun b i wr => ∃ (j : Nat) (done : List UInt8), j ≤ n ∧ i = .int .i64 ((j : Int) - 1) ∧ done.length ≤ 8 ∧ done ++ bigB x j = bigB x n ∧ OwnB wr base b (l ++ done) ∧ w.grownBy wr v.ownBlock ∧ FreshOr w v b) (fun _ i _ => (intOf i + 1).toNat)
  case atStart => exact ⟨n, [], by omega, rfl, by simp, rfl, by simpa using hown, grownBy_refl _ _, .inl rfl⟩
  case round =>
    obtain ⟨j, done, hj, rfl, hd, H, ho, hg, hf⟩ := hrel
    have H' := Lib.hid H; clear H
    have ho' := Lib.hid ho; clear ho
    have hg' := Lib.hid hg; clear hg
    have hf' := Lib.hid hf; clear hf
    cases j with
    | zero =>
      go_wp2
      go_ret
      have hx : done = bigB x n := by have := H'.out; simpa [bigB] using this
      subst hx
      exact ⟨_, rfl, ho'.out, hg'.out, hf'.out⟩
    | succ i =>
      have e : ((i + 1 : Nat) : Int) - 1 = i := by omega
      rw [e]; clear e
      have b1 : 8 * (i : Int) ≤ 63 := by omega
      have b0 : 0 ≤ 8 * (i : Int) := by omega
      go_wp2_with (at_builtin; refine wpList_append_new bytesT rfl (.tmp 14) (.tmp 20) rfl base wr [_] _ _ rfl u0 (l ++ done) rfl ho'.out rfl ?_ ?_ ?_)
      · simp; omega
      · have := hg'.out.size; omega
      · intro v' w1 hown1 hg1 hf1
        have hg2 := Lib.hid (grow_step hg'.out hf'.out hg1)
        have hf2 := Lib.hid (fresh_trans hg'.out.size hf'.out hf1)
        have hown2 := Lib.hid hown1
        clear hown1 hg1 hf1
        go_wp2
        go_roundw
        case rel => exact ⟨i, done ++ [(x >>> (8 * UInt64.ofNat i)).toUInt8], by omega, by go_num, by have := bigB_length x n; rw [← H'.out] at this; simp [bigB, bigB_length] at this ⊢; omega, by rw [← H'.out]; simp [bigB], hown2.out, hg2.out, hf2.out⟩
        case measure => simp [intOf]
/-- The same, of a piece that is turned. -/
theorem aesPutc (v : Value) (l : List UInt8) (x : UInt64) (n : Nat) (w : World) (hok : (Chunk.sl 1 v l.length (bs l)).ok w) (hn : n ≤ 8) (hl : l.length ≤ 1000000000000) :
    Calls Tryz.prog 149 #[v, .int .u64 (I64 x), .int .i64 n] w fun e w' => ∃ p cap, e = .returned (.slice p (l ++ bigB x n).length cap) ∧ Upd w (.sl 1 v l.length (bs l)) w' (.sl 1 (.slice p (l ++ bigB x n).length cap) (l ++ bigB x n).length (bs (l ++ bigB x n))) :=
  (aesPut 0 v l x n w hok (Nat.zero_le _) hn hl).mono fun e w' h => by
    obtain ⟨v', rfl, ho, hg, hf⟩ := h
    obtain ⟨p, cap, rfl⟩ := Own.form0 ho
    refine ⟨p, cap, rfl, Kept.grown hg, ho, fun k hk => ?_⟩
    simp only [Chunk.fp, Option.mem_toList] at hk ⊢
    rcases hf with hf | ⟨g, h1, h2⟩
    · exact .inl (by rw [← hf]; exact hk)
    · rw [h1] at hk; cases hk; exact .inr h2
set_option maxRecDepth 100000 in
set_option maxHeartbeats 400000 in
theorem sealPut (base : Nat) (v : Value) (l : List UInt8) (x : UInt64) (n : Nat) (w : World) (hown : OwnB w base v l) (hbase : base ≤ w.heap.size) (hn : n ≤ 8) (hl : l.length ≤ 1000000000000) :
    Calls Tryz.prog 108 #[v, .int .u64 (I64 x), .int .i64 n] w fun e w' => ∃ v', e = .returned v' ∧ OwnB w' base v' (l ++ bigB x n) ∧ w.grownBy w' v.ownBlock ∧ FreshOr w v v' := by
  go_enter Tryz.func108, Tryz.ntmps108
  go_wp2
  go_loopw [0, 7] (fun b i wr => ∃ (j : Nat) (done : List UInt8), j ≤ n ∧ i = .int .i64 ((j : Int) - 1) ∧ done.length ≤ 8 ∧ done ++ bigB x j = bigB x n ∧ OwnB wr base b (l ++ done) ∧ w.grownBy wr v.ownBlock ∧ FreshOr w v b) (fun _ i _ => (intOf i + 1).toNat)
  case atStart => exact ⟨n, [], by omega, rfl, by simp, rfl, by simpa using hown, grownBy_refl _ _, .inl rfl⟩
  case round =>
    obtain ⟨j, done, hj, rfl, hd, H, ho, hg, hf⟩ := hrel
    have H' := Lib.hid H; clear H
    have ho' := Lib.hid ho; clear ho
    have hg' := Lib.hid hg; clear hg
    have hf' := Lib.hid hf; clear hf
    cases j with
    | zero =>
      go_wp2
      go_ret
      have hx : done = bigB x n := by have := H'.out; simpa [bigB] using this
      subst hx
      exact ⟨_, rfl, ho'.out, hg'.out, hf'.out⟩
    | succ i =>
      have e : ((i + 1 : Nat) : Int) - 1 = i := by omega
      rw [e]; clear e
      have b1 : 8 * (i : Int) ≤ 63 := by omega
      have b0 : 0 ≤ 8 * (i : Int) := by omega
      go_wp2_with (at_builtin; refine wpList_append_new bytesT rfl (.tmp 14) (.tmp 20) rfl base wr [_] _ _ rfl u0 (l ++ done) rfl ho'.out rfl ?_ ?_ ?_)
      · simp; omega
      · have := hg'.out.size; omega
      · intro v' w1 hown1 hg1 hf1
        have hg2 := Lib.hid (grow_step hg'.out hf'.out hg1)
        have hf2 := Lib.hid (fresh_trans hg'.out.size hf'.out hf1)
        have hown2 := Lib.hid hown1
        clear hown1 hg1 hf1
        go_wp2
        go_roundw
        case rel => exact ⟨i, done ++ [(x >>> (8 * UInt64.ofNat i)).toUInt8], by omega, by go_num, by have := bigB_length x n; rw [← H'.out] at this; simp [bigB, bigB_length] at this ⊢; omega, by rw [← H'.out]; simp [bigB], hown2.out, hg2.out, hf2.out⟩
        case measure => simp [intOf]
/-- The same, of a piece that is turned. -/
theorem sealPutc (v : Value) (l : List UInt8) (x : UInt64) (n : Nat) (w : World) (hok : (Chunk.sl 1 v l.length (bs l)).ok w) (hn : n ≤ 8) (hl : l.length ≤ 1000000000000) :
    Calls Tryz.prog 108 #[v, .int .u64 (I64 x), .int .i64 n] w fun e w' => ∃ p cap, e = .returned (.slice p (l ++ bigB x n).length cap) ∧ Upd w (.sl 1 v l.length (bs l)) w' (.sl 1 (.slice p (l ++ bigB x n).length cap) (l ++ bigB x n).length (bs (l ++ bigB x n))) :=
  (sealPut 0 v l x n w hok (Nat.zero_le _) hn hl).mono fun e w' h => by
    obtain ⟨v', rfl, ho, hg, hf⟩ := h
    obtain ⟨p, cap, rfl⟩ := Own.form0 ho
    refine ⟨p, cap, rfl, Kept.grown hg, ho, fun k hk => ?_⟩
    simp only [Chunk.fp, Option.mem_toList] at hk ⊢
    rcases hf with hf | ⟨g, h1, h2⟩
    · exact .inl (by rw [← hf]; exact hk)
    · rw [h1] at hk; cases hk; exact .inr h2
set_option maxRecDepth 100000 in
set_option maxHeartbeats 4000000 in
theorem add_c (gc : Nat) (s W b : List UInt8) (r : Nat) (rv : Int) (hrv : rv = r) (w : World) (R : (Chunk.row gc (bs (W ++ s))).ok w) (hW : W.length = 240) (hs : s.length = 256) (hb : b.length = 16) (hr : r ≤ 14) :
    Calls Tryz.prog 178 #[.pointer (some ⟨gc, 0, none⟩), .agg (bs b).toArray, .int .i64 rv] w fun e w' => e = .returned (.agg (bs (addL W b r)).toArray) ∧ Below w.heap.size w w' := by
  subst hrv
  have M := Mem.start [] w
  have hWs : (W ++ s).length = 496 := by rw [List.length_append, hW, hs]
  have NW : ∀ i, i < 240 → (W ++ s).getD i 0 = nth W i := fun i hi => by
    unfold nth; simp only [List.getD_eq_getElem?_getD]; rw [List.getElem?_append_left (by omega)]
  obtain ⟨C, eC⟩ : ∃ C, C = W ++ s := ⟨_, rfl⟩
  rw [← eC] at R hWs NW
  clear eC
  replace NW := Lib.hid NW
  go_enter Tryz.func178, Tryz.ntmps178
  go_wp2_with ((first | ((with_reducible refine tBox (some 4) ?_); refine w_box M _ _ rfl rfl _ rfl (bs b) rfl ?_; clear M; intro gb w1 M) | ((with_reducible refine tAlloc (some 6) 234 ?_); refine w_alloc M _ rfl rfl (.agg (Array.replicate 16 (.int .u8 0))) (bs (List.replicate 16 (0 : UInt8))) (by kernel_rfl) rfl ?_; clear M; intro go w1 M) | ((with_reducible refine tGuard ?_); first | refine w_strip rfl (by with_reducible rfl) ?_ | ((fail_if_success (refine w_lit false rfl (by with_reducible rfl) ?_)); (fail_if_success (refine w_lit true rfl (by with_reducible rfl) ?_)); refine w_case rfl ?_ ?_ <;> (intro hgd; rw [hgd]; try (exfalso; simp at hgd; omega)))) | ((with_reducible refine tConv _ 70 9 ?_); go_must (first | refine w_stringW M _ _ _ _ _ rfl rfl (by first | exact at0 | exact at1) rfl (by first | assumption | exact lenI | exact lenS ‹_› | rfl) (by decide) Tryz.underlying70 Tryz.underlying5 Tryz.underlying9 ?_ | refine w_string M _ _ _ _ _ rfl rfl (by first | exact at0 | exact at1) (by first | rfl | (simp; done) | assumption) rfl Tryz.underlying70 Tryz.underlying5 Tryz.underlying9 ?_)) | ((with_reducible refine tLoad ?_); go_must (refine w_at _ _ rfl (by exact ev_tmp rfl) ?_; intro hx; (first | refine w_load M _ _ _ rfl (by first | exact at0 | exact at1) hx rfl (by decide +kernel) (by exact rfl) ?_ | refine w_loadB M _ _ _ rfl (by first | exact at0 | exact at1) hx rfl (by decide +kernel) (by first | assumption | omega | (simp; omega)) ?_ | refine w_loadH M _ _ _ rfl (by first | exact at0 | exact at1) hx rfl (by decide +kernel) (by first | assumption | exact lenI | exact lenS ‹_› | rfl) (by decide +kernel) ?_ | refine w_loadR M _ _ _ rfl (by first | exact at0 | exact at1) hx rfl (by decide +kernel) (by kernel_rfl) ?_); clear hx)) | ((with_reducible refine tStore ?_); go_must (refine w_at2 _ _ _ rfl (by exact ev_tmp rfl) (by first | exact ev_tmp rfl | exact ev_const) ?_; intro hx hy; (first | refine w_storeB M _ _ _ _ rfl (by first | exact at0 | exact at1) hx rfl hy (by decide +kernel) (by first | assumption | omega | (simp; omega)) ?_ | refine w_storeH M _ _ _ _ rfl (by first | exact at0 | exact at1) hx rfl hy (by first | assumption | exact lenI | exact lenS ‹_› | rfl) (by decide +kernel) (by first | assumption | exact lenI | exact lenS ‹_› | rfl) ?_ | refine w_store M _ _ _ _ rfl (by first | exact at0 | exact at1) hx rfl hy rfl rfl (by decide +kernel) (by first | decide | simp | (simp; omega)) ?_ | refine w_storeR M _ _ _ _ rfl (by first | exact at0 | exact at1) hx rfl _ hy rfl (by kernel_rfl) (by simp [Value.oneCell']) (by first | rfl | assumption) ?_); clear hx hy M; intro w1 M; (try simp only [setC] at M))) | ((with_reducible refine tBox _ ?_); (refine w_box M _ _ rfl rfl _ rfl _ rfl ?_; clear M; intro g w1 M))) <;> (try conv => arg 5; simp only [Act.put, List.setIfInBounds_toArray, setC]))
  go_loopw [8] (fun kv wr => ∃ k : Nat, k ≤ 16 ∧ kv = .int .i64 k ∧ Mem [] w wr [.row go (bs (List.replicate 16 0)), .row gb (bs (iterN (addB W r) k b))]) (fun kv _ => 16 - (intOf kv).toNat)
  case atStart => exact ⟨0, by omega, rfl, M⟩
  case round =>
    clear M
    obtain ⟨k, hk, rfl, M⟩ := hrel
    obtain ⟨d, ed⟩ : ∃ d, d = iterN (addB W r) k b := ⟨_, rfl⟩
    have hd : d.length = 16 := by rw [ed, iterN_len _ (addB_len W r)]; exact hb
    rw [← ed] at M
    have ED := Lib.hid ed
    clear ed
    by_cases hlt : k < 16
    · go_wp2_with ((first | ((with_reducible refine tLoad ?_); refine w_at _ _ rfl (by exact ev_tmp rfl) ?_; intro hx; (first | refine w_rowB M R _ _ rfl hx rfl (by decide +kernel) (by first | assumption | omega | (simp; omega)) ?_); clear hx) | ((with_reducible show Code.wp _ (Code.region 4 _ _) _ _ _); go_must (have MR := M; refine region_lowc [(0, false), (1, false), (3, false), (4, false), (5, false), (6, false), (7, false), (8, false), (9, false), (10, false), (11, false), (12, false), (13, false), (14, false), (2, false), (15, false), (16, false), (17, false), (18, true)] [(15, .int), (17, .int), (16, .int), (18, .int), (20, .int), (14, .ptr), (13, .int), (26, .int)] [(2, _), (15, _)] (IxOk MR [1]) 18 (by kernel_rfl) (by kernel_rfl) rfl (by kernel_rfl) (lows_cons (by first | exact stab_ix MR 1 k rfl rfl (by decide) (by decide +kernel) rfl | exact stab_ixB MR 1 k rfl rfl (by decide) (by decide +kernel) (by first | assumption | omega) | exact stab_ix32 MR 1 k rfl rfl (by decide) (by decide +kernel) (by first | assumption | omega | (simp; omega)) | exact stab_ixH MR 1 rfl rfl (by decide) (by decide +kernel) (by first | assumption | exact lenI | exact lenS ‹_› | rfl) (by decide +kernel) | exact stab_ixW32 MR 1 rfl rfl (by decide) (by decide +kernel) (by first | assumption | exact lenI | exact lenS ‹_› | rfl) (by decide +kernel) | exact stab_ixR MR 1 rfl rfl (by decide) (by decide +kernel) (by kernel_rfl) | exact stab_ixW MR 1 rfl rfl (by decide) (by first | assumption | exact lenI | exact lenS ‹_› | rfl) (by decide) Tryz.underlying70 Tryz.underlying5 Tryz.underlying9 | exact stab_ixS MR 1 rfl rfl (by decide) (by first | rfl | simp | assumption) Tryz.underlying70 Tryz.underlying5 Tryz.underlying9) (lows_cons (stab_rowB MR R ((4*r+k/4)*4+k%4) rfl (by decide +kernel) (by first | assumption | omega | (simp; omega))) lows_nil)) (ixOk_self MR _) ?_; replace M := M.drew; simp only [planC, opAt, List.getElem?_toArray, List.getElem?_cons_zero, List.getElem?_cons_succ, Option.getD_some])) | ((with_reducible show Seg _ _ _ _); go_must (first | refine Seg.intro ⟨fun h => absurd rfl h, ?_⟩ | refine Seg.intro ⟨fun _ => (by repeat' (first | exact ixOk_nil M.kept | refine ixOk_cons rfl (by first | exact M.ok 0 _ rfl | exact M.ok 1 _ rfl | exact M.ok 2 _ rfl | exact M.ok 3 _ rfl) ?_)), ?_⟩ | refine Seg.intro ⟨(by repeat' (first | (with_reducible exact needs_nil) | refine needs_at rfl (by first | (show Shape.ok Shape.nums _ = true; exact nums_bs _) | rfl) ?_)), (by repeat' (first | (with_reducible exact ats_nil) | refine ats_cons (by first | exact ev_tmp rfl | rfl) ?_)), ?_⟩)) | ((with_reducible show OnlyN _ _ _ _ _); refine OnlyN.intro (by kernel_rfl) ?_) | ((with_reducible refine tGuard ?_); first | refine w_strip rfl (by with_reducible rfl) ?_ | ((fail_if_success (refine w_lit false rfl (by with_reducible rfl) ?_)); (fail_if_success (refine w_lit true rfl (by with_reducible rfl) ?_)); refine w_case rfl ?_ ?_ <;> (intro hgd; rw [hgd]; try (exfalso; simp at hgd; omega)))) | ((with_reducible refine tConv _ 70 9 ?_); go_must (first | refine w_stringW M _ _ _ _ _ rfl rfl (by first | exact at0 | exact at1) rfl (by first | assumption | exact lenI | exact lenS ‹_› | rfl) (by decide) Tryz.underlying70 Tryz.underlying5 Tryz.underlying9 ?_ | refine w_string M _ _ _ _ _ rfl rfl (by first | exact at0 | exact at1) (by first | rfl | (simp; done) | assumption) rfl Tryz.underlying70 Tryz.underlying5 Tryz.underlying9 ?_)) | ((with_reducible refine tLoad ?_); go_must (refine w_at _ _ rfl (by exact ev_tmp rfl) ?_; intro hx; (first | refine w_load M _ _ _ rfl (by first | exact at0 | exact at1) hx rfl (by decide +kernel) (by exact rfl) ?_ | refine w_loadB M _ _ _ rfl (by first | exact at0 | exact at1) hx rfl (by decide +kernel) (by first | assumption | omega | (simp; omega)) ?_ | refine w_loadH M _ _ _ rfl (by first | exact at0 | exact at1) hx rfl (by decide +kernel) (by first | assumption | exact lenI | exact lenS ‹_› | rfl) (by decide +kernel) ?_ | refine w_loadR M _ _ _ rfl (by first | exact at0 | exact at1) hx rfl (by decide +kernel) (by kernel_rfl) ?_); clear hx)) | ((with_reducible refine tStore ?_); go_must (refine w_at2 _ _ _ rfl (by exact ev_tmp rfl) (by first | exact ev_tmp rfl | exact ev_const) ?_; intro hx hy; (first | refine w_storeB M _ _ _ _ rfl (by first | exact at0 | exact at1) hx rfl hy (by decide +kernel) (by first | assumption | omega | (simp; omega)) ?_ | refine w_storeH M _ _ _ _ rfl (by first | exact at0 | exact at1) hx rfl hy (by first | assumption | exact lenI | exact lenS ‹_› | rfl) (by decide +kernel) (by first | assumption | exact lenI | exact lenS ‹_› | rfl) ?_ | refine w_store M _ _ _ _ rfl (by first | exact at0 | exact at1) hx rfl hy rfl rfl (by decide +kernel) (by first | decide | simp | (simp; omega)) ?_ | refine w_storeR M _ _ _ _ rfl (by first | exact at0 | exact at1) hx rfl _ hy rfl (by kernel_rfl) (by simp [Value.oneCell']) (by first | rfl | assumption) ?_); clear hx hy M; intro w1 M; (try simp only [setC] at M))) | ((with_reducible refine tBox _ ?_); (refine w_box M _ _ rfl rfl _ rfl _ rfl ?_; clear M; intro g w1 M))) <;> (try conv => arg 5; simp only [Act.put, List.setIfInBounds_toArray, setC]))
      have hC : C[(4 * r + k / 4) * 4 + k % 4]?.getD 0 = nth W (16 * r + k) := by
        rw [← NW.out _ (by omega), show 16 * r + k = (4 * r + k / 4) * 4 + k % 4 by omega, List.getD_eq_getElem?_getD]
      have hD : addB W r k d = d.set k (d[k] ^^^ nth W (16 * r + k)) := by
        unfold addB nth; simp [List.getElem?_eq_getElem (show k < d.length by omega)]
      rw [hC, ← hD] at M
      go_roundw
      case rel => exact ⟨k + 1, by omega, by go_num, by rw [iterN_succ, ← ED.out]; exact M⟩
      case measure => simp [intOf]; omega
    · obtain rfl : k = 16 := by omega
      go_wp2_with ((first | ((with_reducible refine tGuard ?_); first | refine w_strip rfl (by with_reducible rfl) ?_ | ((fail_if_success (refine w_lit false rfl (by with_reducible rfl) ?_)); (fail_if_success (refine w_lit true rfl (by with_reducible rfl) ?_)); refine w_case rfl ?_ ?_ <;> (intro hgd; rw [hgd]; try (exfalso; simp at hgd; omega)))) | ((with_reducible refine tConv _ 70 9 ?_); go_must (first | refine w_stringW M _ _ _ _ _ rfl rfl (by first | exact at0 | exact at1) rfl (by first | assumption | exact lenI | exact lenS ‹_› | rfl) (by decide) Tryz.underlying70 Tryz.underlying5 Tryz.underlying9 ?_ | refine w_string M _ _ _ _ _ rfl rfl (by first | exact at0 | exact at1) (by first | rfl | (simp; done) | assumption) rfl Tryz.underlying70 Tryz.underlying5 Tryz.underlying9 ?_)) | ((with_reducible refine tLoad ?_); go_must (refine w_at _ _ rfl (by exact ev_tmp rfl) ?_; intro hx; (first | refine w_load M _ _ _ rfl (by first | exact at0 | exact at1) hx rfl (by decide +kernel) (by exact rfl) ?_ | refine w_loadB M _ _ _ rfl (by first | exact at0 | exact at1) hx rfl (by decide +kernel) (by first | assumption | omega | (simp; omega)) ?_ | refine w_loadH M _ _ _ rfl (by first | exact at0 | exact at1) hx rfl (by decide +kernel) (by first | assumption | exact lenI | exact lenS ‹_› | rfl) (by decide +kernel) ?_ | refine w_loadR M _ _ _ rfl (by first | exact at0 | exact at1) hx rfl (by decide +kernel) (by kernel_rfl) ?_); clear hx)) | ((with_reducible refine tStore ?_); go_must (refine w_at2 _ _ _ rfl (by exact ev_tmp rfl) (by first | exact ev_tmp rfl | exact ev_const) ?_; intro hx hy; (first | refine w_storeB M _ _ _ _ rfl (by first | exact at0 | exact at1) hx rfl hy (by decide +kernel) (by first | assumption | omega | (simp; omega)) ?_ | refine w_storeH M _ _ _ _ rfl (by first | exact at0 | exact at1) hx rfl hy (by first | assumption | exact lenI | exact lenS ‹_› | rfl) (by decide +kernel) (by first | assumption | exact lenI | exact lenS ‹_› | rfl) ?_ | refine w_store M _ _ _ _ rfl (by first | exact at0 | exact at1) hx rfl hy rfl rfl (by decide +kernel) (by first | decide | simp | (simp; omega)) ?_ | refine w_storeR M _ _ _ _ rfl (by first | exact at0 | exact at1) hx rfl _ hy rfl (by kernel_rfl) (by simp [Value.oneCell']) (by first | rfl | assumption) ?_); clear hx hy M; intro w1 M; (try simp only [setC] at M))) | ((with_reducible refine tBox _ ?_); (refine w_box M _ _ rfl rfl _ rfl _ rfl ?_; clear M; intro g w1 M))) <;> (try conv => arg 5; simp only [Act.put, List.setIfInBounds_toArray, setC]))
      exact bodyPost_ret (results_row rfl _ _ go 0 (bs d) _ rfl (M.ok 0 _ rfl).2.1 Tryz.underlying234 rfl (by rw [bs_length, hd]; kernel_rfl)) rfl ⟨by rw [show addL W b r = d from ED.out.symm], M.below⟩
set_option maxRecDepth 100000 in
set_option maxHeartbeats 1000000 in
theorem mix1_c (g ga gi : Nat) (b : List UInt8) (at' i k : Nat) (kv : Int) (hkv : kv = k) (w : World) (hb : b.length = 16) (R : (Chunk.row g (bs b)).ok w) (RA : (Chunk.row ga [.int .i64 at']).ok w) (RI : (Chunk.row gi [.int .i64 i]).ok w) (ha : at' + 3 < 16) (hi : i < 16) (hk : k < 4) :
    Calls Tryz.prog 192 #[.int .i64 kv, .pointer (some ⟨g, 0, none⟩), .pointer (some ⟨ga, 0, none⟩), .pointer (some ⟨gi, 0, none⟩)] w fun e w' => e = .returned (.int .u8 (I8 (nth b (at' + (i + k) % 4)))) ∧ Below w.heap.size w w' := by
  subst hkv
  have M := Mem.start [] w
  go_enter Tryz.func192, Tryz.ntmps192
  go_wp2_with (first | ((with_reducible show wpList _ _ _ (Oper.mk _ (Op.load _ _) _ _ _ _ :: _) _ _); refine w_at _ _ rfl (by first | exact ev_tmp rfl | exact ev_const) ?_; intro hx; first | (refine w_rowB M R _ _ rfl hx rfl (by decide +kernel) (by first | assumption | omega | (simp; omega)) ?_; clear hx) | (refine w_rowC M RA _ _ rfl hx rfl (by decide +kernel) rfl ?_; clear hx) | (refine w_rowC M RI _ _ rfl hx rfl (by decide +kernel) rfl ?_; clear hx)))
  go_ret
  exact ⟨by simp [nth], M.below⟩
set_option maxRecDepth 100000 in
set_option maxHeartbeats 4000000 in
theorem mix_c (b : List UInt8) (w : World) (hb : b.length = 16) :
    Calls Tryz.prog 179 #[.agg (bs b).toArray] w fun e w' => e = .returned (.agg (bs (mixL b)).toArray) ∧ Below w.heap.size w w' := by
  have M := Mem.start [] w
  have hmf : ∀ (fn : Fn) (first cap : Array Value) (w : World), (Instr.makeFunc fn first cap).run Tryz.prog w = .ok (.func fn first cap) w := fun _ _ _ _ => rfl
  go_enter Tryz.func179, Tryz.ntmps179
  go_wp2_with ((first | ((with_reducible refine tBox (some 1) ?_); refine w_box M _ _ rfl rfl _ rfl (bs b) rfl ?_; clear M; intro gb w1 M) | ((with_reducible refine tAlloc (some 2) 234 ?_); refine w_alloc M _ rfl rfl (.agg (Array.replicate 16 (.int .u8 0))) (bs (List.replicate 16 (0 : UInt8))) (by kernel_rfl) rfl ?_; clear M; intro go w1 M) | ((with_reducible refine tGuard ?_); first | refine w_strip rfl (by with_reducible rfl) ?_ | ((fail_if_success (refine w_lit false rfl (by with_reducible rfl) ?_)); (fail_if_success (refine w_lit true rfl (by with_reducible rfl) ?_)); refine w_case rfl ?_ ?_ <;> (intro hgd; rw [hgd]; try (exfalso; simp at hgd; omega)))) | ((with_reducible refine tConv _ 70 9 ?_); go_must (first | refine w_stringW M _ _ _ _ _ rfl rfl (by first | exact at0 | exact at1) rfl (by first | assumption | exact lenI | exact lenS ‹_› | rfl) (by decide) Tryz.underlying70 Tryz.underlying5 Tryz.underlying9 ?_ | refine w_string M _ _ _ _ _ rfl rfl (by first | exact at0 | exact at1) (by first | rfl | (simp; done) | assumption) rfl Tryz.underlying70 Tryz.underlying5 Tryz.underlying9 ?_)) | ((with_reducible refine tLoad ?_); go_must (refine w_at _ _ rfl (by exact ev_tmp rfl) ?_; intro hx; (first | refine w_load M _ _ _ rfl (by first | exact at0 | exact at1) hx rfl (by decide +kernel) (by exact rfl) ?_ | refine w_loadB M _ _ _ rfl (by first | exact at0 | exact at1) hx rfl (by decide +kernel) (by first | assumption | omega | (simp; omega)) ?_ | refine w_loadH M _ _ _ rfl (by first | exact at0 | exact at1) hx rfl (by decide +kernel) (by first | assumption | exact lenI | exact lenS ‹_› | rfl) (by decide +kernel) ?_ | refine w_loadR M _ _ _ rfl (by first | exact at0 | exact at1) hx rfl (by decide +kernel) (by kernel_rfl) ?_); clear hx)) | ((with_reducible refine tStore ?_); go_must (refine w_at2 _ _ _ rfl (by exact ev_tmp rfl) (by first | exact ev_tmp rfl | exact ev_const) ?_; intro hx hy; (first | refine w_storeB M _ _ _ _ rfl (by first | exact at0 | exact at1) hx rfl hy (by decide +kernel) (by first | assumption | omega | (simp; omega)) ?_ | refine w_storeH M _ _ _ _ rfl (by first | exact at0 | exact at1) hx rfl hy (by first | assumption | exact lenI | exact lenS ‹_› | rfl) (by decide +kernel) (by first | assumption | exact lenI | exact lenS ‹_› | rfl) ?_ | refine w_store M _ _ _ _ rfl (by first | exact at0 | exact at1) hx rfl hy rfl rfl (by decide +kernel) (by first | decide | simp | (simp; omega)) ?_ | refine w_storeR M _ _ _ _ rfl (by first | exact at0 | exact at1) hx rfl _ hy rfl (by kernel_rfl) (by simp [Value.oneCell']) (by first | rfl | assumption) ?_); clear hx hy M; intro w1 M; (try simp only [setC] at M))) | ((with_reducible refine tBox _ ?_); (refine w_box M _ _ rfl rfl _ rfl _ rfl ?_; clear M; intro g w1 M))) <;> (try conv => arg 5; simp only [Act.put, List.setIfInBounds_toArray, setC]))
  go_loopw [6] (fun kv wr => ∃ k : Nat, k ≤ 16 ∧ kv = .int .i64 k ∧ Mem [] w wr [.row go (bs (iterN (mixB b) k (List.replicate 16 0))), .row gb (bs b)]) (fun kv _ => 16 - (intOf kv).toNat)
  case atStart => exact ⟨0, by omega, rfl, M⟩
  case round =>
    clear M
    obtain ⟨k, hk, rfl, M⟩ := hrel
    obtain ⟨d, ed⟩ : ∃ d, d = iterN (mixB b) k (List.replicate 16 0) := ⟨_, rfl⟩
    have hd : d.length = 16 := by rw [ed, iterN_len _ (fun n s => by unfold mixB; rw [List.length_set])]; exact List.length_replicate
    rw [← ed] at M
    have ED := Lib.hid ed
    clear ed
    by_cases hlt : k < 16
    · have hk4 : k / 4 * 4 + 3 < 16 := by omega
      go_wp2_with ((first | ((with_reducible refine tAlloc (some 3) 3 ?_); refine w_alloc M _ rfl rfl (.int .i64 0) ([.int .i64 0]) (by kernel_rfl) rfl ?_; clear M; intro gi w1 M) | ((with_reducible refine tAlloc (some 4) 3 ?_); refine w_alloc M _ rfl rfl (.int .i64 0) ([.int .i64 0]) (by kernel_rfl) rfl ?_; clear M; intro ga w1 M) | (go_at_call 177; go_must (refine (twice_c _ _).mono ?_; rintro e w1 ⟨rfl, rfl⟩)) | (go_at_call 192; go_must ((first | (with_reducible refine (mix1_c _ _ _ b _ _ 0 0 (by decide) _ hb (M.ok 3 _ rfl) (M.ok 0 _ rfl) (M.ok 1 _ rfl) hk4 hlt (by decide)).mono ?_) | (with_reducible refine (mix1_c _ _ _ b _ _ 1 1 (by decide) _ hb (M.ok 3 _ rfl) (M.ok 0 _ rfl) (M.ok 1 _ rfl) hk4 hlt (by decide)).mono ?_) | (with_reducible refine (mix1_c _ _ _ b _ _ 2 2 (by decide) _ hb (M.ok 3 _ rfl) (M.ok 0 _ rfl) (M.ok 1 _ rfl) hk4 hlt (by decide)).mono ?_) | (with_reducible refine (mix1_c _ _ _ b _ _ 3 3 (by decide) _ hb (M.ok 3 _ rfl) (M.ok 0 _ rfl) (M.ok 1 _ rfl) hk4 hlt (by decide)).mono ?_)); rintro e w1 ⟨rfl, hbl⟩; replace M := M.call hbl; clear hbl)) | ((with_reducible show Code.wp _ (Code.region 6 _ _) _ _ _); go_must (have MR := M; refine region_lowc [(1, false), (4, false), (8, false), (11, false), (14, false), (0, false), (2, true), (3, true), (5, true), (6, true), (7, false), (9, true), (10, false), (12, true), (13, false), (15, true), (16, false), (17, false), (18, true)] [(16, .int), (19, .int), (20, .int), (22, .int), (23, .int), (25, .int), (26, .int), (28, .int)] [(0, _)] (IxOk MR [1]) 18 (by kernel_rfl) (by kernel_rfl) rfl (by kernel_rfl) (lows_cons (by first | exact stab_ix MR 1 0 rfl rfl (by decide) (by decide +kernel) rfl | exact stab_ixB MR 1 0 rfl rfl (by decide) (by decide +kernel) (by first | assumption | omega) | exact stab_ix32 MR 1 0 rfl rfl (by decide) (by decide +kernel) (by first | assumption | omega | (simp; omega)) | exact stab_ixH MR 1 rfl rfl (by decide) (by decide +kernel) (by first | assumption | exact lenI | exact lenS ‹_› | rfl) (by decide +kernel) | exact stab_ixW32 MR 1 rfl rfl (by decide) (by decide +kernel) (by first | assumption | exact lenI | exact lenS ‹_› | rfl) (by decide +kernel) | exact stab_ixR MR 1 rfl rfl (by decide) (by decide +kernel) (by kernel_rfl) | exact stab_ixW MR 1 rfl rfl (by decide) (by first | assumption | exact lenI | exact lenS ‹_› | rfl) (by decide) Tryz.underlying70 Tryz.underlying5 Tryz.underlying9 | exact stab_ixS MR 1 rfl rfl (by decide) (by first | rfl | simp | assumption) Tryz.underlying70 Tryz.underlying5 Tryz.underlying9) lows_nil) (ixOk_self MR _) ?_; replace M := M.drew; simp only [planC, opAt, List.getElem?_toArray, List.getElem?_cons_zero, List.getElem?_cons_succ, Option.getD_some])) | ((with_reducible show Seg _ _ _ _); go_must (first | refine Seg.intro ⟨fun h => absurd rfl h, ?_⟩ | refine Seg.intro ⟨fun _ => (by repeat' (first | exact ixOk_nil M.kept | refine ixOk_cons rfl (by first | exact M.ok 0 _ rfl | exact M.ok 1 _ rfl | exact M.ok 2 _ rfl | exact M.ok 3 _ rfl | exact M.ok 4 _ rfl | exact M.ok 5 _ rfl) ?_)), ?_⟩ | refine Seg.intro ⟨(by repeat' (first | (with_reducible exact needs_nil) | refine needs_at rfl (by first | (show Shape.ok Shape.nums _ = true; exact nums_bs _) | rfl) ?_)), (by repeat' (first | (with_reducible exact ats_nil) | refine ats_cons (by first | exact ev_tmp rfl | rfl) ?_)), ?_⟩)) | ((with_reducible show OnlyN _ _ _ _ _); refine OnlyN.intro (by kernel_rfl) ?_) | ((with_reducible refine tGuard ?_); first | refine w_strip rfl (by with_reducible rfl) ?_ | ((fail_if_success (refine w_lit false rfl (by with_reducible rfl) ?_)); (fail_if_success (refine w_lit true rfl (by with_reducible rfl) ?_)); refine w_case rfl ?_ ?_ <;> (intro hgd; rw [hgd]; try (exfalso; simp at hgd; omega)))) | ((with_reducible refine tConv _ 70 9 ?_); go_must (first | refine w_stringW M _ _ _ _ _ rfl rfl (by first | exact at0 | exact at1 | exact at2 | exact at3) rfl (by first | assumption | exact lenI | exact lenS ‹_› | rfl) (by decide) Tryz.underlying70 Tryz.underlying5 Tryz.underlying9 ?_ | refine w_string M _ _ _ _ _ rfl rfl (by first | exact at0 | exact at1 | exact at2 | exact at3) (by first | rfl | (simp; done) | assumption) rfl Tryz.underlying70 Tryz.underlying5 Tryz.underlying9 ?_)) | ((with_reducible refine tLoad ?_); go_must (refine w_at _ _ rfl (by exact ev_tmp rfl) ?_; intro hx; (first | refine w_load M _ _ _ rfl (by first | exact at0 | exact at1 | exact at2 | exact at3) hx rfl (by decide +kernel) (by exact rfl) ?_ | refine w_loadB M _ _ _ rfl (by first | exact at0 | exact at1 | exact at2 | exact at3) hx rfl (by decide +kernel) (by first | assumption | omega | (simp; omega)) ?_ | refine w_loadH M _ _ _ rfl (by first | exact at0 | exact at1 | exact at2 | exact at3) hx rfl (by decide +kernel) (by first | assumption | exact lenI | exact lenS ‹_› | rfl) (by decide +kernel) ?_ | refine w_loadR M _ _ _ rfl (by first | exact at0 | exact at1 | exact at2 | exact at3) hx rfl (by decide +kernel) (by kernel_rfl) ?_); clear hx)) | ((with_reducible refine tStore ?_); go_must (refine w_at2 _ _ _ rfl (by exact ev_tmp rfl) (by first | exact ev_tmp rfl | exact ev_const) ?_; intro hx hy; (first | refine w_storeB M _ _ _ _ rfl (by first | exact at0 | exact at1 | exact at2 | exact at3) hx rfl hy (by decide +kernel) (by first | assumption | omega | (simp; omega)) ?_ | refine w_storeH M _ _ _ _ rfl (by first | exact at0 | exact at1 | exact at2 | exact at3) hx rfl hy (by first | assumption | exact lenI | exact lenS ‹_› | rfl) (by decide +kernel) (by first | assumption | exact lenI | exact lenS ‹_› | rfl) ?_ | refine w_store M _ _ _ _ rfl (by first | exact at0 | exact at1 | exact at2 | exact at3) hx rfl hy rfl rfl (by decide +kernel) (by first | decide | simp | (simp; omega)) ?_ | refine w_storeR M _ _ _ _ rfl (by first | exact at0 | exact at1 | exact at2 | exact at3) hx rfl _ hy rfl (by kernel_rfl) (by simp [Value.oneCell']) (by first | rfl | assumption) ?_); clear hx hy M; intro w1 M; (try simp only [setC] at M))) | ((with_reducible refine tBox _ ?_); (refine w_box M _ _ rfl rfl _ rfl _ rfl ?_; clear M; intro g w1 M))) <;> (try conv => arg 5; simp only [Act.put, List.setIfInBounds_toArray, setC]))
      have hD : mixB b k d = d.set k (tw (b[k / 4 * 4 + k % 4]?.getD 0) ^^^ tw (b[k / 4 * 4 + (k + 1) % 4]?.getD 0) ^^^ b[k / 4 * 4 + (k + 1) % 4]?.getD 0 ^^^ b[k / 4 * 4 + (k + 2) % 4]?.getD 0 ^^^ b[k / 4 * 4 + (k + 3) % 4]?.getD 0) := by
        unfold mixB mixN nth; simp only [List.getD_eq_getElem?_getD, Nat.add_zero]
      rw [← hD] at M
      replace M := M.tail.tail
      go_roundw
      case rel => exact ⟨k + 1, by omega, by go_num, by rw [iterN_succ, ← ED.out]; exact M⟩
      case measure => simp [intOf]; omega
    · obtain rfl : k = 16 := by omega
      go_wp2_with ((first | ((with_reducible refine tGuard ?_); first | refine w_strip rfl (by with_reducible rfl) ?_ | ((fail_if_success (refine w_lit false rfl (by with_reducible rfl) ?_)); (fail_if_success (refine w_lit true rfl (by with_reducible rfl) ?_)); refine w_case rfl ?_ ?_ <;> (intro hgd; rw [hgd]; try (exfalso; simp at hgd; omega)))) | ((with_reducible refine tConv _ 70 9 ?_); go_must (first | refine w_stringW M _ _ _ _ _ rfl rfl (by first | exact at0 | exact at1) rfl (by first | assumption | exact lenI | exact lenS ‹_› | rfl) (by decide) Tryz.underlying70 Tryz.underlying5 Tryz.underlying9 ?_ | refine w_string M _ _ _ _ _ rfl rfl (by first | exact at0 | exact at1) (by first | rfl | (simp; done) | assumption) rfl Tryz.underlying70 Tryz.underlying5 Tryz.underlying9 ?_)) | ((with_reducible refine tLoad ?_); go_must (refine w_at _ _ rfl (by exact ev_tmp rfl) ?_; intro hx; (first | refine w_load M _ _ _ rfl (by first | exact at0 | exact at1) hx rfl (by decide +kernel) (by exact rfl) ?_ | refine w_loadB M _ _ _ rfl (by first | exact at0 | exact at1) hx rfl (by decide +kernel) (by first | assumption | omega | (simp; omega)) ?_ | refine w_loadH M _ _ _ rfl (by first | exact at0 | exact at1) hx rfl (by decide +kernel) (by first | assumption | exact lenI | exact lenS ‹_› | rfl) (by decide +kernel) ?_ | refine w_loadR M _ _ _ rfl (by first | exact at0 | exact at1) hx rfl (by decide +kernel) (by kernel_rfl) ?_); clear hx)) | ((with_reducible refine tStore ?_); go_must (refine w_at2 _ _ _ rfl (by exact ev_tmp rfl) (by first | exact ev_tmp rfl | exact ev_const) ?_; intro hx hy; (first | refine w_storeB M _ _ _ _ rfl (by first | exact at0 | exact at1) hx rfl hy (by decide +kernel) (by first | assumption | omega | (simp; omega)) ?_ | refine w_storeH M _ _ _ _ rfl (by first | exact at0 | exact at1) hx rfl hy (by first | assumption | exact lenI | exact lenS ‹_› | rfl) (by decide +kernel) (by first | assumption | exact lenI | exact lenS ‹_› | rfl) ?_ | refine w_store M _ _ _ _ rfl (by first | exact at0 | exact at1) hx rfl hy rfl rfl (by decide +kernel) (by first | decide | simp | (simp; omega)) ?_ | refine w_storeR M _ _ _ _ rfl (by first | exact at0 | exact at1) hx rfl _ hy rfl (by kernel_rfl) (by simp [Value.oneCell']) (by first | rfl | assumption) ?_); clear hx hy M; intro w1 M; (try simp only [setC] at M))) | ((with_reducible refine tBox _ ?_); (refine w_box M _ _ rfl rfl _ rfl _ rfl ?_; clear M; intro g w1 M))) <;> (try conv => arg 5; simp only [Act.put, List.setIfInBounds_toArray, setC]))
      have e : mixL b = d := ED.out.symm
      exact bodyPost_ret (results_row rfl _ _ go 0 (bs d) _ rfl (M.ok 0 _ rfl).2.1 Tryz.underlying234 rfl (by rw [bs_length, hd]; kernel_rfl)) rfl ⟨by rw [e], M.below⟩
end Go.Proofs.YtidadhbaomieiaaGreat

/- The walk of a key's schedule. Conditions: lengths. -/
namespace Go
namespace TL
theorem foldl_off (o : Nat) (l : List Value) : ∀ (k : Nat) (C : Array Value), (l.zipIdx k).foldl (fun cs x => cs.setIfInBounds (o + x.2) x.1) C = (l.zipIdx (o + k)).foldl (fun cs x => cs.setIfInBounds x.2 x.1) C := by
  induction l with
  | nil => intro k C; rfl
  | cons v t ih => intro k C; rw [List.zipIdx_cons, List.zipIdx_cons, List.foldl_cons, List.foldl_cons, ih]; rfl
theorem foldl_at (o : Nat) (l : List Value) (C : Array Value) (h : o + l.length ≤ C.size) : (l.zipIdx.foldl (fun cs x => cs.setIfInBounds (o + x.2) x.1) C).toList = C.toList.take o ++ l ++ C.toList.drop (o + l.length) := by
  rw [foldl_off, Nat.add_zero]; exact foldl_set l o C h
theorem copy_step (key s : List UInt8) (k : Nat) (hk : k < 8) (hl : key.length = 32) :
    (key.take (4 * k) ++ (List.replicate (240 - 4 * k) 0 ++ s)).take (k * 4) ++ ((((key.drop (4 * k)).take (32 - 4 * k))).take 4 ++ (key.take (4 * k) ++ (List.replicate (240 - 4 * k) 0 ++ s)).drop (k * 4 + 4)) = key.take (4 * (k + 1)) ++ (List.replicate (240 - 4 * (k + 1)) 0 ++ s) := by
  have e1 : (key.take (4 * k)).length = 4 * k := by simp; omega
  rw [show k * 4 = 4 * k by omega, List.take_left' e1, ← List.drop_drop, List.drop_left' e1, List.take_take, Nat.min_eq_left (by omega), ← List.append_assoc, show 4 * (k + 1) = 4 * k + 4 by omega, List.take_add]
  congr 1
  rw [show 240 - 4 * k = 4 + (240 - (4 * k + 4)) by omega, ← List.replicate_append_replicate, List.append_assoc, List.drop_left' (by simp)]
theorem Mem.take1 {F : List Nat} {w0 w : World} {c : Chunk} {L : List Chunk} (M : Mem F w0 w (c :: L)) : Mem F w0 w [c] :=
  M.pick _ (fun i => i) (fun _ _ _ _ h => h) fun i c' h => by
    cases i with
    | zero => simpa using h
    | succ i => simp at h
theorem take_in (W s : List UInt8) (m : Nat) (h : m + 4 ≤ W.length) : ((W ++ s).drop m).take 4 = (W.drop m).take 4 := by
  rw [List.drop_append_of_le_length (by omega), List.take_append_of_le_length (by simp; omega)]
theorem set_in (W s : List UInt8) (m : Nat) (v : UInt8) (h : m < W.length) : (W ++ s).set m v = W.set m v ++ s := by
  rw [List.set_append_left _ _ h]
theorem nth_in (W s : List UInt8) (m : Nat) (h : m < W.length) : nth (W ++ s) m = nth W m := by
  unfold nth; simp only [List.getD_eq_getElem?_getD]; rw [List.getElem?_append_left h]
theorem nth_out (W s : List UInt8) (n m : Nat) (h : W.length = n) : nth (W ++ s) (n + m) = nth s m := by
  unfold nth; simp only [List.getD_eq_getElem?_getD]; rw [List.getElem?_append_right (by omega), h, Nat.add_sub_cancel_left]
theorem nth_at (l : List UInt8) (k : Nat) (h : k < l.length) : l[k] = nth l k := by unfold nth; simp [List.getElem?_eq_getElem h]
theorem nth_at' (l : List UInt8) (k : Nat) : l[k]?.getD 0 = nth l k := by unfold nth; rw [List.getD_eq_getElem?_getD]
end TL
end Go
namespace Go.Proofs.YtidadhbaomieiaaGreat
open Go.RowKit Go.TL
set_option maxRecDepth 100000 in
set_option maxHeartbeats 4000000 in
theorem schedule_c (key : List UInt8) (w : World) (hk : key.length = 32) :
    Calls Tryz.prog 148 #[.agg (bs key).toArray] w fun e w' => ∃ g, e = .returned (.pointer (some ⟨g, 0, none⟩)) ∧ Mem [] w w' [.row g (bs (schL boxL key ++ boxL))] := by
  have M := Mem.start [] w
  have B := box_c
  have hs := boxL_len
  obtain ⟨s, es⟩ : ∃ s, s = boxL := ⟨_, rfl⟩
  rw [← es] at B hs
  rw [← es]
  replace B := Lib.hid B
  clear es
  have hbs : (bs s).length = 256 := by rw [bs_length, hs]
  go_enter Tryz.func148, Tryz.ntmps148
  go_wp2_with ((first | ((with_reducible refine tBox (some 1) ?_); refine w_box M _ _ rfl rfl _ rfl (bs key) rfl ?_; clear M; intro gk w1 M) | (go_at_call 176; go_must (refine (B.out _).mono ?_; rintro e w1 ⟨rfl, hb⟩; replace M := M.call hb; clear hb)) | ((with_reducible refine tBox (some 12) ?_); refine w_box M _ _ rfl rfl _ rfl (_) rfl ?_; clear M; intro g w1 M) | ((with_reducible refine tGuard ?_); first | refine w_strip rfl (by with_reducible rfl) ?_ | ((fail_if_success (refine w_lit false rfl (by with_reducible rfl) ?_)); (fail_if_success (refine w_lit true rfl (by with_reducible rfl) ?_)); refine w_case rfl ?_ ?_ <;> (intro hgd; rw [hgd]; try (exfalso; simp at hgd; omega)))) | ((with_reducible refine tConv _ 70 9 ?_); go_must (first | refine w_stringW M _ _ _ _ _ rfl rfl (by first | exact at0 | exact at1) rfl (by first | assumption | exact lenI | exact lenS ‹_› | rfl) (by decide) Tryz.underlying70 Tryz.underlying5 Tryz.underlying9 ?_ | refine w_string M _ _ _ _ _ rfl rfl (by first | exact at0 | exact at1) (by first | rfl | (simp; done) | assumption) rfl Tryz.underlying70 Tryz.underlying5 Tryz.underlying9 ?_)) | ((with_reducible refine tLoad ?_); go_must (refine w_at _ _ rfl (by exact ev_tmp rfl) ?_; intro hx; (first | refine w_load M _ _ _ rfl (by first | exact at0 | exact at1) hx rfl (by decide +kernel) (by exact rfl) ?_ | refine w_loadB M _ _ _ rfl (by first | exact at0 | exact at1) hx rfl (by decide +kernel) (by first | assumption | omega | (simp; omega)) ?_ | refine w_loadH M _ _ _ rfl (by first | exact at0 | exact at1) hx rfl (by decide +kernel) (by first | assumption | exact lenI | exact lenS ‹_› | rfl) (by decide +kernel) ?_ | refine w_loadR M _ _ _ rfl (by first | exact at0 | exact at1) hx rfl (by decide +kernel) (by kernel_rfl) ?_); clear hx)) | ((with_reducible refine tStore ?_); go_must (refine w_at2 _ _ _ rfl (by exact ev_tmp rfl) (by first | exact ev_tmp rfl | exact ev_const) ?_; intro hx hy; (first | refine w_storeB M _ _ _ _ rfl (by first | exact at0 | exact at1) hx rfl hy (by decide +kernel) (by first | assumption | omega | (simp; omega)) ?_ | refine w_storeH M _ _ _ _ rfl (by first | exact at0 | exact at1) hx rfl hy (by first | assumption | exact lenI | exact lenS ‹_› | rfl) (by decide +kernel) (by first | assumption | exact lenI | exact lenS ‹_› | rfl) ?_ | refine w_store M _ _ _ _ rfl (by first | exact at0 | exact at1) hx rfl hy rfl rfl (by decide +kernel) (by first | decide | simp | (simp; omega)) ?_ | refine w_storeR M _ _ _ _ rfl (by first | exact at0 | exact at1) hx rfl _ hy rfl (by kernel_rfl) (by simp [Value.oneCell']) (by first | rfl | assumption) ?_); clear hx hy M; intro w1 M; (try simp only [setC] at M))) | ((with_reducible refine tBox _ ?_); (refine w_box M _ _ rfl rfl _ rfl _ rfl ?_; clear M; intro g w1 M))) <;> (try conv => arg 5; simp only [Act.put, List.setIfInBounds_toArray, setC]))
  have hz : Tryz.zeroCells261.toList = bs (List.replicate 496 0) := by kernel_rfl
  have e := foldl_at 240 (bs s) Tryz.zeroCells261 (by rw [hbs]; decide +kernel)
  have e2 : (bs (List.replicate 496 0)).take 240 ++ bs s ++ (bs (List.replicate 496 0)).drop (240 + (bs s).length) = bs (key.take (4 * 0) ++ (List.replicate (240 - 4 * 0) 0 ++ s)) := by
    rw [hbs, List.drop_eq_nil_of_le (by rw [bs_length, List.length_replicate]; omega), List.append_nil]
    simp [bs]
  rw [hz, e2] at e
  rw [e] at M
  clear e e2 hz
  go_loopw [13] (fun kv wr => ∃ k : Nat, k ≤ 8 ∧ kv = .int .i64 k ∧ Mem [] w wr [.row g (bs (key.take (4 * k) ++ (List.replicate (240 - 4 * k) 0 ++ s))), .row gk (bs key)]) (fun kv _ => 8 - (intOf kv).toNat)
  case atStart => exact ⟨0, by omega, rfl, M⟩
  case round =>
    clear M
    obtain ⟨k, hk8, rfl, M⟩ := hrel
    by_cases hlt : k < 8
    · have CS := copy_step key s k hlt hk
      have hl : (key.take (4 * k) ++ (List.replicate (240 - 4 * k) 0 ++ s)).length = 496 := by simp; omega
      obtain ⟨l, el⟩ : ∃ l, l = key.take (4 * k) ++ (List.replicate (240 - 4 * k) 0 ++ s) := ⟨_, rfl⟩
      rw [← el] at M CS hl
      replace CS := Lib.hid CS
      clear el
      have h4 : 4 * (k : Int) ≤ 32 := by omega
      have h5 : 0 ≤ 4 * (k : Int) := by omega
      have h6 : (4 * (k : Int)).toNat = 4 * k := by omega
      go_wp2_with ((first | ((with_reducible show Code.wp _ (Code.region 5 _ _) _ _ _); go_must (refine region_det [(0, false), (1, false), (2, false), (3, false), (4, false), (5, false), (6, false), (7, false), (8, false), (9, true)] [(16, .ptr), (22, .int)] (by kernel_rfl) (by kernel_rfl) rfl (by kernel_rfl) ?_; replace M := M.drew; simp only [reord, opAt, List.map_cons, List.map_nil, List.getElem?_toArray, List.getElem?_cons_zero, List.getElem?_cons_succ, Option.getD_some])) | ((with_reducible show wpList _ _ _ (Oper.mk _ (Op.call ⟨Callee.builtin Builtin.copy, _, _⟩) _ _ _ _ :: _) _ _); go_must (refine w_copyB M 0 bytesT _ _ _ rfl rfl rfl rfl rfl (row_sees (M.ok 1 _ rfl) (by omega) (Nat.le_refl _) (by simp only [maxLen]; omega)) 4 (by simp; omega) (by omega) ?_; clear M; intro w1 M; simp only [List.set_cons_zero] at M)) | ((with_reducible show Seg _ _ _ _); go_must (first | refine Seg.intro ⟨fun h => absurd rfl h, ?_⟩ | refine Seg.intro ⟨fun _ => (by repeat' (first | exact ixOk_nil M.kept | refine ixOk_cons rfl (by first | exact M.ok 0 _ rfl | exact M.ok 1 _ rfl | exact M.ok 2 _ rfl | exact M.ok 3 _ rfl) ?_)), ?_⟩ | refine Seg.intro ⟨(by repeat' (first | (with_reducible exact needs_nil) | refine needs_at rfl (by first | (show Shape.ok Shape.nums _ = true; exact nums_bs _) | rfl) ?_)), (by repeat' (first | (with_reducible exact ats_nil) | refine ats_cons (by first | exact ev_tmp rfl | rfl) ?_)), ?_⟩)) | ((with_reducible show OnlyN _ _ _ _ _); refine OnlyN.intro (by kernel_rfl) ?_) | ((with_reducible refine tGuard ?_); first | refine w_strip rfl (by with_reducible rfl) ?_ | ((fail_if_success (refine w_lit false rfl (by with_reducible rfl) ?_)); (fail_if_success (refine w_lit true rfl (by with_reducible rfl) ?_)); refine w_case rfl ?_ ?_ <;> (intro hgd; rw [hgd]; try (exfalso; simp at hgd; omega)))) | ((with_reducible refine tConv _ 70 9 ?_); go_must (first | refine w_stringW M _ _ _ _ _ rfl rfl (by first | exact at0 | exact at1) rfl (by first | assumption | exact lenI | exact lenS ‹_› | rfl) (by decide) Tryz.underlying70 Tryz.underlying5 Tryz.underlying9 ?_ | refine w_string M _ _ _ _ _ rfl rfl (by first | exact at0 | exact at1) (by first | rfl | (simp; done) | assumption) rfl Tryz.underlying70 Tryz.underlying5 Tryz.underlying9 ?_)) | ((with_reducible refine tLoad ?_); go_must (refine w_at _ _ rfl (by exact ev_tmp rfl) ?_; intro hx; (first | refine w_load M _ _ _ rfl (by first | exact at0 | exact at1) hx rfl (by decide +kernel) (by exact rfl) ?_ | refine w_loadB M _ _ _ rfl (by first | exact at0 | exact at1) hx rfl (by decide +kernel) (by first | assumption | omega | (simp; omega)) ?_ | refine w_loadH M _ _ _ rfl (by first | exact at0 | exact at1) hx rfl (by decide +kernel) (by first | assumption | exact lenI | exact lenS ‹_› | rfl) (by decide +kernel) ?_ | refine w_loadR M _ _ _ rfl (by first | exact at0 | exact at1) hx rfl (by decide +kernel) (by kernel_rfl) ?_); clear hx)) | ((with_reducible refine tStore ?_); go_must (refine w_at2 _ _ _ rfl (by exact ev_tmp rfl) (by first | exact ev_tmp rfl | exact ev_const) ?_; intro hx hy; (first | refine w_storeB M _ _ _ _ rfl (by first | exact at0 | exact at1) hx rfl hy (by decide +kernel) (by first | assumption | omega | (simp; omega)) ?_ | refine w_storeH M _ _ _ _ rfl (by first | exact at0 | exact at1) hx rfl hy (by first | assumption | exact lenI | exact lenS ‹_› | rfl) (by decide +kernel) (by first | assumption | exact lenI | exact lenS ‹_› | rfl) ?_ | refine w_store M _ _ _ _ rfl (by first | exact at0 | exact at1) hx rfl hy rfl rfl (by decide +kernel) (by first | decide | simp | (simp; omega)) ?_ | refine w_storeR M _ _ _ _ rfl (by first | exact at0 | exact at1) hx rfl _ hy rfl (by kernel_rfl) (by simp [Value.oneCell']) (by first | rfl | assumption) ?_); clear hx hy M; intro w1 M; (try simp only [setC] at M))) | ((with_reducible refine tBox _ ?_); (refine w_box M _ _ rfl rfl _ rfl _ rfl ?_; clear M; intro g w1 M))) <;> (try conv => arg 5; simp only [Act.put, List.setIfInBounds_toArray, setC]))
      rw [CS.out] at M
      go_roundw
      case rel => exact ⟨k + 1, by omega, by go_num, M⟩
      case measure => simp [intOf]; omega
    · obtain rfl : k = 8 := by omega
      have e : key.take (4 * 8) ++ (List.replicate (240 - 4 * 8) 0 ++ s) = (schS s key 0).1 ++ s := by
        rw [List.take_of_length_le (by omega), ← List.append_assoc]; rfl
      rw [e] at M
      have e0 : (schS s key 0).2 = 1 := rfl
      clear e
      go_wp2_with ((first | ((with_reducible refine tGuard ?_); first | refine w_strip rfl (by with_reducible rfl) ?_ | ((fail_if_success (refine w_lit false rfl (by with_reducible rfl) ?_)); (fail_if_success (refine w_lit true rfl (by with_reducible rfl) ?_)); refine w_case rfl ?_ ?_ <;> (intro hgd; rw [hgd]; try (exfalso; simp at hgd; omega)))) | ((with_reducible refine tConv _ 70 9 ?_); go_must (first | refine w_stringW M _ _ _ _ _ rfl rfl (by first | exact at0 | exact at1) rfl (by first | assumption | exact lenI | exact lenS ‹_› | rfl) (by decide) Tryz.underlying70 Tryz.underlying5 Tryz.underlying9 ?_ | refine w_string M _ _ _ _ _ rfl rfl (by first | exact at0 | exact at1) (by first | rfl | (simp; done) | assumption) rfl Tryz.underlying70 Tryz.underlying5 Tryz.underlying9 ?_)) | ((with_reducible refine tLoad ?_); go_must (refine w_at _ _ rfl (by exact ev_tmp rfl) ?_; intro hx; (first | refine w_load M _ _ _ rfl (by first | exact at0 | exact at1) hx rfl (by decide +kernel) (by exact rfl) ?_ | refine w_loadB M _ _ _ rfl (by first | exact at0 | exact at1) hx rfl (by decide +kernel) (by first | assumption | omega | (simp; omega)) ?_ | refine w_loadH M _ _ _ rfl (by first | exact at0 | exact at1) hx rfl (by decide +kernel) (by first | assumption | exact lenI | exact lenS ‹_› | rfl) (by decide +kernel) ?_ | refine w_loadR M _ _ _ rfl (by first | exact at0 | exact at1) hx rfl (by decide +kernel) (by kernel_rfl) ?_); clear hx)) | ((with_reducible refine tStore ?_); go_must (refine w_at2 _ _ _ rfl (by exact ev_tmp rfl) (by first | exact ev_tmp rfl | exact ev_const) ?_; intro hx hy; (first | refine w_storeB M _ _ _ _ rfl (by first | exact at0 | exact at1) hx rfl hy (by decide +kernel) (by first | assumption | omega | (simp; omega)) ?_ | refine w_storeH M _ _ _ _ rfl (by first | exact at0 | exact at1) hx rfl hy (by first | assumption | exact lenI | exact lenS ‹_› | rfl) (by decide +kernel) (by first | assumption | exact lenI | exact lenS ‹_› | rfl) ?_ | refine w_store M _ _ _ _ rfl (by first | exact at0 | exact at1) hx rfl hy rfl rfl (by decide +kernel) (by first | decide | simp | (simp; omega)) ?_ | refine w_storeR M _ _ _ _ rfl (by first | exact at0 | exact at1) hx rfl _ hy rfl (by kernel_rfl) (by simp [Value.oneCell']) (by first | rfl | assumption) ?_); clear hx hy M; intro w1 M; (try simp only [setC] at M))) | ((with_reducible refine tBox _ ?_); (refine w_box M _ _ rfl rfl _ rfl _ rfl ?_; clear M; intro g w1 M))) <;> (try conv => arg 5; simp only [Act.put, List.setIfInBounds_toArray, setC]))
      rw [show ((8 : Nat) : Int) = 8 from rfl]
      go_loopw [5, 6] (fun pv iv wr => ∃ n : Nat, n ≤ 52 ∧ pv = .int .u8 (I8 (schS s key n).2) ∧ iv = .int .i64 (n + 8) ∧ Mem [] w wr [.row g (bs ((schS s key n).1 ++ s)), .row gk (bs key)]) (fun _ iv _ => 60 - (intOf iv).toNat)
      case atStart => exact ⟨0, by omega, rfl, rfl, M⟩
      case round =>
        clear M e0
        obtain ⟨n, hn, rfl, rfl, M⟩ := hrel
        have hW := schS_len s key hk n
        obtain ⟨⟨W, pw⟩, ex⟩ : ∃ x, x = schS s key n := ⟨_, rfl⟩
        rw [← ex] at M hW
        rw [← ex]
        simp only at M hW
        simp only
        have EX := Lib.hid (show schS s key (n + 1) = schW s n (W, pw) by rw [ex]; rfl)
        have EX0 := Lib.hid ex
        clear ex
        by_cases hlt : n < 52
        · have hWs : (W ++ s).length = 496 := by rw [List.length_append, hW, hs]
          have ht := take_in W s ((n + 8 - 1) * 4) (by omega)
          have ht2 : (W.drop ((n + 8 - 1) * 4)).take 4 = word1 W (n + 8) := by unfold word1; rw [Nat.mul_comm]
          rw [ht2] at ht
          have hl1 := word1_len hW (show 1 ≤ n + 8 by omega) (by omega)
          obtain ⟨t1, e1⟩ : ∃ t, t = word1 W (n + 8) := ⟨_, rfl⟩
          have E2 : word2 W (n + 8) = if n % 8 = 0 then rotT t1 else t1 := by unfold word2; rw [← e1]; simp
          have E3 : word3 s W (n + 8) = if n % 4 = 0 then iterN (subT s) 4 (word2 W (n + 8)) else word2 W (n + 8) := by unfold word3; simp [show (n + 8) % 4 = n % 4 by omega]
          have E4 : word4 s W pw (n + 8) = if n % 8 = 0 then (word3 s W (n + 8)).set 0 (nth (word3 s W (n + 8)) 0 ^^^ pw) else word3 s W (n + 8) := by unfold word4; simp
          have EP : powI pw (n + 8) = if n % 8 = 0 then tw pw else pw := by unfold powI; simp
          rw [← e1] at ht hl1
          clear ht2 e1
          have hlX : (List.take 4 (List.drop ((n + 8 - 1) * 4) (W ++ s))).length = 4 := by rw [ht]; exact hl1
          have hlY : (bs (List.take 4 (List.drop ((n + 8 - 1) * 4) (W ++ s)))).length = 4 := by rw [bs_length, hlX]
          have q : ∀ j, j < 4 → nth t1 j = (W ++ s)[(n + 7) * 4 + j]?.getD 0 := fun j hj => by
            rw [← ht]; unfold nth; rw [List.getD_eq_getElem?_getD, List.getElem?_take, if_pos hj, List.getElem?_drop, show n + 8 - 1 = n + 7 by omega]
          by_cases h4 : n % 4 = 0
          · rw [if_pos h4] at E3
            have h4' : ((n : Int) + 8) % 4 = 0 := by omega
            by_cases h8 : n % 8 = 0
            · rw [if_pos h8] at E2 E4 EP
              have e2 : bs (rotT t1) = [.int .u8 (I8 ((W ++ s)[(n + 7) * 4 + 1]?.getD 0)), .int .u8 (I8 ((W ++ s)[(n + 7) * 4 + 2]?.getD 0)), .int .u8 (I8 ((W ++ s)[(n + 7) * 4 + 3]?.getD 0)), .int .u8 (I8 ((W ++ s)[(n + 7) * 4]?.getD 0))] := by
                unfold rotT; rw [q 1 (by omega), q 2 (by omega), q 3 (by omega), q 0 (by omega)]; rfl
              replace e2 := Lib.hid e2
              rw [E2] at E3
              replace E3 := Lib.hid E3
              replace E4 := Lib.hid E4
              replace EP := Lib.hid EP
              replace q := Lib.hid q
              clear E2
              have h8' : ((n : Int) + 8) % 8 = 0 := by omega
              go_wp2_with ((first | ((with_reducible refine tAlloc (some 7) 258 ?_); refine w_alloc M _ rfl rfl (.agg (Array.replicate 4 (.int .u8 0))) (bs (List.replicate 4 (0 : UInt8))) (by kernel_rfl) rfl ?_; clear M; intro gt w1 M) | (go_at_call 177; go_must (refine (twice_c _ _).mono ?_; rintro e w1 ⟨rfl, rfl⟩)) | ((with_reducible refine tGuard ?_); first | refine w_strip rfl (by with_reducible rfl) ?_ | ((fail_if_success (refine w_lit false rfl (by with_reducible rfl) ?_)); (fail_if_success (refine w_lit true rfl (by with_reducible rfl) ?_)); refine w_case rfl ?_ ?_ <;> (intro hgd; rw [hgd]; try (exfalso; simp at hgd; omega)))) | ((with_reducible refine tConv _ 70 9 ?_); go_must (first | refine w_stringW M _ _ _ _ _ rfl rfl (by first | exact at0 | exact at1 | exact at2) rfl (by first | assumption | exact lenI | exact lenS ‹_› | rfl) (by decide) Tryz.underlying70 Tryz.underlying5 Tryz.underlying9 ?_ | refine w_string M _ _ _ _ _ rfl rfl (by first | exact at0 | exact at1 | exact at2) (by first | rfl | (simp; done) | assumption) rfl Tryz.underlying70 Tryz.underlying5 Tryz.underlying9 ?_)) | ((with_reducible refine tLoad ?_); go_must (refine w_at _ _ rfl (by exact ev_tmp rfl) ?_; intro hx; (first | refine w_load M _ _ _ rfl (by first | exact at0 | exact at1 | exact at2) hx rfl (by decide +kernel) (by exact rfl) ?_ | refine w_loadB M _ _ _ rfl (by first | exact at0 | exact at1 | exact at2) hx rfl (by decide +kernel) (by first | assumption | omega | (simp; omega)) ?_ | refine w_loadH M _ _ _ rfl (by first | exact at0 | exact at1 | exact at2) hx rfl (by decide +kernel) (by first | assumption | exact lenI | exact lenS ‹_› | rfl) (by decide +kernel) ?_ | refine w_loadR M _ _ _ rfl (by first | exact at0 | exact at1 | exact at2) hx rfl (by decide +kernel) (by kernel_rfl) ?_ | refine w_loadM M _ _ _ rfl (by first | exact at0 | exact at1 | exact at2) hx rfl (by decide +kernel) 4 (by decide +kernel) (by first | assumption | omega | (simp; omega)) ?_); clear hx)) | ((with_reducible refine tStore ?_); go_must (refine w_at2 _ _ _ rfl (by exact ev_tmp rfl) (by first | exact ev_tmp rfl | exact ev_const) ?_; intro hx hy; (first | refine w_storeB M _ _ _ _ rfl (by first | exact at0 | exact at1 | exact at2) hx rfl hy (by decide +kernel) (by first | assumption | omega | (simp; omega)) ?_ | refine w_storeH M _ _ _ _ rfl (by first | exact at0 | exact at1 | exact at2) hx rfl hy (by first | assumption | exact lenI | exact lenS ‹_› | rfl) (by decide +kernel) (by first | assumption | exact lenI | exact lenS ‹_› | rfl) ?_ | refine w_store M _ _ _ _ rfl (by first | exact at0 | exact at1 | exact at2) hx rfl hy rfl rfl (by decide +kernel) (by first | decide | simp | (simp; omega)) ?_ | refine w_storeR M _ _ _ _ rfl (by first | exact at0 | exact at1 | exact at2) hx rfl _ hy rfl (by kernel_rfl) (by simp [Value.oneCell']) (by first | rfl | assumption | exact Eq.symm (by assumption)) ?_); clear hx hy M; intro w1 M; (try simp only [setC] at M))) | ((with_reducible refine tBox _ ?_); (refine w_box M _ _ rfl rfl _ rfl _ rfl ?_; clear M; intro g w1 M))) <;> (try conv => arg 5; simp only [Act.put, List.setIfInBounds_toArray, setC]))
              rw [← e2.out] at M
              have hl2 : (rotT t1).length = 4 := rfl
              obtain ⟨t2, e3⟩ : ∃ t, t = rotT t1 := ⟨_, rfl⟩
              rw [← e3] at M hl2 E3
              clear e3 e2 ht hlX hlY q
              go_loopw [53] (fun kv wr => ∃ k : Nat, k ≤ 4 ∧ kv = .int .i64 k ∧ Mem [] w wr [.row gt (bs (iterN (subT s) k t2)), .row g (bs (W ++ s)), .row gk (bs key)]) (fun kv _ => 4 - (intOf kv).toNat)
              case atStart => exact ⟨0, by omega, rfl, M⟩
              case round =>
                clear M
                obtain ⟨k, hk4, rfl, M⟩ := hrel
                obtain ⟨d, ed⟩ : ∃ d, d = iterN (subT s) k t2 := ⟨_, rfl⟩
                have hd : d.length = 4 := by rw [ed, iterN_len _ (fun _ _ => subT_len _ _ _)]; exact hl2
                rw [← ed] at M
                have ED := Lib.hid ed
                clear ed
                by_cases hlt4 : k < 4
                · obtain ⟨q, eq⟩ : ∃ q, q = nth d k := ⟨_, rfl⟩
                  have hq0 := (I8_bd q).1
                  have hq1 := (I8_bd q).2
                  have hq2 := I8_toNat q
                  have hq3 := q.toNat_lt
                  have hq4 : q.toNat < 256 := hq3
                  have hd1 : d.getD k 0 = q := eq.symm
                  have hd2 : d[k]?.getD 0 = q := by rw [nth_at', eq]
                  have hd3 : d[k] = q := by rw [nth_at, eq]
                  have EQ := Lib.hid eq
                  clear eq hq3
                  go_wp2_with ((first | ((with_reducible show Code.wp _ (Code.region 18 _ _) _ _ _); go_must (have MR := M; refine region_lowc [(0, false), (1, false), (2, false), (3, false), (5, false), (6, false), (4, false), (7, false), (8, false), (9, false), (10, true)] [(57, .ptr)] [(4, _), (8, _)] (IxOk MR [0, 1]) 10 (by kernel_rfl) (by kernel_rfl) rfl (by kernel_rfl) (lows_cons (by first | exact stab_ix MR 0 k rfl rfl (by decide) (by decide +kernel) rfl | exact stab_ixB MR 0 k rfl rfl (by decide) (by decide +kernel) (by first | assumption | omega) | exact stab_ix32 MR 0 k rfl rfl (by decide) (by decide +kernel) (by first | assumption | omega | (simp; omega)) | exact stab_ixH MR 0 rfl rfl (by decide) (by decide +kernel) (by first | assumption | exact lenI | exact lenS ‹_› | rfl) (by decide +kernel) | exact stab_ixW32 MR 0 rfl rfl (by decide) (by decide +kernel) (by first | assumption | exact lenI | exact lenS ‹_› | rfl) (by decide +kernel) | exact stab_ixR MR 0 rfl rfl (by decide) (by decide +kernel) (by kernel_rfl) | exact stab_ixW MR 0 rfl rfl (by decide) (by first | assumption | exact lenI | exact lenS ‹_› | rfl) (by decide) Tryz.underlying70 Tryz.underlying5 Tryz.underlying9 | exact stab_ixS MR 0 rfl rfl (by decide) (by first | rfl | simp | assumption) Tryz.underlying70 Tryz.underlying5 Tryz.underlying9) (lows_cons (by first | exact stab_ix MR 1 (240+q.toNat) rfl rfl (by decide) (by decide +kernel) rfl | exact stab_ixB MR 1 (240+q.toNat) rfl rfl (by decide) (by decide +kernel) (by first | assumption | omega) | exact stab_ix32 MR 1 (240+q.toNat) rfl rfl (by decide) (by decide +kernel) (by first | assumption | omega | (simp; omega)) | exact stab_ixH MR 1 rfl rfl (by decide) (by decide +kernel) (by first | assumption | exact lenI | exact lenS ‹_› | rfl) (by decide +kernel) | exact stab_ixW32 MR 1 rfl rfl (by decide) (by decide +kernel) (by first | assumption | exact lenI | exact lenS ‹_› | rfl) (by decide +kernel) | exact stab_ixR MR 1 rfl rfl (by decide) (by decide +kernel) (by kernel_rfl) | exact stab_ixW MR 1 rfl rfl (by decide) (by first | assumption | exact lenI | exact lenS ‹_› | rfl) (by decide) Tryz.underlying70 Tryz.underlying5 Tryz.underlying9 | exact stab_ixS MR 1 rfl rfl (by decide) (by first | rfl | simp | assumption) Tryz.underlying70 Tryz.underlying5 Tryz.underlying9) lows_nil)) (ixOk_self MR _) ?_; replace M := M.drew; simp only [planC, opAt, List.getElem?_toArray, List.getElem?_cons_zero, List.getElem?_cons_succ, Option.getD_some])) | ((with_reducible show Seg _ _ _ _); go_must (first | refine Seg.intro ⟨fun h => absurd rfl h, ?_⟩ | refine Seg.intro ⟨fun _ => (by repeat' (first | exact ixOk_nil M.kept | refine ixOk_cons rfl (by first | exact M.ok 0 _ rfl | exact M.ok 1 _ rfl | exact M.ok 2 _ rfl | exact M.ok 3 _ rfl | exact M.ok 4 _ rfl) ?_)), ?_⟩ | refine Seg.intro ⟨(by repeat' (first | (with_reducible exact needs_nil) | refine needs_at rfl (by first | (show Shape.ok Shape.nums _ = true; exact nums_bs _) | rfl) ?_)), (by repeat' (first | (with_reducible exact ats_nil) | refine ats_cons (by first | exact ev_tmp rfl | rfl) ?_)), ?_⟩)) | ((with_reducible show OnlyN _ _ _ _ _); refine OnlyN.intro (by kernel_rfl) ?_) | ((with_reducible refine tGuard ?_); first | refine w_strip rfl (by with_reducible rfl) ?_ | ((fail_if_success (refine w_lit false rfl (by with_reducible rfl) ?_)); (fail_if_success (refine w_lit true rfl (by with_reducible rfl) ?_)); refine w_case rfl ?_ ?_ <;> (intro hgd; rw [hgd]; try (exfalso; simp at hgd; omega)))) | ((with_reducible refine tConv _ 70 9 ?_); go_must (first | refine w_stringW M _ _ _ _ _ rfl rfl (by first | exact at0 | exact at1 | exact at2) rfl (by first | assumption | exact lenI | exact lenS ‹_› | rfl) (by decide) Tryz.underlying70 Tryz.underlying5 Tryz.underlying9 ?_ | refine w_string M _ _ _ _ _ rfl rfl (by first | exact at0 | exact at1 | exact at2) (by first | rfl | (simp; done) | assumption) rfl Tryz.underlying70 Tryz.underlying5 Tryz.underlying9 ?_)) | ((with_reducible refine tLoad ?_); go_must (refine w_at _ _ rfl (by exact ev_tmp rfl) ?_; intro hx; (first | refine w_load M _ _ _ rfl (by first | exact at0 | exact at1 | exact at2) hx rfl (by decide +kernel) (by exact rfl) ?_ | refine w_loadB M _ _ _ rfl (by first | exact at0 | exact at1 | exact at2) hx rfl (by decide +kernel) (by first | assumption | omega | (simp; omega)) ?_ | refine w_loadH M _ _ _ rfl (by first | exact at0 | exact at1 | exact at2) hx rfl (by decide +kernel) (by first | assumption | exact lenI | exact lenS ‹_› | rfl) (by decide +kernel) ?_ | refine w_loadR M _ _ _ rfl (by first | exact at0 | exact at1 | exact at2) hx rfl (by decide +kernel) (by kernel_rfl) ?_); clear hx)) | ((with_reducible refine tStore ?_); go_must (refine w_at2 _ _ _ rfl (by exact ev_tmp rfl) (by first | exact ev_tmp rfl | exact ev_const) ?_; intro hx hy; (first | refine w_storeB M _ _ _ _ rfl (by first | exact at0 | exact at1 | exact at2) hx rfl hy (by decide +kernel) (by first | assumption | omega | (simp; omega)) ?_ | refine w_storeH M _ _ _ _ rfl (by first | exact at0 | exact at1 | exact at2) hx rfl hy (by first | assumption | exact lenI | exact lenS ‹_› | rfl) (by decide +kernel) (by first | assumption | exact lenI | exact lenS ‹_› | rfl) ?_ | refine w_store M _ _ _ _ rfl (by first | exact at0 | exact at1 | exact at2) hx rfl hy rfl rfl (by decide +kernel) (by first | decide | simp | (simp; omega)) ?_ | refine w_storeR M _ _ _ _ rfl (by first | exact at0 | exact at1 | exact at2) hx rfl _ hy rfl (by kernel_rfl) (by simp [Value.oneCell']) (by first | rfl | assumption) ?_); clear hx hy M; intro w1 M; (try simp only [setC] at M))) | ((with_reducible refine tBox _ ?_); (refine w_box M _ _ rfl rfl _ rfl _ rfl ?_; clear M; intro g w1 M))) <;> (try conv => arg 5; simp only [Act.put, List.setIfInBounds_toArray, setC]))
                  rw [show (W ++ s).getD (240 + q.toNat) 0 = nth s q.toNat from nth_out W s 240 _ hW] at M
                  go_roundw
                  case rel => exact ⟨k + 1, by omega, by go_num, by
                    rw [iterN_succ, ← ED.out]; unfold subT; rw [← EQ.out]; exact M⟩
                  case measure => simp [intOf]; omega
                · obtain rfl : k = 4 := by omega
                  replace E3 := E3.out.trans ED.out.symm
                  replace E4 := E4.out
                  rw [E3] at E4
                  replace E4 := Lib.hid E4
                  clear E3 ED
                  go_wp2_with ((first | ((with_reducible refine tAlloc (some 7) 258 ?_); refine w_alloc M _ rfl rfl (.agg (Array.replicate 4 (.int .u8 0))) (bs (List.replicate 4 (0 : UInt8))) (by kernel_rfl) rfl ?_; clear M; intro gt w1 M) | (go_at_call 177; go_must (refine (twice_c _ _).mono ?_; rintro e w1 ⟨rfl, rfl⟩)) | ((with_reducible refine tGuard ?_); first | refine w_strip rfl (by with_reducible rfl) ?_ | ((fail_if_success (refine w_lit false rfl (by with_reducible rfl) ?_)); (fail_if_success (refine w_lit true rfl (by with_reducible rfl) ?_)); refine w_case rfl ?_ ?_ <;> (intro hgd; rw [hgd]; try (exfalso; simp at hgd; omega)))) | ((with_reducible refine tConv _ 70 9 ?_); go_must (first | refine w_stringW M _ _ _ _ _ rfl rfl (by first | exact at0 | exact at1 | exact at2) rfl (by first | assumption | exact lenI | exact lenS ‹_› | rfl) (by decide) Tryz.underlying70 Tryz.underlying5 Tryz.underlying9 ?_ | refine w_string M _ _ _ _ _ rfl rfl (by first | exact at0 | exact at1 | exact at2) (by first | rfl | (simp; done) | assumption) rfl Tryz.underlying70 Tryz.underlying5 Tryz.underlying9 ?_)) | ((with_reducible refine tLoad ?_); go_must (refine w_at _ _ rfl (by exact ev_tmp rfl) ?_; intro hx; (first | refine w_load M _ _ _ rfl (by first | exact at0 | exact at1 | exact at2) hx rfl (by decide +kernel) (by exact rfl) ?_ | refine w_loadB M _ _ _ rfl (by first | exact at0 | exact at1 | exact at2) hx rfl (by decide +kernel) (by first | assumption | omega | (simp; omega)) ?_ | refine w_loadH M _ _ _ rfl (by first | exact at0 | exact at1 | exact at2) hx rfl (by decide +kernel) (by first | assumption | exact lenI | exact lenS ‹_› | rfl) (by decide +kernel) ?_ | refine w_loadR M _ _ _ rfl (by first | exact at0 | exact at1 | exact at2) hx rfl (by decide +kernel) (by kernel_rfl) ?_ | refine w_loadM M _ _ _ rfl (by first | exact at0 | exact at1 | exact at2) hx rfl (by decide +kernel) 4 (by decide +kernel) (by first | assumption | omega | (simp; omega)) ?_); clear hx)) | ((with_reducible refine tStore ?_); go_must (refine w_at2 _ _ _ rfl (by exact ev_tmp rfl) (by first | exact ev_tmp rfl | exact ev_const) ?_; intro hx hy; (first | refine w_storeB M _ _ _ _ rfl (by first | exact at0 | exact at1 | exact at2) hx rfl hy (by decide +kernel) (by first | assumption | omega | (simp; omega)) ?_ | refine w_storeH M _ _ _ _ rfl (by first | exact at0 | exact at1 | exact at2) hx rfl hy (by first | assumption | exact lenI | exact lenS ‹_› | rfl) (by decide +kernel) (by first | assumption | exact lenI | exact lenS ‹_› | rfl) ?_ | refine w_store M _ _ _ _ rfl (by first | exact at0 | exact at1 | exact at2) hx rfl hy rfl rfl (by decide +kernel) (by first | decide | simp | (simp; omega)) ?_ | refine w_storeR M _ _ _ _ rfl (by first | exact at0 | exact at1 | exact at2) hx rfl _ hy rfl (by kernel_rfl) (by simp [Value.oneCell']) (by first | rfl | assumption | exact Eq.symm (by assumption)) ?_); clear hx hy M; intro w1 M; (try simp only [setC] at M))) | ((with_reducible refine tBox _ ?_); (refine w_box M _ _ rfl rfl _ rfl _ rfl ?_; clear M; intro g w1 M))) <;> (try conv => arg 5; simp only [Act.put, List.setIfInBounds_toArray, setC]))
                  rw [nth_at d 0 (by omega)] at M
                  obtain ⟨t4, e4⟩ : ∃ t, t = d.set 0 (nth d 0 ^^^ pw) := ⟨_, rfl⟩
                  have ht4 : t4.length = 4 := by rw [e4, List.length_set]; exact hd
                  rw [← e4] at M E4
                  clear e4
                  go_loopw [77] (fun kv wr => ∃ k : Nat, k ≤ 4 ∧ kv = .int .i64 k ∧ Mem [] w wr [.row gt (bs t4), .row g (bs (iterN (addT t4 (n + 8)) k W ++ s)), .row gk (bs key)]) (fun kv _ => 4 - (intOf kv).toNat)
                  case atStart => exact ⟨0, by omega, rfl, M⟩
                  case round =>
                    clear M
                    obtain ⟨k, hk4, rfl, M⟩ := hrel
                    obtain ⟨V, eV⟩ : ∃ V, V = iterN (addT t4 (n + 8)) k W := ⟨_, rfl⟩
                    have hV : V.length = 240 := by rw [eV, iterN_len _ (addT_len _ _)]; exact hW
                    have hVs : (V ++ s).length = 496 := by rw [List.length_append, hV, hs]
                    rw [← eV] at M
                    have EV := Lib.hid eV
                    clear eV
                    by_cases hlt4 : k < 4
                    · go_wp2_with ((first | ((with_reducible show Code.wp _ (Code.region 26 _ _) _ _ _); go_must (refine region_det [(0, false), (1, false), (2, false), (3, false), (4, false), (5, false), (6, false), (7, false), (8, false), (9, false), (10, false), (12, false), (13, false), (16, false), (17, false), (18, false), (11, false), (14, false), (15, false), (19, false), (20, true)] [(84, .int), (83, .ptr), (80, .ptr), (91, .int), (94, .int)] (by kernel_rfl) (by kernel_rfl) rfl (by kernel_rfl) ?_; replace M := M.drew; simp only [reord, opAt, List.map_cons, List.map_nil, List.getElem?_toArray, List.getElem?_cons_zero, List.getElem?_cons_succ, Option.getD_some])) | ((with_reducible show Seg _ _ _ _); go_must (first | refine Seg.intro ⟨fun h => absurd rfl h, ?_⟩ | refine Seg.intro ⟨fun _ => (by repeat' (first | exact ixOk_nil M.kept | refine ixOk_cons rfl (by first | exact M.ok 0 _ rfl | exact M.ok 1 _ rfl | exact M.ok 2 _ rfl | exact M.ok 3 _ rfl | exact M.ok 4 _ rfl) ?_)), ?_⟩ | refine Seg.intro ⟨(by repeat' (first | (with_reducible exact needs_nil) | refine needs_at rfl (by first | (show Shape.ok Shape.nums _ = true; exact nums_bs _) | rfl) ?_)), (by repeat' (first | (with_reducible exact ats_nil) | refine ats_cons (by first | exact ev_tmp rfl | rfl) ?_)), ?_⟩)) | ((with_reducible show OnlyN _ _ _ _ _); refine OnlyN.intro (by kernel_rfl) ?_) | ((with_reducible refine tGuard ?_); first | refine w_strip rfl (by with_reducible rfl) ?_ | ((fail_if_success (refine w_lit false rfl (by with_reducible rfl) ?_)); (fail_if_success (refine w_lit true rfl (by with_reducible rfl) ?_)); refine w_case rfl ?_ ?_ <;> (intro hgd; rw [hgd]; try (exfalso; simp at hgd; omega)))) | ((with_reducible refine tConv _ 70 9 ?_); go_must (first | refine w_stringW M _ _ _ _ _ rfl rfl (by first | exact at0 | exact at1 | exact at2) rfl (by first | assumption | exact lenI | exact lenS ‹_› | rfl) (by decide) Tryz.underlying70 Tryz.underlying5 Tryz.underlying9 ?_ | refine w_string M _ _ _ _ _ rfl rfl (by first | exact at0 | exact at1 | exact at2) (by first | rfl | (simp; done) | assumption) rfl Tryz.underlying70 Tryz.underlying5 Tryz.underlying9 ?_)) | ((with_reducible refine tLoad ?_); go_must (refine w_at _ _ rfl (by exact ev_tmp rfl) ?_; intro hx; (first | refine w_load M _ _ _ rfl (by first | exact at0 | exact at1 | exact at2) hx rfl (by decide +kernel) (by exact rfl) ?_ | refine w_loadB M _ _ _ rfl (by first | exact at0 | exact at1 | exact at2) hx rfl (by decide +kernel) (by first | assumption | omega | (simp; omega)) ?_ | refine w_loadH M _ _ _ rfl (by first | exact at0 | exact at1 | exact at2) hx rfl (by decide +kernel) (by first | assumption | exact lenI | exact lenS ‹_› | rfl) (by decide +kernel) ?_ | refine w_loadR M _ _ _ rfl (by first | exact at0 | exact at1 | exact at2) hx rfl (by decide +kernel) (by kernel_rfl) ?_); clear hx)) | ((with_reducible refine tStore ?_); go_must (refine w_at2 _ _ _ rfl (by exact ev_tmp rfl) (by first | exact ev_tmp rfl | exact ev_const) ?_; intro hx hy; (first | refine w_storeB M _ _ _ _ rfl (by first | exact at0 | exact at1 | exact at2) hx rfl hy (by decide +kernel) (by first | assumption | omega | (simp; omega)) ?_ | refine w_storeH M _ _ _ _ rfl (by first | exact at0 | exact at1 | exact at2) hx rfl hy (by first | assumption | exact lenI | exact lenS ‹_› | rfl) (by decide +kernel) (by first | assumption | exact lenI | exact lenS ‹_› | rfl) ?_ | refine w_store M _ _ _ _ rfl (by first | exact at0 | exact at1 | exact at2) hx rfl hy rfl rfl (by decide +kernel) (by first | decide | simp | (simp; omega)) ?_ | refine w_storeR M _ _ _ _ rfl (by first | exact at0 | exact at1 | exact at2) hx rfl _ hy rfl (by kernel_rfl) (by simp [Value.oneCell']) (by first | rfl | assumption) ?_); clear hx hy M; intro w1 M; (try simp only [setC] at M))) | ((with_reducible refine tBox _ ?_); (refine w_box M _ _ rfl rfl _ rfl _ rfl ?_; clear M; intro g w1 M))) <;> (try conv => arg 5; simp only [Act.put, List.setIfInBounds_toArray, setC]))
                      have q1 : addT t4 (n + 8) k V = V.set ((n + 8) * 4 + k) (nth V (4 * n + k) ^^^ nth t4 k) := by unfold addT; rw [Nat.mul_comm 4 (n + 8), Nat.add_sub_cancel]
                      have q2 : (V ++ s)[n * 4 + k]?.getD 0 = nth V (4 * n + k) := by rw [nth_at', nth_in _ _ _ (by omega), Nat.mul_comm]
                      rw [q2, nth_at t4 k (by omega), set_in V s _ _ (by omega), ← q1] at M
                      go_roundw
                      case rel => exact ⟨k + 1, by omega, by go_num, by rw [iterN_succ, ← EV.out]; exact M⟩
                      case measure => simp [intOf]; omega
                    · obtain rfl : k = 4 := by omega
                      go_wp2_with ((first | ((with_reducible refine tGuard ?_); first | refine w_strip rfl (by with_reducible rfl) ?_ | ((fail_if_success (refine w_lit false rfl (by with_reducible rfl) ?_)); (fail_if_success (refine w_lit true rfl (by with_reducible rfl) ?_)); refine w_case rfl ?_ ?_ <;> (intro hgd; rw [hgd]; try (exfalso; simp at hgd; omega)))) | ((with_reducible refine tConv _ 70 9 ?_); go_must (first | refine w_stringW M _ _ _ _ _ rfl rfl (by first | exact at0 | exact at1 | exact at2) rfl (by first | assumption | exact lenI | exact lenS ‹_› | rfl) (by decide) Tryz.underlying70 Tryz.underlying5 Tryz.underlying9 ?_ | refine w_string M _ _ _ _ _ rfl rfl (by first | exact at0 | exact at1 | exact at2) (by first | rfl | (simp; done) | assumption) rfl Tryz.underlying70 Tryz.underlying5 Tryz.underlying9 ?_)) | ((with_reducible refine tLoad ?_); go_must (refine w_at _ _ rfl (by exact ev_tmp rfl) ?_; intro hx; (first | refine w_load M _ _ _ rfl (by first | exact at0 | exact at1 | exact at2) hx rfl (by decide +kernel) (by exact rfl) ?_ | refine w_loadB M _ _ _ rfl (by first | exact at0 | exact at1 | exact at2) hx rfl (by decide +kernel) (by first | assumption | omega | (simp; omega)) ?_ | refine w_loadH M _ _ _ rfl (by first | exact at0 | exact at1 | exact at2) hx rfl (by decide +kernel) (by first | assumption | exact lenI | exact lenS ‹_› | rfl) (by decide +kernel) ?_ | refine w_loadR M _ _ _ rfl (by first | exact at0 | exact at1 | exact at2) hx rfl (by decide +kernel) (by kernel_rfl) ?_); clear hx)) | ((with_reducible refine tStore ?_); go_must (refine w_at2 _ _ _ rfl (by exact ev_tmp rfl) (by first | exact ev_tmp rfl | exact ev_const) ?_; intro hx hy; (first | refine w_storeB M _ _ _ _ rfl (by first | exact at0 | exact at1 | exact at2) hx rfl hy (by decide +kernel) (by first | assumption | omega | (simp; omega)) ?_ | refine w_storeH M _ _ _ _ rfl (by first | exact at0 | exact at1 | exact at2) hx rfl hy (by first | assumption | exact lenI | exact lenS ‹_› | rfl) (by decide +kernel) (by first | assumption | exact lenI | exact lenS ‹_› | rfl) ?_ | refine w_store M _ _ _ _ rfl (by first | exact at0 | exact at1 | exact at2) hx rfl hy rfl rfl (by decide +kernel) (by first | decide | simp | (simp; omega)) ?_ | refine w_storeR M _ _ _ _ rfl (by first | exact at0 | exact at1 | exact at2) hx rfl _ hy rfl (by kernel_rfl) (by simp [Value.oneCell']) (by first | rfl | assumption) ?_); clear hx hy M; intro w1 M; (try simp only [setC] at M))) | ((with_reducible refine tBox _ ?_); (refine w_box M _ _ rfl rfl _ rfl _ rfl ?_; clear M; intro g w1 M))) <;> (try conv => arg 5; simp only [Act.put, List.setIfInBounds_toArray, setC]))
                      go_roundw
                      case rel => exact ⟨n + 1, by omega, by rw [EX.out]; show _ = Value.int .u8 (I8 (powI pw (n + 8))); rw [EP.out], by go_num, by
                        rw [EX.out]; show Mem [] w _ [.row g (bs (iterN (addT (word4 s W pw (n + 8)) (n + 8)) 4 W ++ s)), .row gk (bs key)]
                        rw [E4.out, ← EV.out]; exact M.tail⟩
                      case measure => simp [intOf]; omega
            · rw [if_neg h8] at E2 E4 EP
              have hl2 := hl1
              obtain ⟨t2, e3⟩ : ∃ t, t = t1 := ⟨_, rfl⟩
              rw [E2, ← e3] at E3
              rw [← e3] at hl2
              replace E3 := Lib.hid E3
              replace E4 := Lib.hid E4
              replace EP := Lib.hid EP
              clear E2 q
              have h8' : ¬ ((n : Int) + 8) % 8 = 0 := by omega
              go_wp2_with ((first | ((with_reducible refine tAlloc (some 7) 258 ?_); refine w_alloc M _ rfl rfl (.agg (Array.replicate 4 (.int .u8 0))) (bs (List.replicate 4 (0 : UInt8))) (by kernel_rfl) rfl ?_; clear M; intro gt w1 M) | (go_at_call 177; go_must (refine (twice_c _ _).mono ?_; rintro e w1 ⟨rfl, rfl⟩)) | ((with_reducible refine tGuard ?_); first | refine w_strip rfl (by with_reducible rfl) ?_ | ((fail_if_success (refine w_lit false rfl (by with_reducible rfl) ?_)); (fail_if_success (refine w_lit true rfl (by with_reducible rfl) ?_)); refine w_case rfl ?_ ?_ <;> (intro hgd; rw [hgd]; try (exfalso; simp at hgd; omega)))) | ((with_reducible refine tConv _ 70 9 ?_); go_must (first | refine w_stringW M _ _ _ _ _ rfl rfl (by first | exact at0 | exact at1 | exact at2) rfl (by first | assumption | exact lenI | exact lenS ‹_› | rfl) (by decide) Tryz.underlying70 Tryz.underlying5 Tryz.underlying9 ?_ | refine w_string M _ _ _ _ _ rfl rfl (by first | exact at0 | exact at1 | exact at2) (by first | rfl | (simp; done) | assumption) rfl Tryz.underlying70 Tryz.underlying5 Tryz.underlying9 ?_)) | ((with_reducible refine tLoad ?_); go_must (refine w_at _ _ rfl (by exact ev_tmp rfl) ?_; intro hx; (first | refine w_load M _ _ _ rfl (by first | exact at0 | exact at1 | exact at2) hx rfl (by decide +kernel) (by exact rfl) ?_ | refine w_loadB M _ _ _ rfl (by first | exact at0 | exact at1 | exact at2) hx rfl (by decide +kernel) (by first | assumption | omega | (simp; omega)) ?_ | refine w_loadH M _ _ _ rfl (by first | exact at0 | exact at1 | exact at2) hx rfl (by decide +kernel) (by first | assumption | exact lenI | exact lenS ‹_› | rfl) (by decide +kernel) ?_ | refine w_loadR M _ _ _ rfl (by first | exact at0 | exact at1 | exact at2) hx rfl (by decide +kernel) (by kernel_rfl) ?_ | refine w_loadM M _ _ _ rfl (by first | exact at0 | exact at1 | exact at2) hx rfl (by decide +kernel) 4 (by decide +kernel) (by first | assumption | omega | (simp; omega)) ?_); clear hx)) | ((with_reducible refine tStore ?_); go_must (refine w_at2 _ _ _ rfl (by exact ev_tmp rfl) (by first | exact ev_tmp rfl | exact ev_const) ?_; intro hx hy; (first | refine w_storeB M _ _ _ _ rfl (by first | exact at0 | exact at1 | exact at2) hx rfl hy (by decide +kernel) (by first | assumption | omega | (simp; omega)) ?_ | refine w_storeH M _ _ _ _ rfl (by first | exact at0 | exact at1 | exact at2) hx rfl hy (by first | assumption | exact lenI | exact lenS ‹_› | rfl) (by decide +kernel) (by first | assumption | exact lenI | exact lenS ‹_› | rfl) ?_ | refine w_store M _ _ _ _ rfl (by first | exact at0 | exact at1 | exact at2) hx rfl hy rfl rfl (by decide +kernel) (by first | decide | simp | (simp; omega)) ?_ | refine w_storeR M _ _ _ _ rfl (by first | exact at0 | exact at1 | exact at2) hx rfl _ hy rfl (by kernel_rfl) (by simp [Value.oneCell']) (by first | rfl | assumption | exact Eq.symm (by assumption)) ?_); clear hx hy M; intro w1 M; (try simp only [setC] at M))) | ((with_reducible refine tBox _ ?_); (refine w_box M _ _ rfl rfl _ rfl _ rfl ?_; clear M; intro g w1 M))) <;> (try conv => arg 5; simp only [Act.put, List.setIfInBounds_toArray, setC]))
              rw [ht, ← e3] at M
              clear e3 ht hlX hlY
              go_loopw [53] (fun kv wr => ∃ k : Nat, k ≤ 4 ∧ kv = .int .i64 k ∧ Mem [] w wr [.row gt (bs (iterN (subT s) k t2)), .row g (bs (W ++ s)), .row gk (bs key)]) (fun kv _ => 4 - (intOf kv).toNat)
              case atStart => exact ⟨0, by omega, rfl, M⟩
              case round =>
                clear M
                obtain ⟨k, hk4, rfl, M⟩ := hrel
                obtain ⟨d, ed⟩ : ∃ d, d = iterN (subT s) k t2 := ⟨_, rfl⟩
                have hd : d.length = 4 := by rw [ed, iterN_len _ (fun _ _ => subT_len _ _ _)]; exact hl2
                rw [← ed] at M
                have ED := Lib.hid ed
                clear ed
                by_cases hlt4 : k < 4
                · obtain ⟨q, eq⟩ : ∃ q, q = nth d k := ⟨_, rfl⟩
                  have hq0 := (I8_bd q).1
                  have hq1 := (I8_bd q).2
                  have hq2 := I8_toNat q
                  have hq3 := q.toNat_lt
                  have hq4 : q.toNat < 256 := hq3
                  have hd1 : d.getD k 0 = q := eq.symm
                  have hd2 : d[k]?.getD 0 = q := by rw [nth_at', eq]
                  have hd3 : d[k] = q := by rw [nth_at, eq]
                  have EQ := Lib.hid eq
                  clear eq hq3
                  go_wp2_with ((first | ((with_reducible show Code.wp _ (Code.region 18 _ _) _ _ _); go_must (have MR := M; refine region_lowc [(0, false), (1, false), (2, false), (3, false), (5, false), (6, false), (4, false), (7, false), (8, false), (9, false), (10, true)] [(57, .ptr)] [(4, _), (8, _)] (IxOk MR [0, 1]) 10 (by kernel_rfl) (by kernel_rfl) rfl (by kernel_rfl) (lows_cons (by first | exact stab_ix MR 0 k rfl rfl (by decide) (by decide +kernel) rfl | exact stab_ixB MR 0 k rfl rfl (by decide) (by decide +kernel) (by first | assumption | omega) | exact stab_ix32 MR 0 k rfl rfl (by decide) (by decide +kernel) (by first | assumption | omega | (simp; omega)) | exact stab_ixH MR 0 rfl rfl (by decide) (by decide +kernel) (by first | assumption | exact lenI | exact lenS ‹_› | rfl) (by decide +kernel) | exact stab_ixW32 MR 0 rfl rfl (by decide) (by decide +kernel) (by first | assumption | exact lenI | exact lenS ‹_› | rfl) (by decide +kernel) | exact stab_ixR MR 0 rfl rfl (by decide) (by decide +kernel) (by kernel_rfl) | exact stab_ixW MR 0 rfl rfl (by decide) (by first | assumption | exact lenI | exact lenS ‹_› | rfl) (by decide) Tryz.underlying70 Tryz.underlying5 Tryz.underlying9 | exact stab_ixS MR 0 rfl rfl (by decide) (by first | rfl | simp | assumption) Tryz.underlying70 Tryz.underlying5 Tryz.underlying9) (lows_cons (by first | exact stab_ix MR 1 (240+q.toNat) rfl rfl (by decide) (by decide +kernel) rfl | exact stab_ixB MR 1 (240+q.toNat) rfl rfl (by decide) (by decide +kernel) (by first | assumption | omega) | exact stab_ix32 MR 1 (240+q.toNat) rfl rfl (by decide) (by decide +kernel) (by first | assumption | omega | (simp; omega)) | exact stab_ixH MR 1 rfl rfl (by decide) (by decide +kernel) (by first | assumption | exact lenI | exact lenS ‹_› | rfl) (by decide +kernel) | exact stab_ixW32 MR 1 rfl rfl (by decide) (by decide +kernel) (by first | assumption | exact lenI | exact lenS ‹_› | rfl) (by decide +kernel) | exact stab_ixR MR 1 rfl rfl (by decide) (by decide +kernel) (by kernel_rfl) | exact stab_ixW MR 1 rfl rfl (by decide) (by first | assumption | exact lenI | exact lenS ‹_› | rfl) (by decide) Tryz.underlying70 Tryz.underlying5 Tryz.underlying9 | exact stab_ixS MR 1 rfl rfl (by decide) (by first | rfl | simp | assumption) Tryz.underlying70 Tryz.underlying5 Tryz.underlying9) lows_nil)) (ixOk_self MR _) ?_; replace M := M.drew; simp only [planC, opAt, List.getElem?_toArray, List.getElem?_cons_zero, List.getElem?_cons_succ, Option.getD_some])) | ((with_reducible show Seg _ _ _ _); go_must (first | refine Seg.intro ⟨fun h => absurd rfl h, ?_⟩ | refine Seg.intro ⟨fun _ => (by repeat' (first | exact ixOk_nil M.kept | refine ixOk_cons rfl (by first | exact M.ok 0 _ rfl | exact M.ok 1 _ rfl | exact M.ok 2 _ rfl | exact M.ok 3 _ rfl | exact M.ok 4 _ rfl) ?_)), ?_⟩ | refine Seg.intro ⟨(by repeat' (first | (with_reducible exact needs_nil) | refine needs_at rfl (by first | (show Shape.ok Shape.nums _ = true; exact nums_bs _) | rfl) ?_)), (by repeat' (first | (with_reducible exact ats_nil) | refine ats_cons (by first | exact ev_tmp rfl | rfl) ?_)), ?_⟩)) | ((with_reducible show OnlyN _ _ _ _ _); refine OnlyN.intro (by kernel_rfl) ?_) | ((with_reducible refine tGuard ?_); first | refine w_strip rfl (by with_reducible rfl) ?_ | ((fail_if_success (refine w_lit false rfl (by with_reducible rfl) ?_)); (fail_if_success (refine w_lit true rfl (by with_reducible rfl) ?_)); refine w_case rfl ?_ ?_ <;> (intro hgd; rw [hgd]; try (exfalso; simp at hgd; omega)))) | ((with_reducible refine tConv _ 70 9 ?_); go_must (first | refine w_stringW M _ _ _ _ _ rfl rfl (by first | exact at0 | exact at1 | exact at2) rfl (by first | assumption | exact lenI | exact lenS ‹_› | rfl) (by decide) Tryz.underlying70 Tryz.underlying5 Tryz.underlying9 ?_ | refine w_string M _ _ _ _ _ rfl rfl (by first | exact at0 | exact at1 | exact at2) (by first | rfl | (simp; done) | assumption) rfl Tryz.underlying70 Tryz.underlying5 Tryz.underlying9 ?_)) | ((with_reducible refine tLoad ?_); go_must (refine w_at _ _ rfl (by exact ev_tmp rfl) ?_; intro hx; (first | refine w_load M _ _ _ rfl (by first | exact at0 | exact at1 | exact at2) hx rfl (by decide +kernel) (by exact rfl) ?_ | refine w_loadB M _ _ _ rfl (by first | exact at0 | exact at1 | exact at2) hx rfl (by decide +kernel) (by first | assumption | omega | (simp; omega)) ?_ | refine w_loadH M _ _ _ rfl (by first | exact at0 | exact at1 | exact at2) hx rfl (by decide +kernel) (by first | assumption | exact lenI | exact lenS ‹_› | rfl) (by decide +kernel) ?_ | refine w_loadR M _ _ _ rfl (by first | exact at0 | exact at1 | exact at2) hx rfl (by decide +kernel) (by kernel_rfl) ?_); clear hx)) | ((with_reducible refine tStore ?_); go_must (refine w_at2 _ _ _ rfl (by exact ev_tmp rfl) (by first | exact ev_tmp rfl | exact ev_const) ?_; intro hx hy; (first | refine w_storeB M _ _ _ _ rfl (by first | exact at0 | exact at1 | exact at2) hx rfl hy (by decide +kernel) (by first | assumption | omega | (simp; omega)) ?_ | refine w_storeH M _ _ _ _ rfl (by first | exact at0 | exact at1 | exact at2) hx rfl hy (by first | assumption | exact lenI | exact lenS ‹_› | rfl) (by decide +kernel) (by first | assumption | exact lenI | exact lenS ‹_› | rfl) ?_ | refine w_store M _ _ _ _ rfl (by first | exact at0 | exact at1 | exact at2) hx rfl hy rfl rfl (by decide +kernel) (by first | decide | simp | (simp; omega)) ?_ | refine w_storeR M _ _ _ _ rfl (by first | exact at0 | exact at1 | exact at2) hx rfl _ hy rfl (by kernel_rfl) (by simp [Value.oneCell']) (by first | rfl | assumption) ?_); clear hx hy M; intro w1 M; (try simp only [setC] at M))) | ((with_reducible refine tBox _ ?_); (refine w_box M _ _ rfl rfl _ rfl _ rfl ?_; clear M; intro g w1 M))) <;> (try conv => arg 5; simp only [Act.put, List.setIfInBounds_toArray, setC]))
                  rw [show (W ++ s).getD (240 + q.toNat) 0 = nth s q.toNat from nth_out W s 240 _ hW] at M
                  go_roundw
                  case rel => exact ⟨k + 1, by omega, by go_num, by
                    rw [iterN_succ, ← ED.out]; unfold subT; rw [← EQ.out]; exact M⟩
                  case measure => simp [intOf]; omega
                · obtain rfl : k = 4 := by omega
                  replace E3 := E3.out.trans ED.out.symm
                  replace E4 := E4.out
                  rw [E3] at E4
                  replace E4 := Lib.hid E4
                  clear E3 ED
                  go_wp2_with ((first | ((with_reducible refine tAlloc (some 7) 258 ?_); refine w_alloc M _ rfl rfl (.agg (Array.replicate 4 (.int .u8 0))) (bs (List.replicate 4 (0 : UInt8))) (by kernel_rfl) rfl ?_; clear M; intro gt w1 M) | (go_at_call 177; go_must (refine (twice_c _ _).mono ?_; rintro e w1 ⟨rfl, rfl⟩)) | ((with_reducible refine tGuard ?_); first | refine w_strip rfl (by with_reducible rfl) ?_ | ((fail_if_success (refine w_lit false rfl (by with_reducible rfl) ?_)); (fail_if_success (refine w_lit true rfl (by with_reducible rfl) ?_)); refine w_case rfl ?_ ?_ <;> (intro hgd; rw [hgd]; try (exfalso; simp at hgd; omega)))) | ((with_reducible refine tConv _ 70 9 ?_); go_must (first | refine w_stringW M _ _ _ _ _ rfl rfl (by first | exact at0 | exact at1 | exact at2) rfl (by first | assumption | exact lenI | exact lenS ‹_› | rfl) (by decide) Tryz.underlying70 Tryz.underlying5 Tryz.underlying9 ?_ | refine w_string M _ _ _ _ _ rfl rfl (by first | exact at0 | exact at1 | exact at2) (by first | rfl | (simp; done) | assumption) rfl Tryz.underlying70 Tryz.underlying5 Tryz.underlying9 ?_)) | ((with_reducible refine tLoad ?_); go_must (refine w_at _ _ rfl (by exact ev_tmp rfl) ?_; intro hx; (first | refine w_load M _ _ _ rfl (by first | exact at0 | exact at1 | exact at2) hx rfl (by decide +kernel) (by exact rfl) ?_ | refine w_loadB M _ _ _ rfl (by first | exact at0 | exact at1 | exact at2) hx rfl (by decide +kernel) (by first | assumption | omega | (simp; omega)) ?_ | refine w_loadH M _ _ _ rfl (by first | exact at0 | exact at1 | exact at2) hx rfl (by decide +kernel) (by first | assumption | exact lenI | exact lenS ‹_› | rfl) (by decide +kernel) ?_ | refine w_loadR M _ _ _ rfl (by first | exact at0 | exact at1 | exact at2) hx rfl (by decide +kernel) (by kernel_rfl) ?_ | refine w_loadM M _ _ _ rfl (by first | exact at0 | exact at1 | exact at2) hx rfl (by decide +kernel) 4 (by decide +kernel) (by first | assumption | omega | (simp; omega)) ?_); clear hx)) | ((with_reducible refine tStore ?_); go_must (refine w_at2 _ _ _ rfl (by exact ev_tmp rfl) (by first | exact ev_tmp rfl | exact ev_const) ?_; intro hx hy; (first | refine w_storeB M _ _ _ _ rfl (by first | exact at0 | exact at1 | exact at2) hx rfl hy (by decide +kernel) (by first | assumption | omega | (simp; omega)) ?_ | refine w_storeH M _ _ _ _ rfl (by first | exact at0 | exact at1 | exact at2) hx rfl hy (by first | assumption | exact lenI | exact lenS ‹_› | rfl) (by decide +kernel) (by first | assumption | exact lenI | exact lenS ‹_› | rfl) ?_ | refine w_store M _ _ _ _ rfl (by first | exact at0 | exact at1 | exact at2) hx rfl hy rfl rfl (by decide +kernel) (by first | decide | simp | (simp; omega)) ?_ | refine w_storeR M _ _ _ _ rfl (by first | exact at0 | exact at1 | exact at2) hx rfl _ hy rfl (by kernel_rfl) (by simp [Value.oneCell']) (by first | rfl | assumption | exact Eq.symm (by assumption)) ?_); clear hx hy M; intro w1 M; (try simp only [setC] at M))) | ((with_reducible refine tBox _ ?_); (refine w_box M _ _ rfl rfl _ rfl _ rfl ?_; clear M; intro g w1 M))) <;> (try conv => arg 5; simp only [Act.put, List.setIfInBounds_toArray, setC]))
                  obtain ⟨t4, e4⟩ : ∃ t, t = d := ⟨_, rfl⟩
                  have ht4 : t4.length = 4 := by rw [e4]; exact hd
                  rw [← e4] at M E4
                  clear e4
                  go_loopw [77] (fun kv wr => ∃ k : Nat, k ≤ 4 ∧ kv = .int .i64 k ∧ Mem [] w wr [.row gt (bs t4), .row g (bs (iterN (addT t4 (n + 8)) k W ++ s)), .row gk (bs key)]) (fun kv _ => 4 - (intOf kv).toNat)
                  case atStart => exact ⟨0, by omega, rfl, M⟩
                  case round =>
                    clear M
                    obtain ⟨k, hk4, rfl, M⟩ := hrel
                    obtain ⟨V, eV⟩ : ∃ V, V = iterN (addT t4 (n + 8)) k W := ⟨_, rfl⟩
                    have hV : V.length = 240 := by rw [eV, iterN_len _ (addT_len _ _)]; exact hW
                    have hVs : (V ++ s).length = 496 := by rw [List.length_append, hV, hs]
                    rw [← eV] at M
                    have EV := Lib.hid eV
                    clear eV
                    by_cases hlt4 : k < 4
                    · go_wp2_with ((first | ((with_reducible show Code.wp _ (Code.region 26 _ _) _ _ _); go_must (refine region_det [(0, false), (1, false), (2, false), (3, false), (4, false), (5, false), (6, false), (7, false), (8, false), (9, false), (10, false), (12, false), (13, false), (16, false), (17, false), (18, false), (11, false), (14, false), (15, false), (19, false), (20, true)] [(84, .int), (83, .ptr), (80, .ptr), (91, .int), (94, .int)] (by kernel_rfl) (by kernel_rfl) rfl (by kernel_rfl) ?_; replace M := M.drew; simp only [reord, opAt, List.map_cons, List.map_nil, List.getElem?_toArray, List.getElem?_cons_zero, List.getElem?_cons_succ, Option.getD_some])) | ((with_reducible show Seg _ _ _ _); go_must (first | refine Seg.intro ⟨fun h => absurd rfl h, ?_⟩ | refine Seg.intro ⟨fun _ => (by repeat' (first | exact ixOk_nil M.kept | refine ixOk_cons rfl (by first | exact M.ok 0 _ rfl | exact M.ok 1 _ rfl | exact M.ok 2 _ rfl | exact M.ok 3 _ rfl | exact M.ok 4 _ rfl) ?_)), ?_⟩ | refine Seg.intro ⟨(by repeat' (first | (with_reducible exact needs_nil) | refine needs_at rfl (by first | (show Shape.ok Shape.nums _ = true; exact nums_bs _) | rfl) ?_)), (by repeat' (first | (with_reducible exact ats_nil) | refine ats_cons (by first | exact ev_tmp rfl | rfl) ?_)), ?_⟩)) | ((with_reducible show OnlyN _ _ _ _ _); refine OnlyN.intro (by kernel_rfl) ?_) | ((with_reducible refine tGuard ?_); first | refine w_strip rfl (by with_reducible rfl) ?_ | ((fail_if_success (refine w_lit false rfl (by with_reducible rfl) ?_)); (fail_if_success (refine w_lit true rfl (by with_reducible rfl) ?_)); refine w_case rfl ?_ ?_ <;> (intro hgd; rw [hgd]; try (exfalso; simp at hgd; omega)))) | ((with_reducible refine tConv _ 70 9 ?_); go_must (first | refine w_stringW M _ _ _ _ _ rfl rfl (by first | exact at0 | exact at1 | exact at2) rfl (by first | assumption | exact lenI | exact lenS ‹_› | rfl) (by decide) Tryz.underlying70 Tryz.underlying5 Tryz.underlying9 ?_ | refine w_string M _ _ _ _ _ rfl rfl (by first | exact at0 | exact at1 | exact at2) (by first | rfl | (simp; done) | assumption) rfl Tryz.underlying70 Tryz.underlying5 Tryz.underlying9 ?_)) | ((with_reducible refine tLoad ?_); go_must (refine w_at _ _ rfl (by exact ev_tmp rfl) ?_; intro hx; (first | refine w_load M _ _ _ rfl (by first | exact at0 | exact at1 | exact at2) hx rfl (by decide +kernel) (by exact rfl) ?_ | refine w_loadB M _ _ _ rfl (by first | exact at0 | exact at1 | exact at2) hx rfl (by decide +kernel) (by first | assumption | omega | (simp; omega)) ?_ | refine w_loadH M _ _ _ rfl (by first | exact at0 | exact at1 | exact at2) hx rfl (by decide +kernel) (by first | assumption | exact lenI | exact lenS ‹_› | rfl) (by decide +kernel) ?_ | refine w_loadR M _ _ _ rfl (by first | exact at0 | exact at1 | exact at2) hx rfl (by decide +kernel) (by kernel_rfl) ?_); clear hx)) | ((with_reducible refine tStore ?_); go_must (refine w_at2 _ _ _ rfl (by exact ev_tmp rfl) (by first | exact ev_tmp rfl | exact ev_const) ?_; intro hx hy; (first | refine w_storeB M _ _ _ _ rfl (by first | exact at0 | exact at1 | exact at2) hx rfl hy (by decide +kernel) (by first | assumption | omega | (simp; omega)) ?_ | refine w_storeH M _ _ _ _ rfl (by first | exact at0 | exact at1 | exact at2) hx rfl hy (by first | assumption | exact lenI | exact lenS ‹_› | rfl) (by decide +kernel) (by first | assumption | exact lenI | exact lenS ‹_› | rfl) ?_ | refine w_store M _ _ _ _ rfl (by first | exact at0 | exact at1 | exact at2) hx rfl hy rfl rfl (by decide +kernel) (by first | decide | simp | (simp; omega)) ?_ | refine w_storeR M _ _ _ _ rfl (by first | exact at0 | exact at1 | exact at2) hx rfl _ hy rfl (by kernel_rfl) (by simp [Value.oneCell']) (by first | rfl | assumption) ?_); clear hx hy M; intro w1 M; (try simp only [setC] at M))) | ((with_reducible refine tBox _ ?_); (refine w_box M _ _ rfl rfl _ rfl _ rfl ?_; clear M; intro g w1 M))) <;> (try conv => arg 5; simp only [Act.put, List.setIfInBounds_toArray, setC]))
                      have q1 : addT t4 (n + 8) k V = V.set ((n + 8) * 4 + k) (nth V (4 * n + k) ^^^ nth t4 k) := by unfold addT; rw [Nat.mul_comm 4 (n + 8), Nat.add_sub_cancel]
                      have q2 : (V ++ s)[n * 4 + k]?.getD 0 = nth V (4 * n + k) := by rw [nth_at', nth_in _ _ _ (by omega), Nat.mul_comm]
                      rw [q2, nth_at t4 k (by omega), set_in V s _ _ (by omega), ← q1] at M
                      go_roundw
                      case rel => exact ⟨k + 1, by omega, by go_num, by rw [iterN_succ, ← EV.out]; exact M⟩
                      case measure => simp [intOf]; omega
                    · obtain rfl : k = 4 := by omega
                      go_wp2_with ((first | ((with_reducible refine tGuard ?_); first | refine w_strip rfl (by with_reducible rfl) ?_ | ((fail_if_success (refine w_lit false rfl (by with_reducible rfl) ?_)); (fail_if_success (refine w_lit true rfl (by with_reducible rfl) ?_)); refine w_case rfl ?_ ?_ <;> (intro hgd; rw [hgd]; try (exfalso; simp at hgd; omega)))) | ((with_reducible refine tConv _ 70 9 ?_); go_must (first | refine w_stringW M _ _ _ _ _ rfl rfl (by first | exact at0 | exact at1 | exact at2) rfl (by first | assumption | exact lenI | exact lenS ‹_› | rfl) (by decide) Tryz.underlying70 Tryz.underlying5 Tryz.underlying9 ?_ | refine w_string M _ _ _ _ _ rfl rfl (by first | exact at0 | exact at1 | exact at2) (by first | rfl | (simp; done) | assumption) rfl Tryz.underlying70 Tryz.underlying5 Tryz.underlying9 ?_)) | ((with_reducible refine tLoad ?_); go_must (refine w_at _ _ rfl (by exact ev_tmp rfl) ?_; intro hx; (first | refine w_load M _ _ _ rfl (by first | exact at0 | exact at1 | exact at2) hx rfl (by decide +kernel) (by exact rfl) ?_ | refine w_loadB M _ _ _ rfl (by first | exact at0 | exact at1 | exact at2) hx rfl (by decide +kernel) (by first | assumption | omega | (simp; omega)) ?_ | refine w_loadH M _ _ _ rfl (by first | exact at0 | exact at1 | exact at2) hx rfl (by decide +kernel) (by first | assumption | exact lenI | exact lenS ‹_› | rfl) (by decide +kernel) ?_ | refine w_loadR M _ _ _ rfl (by first | exact at0 | exact at1 | exact at2) hx rfl (by decide +kernel) (by kernel_rfl) ?_); clear hx)) | ((with_reducible refine tStore ?_); go_must (refine w_at2 _ _ _ rfl (by exact ev_tmp rfl) (by first | exact ev_tmp rfl | exact ev_const) ?_; intro hx hy; (first | refine w_storeB M _ _ _ _ rfl (by first | exact at0 | exact at1 | exact at2) hx rfl hy (by decide +kernel) (by first | assumption | omega | (simp; omega)) ?_ | refine w_storeH M _ _ _ _ rfl (by first | exact at0 | exact at1 | exact at2) hx rfl hy (by first | assumption | exact lenI | exact lenS ‹_› | rfl) (by decide +kernel) (by first | assumption | exact lenI | exact lenS ‹_› | rfl) ?_ | refine w_store M _ _ _ _ rfl (by first | exact at0 | exact at1 | exact at2) hx rfl hy rfl rfl (by decide +kernel) (by first | decide | simp | (simp; omega)) ?_ | refine w_storeR M _ _ _ _ rfl (by first | exact at0 | exact at1 | exact at2) hx rfl _ hy rfl (by kernel_rfl) (by simp [Value.oneCell']) (by first | rfl | assumption) ?_); clear hx hy M; intro w1 M; (try simp only [setC] at M))) | ((with_reducible refine tBox _ ?_); (refine w_box M _ _ rfl rfl _ rfl _ rfl ?_; clear M; intro g w1 M))) <;> (try conv => arg 5; simp only [Act.put, List.setIfInBounds_toArray, setC]))
                      go_roundw
                      case rel => exact ⟨n + 1, by omega, by rw [EX.out]; show _ = Value.int .u8 (I8 (powI pw (n + 8))); rw [EP.out], by go_num, by
                        rw [EX.out]; show Mem [] w _ [.row g (bs (iterN (addT (word4 s W pw (n + 8)) (n + 8)) 4 W ++ s)), .row gk (bs key)]
                        rw [E4.out, ← EV.out]; exact M.tail⟩
                      case measure => simp [intOf]; omega
          · rw [if_neg h4] at E3
            have h8 : ¬ n % 8 = 0 := by omega
            rw [if_neg h8] at E2 E4 EP
            rw [E2] at E3
            rw [E3] at E4
            have h4' : ¬ ((n : Int) + 8) % 4 = 0 := by omega
            have h8' : ¬ ((n : Int) + 8) % 8 = 0 := by omega
            obtain ⟨t4, e4⟩ : ∃ t, t = t1 := ⟨_, rfl⟩
            have ht4 : t4.length = 4 := by rw [e4]; exact hl1
            rw [← e4] at E4
            replace E4 := Lib.hid E4
            replace EP := Lib.hid EP
            clear E2 E3 q
            go_wp2_with ((first | ((with_reducible refine tAlloc (some 7) 258 ?_); refine w_alloc M _ rfl rfl (.agg (Array.replicate 4 (.int .u8 0))) (bs (List.replicate 4 (0 : UInt8))) (by kernel_rfl) rfl ?_; clear M; intro gt w1 M) | (go_at_call 177; go_must (refine (twice_c _ _).mono ?_; rintro e w1 ⟨rfl, rfl⟩)) | ((with_reducible refine tGuard ?_); first | refine w_strip rfl (by with_reducible rfl) ?_ | ((fail_if_success (refine w_lit false rfl (by with_reducible rfl) ?_)); (fail_if_success (refine w_lit true rfl (by with_reducible rfl) ?_)); refine w_case rfl ?_ ?_ <;> (intro hgd; rw [hgd]; try (exfalso; simp at hgd; omega)))) | ((with_reducible refine tConv _ 70 9 ?_); go_must (first | refine w_stringW M _ _ _ _ _ rfl rfl (by first | exact at0 | exact at1 | exact at2) rfl (by first | assumption | exact lenI | exact lenS ‹_› | rfl) (by decide) Tryz.underlying70 Tryz.underlying5 Tryz.underlying9 ?_ | refine w_string M _ _ _ _ _ rfl rfl (by first | exact at0 | exact at1 | exact at2) (by first | rfl | (simp; done) | assumption) rfl Tryz.underlying70 Tryz.underlying5 Tryz.underlying9 ?_)) | ((with_reducible refine tLoad ?_); go_must (refine w_at _ _ rfl (by exact ev_tmp rfl) ?_; intro hx; (first | refine w_load M _ _ _ rfl (by first | exact at0 | exact at1 | exact at2) hx rfl (by decide +kernel) (by exact rfl) ?_ | refine w_loadB M _ _ _ rfl (by first | exact at0 | exact at1 | exact at2) hx rfl (by decide +kernel) (by first | assumption | omega | (simp; omega)) ?_ | refine w_loadH M _ _ _ rfl (by first | exact at0 | exact at1 | exact at2) hx rfl (by decide +kernel) (by first | assumption | exact lenI | exact lenS ‹_› | rfl) (by decide +kernel) ?_ | refine w_loadR M _ _ _ rfl (by first | exact at0 | exact at1 | exact at2) hx rfl (by decide +kernel) (by kernel_rfl) ?_ | refine w_loadM M _ _ _ rfl (by first | exact at0 | exact at1 | exact at2) hx rfl (by decide +kernel) 4 (by decide +kernel) (by first | assumption | omega | (simp; omega)) ?_); clear hx)) | ((with_reducible refine tStore ?_); go_must (refine w_at2 _ _ _ rfl (by exact ev_tmp rfl) (by first | exact ev_tmp rfl | exact ev_const) ?_; intro hx hy; (first | refine w_storeB M _ _ _ _ rfl (by first | exact at0 | exact at1 | exact at2) hx rfl hy (by decide +kernel) (by first | assumption | omega | (simp; omega)) ?_ | refine w_storeH M _ _ _ _ rfl (by first | exact at0 | exact at1 | exact at2) hx rfl hy (by first | assumption | exact lenI | exact lenS ‹_› | rfl) (by decide +kernel) (by first | assumption | exact lenI | exact lenS ‹_› | rfl) ?_ | refine w_store M _ _ _ _ rfl (by first | exact at0 | exact at1 | exact at2) hx rfl hy rfl rfl (by decide +kernel) (by first | decide | simp | (simp; omega)) ?_ | refine w_storeR M _ _ _ _ rfl (by first | exact at0 | exact at1 | exact at2) hx rfl _ hy rfl (by kernel_rfl) (by simp [Value.oneCell']) (by first | rfl | assumption | exact Eq.symm (by assumption)) ?_); clear hx hy M; intro w1 M; (try simp only [setC] at M))) | ((with_reducible refine tBox _ ?_); (refine w_box M _ _ rfl rfl _ rfl _ rfl ?_; clear M; intro g w1 M))) <;> (try conv => arg 5; simp only [Act.put, List.setIfInBounds_toArray, setC]))
            rw [ht, ← e4] at M
            clear e4 ht hlX hlY
            go_loopw [77] (fun kv wr => ∃ k : Nat, k ≤ 4 ∧ kv = .int .i64 k ∧ Mem [] w wr [.row gt (bs t4), .row g (bs (iterN (addT t4 (n + 8)) k W ++ s)), .row gk (bs key)]) (fun kv _ => 4 - (intOf kv).toNat)
            case atStart => exact ⟨0, by omega, rfl, M⟩
            case round =>
              clear M
              obtain ⟨k, hk4, rfl, M⟩ := hrel
              obtain ⟨V, eV⟩ : ∃ V, V = iterN (addT t4 (n + 8)) k W := ⟨_, rfl⟩
              have hV : V.length = 240 := by rw [eV, iterN_len _ (addT_len _ _)]; exact hW
              have hVs : (V ++ s).length = 496 := by rw [List.length_append, hV, hs]
              rw [← eV] at M
              have EV := Lib.hid eV
              clear eV
              by_cases hlt4 : k < 4
              · go_wp2_with ((first | ((with_reducible show Code.wp _ (Code.region 26 _ _) _ _ _); go_must (refine region_det [(0, false), (1, false), (2, false), (3, false), (4, false), (5, false), (6, false), (7, false), (8, false), (9, false), (10, false), (12, false), (13, false), (16, false), (17, false), (18, false), (11, false), (14, false), (15, false), (19, false), (20, true)] [(84, .int), (83, .ptr), (80, .ptr), (91, .int), (94, .int)] (by kernel_rfl) (by kernel_rfl) rfl (by kernel_rfl) ?_; replace M := M.drew; simp only [reord, opAt, List.map_cons, List.map_nil, List.getElem?_toArray, List.getElem?_cons_zero, List.getElem?_cons_succ, Option.getD_some])) | ((with_reducible show Seg _ _ _ _); go_must (first | refine Seg.intro ⟨fun h => absurd rfl h, ?_⟩ | refine Seg.intro ⟨fun _ => (by repeat' (first | exact ixOk_nil M.kept | refine ixOk_cons rfl (by first | exact M.ok 0 _ rfl | exact M.ok 1 _ rfl | exact M.ok 2 _ rfl | exact M.ok 3 _ rfl | exact M.ok 4 _ rfl) ?_)), ?_⟩ | refine Seg.intro ⟨(by repeat' (first | (with_reducible exact needs_nil) | refine needs_at rfl (by first | (show Shape.ok Shape.nums _ = true; exact nums_bs _) | rfl) ?_)), (by repeat' (first | (with_reducible exact ats_nil) | refine ats_cons (by first | exact ev_tmp rfl | rfl) ?_)), ?_⟩)) | ((with_reducible show OnlyN _ _ _ _ _); refine OnlyN.intro (by kernel_rfl) ?_) | ((with_reducible refine tGuard ?_); first | refine w_strip rfl (by with_reducible rfl) ?_ | ((fail_if_success (refine w_lit false rfl (by with_reducible rfl) ?_)); (fail_if_success (refine w_lit true rfl (by with_reducible rfl) ?_)); refine w_case rfl ?_ ?_ <;> (intro hgd; rw [hgd]; try (exfalso; simp at hgd; omega)))) | ((with_reducible refine tConv _ 70 9 ?_); go_must (first | refine w_stringW M _ _ _ _ _ rfl rfl (by first | exact at0 | exact at1 | exact at2) rfl (by first | assumption | exact lenI | exact lenS ‹_› | rfl) (by decide) Tryz.underlying70 Tryz.underlying5 Tryz.underlying9 ?_ | refine w_string M _ _ _ _ _ rfl rfl (by first | exact at0 | exact at1 | exact at2) (by first | rfl | (simp; done) | assumption) rfl Tryz.underlying70 Tryz.underlying5 Tryz.underlying9 ?_)) | ((with_reducible refine tLoad ?_); go_must (refine w_at _ _ rfl (by exact ev_tmp rfl) ?_; intro hx; (first | refine w_load M _ _ _ rfl (by first | exact at0 | exact at1 | exact at2) hx rfl (by decide +kernel) (by exact rfl) ?_ | refine w_loadB M _ _ _ rfl (by first | exact at0 | exact at1 | exact at2) hx rfl (by decide +kernel) (by first | assumption | omega | (simp; omega)) ?_ | refine w_loadH M _ _ _ rfl (by first | exact at0 | exact at1 | exact at2) hx rfl (by decide +kernel) (by first | assumption | exact lenI | exact lenS ‹_› | rfl) (by decide +kernel) ?_ | refine w_loadR M _ _ _ rfl (by first | exact at0 | exact at1 | exact at2) hx rfl (by decide +kernel) (by kernel_rfl) ?_); clear hx)) | ((with_reducible refine tStore ?_); go_must (refine w_at2 _ _ _ rfl (by exact ev_tmp rfl) (by first | exact ev_tmp rfl | exact ev_const) ?_; intro hx hy; (first | refine w_storeB M _ _ _ _ rfl (by first | exact at0 | exact at1 | exact at2) hx rfl hy (by decide +kernel) (by first | assumption | omega | (simp; omega)) ?_ | refine w_storeH M _ _ _ _ rfl (by first | exact at0 | exact at1 | exact at2) hx rfl hy (by first | assumption | exact lenI | exact lenS ‹_› | rfl) (by decide +kernel) (by first | assumption | exact lenI | exact lenS ‹_› | rfl) ?_ | refine w_store M _ _ _ _ rfl (by first | exact at0 | exact at1 | exact at2) hx rfl hy rfl rfl (by decide +kernel) (by first | decide | simp | (simp; omega)) ?_ | refine w_storeR M _ _ _ _ rfl (by first | exact at0 | exact at1 | exact at2) hx rfl _ hy rfl (by kernel_rfl) (by simp [Value.oneCell']) (by first | rfl | assumption) ?_); clear hx hy M; intro w1 M; (try simp only [setC] at M))) | ((with_reducible refine tBox _ ?_); (refine w_box M _ _ rfl rfl _ rfl _ rfl ?_; clear M; intro g w1 M))) <;> (try conv => arg 5; simp only [Act.put, List.setIfInBounds_toArray, setC]))
                have q1 : addT t4 (n + 8) k V = V.set ((n + 8) * 4 + k) (nth V (4 * n + k) ^^^ nth t4 k) := by unfold addT; rw [Nat.mul_comm 4 (n + 8), Nat.add_sub_cancel]
                have q2 : (V ++ s)[n * 4 + k]?.getD 0 = nth V (4 * n + k) := by rw [nth_at', nth_in _ _ _ (by omega), Nat.mul_comm]
                rw [q2, nth_at t4 k (by omega), set_in V s _ _ (by omega), ← q1] at M
                go_roundw
                case rel => exact ⟨k + 1, by omega, by go_num, by rw [iterN_succ, ← EV.out]; exact M⟩
                case measure => simp [intOf]; omega
              · obtain rfl : k = 4 := by omega
                go_wp2_with ((first | ((with_reducible refine tGuard ?_); first | refine w_strip rfl (by with_reducible rfl) ?_ | ((fail_if_success (refine w_lit false rfl (by with_reducible rfl) ?_)); (fail_if_success (refine w_lit true rfl (by with_reducible rfl) ?_)); refine w_case rfl ?_ ?_ <;> (intro hgd; rw [hgd]; try (exfalso; simp at hgd; omega)))) | ((with_reducible refine tConv _ 70 9 ?_); go_must (first | refine w_stringW M _ _ _ _ _ rfl rfl (by first | exact at0 | exact at1 | exact at2) rfl (by first | assumption | exact lenI | exact lenS ‹_› | rfl) (by decide) Tryz.underlying70 Tryz.underlying5 Tryz.underlying9 ?_ | refine w_string M _ _ _ _ _ rfl rfl (by first | exact at0 | exact at1 | exact at2) (by first | rfl | (simp; done) | assumption) rfl Tryz.underlying70 Tryz.underlying5 Tryz.underlying9 ?_)) | ((with_reducible refine tLoad ?_); go_must (refine w_at _ _ rfl (by exact ev_tmp rfl) ?_; intro hx; (first | refine w_load M _ _ _ rfl (by first | exact at0 | exact at1 | exact at2) hx rfl (by decide +kernel) (by exact rfl) ?_ | refine w_loadB M _ _ _ rfl (by first | exact at0 | exact at1 | exact at2) hx rfl (by decide +kernel) (by first | assumption | omega | (simp; omega)) ?_ | refine w_loadH M _ _ _ rfl (by first | exact at0 | exact at1 | exact at2) hx rfl (by decide +kernel) (by first | assumption | exact lenI | exact lenS ‹_› | rfl) (by decide +kernel) ?_ | refine w_loadR M _ _ _ rfl (by first | exact at0 | exact at1 | exact at2) hx rfl (by decide +kernel) (by kernel_rfl) ?_); clear hx)) | ((with_reducible refine tStore ?_); go_must (refine w_at2 _ _ _ rfl (by exact ev_tmp rfl) (by first | exact ev_tmp rfl | exact ev_const) ?_; intro hx hy; (first | refine w_storeB M _ _ _ _ rfl (by first | exact at0 | exact at1 | exact at2) hx rfl hy (by decide +kernel) (by first | assumption | omega | (simp; omega)) ?_ | refine w_storeH M _ _ _ _ rfl (by first | exact at0 | exact at1 | exact at2) hx rfl hy (by first | assumption | exact lenI | exact lenS ‹_› | rfl) (by decide +kernel) (by first | assumption | exact lenI | exact lenS ‹_› | rfl) ?_ | refine w_store M _ _ _ _ rfl (by first | exact at0 | exact at1 | exact at2) hx rfl hy rfl rfl (by decide +kernel) (by first | decide | simp | (simp; omega)) ?_ | refine w_storeR M _ _ _ _ rfl (by first | exact at0 | exact at1 | exact at2) hx rfl _ hy rfl (by kernel_rfl) (by simp [Value.oneCell']) (by first | rfl | assumption) ?_); clear hx hy M; intro w1 M; (try simp only [setC] at M))) | ((with_reducible refine tBox _ ?_); (refine w_box M _ _ rfl rfl _ rfl _ rfl ?_; clear M; intro g w1 M))) <;> (try conv => arg 5; simp only [Act.put, List.setIfInBounds_toArray, setC]))
                go_roundw
                case rel => exact ⟨n + 1, by omega, by rw [EX.out]; show _ = Value.int .u8 (I8 (powI pw (n + 8))); rw [EP.out], by go_num, by
                  rw [EX.out]; show Mem [] w _ [.row g (bs (iterN (addT (word4 s W pw (n + 8)) (n + 8)) 4 W ++ s)), .row gk (bs key)]
                  rw [E4.out, ← EV.out]; exact M.tail⟩
                case measure => simp [intOf]; omega
        · obtain rfl : n = 52 := by omega
          have e : schL s key = W := by unfold schL; rw [← EX0.out]
          go_wp2_with ((first | ((with_reducible refine tGuard ?_); first | refine w_strip rfl (by with_reducible rfl) ?_ | ((fail_if_success (refine w_lit false rfl (by with_reducible rfl) ?_)); (fail_if_success (refine w_lit true rfl (by with_reducible rfl) ?_)); refine w_case rfl ?_ ?_ <;> (intro hgd; rw [hgd]; try (exfalso; simp at hgd; omega)))) | ((with_reducible refine tConv _ 70 9 ?_); go_must (first | refine w_stringW M _ _ _ _ _ rfl rfl (by first | exact at0 | exact at1 | exact at2) rfl (by first | assumption | exact lenI | exact lenS ‹_› | rfl) (by decide) Tryz.underlying70 Tryz.underlying5 Tryz.underlying9 ?_ | refine w_string M _ _ _ _ _ rfl rfl (by first | exact at0 | exact at1 | exact at2) (by first | rfl | (simp; done) | assumption) rfl Tryz.underlying70 Tryz.underlying5 Tryz.underlying9 ?_)) | ((with_reducible refine tLoad ?_); go_must (refine w_at _ _ rfl (by exact ev_tmp rfl) ?_; intro hx; (first | refine w_load M _ _ _ rfl (by first | exact at0 | exact at1 | exact at2) hx rfl (by decide +kernel) (by exact rfl) ?_ | refine w_loadB M _ _ _ rfl (by first | exact at0 | exact at1 | exact at2) hx rfl (by decide +kernel) (by first | assumption | omega | (simp; omega)) ?_ | refine w_loadH M _ _ _ rfl (by first | exact at0 | exact at1 | exact at2) hx rfl (by decide +kernel) (by first | assumption | exact lenI | exact lenS ‹_› | rfl) (by decide +kernel) ?_ | refine w_loadR M _ _ _ rfl (by first | exact at0 | exact at1 | exact at2) hx rfl (by decide +kernel) (by kernel_rfl) ?_); clear hx)) | ((with_reducible refine tStore ?_); go_must (refine w_at2 _ _ _ rfl (by exact ev_tmp rfl) (by first | exact ev_tmp rfl | exact ev_const) ?_; intro hx hy; (first | refine w_storeB M _ _ _ _ rfl (by first | exact at0 | exact at1 | exact at2) hx rfl hy (by decide +kernel) (by first | assumption | omega | (simp; omega)) ?_ | refine w_storeH M _ _ _ _ rfl (by first | exact at0 | exact at1 | exact at2) hx rfl hy (by first | assumption | exact lenI | exact lenS ‹_› | rfl) (by decide +kernel) (by first | assumption | exact lenI | exact lenS ‹_› | rfl) ?_ | refine w_store M _ _ _ _ rfl (by first | exact at0 | exact at1 | exact at2) hx rfl hy rfl rfl (by decide +kernel) (by first | decide | simp | (simp; omega)) ?_ | refine w_storeR M _ _ _ _ rfl (by first | exact at0 | exact at1 | exact at2) hx rfl _ hy rfl (by kernel_rfl) (by simp [Value.oneCell']) (by first | rfl | assumption) ?_); clear hx hy M; intro w1 M; (try simp only [setC] at M))) | ((with_reducible refine tBox _ ?_); (refine w_box M _ _ rfl rfl _ rfl _ rfl ?_; clear M; intro g w1 M))) <;> (try conv => arg 5; simp only [Act.put, List.setIfInBounds_toArray, setC]))
          go_ret
          exact ⟨g, rfl, by rw [e]; exact M.take1⟩
end Go.Proofs.YtidadhbaomieiaaGreat

/- The walk of what enciphers one block. Conditions: lengths. -/
namespace Go.Proofs.YtidadhbaomieiaaGreat
open Go.RowKit Go.TL
set_option maxRecDepth 100000 in
set_option maxHeartbeats 4000000 in
theorem block_c (gc : Nat) (s W b : List UInt8) (w : World) (R : (Chunk.row gc (bs (W ++ s))).ok w) (hW : W.length = 240) (hs : s.length = 256) (hb : b.length = 16) :
    Calls Tryz.prog 150 #[.pointer (some ⟨gc, 0, none⟩), .agg (bs b).toArray] w fun e w' => e = .returned (.agg (bs (blockL s W b)).toArray) ∧ Below w.heap.size w w' := by
  have M := Mem.start [] w
  have hWs : (W ++ s).length = 496 := by rw [List.length_append, hW, hs]
  have hz : (List.replicate 16 (0 : UInt8)).length = 16 := List.length_replicate
  have ha0 : (addL W b 0).length = 16 := by rw [addL_len]; exact hb
  have A0 := fun (w : World) (RR : (Chunk.row gc (bs (W ++ s))).ok w) => add_c gc s W b 0 0 rfl w RR hW hs hb (by omega)
  have BL : blockL s W b = iterN (roundL s W) 14 (addL W b 0) := rfl
  have IV : ∀ n, (iterN (roundL s W) n (addL W b 0)).length = 16 := fun n => iterN_inv _ (fun l => l.length = 16) (fun n x _ => roundL_len s W n x) n _ ha0
  obtain ⟨a0, e0⟩ : ∃ a, a = addL W b 0 := ⟨_, rfl⟩
  rw [← e0] at ha0 A0 BL IV
  obtain ⟨bl, ebl⟩ : ∃ x, x = blockL s W b := ⟨_, rfl⟩
  rw [← ebl] at BL
  rw [← ebl]
  replace A0 := Lib.hid A0
  replace BL := Lib.hid BL
  replace IV := Lib.hid IV
  clear e0 ebl
  go_enter Tryz.func150, Tryz.ntmps150
  go_wp2_with ((first | ((with_reducible refine tBox (some 3) ?_); refine w_box M _ _ rfl rfl _ rfl (bs b) rfl ?_; clear M; intro gb w1 M) | ((with_reducible refine tAlloc (some 4) 234 ?_); refine w_alloc M _ rfl rfl (.agg (Array.replicate 16 (.int .u8 0))) (bs (List.replicate 16 (0 : UInt8))) (by kernel_rfl) rfl ?_; clear M; intro go w1 M) | (go_at_call 178; go_must (refine (A0.out _ (M.stays R)).mono ?_; rintro e w1 ⟨rfl, hb⟩; replace M := M.call hb; clear hb)) | ((with_reducible refine tGuard ?_); first | refine w_strip rfl (by with_reducible rfl) ?_ | ((fail_if_success (refine w_lit false rfl (by with_reducible rfl) ?_)); (fail_if_success (refine w_lit true rfl (by with_reducible rfl) ?_)); refine w_case rfl ?_ ?_ <;> (intro hgd; rw [hgd]; try (exfalso; simp at hgd; omega)))) | ((with_reducible refine tConv _ 70 9 ?_); go_must (first | refine w_stringW M _ _ _ _ _ rfl rfl (by first | exact at0 | exact at1) rfl (by first | assumption | exact lenI | exact lenS ‹_› | rfl) (by decide) Tryz.underlying70 Tryz.underlying5 Tryz.underlying9 ?_ | refine w_string M _ _ _ _ _ rfl rfl (by first | exact at0 | exact at1) (by first | rfl | (simp; done) | assumption) rfl Tryz.underlying70 Tryz.underlying5 Tryz.underlying9 ?_)) | ((with_reducible refine tLoad ?_); go_must (refine w_at _ _ rfl (by exact ev_tmp rfl) ?_; intro hx; (first | refine w_load M _ _ _ rfl (by first | exact at0 | exact at1) hx rfl (by decide +kernel) (by exact rfl) ?_ | refine w_loadB M _ _ _ rfl (by first | exact at0 | exact at1) hx rfl (by decide +kernel) (by first | assumption | omega | (simp; omega)) ?_ | refine w_loadH M _ _ _ rfl (by first | exact at0 | exact at1) hx rfl (by decide +kernel) (by first | assumption | exact lenI | exact lenS ‹_› | rfl) (by decide +kernel) ?_ | refine w_loadR M _ _ _ rfl (by first | exact at0 | exact at1) hx rfl (by decide +kernel) (by kernel_rfl) ?_); clear hx)) | ((with_reducible refine tStore ?_); go_must (refine w_at2 _ _ _ rfl (by exact ev_tmp rfl) (by first | exact ev_tmp rfl | exact ev_const) ?_; intro hx hy; (first | refine w_storeB M _ _ _ _ rfl (by first | exact at0 | exact at1) hx rfl hy (by decide +kernel) (by first | assumption | omega | (simp; omega)) ?_ | refine w_storeH M _ _ _ _ rfl (by first | exact at0 | exact at1) hx rfl hy (by first | assumption | exact lenI | exact lenS ‹_› | rfl) (by decide +kernel) (by first | assumption | exact lenI | exact lenS ‹_› | rfl) ?_ | refine w_store M _ _ _ _ rfl (by first | exact at0 | exact at1) hx rfl hy rfl rfl (by decide +kernel) (by first | decide | simp | (simp; omega)) ?_ | refine w_storeR M _ _ _ _ rfl (by first | exact at0 | exact at1) hx rfl _ hy rfl (by kernel_rfl) (by simp [Value.oneCell']) (by first | rfl | assumption) ?_); clear hx hy M; intro w1 M; (try simp only [setC] at M))) | ((with_reducible refine tBox _ ?_); (refine w_box M _ _ rfl rfl _ rfl _ rfl ?_; clear M; intro g w1 M))) <;> (try conv => arg 5; simp only [Act.put, List.setIfInBounds_toArray, setC]))
  go_loopw [5] (fun kv wr => ∃ n : Nat, n ≤ 14 ∧ kv = .int .i64 ((n : Int) + 1) ∧ Mem [] w wr [.row go (bs (List.replicate 16 0)), .row gb (bs (iterN (roundL s W) n a0))]) (fun kv _ => 15 - (intOf kv).toNat)
  case atStart => exact ⟨0, by omega, rfl, M⟩
  case round =>
    clear M
    obtain ⟨n, hn, rfl, M⟩ := hrel
    have hd := IV.out n
    obtain ⟨d, ed⟩ : ∃ d, d = iterN (roundL s W) n a0 := ⟨_, rfl⟩
    rw [← ed] at M hd
    have ED := Lib.hid ed
    clear ed
    by_cases hlt : n < 14
    · go_wp2_with ((first | ((with_reducible refine tAlloc (some 6) 234 ?_); refine w_alloc M _ rfl rfl (.agg (Array.replicate 16 (.int .u8 0))) (bs (List.replicate 16 (0 : UInt8))) (by kernel_rfl) rfl ?_; clear M; intro gt w1 M) | ((with_reducible refine tGuard ?_); first | refine w_strip rfl (by with_reducible rfl) ?_ | ((fail_if_success (refine w_lit false rfl (by with_reducible rfl) ?_)); (fail_if_success (refine w_lit true rfl (by with_reducible rfl) ?_)); refine w_case rfl ?_ ?_ <;> (intro hgd; rw [hgd]; try (exfalso; simp at hgd; omega)))) | ((with_reducible refine tConv _ 70 9 ?_); go_must (first | refine w_stringW M _ _ _ _ _ rfl rfl (by first | exact at0 | exact at1 | exact at2) rfl (by first | assumption | exact lenI | exact lenS ‹_› | rfl) (by decide) Tryz.underlying70 Tryz.underlying5 Tryz.underlying9 ?_ | refine w_string M _ _ _ _ _ rfl rfl (by first | exact at0 | exact at1 | exact at2) (by first | rfl | (simp; done) | assumption) rfl Tryz.underlying70 Tryz.underlying5 Tryz.underlying9 ?_)) | ((with_reducible refine tLoad ?_); go_must (refine w_at _ _ rfl (by exact ev_tmp rfl) ?_; intro hx; (first | refine w_load M _ _ _ rfl (by first | exact at0 | exact at1 | exact at2) hx rfl (by decide +kernel) (by exact rfl) ?_ | refine w_loadB M _ _ _ rfl (by first | exact at0 | exact at1 | exact at2) hx rfl (by decide +kernel) (by first | assumption | omega | (simp; omega)) ?_ | refine w_loadH M _ _ _ rfl (by first | exact at0 | exact at1 | exact at2) hx rfl (by decide +kernel) (by first | assumption | exact lenI | exact lenS ‹_› | rfl) (by decide +kernel) ?_ | refine w_loadR M _ _ _ rfl (by first | exact at0 | exact at1 | exact at2) hx rfl (by decide +kernel) (by kernel_rfl) ?_); clear hx)) | ((with_reducible refine tStore ?_); go_must (refine w_at2 _ _ _ rfl (by exact ev_tmp rfl) (by first | exact ev_tmp rfl | exact ev_const) ?_; intro hx hy; (first | refine w_storeB M _ _ _ _ rfl (by first | exact at0 | exact at1 | exact at2) hx rfl hy (by decide +kernel) (by first | assumption | omega | (simp; omega)) ?_ | refine w_storeH M _ _ _ _ rfl (by first | exact at0 | exact at1 | exact at2) hx rfl hy (by first | assumption | exact lenI | exact lenS ‹_› | rfl) (by decide +kernel) (by first | assumption | exact lenI | exact lenS ‹_› | rfl) ?_ | refine w_store M _ _ _ _ rfl (by first | exact at0 | exact at1 | exact at2) hx rfl hy rfl rfl (by decide +kernel) (by first | decide | simp | (simp; omega)) ?_ | refine w_storeR M _ _ _ _ rfl (by first | exact at0 | exact at1 | exact at2) hx rfl _ hy rfl (by kernel_rfl) (by simp [Value.oneCell']) (by first | rfl | assumption) ?_); clear hx hy M; intro w1 M; (try simp only [setC] at M))) | ((with_reducible refine tBox _ ?_); (refine w_box M _ _ rfl rfl _ rfl _ rfl ?_; clear M; intro g w1 M))) <;> (try conv => arg 5; simp only [Act.put, List.setIfInBounds_toArray, setC]))
      go_loopw [15] (fun kv wr => ∃ k : Nat, k ≤ 16 ∧ kv = .int .i64 k ∧ Mem [] w wr [.row gt (bs (iterN (subB s d) k (List.replicate 16 0))), .row go (bs (List.replicate 16 0)), .row gb (bs d)]) (fun kv _ => 16 - (intOf kv).toNat)
      case atStart => exact ⟨0, by omega, rfl, M⟩
      case round =>
        clear M
        obtain ⟨k, hk16, rfl, M⟩ := hrel
        have ht : (iterN (subB s d) k (List.replicate 16 0)).length = 16 := by rw [iterN_len _ (fun n s => by unfold subB; rw [List.length_set])]; exact List.length_replicate
        obtain ⟨t, et⟩ : ∃ t, t = iterN (subB s d) k (List.replicate 16 0) := ⟨_, rfl⟩
        rw [← et] at M ht
        have ET := Lib.hid et
        clear et
        by_cases hlt16 : k < 16
        · have hj : (k + 4 * (k % 4)) % 16 < d.length := by omega
          obtain ⟨q, eq⟩ : ∃ q, q = nth d ((k + 4 * (k % 4)) % 16) := ⟨_, rfl⟩
          have hq0 := (I8_bd q).1
          have hq1 := (I8_bd q).2
          have hq2 := I8_toNat q
          have hq3 := q.toNat_lt
          have hq4 : q.toNat < 256 := hq3
          have hd1 : d.getD ((k + 4 * (k % 4)) % 16) 0 = q := eq.symm
          have hd2 : d[(k + 4 * (k % 4)) % 16]?.getD 0 = q := by rw [nth_at', eq]
          have hd3 : d[(k + 4 * (k % 4)) % 16] = q := by rw [nth_at, eq]
          have EQ := Lib.hid eq
          clear eq hq3
          go_wp2_with ((first | ((with_reducible show Code.wp _ (Code.region 9 _ _) _ _ _); go_must (refine region_det [(0, false), (1, false), (2, false), (3, false), (4, false), (5, false), (6, false), (7, false), (8, false), (10, false), (11, false), (9, false), (12, false), (13, false), (14, false), (15, true)] [(21, .int), (22, .int), (20, .int), (23, .int), (24, .int), (19, .ptr)] (by kernel_rfl) (by kernel_rfl) rfl (by kernel_rfl) ?_; replace M := M.drew; simp only [reord, opAt, List.map_cons, List.map_nil, List.getElem?_toArray, List.getElem?_cons_zero, List.getElem?_cons_succ, Option.getD_some])) | ((with_reducible refine tLoad ?_); refine w_at _ _ rfl (by exact ev_tmp rfl) ?_; intro hx; (first | refine w_rowB M R _ _ rfl hx rfl (by decide +kernel) (by first | assumption | omega | (simp; omega)) ?_); clear hx) | ((with_reducible show Seg _ _ _ _); go_must (first | refine Seg.intro ⟨fun h => absurd rfl h, ?_⟩ | refine Seg.intro ⟨fun _ => (by repeat' (first | exact ixOk_nil M.kept | refine ixOk_cons rfl (by first | exact M.ok 0 _ rfl | exact M.ok 1 _ rfl | exact M.ok 2 _ rfl | exact M.ok 3 _ rfl | exact M.ok 4 _ rfl) ?_)), ?_⟩ | refine Seg.intro ⟨(by repeat' (first | (with_reducible exact needs_nil) | refine needs_at rfl (by first | (show Shape.ok Shape.nums _ = true; exact nums_bs _) | rfl) ?_)), (by repeat' (first | (with_reducible exact ats_nil) | refine ats_cons (by first | exact ev_tmp rfl | rfl) ?_)), ?_⟩)) | ((with_reducible show OnlyN _ _ _ _ _); refine OnlyN.intro (by kernel_rfl) ?_) | ((with_reducible refine tGuard ?_); first | refine w_strip rfl (by with_reducible rfl) ?_ | ((fail_if_success (refine w_lit false rfl (by with_reducible rfl) ?_)); (fail_if_success (refine w_lit true rfl (by with_reducible rfl) ?_)); refine w_case rfl ?_ ?_ <;> (intro hgd; rw [hgd]; try (exfalso; simp at hgd; omega)))) | ((with_reducible refine tConv _ 70 9 ?_); go_must (first | refine w_stringW M _ _ _ _ _ rfl rfl (by first | exact at0 | exact at1 | exact at2) rfl (by first | assumption | exact lenI | exact lenS ‹_› | rfl) (by decide) Tryz.underlying70 Tryz.underlying5 Tryz.underlying9 ?_ | refine w_string M _ _ _ _ _ rfl rfl (by first | exact at0 | exact at1 | exact at2) (by first | rfl | (simp; done) | assumption) rfl Tryz.underlying70 Tryz.underlying5 Tryz.underlying9 ?_)) | ((with_reducible refine tLoad ?_); go_must (refine w_at _ _ rfl (by exact ev_tmp rfl) ?_; intro hx; (first | refine w_load M _ _ _ rfl (by first | exact at0 | exact at1 | exact at2) hx rfl (by decide +kernel) (by exact rfl) ?_ | refine w_loadB M _ _ _ rfl (by first | exact at0 | exact at1 | exact at2) hx rfl (by decide +kernel) (by first | assumption | omega | (simp; omega)) ?_ | refine w_loadH M _ _ _ rfl (by first | exact at0 | exact at1 | exact at2) hx rfl (by decide +kernel) (by first | assumption | exact lenI | exact lenS ‹_› | rfl) (by decide +kernel) ?_ | refine w_loadR M _ _ _ rfl (by first | exact at0 | exact at1 | exact at2) hx rfl (by decide +kernel) (by kernel_rfl) ?_); clear hx)) | ((with_reducible refine tStore ?_); go_must (refine w_at2 _ _ _ rfl (by exact ev_tmp rfl) (by first | exact ev_tmp rfl | exact ev_const) ?_; intro hx hy; (first | refine w_storeB M _ _ _ _ rfl (by first | exact at0 | exact at1 | exact at2) hx rfl hy (by decide +kernel) (by first | assumption | omega | (simp; omega)) ?_ | refine w_storeH M _ _ _ _ rfl (by first | exact at0 | exact at1 | exact at2) hx rfl hy (by first | assumption | exact lenI | exact lenS ‹_› | rfl) (by decide +kernel) (by first | assumption | exact lenI | exact lenS ‹_› | rfl) ?_ | refine w_store M _ _ _ _ rfl (by first | exact at0 | exact at1 | exact at2) hx rfl hy rfl rfl (by decide +kernel) (by first | decide | simp | (simp; omega)) ?_ | refine w_storeR M _ _ _ _ rfl (by first | exact at0 | exact at1 | exact at2) hx rfl _ hy rfl (by kernel_rfl) (by simp [Value.oneCell']) (by first | rfl | assumption) ?_); clear hx hy M; intro w1 M; (try simp only [setC] at M))) | ((with_reducible refine tBox _ ?_); (refine w_box M _ _ rfl rfl _ rfl _ rfl ?_; clear M; intro g w1 M))) <;> (try conv => arg 5; simp only [Act.put, List.setIfInBounds_toArray, setC]))
          rw [show (W ++ s).getD (240 + q.toNat) 0 = nth s q.toNat from nth_out W s 240 _ hW] at M
          go_roundw
          case rel => exact ⟨k + 1, by omega, by go_num, by rw [iterN_succ, ← ET.out]; unfold subB; rw [← EQ.out]; exact M⟩
          case measure => simp [intOf]; omega
        · obtain rfl : k = 16 := by omega
          have e : t = subL s d := ET.out
          have hsl := subL_len s d
          rw [e] at M
          obtain ⟨t', e'⟩ : ∃ t, t = subL s d := ⟨_, rfl⟩
          rw [← e'] at M hsl
          have ER : roundL s W n d = addL W (if n + 1 < 14 then mixL t' else t') (n + 1) := by rw [e']; rfl
          clear e e' ht ET
          have MX := fun w => mix_c t' w hsl
          have AD := fun (m : List UInt8) (hm : m.length = 16) (w : World) (RR : (Chunk.row gc (bs (W ++ s))).ok w) => add_c gc s W m (n + 1) ((n : Int) + 1) (by omega) w RR hW hs hm (by omega)
          by_cases h14 : n + 1 < 14
          · rw [if_pos h14] at ER
            have hml := mixL_len t'
            obtain ⟨m, em⟩ : ∃ m, m = mixL t' := ⟨_, rfl⟩
            rw [← em] at ER MX hml
            replace AD := AD m hml
            have hal : (addL W m (n + 1)).length = 16 := by rw [addL_len]; exact hml
            obtain ⟨a, ea⟩ : ∃ a, a = addL W m (n + 1) := ⟨_, rfl⟩
            rw [← ea] at ER AD hal
            replace ER := Lib.hid fun _ : Unit => ER
            replace MX := Lib.hid MX
            replace AD := Lib.hid AD
            clear ea em
            go_wp2_with ((first | (go_at_call 178; go_must (refine (AD.out _ (M.stays R)).mono ?_; rintro e w1 ⟨rfl, hb⟩; replace M := M.call hb; clear hb)) | (go_at_call 179; go_must (refine (MX.out _).mono ?_; rintro e w1 ⟨rfl, hb⟩; replace M := M.call hb; clear hb)) | ((with_reducible refine tGuard ?_); first | refine w_strip rfl (by with_reducible rfl) ?_ | ((fail_if_success (refine w_lit false rfl (by with_reducible rfl) ?_)); (fail_if_success (refine w_lit true rfl (by with_reducible rfl) ?_)); refine w_case rfl ?_ ?_ <;> (intro hgd; rw [hgd]; try (exfalso; simp at hgd; omega)))) | ((with_reducible refine tConv _ 70 9 ?_); go_must (first | refine w_stringW M _ _ _ _ _ rfl rfl (by first | exact at0 | exact at1 | exact at2) rfl (by first | assumption | exact lenI | exact lenS ‹_› | rfl) (by decide) Tryz.underlying70 Tryz.underlying5 Tryz.underlying9 ?_ | refine w_string M _ _ _ _ _ rfl rfl (by first | exact at0 | exact at1 | exact at2) (by first | rfl | (simp; done) | assumption) rfl Tryz.underlying70 Tryz.underlying5 Tryz.underlying9 ?_)) | ((with_reducible refine tLoad ?_); go_must (refine w_at _ _ rfl (by exact ev_tmp rfl) ?_; intro hx; (first | refine w_load M _ _ _ rfl (by first | exact at0 | exact at1 | exact at2) hx rfl (by decide +kernel) (by exact rfl) ?_ | refine w_loadB M _ _ _ rfl (by first | exact at0 | exact at1 | exact at2) hx rfl (by decide +kernel) (by first | assumption | omega | (simp; omega)) ?_ | refine w_loadH M _ _ _ rfl (by first | exact at0 | exact at1 | exact at2) hx rfl (by decide +kernel) (by first | assumption | exact lenI | exact lenS ‹_› | rfl) (by decide +kernel) ?_ | refine w_loadR M _ _ _ rfl (by first | exact at0 | exact at1 | exact at2) hx rfl (by decide +kernel) (by kernel_rfl) ?_); clear hx)) | ((with_reducible refine tStore ?_); go_must (refine w_at2 _ _ _ rfl (by exact ev_tmp rfl) (by first | exact ev_tmp rfl | exact ev_const) ?_; intro hx hy; (first | refine w_storeB M _ _ _ _ rfl (by first | exact at0 | exact at1 | exact at2) hx rfl hy (by decide +kernel) (by first | assumption | omega | (simp; omega)) ?_ | refine w_storeH M _ _ _ _ rfl (by first | exact at0 | exact at1 | exact at2) hx rfl hy (by first | assumption | exact lenI | exact lenS ‹_› | rfl) (by decide +kernel) (by first | assumption | exact lenI | exact lenS ‹_› | rfl) ?_ | refine w_store M _ _ _ _ rfl (by first | exact at0 | exact at1 | exact at2) hx rfl hy rfl rfl (by decide +kernel) (by first | decide | simp | (simp; omega)) ?_ | refine w_storeR M _ _ _ _ rfl (by first | exact at0 | exact at1 | exact at2) hx rfl _ hy rfl (by kernel_rfl) (by simp [Value.oneCell']) (by first | rfl | assumption) ?_); clear hx hy M; intro w1 M; (try simp only [setC] at M))) | ((with_reducible refine tBox _ ?_); (refine w_box M _ _ rfl rfl _ rfl _ rfl ?_; clear M; intro g w1 M))) <;> (try conv => arg 5; simp only [Act.put, List.setIfInBounds_toArray, setC]))
            go_roundw
            case rel => exact ⟨n + 1, by omega, by go_num, by rw [iterN_succ, ← ED.out, ER.out ()]; exact M.tail⟩
            case measure => simp [intOf]; omega
          · rw [if_neg h14] at ER
            replace AD := AD t' hsl
            have hal : (addL W t' (n + 1)).length = 16 := by rw [addL_len]; exact hsl
            obtain ⟨a, ea⟩ : ∃ a, a = addL W t' (n + 1) := ⟨_, rfl⟩
            rw [← ea] at ER AD hal
            replace ER := Lib.hid fun _ : Unit => ER
            replace AD := Lib.hid AD
            clear ea MX
            go_wp2_with ((first | (go_at_call 178; go_must (refine (AD.out _ (M.stays R)).mono ?_; rintro e w1 ⟨rfl, hb⟩; replace M := M.call hb; clear hb)) | ((with_reducible refine tGuard ?_); first | refine w_strip rfl (by with_reducible rfl) ?_ | ((fail_if_success (refine w_lit false rfl (by with_reducible rfl) ?_)); (fail_if_success (refine w_lit true rfl (by with_reducible rfl) ?_)); refine w_case rfl ?_ ?_ <;> (intro hgd; rw [hgd]; try (exfalso; simp at hgd; omega)))) | ((with_reducible refine tConv _ 70 9 ?_); go_must (first | refine w_stringW M _ _ _ _ _ rfl rfl (by first | exact at0 | exact at1 | exact at2) rfl (by first | assumption | exact lenI | exact lenS ‹_› | rfl) (by decide) Tryz.underlying70 Tryz.underlying5 Tryz.underlying9 ?_ | refine w_string M _ _ _ _ _ rfl rfl (by first | exact at0 | exact at1 | exact at2) (by first | rfl | (simp; done) | assumption) rfl Tryz.underlying70 Tryz.underlying5 Tryz.underlying9 ?_)) | ((with_reducible refine tLoad ?_); go_must (refine w_at _ _ rfl (by exact ev_tmp rfl) ?_; intro hx; (first | refine w_load M _ _ _ rfl (by first | exact at0 | exact at1 | exact at2) hx rfl (by decide +kernel) (by exact rfl) ?_ | refine w_loadB M _ _ _ rfl (by first | exact at0 | exact at1 | exact at2) hx rfl (by decide +kernel) (by first | assumption | omega | (simp; omega)) ?_ | refine w_loadH M _ _ _ rfl (by first | exact at0 | exact at1 | exact at2) hx rfl (by decide +kernel) (by first | assumption | exact lenI | exact lenS ‹_› | rfl) (by decide +kernel) ?_ | refine w_loadR M _ _ _ rfl (by first | exact at0 | exact at1 | exact at2) hx rfl (by decide +kernel) (by kernel_rfl) ?_); clear hx)) | ((with_reducible refine tStore ?_); go_must (refine w_at2 _ _ _ rfl (by exact ev_tmp rfl) (by first | exact ev_tmp rfl | exact ev_const) ?_; intro hx hy; (first | refine w_storeB M _ _ _ _ rfl (by first | exact at0 | exact at1 | exact at2) hx rfl hy (by decide +kernel) (by first | assumption | omega | (simp; omega)) ?_ | refine w_storeH M _ _ _ _ rfl (by first | exact at0 | exact at1 | exact at2) hx rfl hy (by first | assumption | exact lenI | exact lenS ‹_› | rfl) (by decide +kernel) (by first | assumption | exact lenI | exact lenS ‹_› | rfl) ?_ | refine w_store M _ _ _ _ rfl (by first | exact at0 | exact at1 | exact at2) hx rfl hy rfl rfl (by decide +kernel) (by first | decide | simp | (simp; omega)) ?_ | refine w_storeR M _ _ _ _ rfl (by first | exact at0 | exact at1 | exact at2) hx rfl _ hy rfl (by kernel_rfl) (by simp [Value.oneCell']) (by first | rfl | assumption) ?_); clear hx hy M; intro w1 M; (try simp only [setC] at M))) | ((with_reducible refine tBox _ ?_); (refine w_box M _ _ rfl rfl _ rfl _ rfl ?_; clear M; intro g w1 M))) <;> (try conv => arg 5; simp only [Act.put, List.setIfInBounds_toArray, setC]))
            go_roundw
            case rel => exact ⟨n + 1, by omega, by go_num, by rw [iterN_succ, ← ED.out, ER.out ()]; exact M.tail⟩
            case measure => simp [intOf]; omega
    · obtain rfl : n = 14 := by omega
      have e : bl = d := BL.out.trans ED.out.symm
      go_wp2_with ((first | ((with_reducible refine tGuard ?_); first | refine w_strip rfl (by with_reducible rfl) ?_ | ((fail_if_success (refine w_lit false rfl (by with_reducible rfl) ?_)); (fail_if_success (refine w_lit true rfl (by with_reducible rfl) ?_)); refine w_case rfl ?_ ?_ <;> (intro hgd; rw [hgd]; try (exfalso; simp at hgd; omega)))) | ((with_reducible refine tConv _ 70 9 ?_); go_must (first | refine w_stringW M _ _ _ _ _ rfl rfl (by first | exact at0 | exact at1) rfl (by first | assumption | exact lenI | exact lenS ‹_› | rfl) (by decide) Tryz.underlying70 Tryz.underlying5 Tryz.underlying9 ?_ | refine w_string M _ _ _ _ _ rfl rfl (by first | exact at0 | exact at1) (by first | rfl | (simp; done) | assumption) rfl Tryz.underlying70 Tryz.underlying5 Tryz.underlying9 ?_)) | ((with_reducible refine tLoad ?_); go_must (refine w_at _ _ rfl (by exact ev_tmp rfl) ?_; intro hx; (first | refine w_load M _ _ _ rfl (by first | exact at0 | exact at1) hx rfl (by decide +kernel) (by exact rfl) ?_ | refine w_loadB M _ _ _ rfl (by first | exact at0 | exact at1) hx rfl (by decide +kernel) (by first | assumption | omega | (simp; omega)) ?_ | refine w_loadH M _ _ _ rfl (by first | exact at0 | exact at1) hx rfl (by decide +kernel) (by first | assumption | exact lenI | exact lenS ‹_› | rfl) (by decide +kernel) ?_ | refine w_loadR M _ _ _ rfl (by first | exact at0 | exact at1) hx rfl (by decide +kernel) (by kernel_rfl) ?_); clear hx)) | ((with_reducible refine tStore ?_); go_must (refine w_at2 _ _ _ rfl (by exact ev_tmp rfl) (by first | exact ev_tmp rfl | exact ev_const) ?_; intro hx hy; (first | refine w_storeB M _ _ _ _ rfl (by first | exact at0 | exact at1) hx rfl hy (by decide +kernel) (by first | assumption | omega | (simp; omega)) ?_ | refine w_storeH M _ _ _ _ rfl (by first | exact at0 | exact at1) hx rfl hy (by first | assumption | exact lenI | exact lenS ‹_› | rfl) (by decide +kernel) (by first | assumption | exact lenI | exact lenS ‹_› | rfl) ?_ | refine w_store M _ _ _ _ rfl (by first | exact at0 | exact at1) hx rfl hy rfl rfl (by decide +kernel) (by first | decide | simp | (simp; omega)) ?_ | refine w_storeR M _ _ _ _ rfl (by first | exact at0 | exact at1) hx rfl _ hy rfl (by kernel_rfl) (by simp [Value.oneCell']) (by first | rfl | assumption) ?_); clear hx hy M; intro w1 M; (try simp only [setC] at M))) | ((with_reducible refine tBox _ ?_); (refine w_box M _ _ rfl rfl _ rfl _ rfl ?_; clear M; intro g w1 M))) <;> (try conv => arg 5; simp only [Act.put, List.setIfInBounds_toArray, setC]))
      exact bodyPost_ret (results_row rfl _ _ go 0 (bs d) _ rfl (M.ok 0 _ rfl).2.1 Tryz.underlying234 rfl (by rw [bs_length, hd]; kernel_rfl)) rfl ⟨by rw [e], M.below⟩
end Go.Proofs.YtidadhbaomieiaaGreat

/- The walk of aes.Stream. Conditions: lengths. -/
namespace Go
namespace TL
theorem sees_of {w : World} {v : Value} {n : Nat} {l : List UInt8} (h : (Chunk.sl 1 v n (bs l)).ok w) (e : n = l.length) : SeesB w v l := by subst e; exact Own.sees h
theorem nonce_in (nonce : List UInt8) (h : nonce.length = 12) : (List.replicate 16 (0 : UInt8)).take 0 ++ ((((nonce.drop 0).take 12)).take 12 ++ (List.replicate 16 0).drop (0 + 12)) = nonce ++ List.replicate 4 0 := by
  have e : (nonce.take 12).take 12 = nonce := by rw [List.take_take, Nat.min_self, List.take_of_length_le (by omega)]
  rw [List.take_zero, List.nil_append, List.drop_zero, e]; rfl
theorem count_in (nonce big : List UInt8) (h : nonce.length = 12) (hb : big.length = 4) : (nonce ++ List.replicate 4 (0 : UInt8)).take 12 ++ (big.take 4 ++ (nonce ++ List.replicate 4 0).drop (12 + 4)) = nonce ++ big := by
  rw [List.take_left' h, List.take_of_length_le (by omega), List.drop_eq_nil_of_le (by simp; omega), List.append_nil]
end TL
end Go
namespace Go.Proofs.YtidadhbaomieiaaGreat
open Go.RowKit Go.TL
set_option maxRecDepth 100000 in
set_option maxHeartbeats 4000000 in
theorem Stream_c (key nonce text : List UInt8) (w : World) (hk : key.length = 32) (hn : nonce.length = 12) (ht : text.length ≤ 1000000) :
    Calls Tryz.prog 109 #[.agg (bs key).toArray, .agg (bs nonce).toArray, .string (mkS text)] w fun e w' => e = .returned (.string (mkS (streamL key nonce text))) ∧ Below w.heap.size w w' := by
  have M := Mem.start [] w
  have SC := fun w => schedule_c key w hk
  have hs := boxL_len
  have hW := schL_len boxL key hk
  have SL : streamL key nonce text = strN boxL (schL boxL key) nonce ((text.length + 15) / 16) text := rfl
  obtain ⟨W, eW⟩ : ∃ W, W = schL boxL key := ⟨_, rfl⟩
  rw [← eW] at SC hW SL
  obtain ⟨s, es⟩ : ∃ s, s = boxL := ⟨_, rfl⟩
  rw [← es] at SC hs SL
  obtain ⟨r, er⟩ : ∃ r, r = streamL key nonce text := ⟨_, rfl⟩
  rw [← er] at SL
  rw [← er]
  replace SL := Lib.hid fun _ : Unit => SL
  replace SC := Lib.hid SC
  clear eW es er
  obtain ⟨N, eN⟩ : ∃ N, N = text.length := ⟨_, rfl⟩
  have hWs : (W ++ s).length = 496 := by rw [List.length_append, hW, hs]
  have SN : ∀ n, (strN s W nonce n text).length = N := fun n => by rw [strN_len]; exact eN.symm
  replace SN := Lib.hid SN
  go_enter Tryz.func109, Tryz.ntmps109
  go_wp2_with ((first | ((with_reducible refine tBox (some 3) ?_); refine w_box M _ _ rfl rfl _ rfl (bs key) rfl ?_; clear M; intro gk w1 M) | ((with_reducible refine tBox (some 4) ?_); refine w_box M _ _ rfl rfl _ rfl (bs nonce) rfl ?_; clear M; intro gn w1 M) | (go_at_call 148; go_must (refine (SC.out _).mono ?_; rintro e w1 ⟨gc, rfl, MP⟩; replace M := M.join MP; clear MP; simp only [List.cons_append, List.nil_append] at M)) | ((with_reducible refine tConv (some 16) 9 70 ?_); go_must (refine w_bytes M _ _ _ _ rfl rfl rfl Tryz.underlying9 Tryz.underlying70 Tryz.underlying5 (by first | omega | (simp; omega)) ?_; clear M; intro gb capgb w1 hcapgb M)) | ((with_reducible refine tGuard ?_); first | refine w_strip rfl (by with_reducible rfl) ?_ | ((fail_if_success (refine w_lit false rfl (by with_reducible rfl) ?_)); (fail_if_success (refine w_lit true rfl (by with_reducible rfl) ?_)); refine w_case rfl ?_ ?_ <;> (intro hgd; rw [hgd]; try (exfalso; simp at hgd; omega)))) | ((with_reducible refine tConv _ 70 9 ?_); go_must (first | refine w_stringW M _ _ _ _ _ rfl rfl (by first | exact at0 | exact at1 | exact at2) rfl (by first | assumption | exact lenI | exact lenS ‹_› | rfl) (by decide) Tryz.underlying70 Tryz.underlying5 Tryz.underlying9 ?_ | refine w_string M _ _ _ _ _ rfl rfl (by first | exact at0 | exact at1 | exact at2) (by first | rfl | (simp; done) | assumption) rfl Tryz.underlying70 Tryz.underlying5 Tryz.underlying9 ?_)) | ((with_reducible refine tLoad ?_); go_must (refine w_at _ _ rfl (by exact ev_tmp rfl) ?_; intro hx; (first | refine w_load M _ _ _ rfl (by first | exact at0 | exact at1 | exact at2) hx rfl (by decide +kernel) (by exact rfl) ?_ | refine w_loadB M _ _ _ rfl (by first | exact at0 | exact at1 | exact at2) hx rfl (by decide +kernel) (by first | assumption | omega | (simp; omega)) ?_ | refine w_loadH M _ _ _ rfl (by first | exact at0 | exact at1 | exact at2) hx rfl (by decide +kernel) (by first | assumption | exact lenI | exact lenS ‹_› | rfl) (by decide +kernel) ?_ | refine w_loadR M _ _ _ rfl (by first | exact at0 | exact at1 | exact at2) hx rfl (by decide +kernel) (by kernel_rfl) ?_); clear hx)) | ((with_reducible refine tStore ?_); go_must (refine w_at2 _ _ _ rfl (by exact ev_tmp rfl) (by first | exact ev_tmp rfl | exact ev_const) ?_; intro hx hy; (first | refine w_storeB M _ _ _ _ rfl (by first | exact at0 | exact at1 | exact at2) hx rfl hy (by decide +kernel) (by first | assumption | omega | (simp; omega)) ?_ | refine w_storeH M _ _ _ _ rfl (by first | exact at0 | exact at1 | exact at2) hx rfl hy (by first | assumption | exact lenI | exact lenS ‹_› | rfl) (by decide +kernel) (by first | assumption | exact lenI | exact lenS ‹_› | rfl) ?_ | refine w_store M _ _ _ _ rfl (by first | exact at0 | exact at1 | exact at2) hx rfl hy rfl rfl (by decide +kernel) (by first | decide | simp | (simp; omega)) ?_ | refine w_storeR M _ _ _ _ rfl (by first | exact at0 | exact at1 | exact at2) hx rfl _ hy rfl (by kernel_rfl) (by simp [Value.oneCell']) (by first | rfl | assumption) ?_); clear hx hy M; intro w1 M; (try simp only [setC] at M))) | ((with_reducible refine tBox _ ?_); (refine w_box M _ _ rfl rfl _ rfl _ rfl ?_; clear M; intro g w1 M))) <;> (try conv => arg 5; simp only [Act.put, List.setIfInBounds_toArray, setC]))
  rw [← eN] at M
  rw [← eN]
  have hc2 : N ≤ capgb := by omega
  have hN : N ≤ 1000000 := by omega
  replace eN := Lib.hid fun _ : Unit => eN
  clear ht
  clear hcapgb
  go_loopw [9] (fun kv wr => ∃ n : Nat, 16 * n < N + 16 ∧ kv = .int .i64 (16 * (n : Int)) ∧ Mem [] w wr [.sl 1 (.slice (some ⟨gb, 0, none⟩) N capgb) N (bs (strN s W nonce n text)), .row gc (bs (W ++ s)), .row gn (bs nonce), .row gk (bs key)]) (fun kv _ => N + 16 - (intOf kv).toNat)
  case atStart => exact ⟨0, by omega, rfl, M⟩
  case round =>
    clear M
    obtain ⟨n, hn16, rfl, M⟩ := hrel
    have hd := SN.out n
    obtain ⟨d, ed⟩ : ∃ d, d = strN s W nonce n text := ⟨_, rfl⟩
    rw [← ed] at M hd
    have ED := Lib.hid fun _ : Unit => ed
    clear ed
    by_cases hlt : 16 * n < N
    · have hI : (16 * (n : Int)) < (N : Int) := by omega
      have SE : strB s W nonce n d = iterN (xorB (blockL s W (nonce ++ bigB (UInt64.ofNat n) 4)) (16 * n)) (min 16 (d.length - 16 * n)) d := rfl
      have hbig := bigB_length (UInt64.ofNat n) 4
      have CI := count_in nonce (bigB (UInt64.ofNat n) 4) hn hbig
      have AP := fun (w : World) hok => aesPutc (.slice none 0 0) [] (UInt64.ofNat n) 4 w hok (by omega) (by simp)
      rw [List.nil_append] at AP
      obtain ⟨big, ebig⟩ : ∃ b, b = bigB (UInt64.ofNat n) 4 := ⟨_, rfl⟩
      rw [← ebig] at SE hbig CI AP
      rw [hbig] at AP
      clear ebig
      have BC := fun (w : World) RR => block_c gc s W (nonce ++ big) w RR hW hs (by rw [List.length_append, hn, hbig])
      have hol := blockL_len s W (nonce ++ big) (by rw [List.length_append, hn, hbig])
      obtain ⟨o, eo⟩ : ∃ o, o = blockL s W (nonce ++ big) := ⟨_, rfl⟩
      rw [← eo] at SE BC hol
      clear eo
      have NI := nonce_in nonce hn
      have hin1 : (nonce ++ List.replicate 4 (0 : UInt8)).length = 16 := by simp [hn]
      have hin2 : (nonce ++ big).length = 16 := by rw [List.length_append, hn, hbig]
      replace SE := Lib.hid fun _ : Unit => SE
      replace CI := Lib.hid fun _ : Unit => CI
      replace NI := Lib.hid fun _ : Unit => NI
      replace AP := Lib.hid AP
      replace BC := Lib.hid BC
      have hz : (List.replicate 16 (0 : UInt8)).length = 16 := List.length_replicate
      have hq : (16 * (n : Int)) / 16 = n := by omega
      go_wp2_with ((first | ((with_reducible refine tAlloc (some 10) 234 ?_); refine w_alloc M _ rfl rfl (.agg (Array.replicate 16 (.int .u8 0))) (bs (List.replicate 16 (0 : UInt8))) (by kernel_rfl) rfl ?_; clear M; intro gi w1 M) | ((with_reducible show Code.wp _ (Code.region 7 _ _) _ _ _); go_must (refine region_det [(0, false), (1, false), (2, true)] [] (by kernel_rfl) (by kernel_rfl) rfl (by kernel_rfl) ?_; replace M := M.drew; simp only [reord, opAt, List.map_cons, List.map_nil, List.getElem?_toArray, List.getElem?_cons_zero, List.getElem?_cons_succ, Option.getD_some])) | ((with_reducible show Code.wp _ (Code.region 8 _ _) _ _ _); go_must (refine region_det [(0, false), (1, false), (2, false), (3, false), (4, true), (5, true)] [(27, .int), (28, .int)] (by kernel_rfl) (by kernel_rfl) rfl (by kernel_rfl) ?_; replace M := M.drew; simp only [reord, opAt, List.map_cons, List.map_nil, List.getElem?_toArray, List.getElem?_cons_zero, List.getElem?_cons_succ, Option.getD_some])) | ((with_reducible show wpList _ _ _ (Oper.mk _ (Op.call ⟨Callee.builtin Builtin.copy, _, _⟩) _ _ _ _ :: _) _ _); go_must (first | (refine w_copyB M 0 bytesT _ _ _ rfl rfl rfl rfl rfl (row_sees (M.ok 3 _ rfl) (by omega) (Nat.le_refl _) (by simp only [maxLen]; omega)) 12 (by simp; omega) (by omega) ?_; clear M; intro w1 M; simp only [List.set_cons_zero] at M; rw [NI.out ()] at M) | (refine w_copyB M 1 bytesT _ _ _ rfl rfl rfl rfl rfl (sees_of (M.ok 0 _ rfl) hbig.symm) 4 (by omega) (by omega) ?_; clear M; intro w1 M; simp only [List.set_cons_succ, List.set_cons_zero] at M; rw [CI.out ()] at M; replace M := M.tail))) | (go_at_call 149; go_must (replace M := M.nil 1; refine (AP.out _ (M.ok 0 _ rfl)).mono ?_; rintro e w1 ⟨p, c, rfl, U⟩; replace M := M.upd 0 rfl U; clear U; simp only [List.set_cons_zero] at M)) | (go_at_call 150; go_must (refine (BC.out _ (M.ok 2 _ rfl)).mono ?_; rintro e w1 ⟨rfl, hb⟩; replace M := M.call hb; clear hb)) | ((with_reducible refine tAlloc (some 11) 234 ?_); refine w_alloc M _ rfl rfl (.agg (Array.replicate 16 (.int .u8 0))) (bs (List.replicate 16 (0 : UInt8))) (by kernel_rfl) rfl ?_; clear M; intro go w1 M) | ((with_reducible show Seg _ _ _ _); go_must (first | refine Seg.intro ⟨fun h => absurd rfl h, ?_⟩ | refine Seg.intro ⟨fun _ => (by repeat' (first | exact ixOk_nil M.kept | refine ixOk_cons rfl (by first | exact M.ok 0 _ rfl | exact M.ok 1 _ rfl | exact M.ok 2 _ rfl | exact M.ok 3 _ rfl) ?_)), ?_⟩ | refine Seg.intro ⟨(by repeat' (first | (with_reducible exact needs_nil) | refine needs_at rfl (by first | (show Shape.ok Shape.nums _ = true; exact nums_bs _) | rfl) ?_)), (by repeat' (first | (with_reducible exact ats_nil) | refine ats_cons (by first | exact ev_tmp rfl | rfl) ?_)), ?_⟩)) | ((with_reducible show OnlyN _ _ _ _ _); refine OnlyN.intro (by kernel_rfl) ?_) | ((with_reducible refine tGuard ?_); first | refine w_strip rfl (by with_reducible rfl) ?_ | ((fail_if_success (refine w_lit false rfl (by with_reducible rfl) ?_)); (fail_if_success (refine w_lit true rfl (by with_reducible rfl) ?_)); refine w_case rfl ?_ ?_ <;> (intro hgd; rw [hgd]; try (exfalso; simp at hgd; omega)))) | ((with_reducible refine tConv _ 70 9 ?_); go_must (first | refine w_stringW M _ _ _ _ _ rfl rfl (by first | exact at0 | exact at1) rfl (by first | assumption | exact lenI | exact lenS ‹_› | rfl) (by decide) Tryz.underlying70 Tryz.underlying5 Tryz.underlying9 ?_ | refine w_string M _ _ _ _ _ rfl rfl (by first | exact at0 | exact at1) (by first | rfl | (simp; done) | assumption) rfl Tryz.underlying70 Tryz.underlying5 Tryz.underlying9 ?_)) | ((with_reducible refine tLoad ?_); go_must (refine w_at _ _ rfl (by exact ev_tmp rfl) ?_; intro hx; (first | refine w_load M _ _ _ rfl (by first | exact at0 | exact at1) hx rfl (by decide +kernel) (by exact rfl) ?_ | refine w_loadB M _ _ _ rfl (by first | exact at0 | exact at1) hx rfl (by decide +kernel) (by first | assumption | omega | (simp; omega)) ?_ | refine w_loadH M _ _ _ rfl (by first | exact at0 | exact at1) hx rfl (by decide +kernel) (by first | assumption | exact lenI | exact lenS ‹_› | rfl) (by decide +kernel) ?_ | refine w_loadR M _ _ _ rfl (by first | exact at0 | exact at1) hx rfl (by decide +kernel) (by kernel_rfl) ?_); clear hx)) | ((with_reducible refine tStore ?_); go_must (refine w_at2 _ _ _ rfl (by exact ev_tmp rfl) (by first | exact ev_tmp rfl | exact ev_const) ?_; intro hx hy; (first | refine w_storeB M _ _ _ _ rfl (by first | exact at0 | exact at1) hx rfl hy (by decide +kernel) (by first | assumption | omega | (simp; omega)) ?_ | refine w_storeH M _ _ _ _ rfl (by first | exact at0 | exact at1) hx rfl hy (by first | assumption | exact lenI | exact lenS ‹_› | rfl) (by decide +kernel) (by first | assumption | exact lenI | exact lenS ‹_› | rfl) ?_ | refine w_store M _ _ _ _ rfl (by first | exact at0 | exact at1) hx rfl hy rfl rfl (by decide +kernel) (by first | decide | simp | (simp; omega)) ?_ | refine w_storeR M _ _ _ _ rfl (by first | exact at0 | exact at1) hx rfl _ hy rfl (by kernel_rfl) (by simp [Value.oneCell']) (by first | rfl | assumption) ?_); clear hx hy M; intro w1 M; (try simp only [setC] at M))) | ((with_reducible refine tBox _ ?_); (refine w_box M _ _ rfl rfl _ rfl _ rfl ?_; clear M; intro g w1 M))) <;> (try conv => arg 5; simp only [Act.put, List.setIfInBounds_toArray, setC]))
      all_goals
        obtain ⟨c', hc1, hc3, hc4, hc5, hc7⟩ : ∃ c' : Nat, c' = min 16 (N - 16 * n) ∧ 16 * n + c' ≤ N ∧ c' ≤ 16 ∧ (16 * (n : Int) + 16 ≤ N → c' = 16) ∧ (N ≤ 16 * n + c' ∨ c' = 16) := ⟨_, rfl, by omega, by omega, by omega, by omega⟩
        replace SE := SE.out ()
        rw [hd, ← hc1] at SE
        replace SE := Lib.hid fun _ : Unit => SE
        clear hc1
        go_loopw [40] (fun kv wr => ∃ k : Nat, k ≤ c' ∧ kv = .int .i64 k ∧ Mem [] w wr [.row go (bs o), .row gi (bs (nonce ++ big)), .sl 1 (.slice (some ⟨gb, 0, none⟩) N capgb) N (bs (iterN (xorB o (16 * n)) k d)), .row gc (bs (W ++ s)), .row gn (bs nonce), .row gk (bs key)]) (fun kv _ => c' - (intOf kv).toNat)
        case atStart => exact ⟨0, by omega, rfl, M⟩
        case round =>
          clear M
          obtain ⟨k, hkc, rfl, M⟩ := hrel
          have hx := iterN_len _ (xorB_len o (16 * n)) k d
          obtain ⟨x, ex⟩ : ∃ x, x = iterN (xorB o (16 * n)) k d := ⟨_, rfl⟩
          rw [← ex] at M hx
          rw [hd] at hx
          have EX := Lib.hid fun _ : Unit => ex
          clear ex
          by_cases hltk : k < c'
          · have hb1 : (k : Int) < 16 := by omega
            have hb2 : (k : Int) < N - 16 * n := by omega
            go_wp2_with ((first | ((with_reducible show Code.wp _ (Code.region 13 _ _) _ _ _); go_must (refine region_det [(0, false), (1, false), (2, false), (3, false), (4, false), (6, false), (7, false), (5, false), (8, false), (9, false), (10, false), (11, true)] [(44, .int), (45, .int), (48, .int), (51, .int)] (by kernel_rfl) (by kernel_rfl) rfl (by kernel_rfl) ?_; replace M := M.drew; simp only [reord, opAt, List.map_cons, List.map_nil, List.getElem?_toArray, List.getElem?_cons_zero, List.getElem?_cons_succ, Option.getD_some])) | ((with_reducible show wpList _ _ _ (Oper.mk _ (Op.load _ _) _ _ _ _ :: _) _ _); refine w_at _ _ rfl (by first | exact ev_tmp rfl | exact ev_const) ?_; intro hx; refine w_slB M 2 _ _ rfl rfl hx rfl (by decide +kernel) (16 * n + k) (by first | rfl | omega) (by omega) ?_; clear hx) | ((with_reducible show wpList _ _ _ (Oper.mk _ (Op.store _ _ _) _ _ _ _ :: _) _ _); refine w_at2 _ _ _ rfl (by first | exact ev_tmp rfl | exact ev_const) (by first | exact ev_tmp rfl | exact ev_const) ?_; intro hx hy; refine w_slSetB M 2 _ _ _ rfl rfl hx rfl hy (by decide +kernel) (16 * n + k) (by first | rfl | omega) (by omega) ?_; clear hx hy M; intro w1 M; simp only [List.set_cons_succ, List.set_cons_zero] at M) | ((with_reducible show Seg _ _ _ _); go_must (first | refine Seg.intro ⟨fun h => absurd rfl h, ?_⟩ | refine Seg.intro ⟨fun _ => (by repeat' (first | exact ixOk_nil M.kept | refine ixOk_cons rfl (by first | exact M.ok 0 _ rfl | exact M.ok 1 _ rfl | exact M.ok 2 _ rfl) ?_)), ?_⟩ | refine Seg.intro ⟨(by repeat' (first | (with_reducible exact needs_nil) | refine needs_at rfl (by first | (show Shape.ok Shape.nums _ = true; exact nums_bs _) | rfl) ?_)), (by repeat' (first | (with_reducible exact ats_nil) | refine ats_cons (by first | exact ev_tmp rfl | rfl) ?_)), ?_⟩)) | ((with_reducible show OnlyN _ _ _ _ _); refine OnlyN.intro (by kernel_rfl) ?_) | ((with_reducible refine tGuard ?_); first | refine w_strip rfl (by with_reducible rfl) ?_ | ((fail_if_success (refine w_lit false rfl (by with_reducible rfl) ?_)); (fail_if_success (refine w_lit true rfl (by with_reducible rfl) ?_)); refine w_case rfl ?_ ?_ <;> (intro hgd; rw [hgd]; try (exfalso; simp at hgd; omega)))) | ((with_reducible refine tConv _ 70 9 ?_); go_must (first | refine w_stringW M _ _ _ _ _ rfl rfl (by first | exact at0) rfl (by first | assumption | exact lenI | exact lenS ‹_› | rfl) (by decide) Tryz.underlying70 Tryz.underlying5 Tryz.underlying9 ?_ | refine w_string M _ _ _ _ _ rfl rfl (by first | exact at0) (by first | rfl | (simp; done) | assumption) rfl Tryz.underlying70 Tryz.underlying5 Tryz.underlying9 ?_)) | ((with_reducible refine tLoad ?_); go_must (refine w_at _ _ rfl (by exact ev_tmp rfl) ?_; intro hx; (first | refine w_load M _ _ _ rfl (by first | exact at0) hx rfl (by decide +kernel) (by exact rfl) ?_ | refine w_loadB M _ _ _ rfl (by first | exact at0) hx rfl (by decide +kernel) (by first | assumption | omega | (simp; omega)) ?_ | refine w_loadH M _ _ _ rfl (by first | exact at0) hx rfl (by decide +kernel) (by first | assumption | exact lenI | exact lenS ‹_› | rfl) (by decide +kernel) ?_ | refine w_loadR M _ _ _ rfl (by first | exact at0) hx rfl (by decide +kernel) (by kernel_rfl) ?_); clear hx)) | ((with_reducible refine tStore ?_); go_must (refine w_at2 _ _ _ rfl (by exact ev_tmp rfl) (by first | exact ev_tmp rfl | exact ev_const) ?_; intro hx hy; (first | refine w_storeB M _ _ _ _ rfl (by first | exact at0) hx rfl hy (by decide +kernel) (by first | assumption | omega | (simp; omega)) ?_ | refine w_storeH M _ _ _ _ rfl (by first | exact at0) hx rfl hy (by first | assumption | exact lenI | exact lenS ‹_› | rfl) (by decide +kernel) (by first | assumption | exact lenI | exact lenS ‹_› | rfl) ?_ | refine w_store M _ _ _ _ rfl (by first | exact at0) hx rfl hy rfl rfl (by decide +kernel) (by first | decide | simp | (simp; omega)) ?_ | refine w_storeR M _ _ _ _ rfl (by first | exact at0) hx rfl _ hy rfl (by kernel_rfl) (by simp [Value.oneCell']) (by first | rfl | assumption) ?_); clear hx hy M; intro w1 M; (try simp only [setC] at M))) | ((with_reducible refine tBox _ ?_); (refine w_box M _ _ rfl rfl _ rfl _ rfl ?_; clear M; intro g w1 M))) <;> (try conv => arg 5; simp only [Act.put, List.setIfInBounds_toArray, setC]))
            rw [nth_at' x, nth_at' o] at M
            go_roundw
            case rel => exact ⟨k + 1, by omega, by go_num, by rw [iterN_succ, ← EX.out ()]; exact M⟩
            case measure => simp [intOf]; omega
          · obtain rfl : k = c' := by omega
            have eB : x = strB s W nonce n d := (EX.out ()).trans (SE.out ()).symm
            have eN1 : strN s W nonce (n + 1) text = x := by rw [eB, ED.out ()]; rfl
            replace eN1 := Lib.hid fun _ : Unit => eN1
            clear eB EX SE
            go_wp2_with ((first | ((with_reducible refine tGuard ?_); first | refine w_strip rfl (by with_reducible rfl) ?_ | ((fail_if_success (refine w_lit false rfl (by with_reducible rfl) ?_)); (fail_if_success (refine w_lit true rfl (by with_reducible rfl) ?_)); refine w_case rfl ?_ ?_ <;> (intro hgd; rw [hgd]; try (exfalso; simp at hgd; omega)))) | ((with_reducible refine tConv _ 70 9 ?_); go_must (first | refine w_stringW M _ _ _ _ _ rfl rfl (by first | exact at0) rfl (by first | assumption | exact lenI | exact lenS ‹_› | rfl) (by decide) Tryz.underlying70 Tryz.underlying5 Tryz.underlying9 ?_ | refine w_string M _ _ _ _ _ rfl rfl (by first | exact at0) (by first | rfl | (simp; done) | assumption) rfl Tryz.underlying70 Tryz.underlying5 Tryz.underlying9 ?_)) | ((with_reducible refine tLoad ?_); go_must (refine w_at _ _ rfl (by exact ev_tmp rfl) ?_; intro hx; (first | refine w_load M _ _ _ rfl (by first | exact at0) hx rfl (by decide +kernel) (by exact rfl) ?_ | refine w_loadB M _ _ _ rfl (by first | exact at0) hx rfl (by decide +kernel) (by first | assumption | omega | (simp; omega)) ?_ | refine w_loadH M _ _ _ rfl (by first | exact at0) hx rfl (by decide +kernel) (by first | assumption | exact lenI | exact lenS ‹_› | rfl) (by decide +kernel) ?_ | refine w_loadR M _ _ _ rfl (by first | exact at0) hx rfl (by decide +kernel) (by kernel_rfl) ?_); clear hx)) | ((with_reducible refine tStore ?_); go_must (refine w_at2 _ _ _ rfl (by exact ev_tmp rfl) (by first | exact ev_tmp rfl | exact ev_const) ?_; intro hx hy; (first | refine w_storeB M _ _ _ _ rfl (by first | exact at0) hx rfl hy (by decide +kernel) (by first | assumption | omega | (simp; omega)) ?_ | refine w_storeH M _ _ _ _ rfl (by first | exact at0) hx rfl hy (by first | assumption | exact lenI | exact lenS ‹_› | rfl) (by decide +kernel) (by first | assumption | exact lenI | exact lenS ‹_› | rfl) ?_ | refine w_store M _ _ _ _ rfl (by first | exact at0) hx rfl hy rfl rfl (by decide +kernel) (by first | decide | simp | (simp; omega)) ?_ | refine w_storeR M _ _ _ _ rfl (by first | exact at0) hx rfl _ hy rfl (by kernel_rfl) (by simp [Value.oneCell']) (by first | rfl | assumption) ?_); clear hx hy M; intro w1 M; (try simp only [setC] at M))) | ((with_reducible refine tBox _ ?_); (refine w_box M _ _ rfl rfl _ rfl _ rfl ?_; clear M; intro g w1 M))) <;> (try conv => arg 5; simp only [Act.put, List.setIfInBounds_toArray, setC]))
            go_roundw
            case rel => exact ⟨n + 1, by omega, by go_num, by rw [eN1.out ()]; exact M.tail.tail⟩
            case measure => simp [intOf]; omega
    · have eR : r = d := by
        rw [SL.out (), ED.out (), ← eN.out (), show (N + 15) / 16 = n by omega]
      replace eR := Lib.hid fun _ : Unit => eR
      go_wp2_with ((first | ((with_reducible show wpList _ _ _ (Oper.mk _ (Op.convert _ _ _) _ _ _ _ :: _) _ _); go_must (refine w_string M 0 _ _ _ _ rfl rfl rfl hd.symm rfl Tryz.underlying70 Tryz.underlying5 Tryz.underlying9 ?_)) | ((with_reducible refine tGuard ?_); first | refine w_strip rfl (by with_reducible rfl) ?_ | ((fail_if_success (refine w_lit false rfl (by with_reducible rfl) ?_)); (fail_if_success (refine w_lit true rfl (by with_reducible rfl) ?_)); refine w_case rfl ?_ ?_ <;> (intro hgd; rw [hgd]; try (exfalso; simp at hgd; omega)))) | ((with_reducible refine tConv _ 70 9 ?_); go_must (first | refine w_stringW M _ _ _ _ _ rfl rfl (by first | exact at0) rfl (by first | assumption | exact lenI | exact lenS ‹_› | rfl) (by decide) Tryz.underlying70 Tryz.underlying5 Tryz.underlying9 ?_ | refine w_string M _ _ _ _ _ rfl rfl (by first | exact at0) (by first | rfl | (simp; done) | assumption) rfl Tryz.underlying70 Tryz.underlying5 Tryz.underlying9 ?_)) | ((with_reducible refine tLoad ?_); go_must (refine w_at _ _ rfl (by exact ev_tmp rfl) ?_; intro hx; (first | refine w_load M _ _ _ rfl (by first | exact at0) hx rfl (by decide +kernel) (by exact rfl) ?_ | refine w_loadB M _ _ _ rfl (by first | exact at0) hx rfl (by decide +kernel) (by first | assumption | omega | (simp; omega)) ?_ | refine w_loadH M _ _ _ rfl (by first | exact at0) hx rfl (by decide +kernel) (by first | assumption | exact lenI | exact lenS ‹_› | rfl) (by decide +kernel) ?_ | refine w_loadR M _ _ _ rfl (by first | exact at0) hx rfl (by decide +kernel) (by kernel_rfl) ?_); clear hx)) | ((with_reducible refine tStore ?_); go_must (refine w_at2 _ _ _ rfl (by exact ev_tmp rfl) (by first | exact ev_tmp rfl | exact ev_const) ?_; intro hx hy; (first | refine w_storeB M _ _ _ _ rfl (by first | exact at0) hx rfl hy (by decide +kernel) (by first | assumption | omega | (simp; omega)) ?_ | refine w_storeH M _ _ _ _ rfl (by first | exact at0) hx rfl hy (by first | assumption | exact lenI | exact lenS ‹_› | rfl) (by decide +kernel) (by first | assumption | exact lenI | exact lenS ‹_› | rfl) ?_ | refine w_store M _ _ _ _ rfl (by first | exact at0) hx rfl hy rfl rfl (by decide +kernel) (by first | decide | simp | (simp; omega)) ?_ | refine w_storeR M _ _ _ _ rfl (by first | exact at0) hx rfl _ hy rfl (by kernel_rfl) (by simp [Value.oneCell']) (by first | rfl | assumption) ?_); clear hx hy M; intro w1 M; (try simp only [setC] at M))) | ((with_reducible refine tBox _ ?_); (refine w_box M _ _ rfl rfl _ rfl _ rfl ?_; clear M; intro g w1 M))) <;> (try conv => arg 5; simp only [Act.put, List.setIfInBounds_toArray, setC]))
      go_ret
      exact ⟨congrArg (fun x => Ending.returned (.string (mkS x))) (eR.out ()).symm, M.below⟩
end Go.Proofs.YtidadhbaomieiaaGreat

/- Plain laws of layer 1 (pack): a number's bytes, seven bits in each, and how they are read. No program in this text. Conditions: numbers below 2^64. -/
namespace Go
namespace TL
/-- A number's bytes. -/
def numL (n : Nat) : List UInt8 := if n < 128 then [UInt8.ofNat n] else UInt8.ofNat (n % 128 + 128) :: numL (n / 128)
termination_by n
decreasing_by omega
theorem numL_small {n : Nat} (h : n < 128) : numL n = [UInt8.ofNat n] := by rw [numL, if_pos h]
theorem numL_big {n : Nat} (h : 128 ≤ n) : numL n = UInt8.ofNat (n % 128 + 128) :: numL (n / 128) := by rw [numL, if_neg (by omega)]
theorem numL_pos (n : Nat) : 0 < (numL n).length := by
  by_cases h : n < 128
  · rw [numL_small h]; exact Nat.one_pos
  · rw [numL_big (by omega)]; simp
theorem bitLenAux_zero : ∀ f, Lib.bitLenAux f 0 = 0
  | 0 => rfl
  | _ + 1 => rfl
theorem bitLenAux_log : ∀ (f x : Nat), x ≠ 0 → x < 2 ^ f → Lib.bitLenAux f x = Nat.log2 x + 1
  | 0, x, h0, h => by simp at h; omega
  | f + 1, x, h0, h => by
    rw [Lib.bitLenAux, if_neg h0, Nat.log2_def]
    by_cases h2 : 2 ≤ x
    · rw [if_pos h2, bitLenAux_log f (x / 2) (by omega) (by rw [Nat.pow_succ] at h; omega)]; omega
    · rw [if_neg h2, show x / 2 = 0 by omega, bitLenAux_zero]
theorem log2_div128 {n : Nat} (h : 128 ≤ n) : Nat.log2 n = Nat.log2 (n / 128) + 7 := by
  have e : ∀ m : Nat, 2 ≤ m → Nat.log2 m = Nat.log2 (m / 2) + 1 := fun m hm => by rw [Nat.log2_def, if_pos hm]
  rw [e n (by omega), e (n / 2) (by omega), e (n / 2 / 2) (by omega), e (n / 2 / 2 / 2) (by omega), e (n / 2 / 2 / 2 / 2) (by omega), e (n / 2 / 2 / 2 / 2 / 2) (by omega), e (n / 2 / 2 / 2 / 2 / 2 / 2) (by omega)]
  simp only [Nat.div_div_eq_div_mul]
theorem numL_length (n : Nat) : (numL n).length = if n = 0 then 1 else Nat.log2 n / 7 + 1 := by
  induction n using Nat.strongRecOn with
  | ind n ih =>
    by_cases h : n < 128
    · rw [numL_small h]
      by_cases h0 : n = 0
      · rw [if_pos h0]; rfl
      · rw [if_neg h0]
        have : Nat.log2 n < 7 := (Nat.log2_lt h0).2 (by omega)
        simp; omega
    · rw [numL_big (by omega), List.length_cons, ih (n / 128) (by omega), if_neg (by omega), if_neg (by omega), log2_div128 (n := n) (by omega)]
      omega
/-- The program's size. -/
theorem size_eq (n : Nat) (h : n < 18446744073709551616) : max 1 ((Lib.bitLen n + 6) / 7) = (numL n).length := by
  rw [numL_length]
  by_cases h0 : n = 0
  · subst h0; rfl
  · rw [if_neg h0, Lib.bitLen, bitLenAux_log 64 n h0 h]; omega
theorem numL_length_le (n : Nat) (h : n < 18446744073709551616) : (numL n).length ≤ 10 := by
  rw [numL_length]
  split
  · omega
  · rename_i h0
    have : Nat.log2 n < 64 := (Nat.log2_lt h0).2 (by omega)
    omega
/-! ### Reading -/
/-- How many bytes at the beginning say that another one follows. -/
def lead : List UInt8 → Nat
  | [] => 0
  | b :: l => if b.toNat < 128 then 0 else lead l + 1
/-- What bytes of seven bits tell, the lowest first. -/
def numV : List UInt8 → Nat
  | [] => 0
  | b :: l => b.toNat % 128 + 128 * numV l
/-- A number's reading: the number, how many bytes, the error. -/
def readN (s : List UInt8) (most : Nat) : Nat × Nat × Nat :=
  if 10 ≤ lead s then (0, 0, 8) else if s.length ≤ lead s then (0, 0, 7) else if lead s = 9 ∧ 1 < (s.getD 9 0).toNat then (0, 0, 8)
  else if 0 < lead s ∧ (s.getD (lead s) 0).toNat = 0 then (0, 0, 8)
  else if most < numV (s.take (lead s + 1)) then (0, 0, 8) else (numV (s.take (lead s + 1)), lead s + 1, 0)
theorem lead_le : ∀ s, lead s ≤ s.length
  | [] => Nat.le_refl _
  | b :: l => by rw [lead]; split <;> have := lead_le l <;> simp <;> omega
theorem ofNat_toNat {n : Nat} (h : n < 256) : (UInt8.ofNat n).toNat = n := by simp [UInt8.toNat_ofNat']; omega
theorem lead_numL (n : Nat) (r : List UInt8) : lead (numL n ++ r) + 1 = (numL n).length := by
  induction n using Nat.strongRecOn with
  | ind n ih =>
    by_cases h : n < 128
    · rw [numL_small h]; simp only [List.cons_append, List.nil_append, lead]; rw [if_pos (by rw [ofNat_toNat (by omega)]; exact h)]; rfl
    · rw [numL_big (by omega)]; simp only [List.cons_append, lead]
      rw [if_neg (by rw [ofNat_toNat (by omega)]; omega), ih (n / 128) (by omega)]; rfl
theorem numV_numL (n : Nat) : numV (numL n) = n := by
  induction n using Nat.strongRecOn with
  | ind n ih =>
    by_cases h : n < 128
    · rw [numL_small h]; simp only [numV]; rw [ofNat_toNat (by omega)]; omega
    · rw [numL_big (by omega)]; simp only [numV]; rw [ih (n / 128) (by omega), ofNat_toNat (by omega)]; omega
theorem numL_inj {a b : Nat} (h : numL a = numL b) : a = b := by rw [← numV_numL a, h, numV_numL]
/-- The last byte is below 128, and is no nought if there are others. -/
theorem numL_last (n : Nat) (r : List UInt8) : ((numL n ++ r).getD (lead (numL n ++ r)) 0).toNat < 128 ∧ (0 < lead (numL n ++ r) → 0 < ((numL n ++ r).getD (lead (numL n ++ r)) 0).toNat) := by
  induction n using Nat.strongRecOn with
  | ind n ih =>
    by_cases h : n < 128
    · rw [numL_small h]; simp only [List.cons_append, List.nil_append, lead]; rw [if_pos (by rw [ofNat_toNat (by omega)]; exact h)]
      simp only [List.getD_cons_zero]; rw [ofNat_toNat (by omega)]; omega
    · rw [numL_big (by omega)]; simp only [List.cons_append, lead]
      rw [if_neg (by rw [ofNat_toNat (by omega)]; omega)]; simp only [List.getD_cons_succ]
      refine ⟨(ih (n / 128) (by omega)).1, fun _ => ?_⟩
      by_cases h2 : n / 128 < 128
      · have e : numL (n / 128) = [UInt8.ofNat (n / 128)] := numL_small h2
        rw [e]; simp only [List.cons_append, List.nil_append, lead]; rw [if_pos (by rw [ofNat_toNat (by omega)]; exact h2)]
        simp only [List.getD_cons_zero]; rw [ofNat_toNat (by omega)]; omega
      · refine (ih (n / 128) (by omega)).2 ?_
        have := lead_numL (n / 128) r
        have : (numL (n / 128)).length = (numL (n / 128 / 128)).length + 1 := by rw [numL_big (by omega)]; rfl
        have := numL_pos (n / 128 / 128)
        omega
theorem take_numL (n : Nat) (r : List UInt8) : (numL n ++ r).take (lead (numL n ++ r) + 1) = numL n := by
  rw [lead_numL, List.take_left]
/-- The tenth byte of a number below 2^64 is at most 1. -/
theorem numL_ten (n : Nat) (r : List UInt8) (k : Nat) (hk : lead (numL n ++ r) = k) : ((numL n ++ r).getD k 0).toNat * 128 ^ k ≤ n := by
  induction n using Nat.strongRecOn generalizing k with
  | ind n ih =>
    by_cases h : n < 128
    · rw [numL_small h] at hk ⊢; simp only [List.cons_append, List.nil_append, lead] at hk ⊢; rw [if_pos (by rw [ofNat_toNat (by omega)]; exact h)] at hk
      subst hk
      simp only [List.getD_cons_zero]; rw [ofNat_toNat (by omega)]; omega
    · rw [numL_big (by omega)] at hk ⊢; simp only [List.cons_append, lead] at hk ⊢
      rw [if_neg (by rw [ofNat_toNat (by omega)]; omega)] at hk
      subst hk
      simp only [List.getD_cons_succ]
      have := ih (n / 128) (by omega) _ rfl
      rw [Nat.pow_succ, ← Nat.mul_assoc]; omega
theorem read_num (n most : Nat) (r : List UInt8) (h : n < 18446744073709551616) : readN (numL n ++ r) most = if most < n then (0, 0, 8) else (n, (numL n).length, 0) := by
  have h1 := lead_numL n r
  have h2 := numL_length_le n h
  obtain ⟨h3, h4⟩ := numL_last n r
  unfold readN
  rw [if_neg (by omega), if_neg (by simp; omega), if_neg, if_neg (by rintro ⟨a, b⟩; have := h4 a; omega), take_numL, numV_numL, h1]
  rintro ⟨a, b⟩
  have := numL_ten n r 9 a
  omega
theorem toNat_lt' (b : UInt8) : b.toNat < 256 := b.toNat_lt
theorem ofNat_toNat' (b : UInt8) : UInt8.ofNat b.toNat = b := UInt8.ofNat_toNat
theorem numV_ge : ∀ s : List UInt8, lead s < s.length → (s.getD (lead s) 0).toNat * 128 ^ lead s ≤ numV (s.take (lead s + 1)) ∧ numV (s.take (lead s + 1)) < ((s.getD (lead s) 0).toNat + 1) * 128 ^ lead s
  | [], h => by simp at h
  | b :: l, h => by
    by_cases hb : b.toNat < 128
    · have e : lead (b :: l) = 0 := by rw [lead, if_pos hb]
      rw [e]; simp [numV]; omega
    · have e : lead (b :: l) = lead l + 1 := by rw [lead, if_neg hb]
      rw [e] at h ⊢
      have ih := numV_ge l (by simpa using h)
      simp only [List.getD_cons_succ, List.take_succ_cons, numV]
      obtain ⟨i1, i2⟩ := ih
      have := toNat_lt' b
      rw [Nat.pow_succ, ← Nat.mul_assoc, ← Nat.mul_assoc]
      omega
theorem lead_last : ∀ s : List UInt8, lead s < s.length → (s.getD (lead s) 0).toNat < 128
  | [], h => by simp at h
  | b :: l, h => by
    by_cases hb : b.toNat < 128
    · have e : lead (b :: l) = 0 := by rw [lead, if_pos hb]
      rw [e]; simpa using hb
    · have e : lead (b :: l) = lead l + 1 := by rw [lead, if_neg hb]
      rw [e] at h ⊢
      simpa using lead_last l (by simpa using h)
theorem canon : ∀ s : List UInt8, lead s < s.length → (0 < lead s → (s.getD (lead s) 0).toNat ≠ 0) → numL (numV (s.take (lead s + 1))) = s.take (lead s + 1)
  | [], h, _ => by simp at h
  | b :: l, h, hz => by
    by_cases hb : b.toNat < 128
    · have e : lead (b :: l) = 0 := by rw [lead, if_pos hb]
      rw [e]
      simp only [List.take_succ_cons, List.take_zero, numV]
      rw [show b.toNat % 128 + 128 * 0 = b.toNat by omega, numL_small hb, ofNat_toNat']
    · have e : lead (b :: l) = lead l + 1 := by rw [lead, if_neg hb]
      rw [e] at h hz ⊢
      have hl : lead l < l.length := by simpa using h
      have hz' := hz (by omega)
      simp only [List.getD_cons_succ] at hz'
      have ih := canon l hl (fun _ => hz')
      have hv := (numV_ge l hl).1
      have hp : 0 < 128 ^ lead l := Nat.pow_pos (by omega)
      have h1 : 1 * 1 ≤ (l.getD (lead l) 0).toNat * 128 ^ lead l := Nat.mul_le_mul (by omega) hp
      simp only [List.take_succ_cons, numV]
      have := toNat_lt' b
      rw [numL_big (by omega), show (b.toNat % 128 + 128 * numV (l.take (lead l + 1))) / 128 = numV (l.take (lead l + 1)) by omega, ih, show (b.toNat % 128 + 128 * numV (l.take (lead l + 1))) % 128 + 128 = b.toNat by omega, ofNat_toNat']
theorem read_ok {s : List UInt8} {most n k : Nat} (h : readN s most = (n, k, 0)) : s = numL n ++ s.drop k ∧ k = (numL n).length ∧ n ≤ most ∧ n < 18446744073709551616 := by
  unfold readN at h
  split at h
  · simp at h
  split at h
  · simp at h
  split at h
  · simp at h
  split at h
  · simp at h
  split at h
  · simp at h
  rename_i h1 h2 h3 h4 h5
  simp only [Prod.mk.injEq, and_true] at h
  obtain ⟨rfl, rfl⟩ := h
  have c := canon s (by omega) (fun h => fun e => h4 ⟨h, e⟩)
  rw [c]
  refine ⟨by rw [List.take_append_drop], by simp; omega, by omega, ?_⟩
  have v := (numV_ge s (by omega)).2
  have l := lead_last s (by omega)
  by_cases h9 : lead s = 9
  · rw [h9] at v ⊢
    have : (s.getD 9 0).toNat ≤ 1 := by omega
    have : ((s.getD 9 0).toNat + 1) * 128 ^ 9 ≤ 2 * 128 ^ 9 := Nat.mul_le_mul_right _ (by omega)
    omega
  · have h8 : 128 ^ lead s ≤ 128 ^ 8 := Nat.pow_le_pow_right (by omega) (by omega)
    have : ((s.getD (lead s) 0).toNat + 1) * 128 ^ lead s ≤ 128 * 128 ^ 8 := Nat.mul_le_mul (by omega) h8
    omega
theorem lead_take : ∀ (s : List UInt8) (k : Nat), k ≤ lead s → lead (s.take k) = k
  | _, 0, _ => rfl
  | [], k + 1, h => by simp [lead] at h
  | b :: l, k + 1, h => by
    by_cases hb : b.toNat < 128
    · rw [lead, if_pos hb] at h; omega
    · rw [lead, if_neg hb] at h
      rw [List.take_succ_cons, lead, if_neg hb, lead_take l k (by omega)]
/-- A beginning of a number ends too early. -/
theorem read_short (n most k : Nat) (h : n < 18446744073709551616) (hk : k < (numL n).length) : readN ((numL n).take k) most = (0, 0, 7) := by
  have h1 := lead_numL n []
  rw [List.append_nil] at h1
  have h2 := numL_length_le n h
  have h3 := lead_take (numL n) k (by omega)
  unfold readN
  rw [h3, if_neg (by omega), if_pos (by simp; omega)]
/-- The error of a reading is 0, 7 or 8; with one there is nothing else. -/
theorem read_err (s : List UInt8) (most : Nat) : (readN s most).2.2 = 0 ∨ readN s most = (0, 0, 7) ∨ readN s most = (0, 0, 8) := by
  unfold readN
  split
  · simp
  split
  · simp
  split
  · simp
  split
  · simp
  split
  · simp
  · simp
theorem read_le {s : List UInt8} {most n k e : Nat} (h : readN s most = (n, k, e)) : k ≤ s.length ∧ k ≤ 10 ∧ n ≤ most := by
  by_cases he : e = 0
  · subst he
    obtain ⟨h1, h2, h3, h4⟩ := read_ok h
    have h5 : s.length = (numL n).length + (s.length - k) := by have := congrArg List.length h1; rwa [List.length_append, List.length_drop] at this
    have := numL_length_le n h4
    omega
  · have := read_err s most
    rw [h] at this
    simp at this
    omega
end TL
end Go
