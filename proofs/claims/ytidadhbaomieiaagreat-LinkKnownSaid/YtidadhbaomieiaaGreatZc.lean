/- Texts of this seat, put together: RegF, AesL, AesA, AesB, AesC, AesS, PackL, InL, Shelf, PackZ, Txt, PackI, PackR, PackT. Each begins with a remark that says what is proved in it, and under which conditions. -/
import Derived.Lib.BitFns
import Derived.Shelf.Small.Strs
import Derived.Shelf.Strconv.Itoa0
import Derived.Shelf.Strings.Search1
import Derived.Shelf.Strings.Search2
import Derived.Shelf.Strings.Cut
import Derived.Shelf.LaysM
import Derived.Shelf.Strings.Shaped
import Derived.Shelf.Bits.Mul64
import Derived.Test.YtidadhbaomieiaaGreatProg
import Derived.OwnWalk
import Derived.Test.YtidadhbaomieiaaGreatZa
import Derived.Test.YtidadhbaomieiaaGreatZb
/- A region that draws its order and in which two operations that write may come in either order: walked once for each. No conditions but those each law names. -/
namespace Go
namespace TL
open Go.RowKit
/-- A plan that branches: rd, what may be taken first; wr, the only one; alt, one of several. -/
inductive PT where
  | nil
  | rd (i : Nat) (r : PT)
  | wr (i : Nat) (r : PT)
  | alt (i : Nat) (r s : PT)
def PT.flat : PT → Plan
  | .nil => []
  | .rd i r => (i, false) :: r.flat
  | .wr i r => (i, true) :: r.flat
  | .alt i r _ => (i, true) :: r.flat
def PT.heads : PT → List Nat
  | .wr i _ => [i]
  | .alt i _ s => i :: s.heads
  | _ => []
def planT (P : Program) (ops : Array Oper) (fin : Act → World → Prop) (I : World → Prop) (c : Nat) : PT → List Oper × (Act → World → Prop)
  | .nil => ([], fin)
  | .rd i r => (opAt ops i :: (planT P ops fin I c r).1, (planT P ops fin I c r).2)
  | .wr i r => ([opAt ops i], fun a w => (i ≠ c → I w) ∧ wpList P ops (Seg (planT P ops fin I c r).2) (planT P ops fin I c r).1 a w)
  | .alt i r s => ([], fun a w => wpList P ops (Seg fun a w => (i ≠ c → I w) ∧ wpList P ops (Seg (planT P ops fin I c r).2) (planT P ops fin I c r).1 a w) [opAt ops i] a w ∧
      wpList P ops (Seg (planT P ops fin I c s).2) (planT P ops fin I c s).1 a w)
def detT (P : Program) (ops : Array Oper) (need : Needs) (idx : List Nat) (c : Nat) : Bool → Array Bool → PT → Bool
  | chk, listed, .nil => chk && (Region.ready .any ops listed).isEmpty
  | chk, listed, .rd i r =>
    chk && ((Region.ready .any ops listed).contains i && Region.free .any ops listed i &&
      ((stays ops need (opAt ops i) ((i, false) :: r.flat) && pureOp P (needOf need (opAt ops i)) (opAt ops i)) || (idx.contains i && staysLow ops (opAt ops i) ((i, false) :: r.flat))) &&
      (waitsC ops c i && detT P ops need idx c true (listed.setIfInBounds i true) r))
  | chk, listed, .wr i r => (!chk || Region.ready .any ops listed == [i]) && ((i != c || r.flat.isEmpty) && detT P ops need idx c true (listed.setIfInBounds i true) r)
  | chk, listed, .alt i r s => (!chk || Region.ready .any ops listed == i :: s.heads) && (((i != c || r.flat.isEmpty) && detT P ops need idx c true (listed.setIfInBounds i true) r) && ((r.flat.length + 1 == s.flat.length) && detT P ops need idx c false listed s))
section
variable {P : Program} {ops : Array Oper} {I : World → Prop} {fin : Act → World → Prop} {c : Nat}
theorem Seg.alt {Q1 Q2 : Exit → Act → World → Prop} {l1 l2 : List Oper} {a : Act} {w : World} (h : wpList P ops Q1 l1 a w) (h' : wpList P ops Q2 l2 a w) : Seg (fun a w => wpList P ops Q1 l1 a w ∧ wpList P ops Q2 l2 a w) .normal a w := ⟨h, h'⟩
theorem endsT : ∀ (t : PT) (a : Act) (w : World), wpList P ops (Seg (planT P ops fin I c t).2) (planT P ops fin I c t).1 a w →
    ∃ af wf, fin af wf ∧ ∀ p, (∀ x ∈ t.flat, (opAt ops x.1).dst ≠ some p) → af.tmps.getD p undef = a.tmps.getD p undef
  | .nil, a, w, h => ⟨a, w, h, fun _ _ => rfl⟩
  | .rd i r, a, w, h => by
    obtain ⟨a', w', h1, h2⟩ := stepS h
    obtain ⟨af, wf, h3, h4⟩ := endsT r a' w' h1
    exact ⟨af, wf, h3, fun t ht => (h4 t fun x hx => ht x (List.mem_cons_of_mem _ hx)).trans (h2 t (ht (i, false) List.mem_cons_self))⟩
  | .wr i r, a, w, h => by
    obtain ⟨a', w', h1, h2⟩ := stepS h
    obtain ⟨af, wf, h3, h4⟩ := endsT r a' w' h1.2
    exact ⟨af, wf, h3, fun t ht => (h4 t fun x hx => ht x (List.mem_cons_of_mem _ hx)).trans (h2 t (ht (i, true) List.mem_cons_self))⟩
  | .alt i r s, a, w, h => by
    obtain ⟨a', w', h1, h2⟩ := stepS h.1
    obtain ⟨af, wf, h3, h4⟩ := endsT r a' w' h1.2
    exact ⟨af, wf, h3, fun t ht => (h4 t fun x hx => ht x (List.mem_cons_of_mem _ hx)).trans (h2 t (ht (i, true) List.mem_cons_self))⟩
/-- One that writes, or not wanted. -/
theorem writeT {F G K : Act → World → Prop} {i : Nat} {listed : Array Bool} {a : Act} {w : World} (hr : i ∈ Region.ready .any ops listed) (h : wpList P ops (Seg G) [opAt ops i] a w) (cont : ∀ a' w', G a' w' → K a' w') : wpOp P ops (Seg F) i K a w := by
  obtain ⟨_, oi, hoi, _⟩ := mem_ready.1 hr
  have hat : opAt ops i = oi := by simp [opAt, hoi]
  rw [hat] at h
  unfold wpOp
  rw [hoi]
  unfold wpList at h
  dsimp only
  split
  · rename_i hw
    rw [if_pos hw] at h
    rcases h with h | h
    · exact .inl (Oper.wp_seg cont h)
    · exact (Seg.letsOut h.2).elim
  · rename_i hw
    rw [if_neg hw] at h
    exact cont _ _ h
theorem flat_nil {t : PT} (h : t.flat.isEmpty = true) : t = .nil := by cases t <;> simp [PT.flat] at h ⊢
theorem mainT {need : Needs} {low : List (Nat × Value)} {Q : Exit → Act → World → Prop} (hs : Region.noSelect ops = true) (hlow : ∀ x ∈ low, Stab P I (opAt ops x.1) x.2) : ∀ t : PT,
    (∀ (listed : Array Bool) (a : Act) (w : World), detT P ops need (low.map (·.1)) c true listed t = true → I w →
      wpList P ops (Seg (planT P ops (finI ops need low Q) I c t).2) (planT P ops (finI ops need low Q) I c t).1 a w →
      wpAnyC P .any ops (Seg (finI ops need low Q)) I c t.flat.length listed a w) ∧
    (∀ (listed : Array Bool) (a : Act) (w : World) (m : Nat), t.flat.length = m + 1 → detT P ops need (low.map (·.1)) c false listed t = true → I w →
      wpList P ops (Seg (planT P ops (finI ops need low Q) I c t).2) (planT P ops (finI ops need low Q) I c t).1 a w →
      ∀ j ∈ t.heads, j ∈ Region.ready .any ops listed → wpOp P ops (Seg (finI ops need low Q)) j (fun a' w' => (j ≠ c → I w') ∧ wpAnyC P .any ops (Seg (finI ops need low Q)) I c m (listed.setIfInBounds j true) a' w') a w) := by
  intro t
  induction t with
  | nil =>
    refine ⟨fun listed a w hd _ h => ?_, fun _ _ _ _ _ _ _ _ j hj => by simp [PT.heads] at hj⟩
    have : Region.ready .any ops listed = [] := by simpa [detT] using hd
    exact ⟨this, h⟩
  | rd i r ih =>
    refine ⟨fun listed a w hd hIw h => ?_, fun _ _ _ _ _ _ _ _ j hj => by simp [PT.heads] at hj⟩
    simp only [detT, Bool.true_and, Bool.and_eq_true] at hd
    obtain ⟨⟨⟨hr, hf⟩, hk⟩, hwt, hrest⟩ := hd
    have hwait := waitsC_spec hwt
    have hr' : i ∈ Region.ready .any ops listed := by simpa using hr
    obtain ⟨_, oi, hoi, _⟩ := mem_ready.1 hr'
    have hat : opAt ops i = oi := by simp [opAt, hoi]
    have hends := endsT (.rd i r) a w h
    have h' : wpList P ops (Seg (planT P ops (finI ops need low Q) I c r).2) (oi :: (planT P ops (finI ops need low Q) I c r).1) a w := by
      rw [← hat]; exact h
    have hQ : ∀ v c a w, Seg (finI ops need low Q) (.panic c) (a.put oi.dst v) w → Seg (finI ops need low Q) (.panic c) a w := fun _ _ _ _ h => h.elim
    have hsel := fun j o cs b ho => Region.noSelect_spec hs j o cs b ho
    have key : ∀ (s : Sem Value), execOp a.eval oi = (do Pure.pure (Next.value (← s))) → (∀ v w1, s.run P w = .ok v w1 → w1 = w ∧ ∀ w', I w' → s.run P w' = .ok v w') →
        wpAnyC P .any ops (Seg (finI ops need low Q)) I c (r.flat.length + 1) listed a w := fun s hex hl => by
      cases hw : Region.wanted oi (yielded ops a.tmps) with
      | true =>
        unfold wpList at h'
        rw [if_pos hw] at h'
        rcases h' with h' | h'
        · unfold Oper.wp at h'
          rw [hex, Sem.run_bind] at h'
          cases hrun : s.run P w with
          | ok v w1 =>
            obtain ⟨rfl, hall⟩ := hl _ _ hrun
            rw [hrun] at h'
            have hy : YieldsIf P ops I oi v a := .inl ⟨hw, fun w' hw' => by rw [hex, Sem.run_bind, hall w' hw']; rfl⟩
            exact C_first hoi hsel (hQ v) hwait r.flat.length listed a w1 (Region.free_spec hoi hf) hr' hy hIw (ih.1 _ _ w1 hrest hIw h')
          | halt x w1 =>
            rw [hrun] at h'
            cases x <;> exact h'.elim
        · exact (Seg.letsOut h'.2).elim
      | false =>
        unfold wpList at h'
        rw [if_neg (by rw [hw]; decide)] at h'
        exact C_first hoi hsel (hQ undef) hwait r.flat.length listed a w (Region.free_spec hoi hf) hr' (.inr ⟨hw, rfl⟩) hIw (ih.1 _ _ w hrest hIw h')
    obtain ⟨af, wf, ⟨hneed, hlowf, _⟩, hsame⟩ := hends
    rcases (Bool.or_eq_true _ _).mp hk with hp | hp
    · obtain ⟨hst, hp⟩ := (Bool.and_eq_true _ _).mp hp
      have hne : needOk (needOf need (opAt ops i)) a = true := by
        unfold needOk at hneed ⊢
        rw [List.all_eq_true] at hneed ⊢
        intro p hpm
        have hp0 := hpm
        simp only [needOf, List.mem_filter] at hpm
        have h3 := hneed p hpm.1
        rw [hsame p.1 (fun x hx hd => by
          have h5 := List.all_eq_true.1 hst x hx
          simp only [hd] at h5
          have h6 := List.all_eq_true.1 h5 p hp0
          simp at h6)] at h3
        exact h3
      rw [hat] at hp hne
      obtain ⟨s, hex, hloc⟩ := pureOp_local hp hne
      exact key s hex fun v w1 hrun => ⟨(hloc _ _ _ hrun).1, fun w' _ => (hloc _ _ _ hrun).2 w'⟩
    · obtain ⟨hix, hst⟩ := (Bool.and_eq_true _ _).mp hp
      simp only [List.contains_iff_mem, List.mem_map] at hix
      obtain ⟨⟨i', p⟩, hxm, hxi⟩ := hix
      have hxi' : i' = i := hxi
      subst hxi'
      have hev : a.eval (lowOpnd oi) = p := by
        have e := hlowf _ hxm
        simp only [hat] at e
        rw [← e]
        refine (eval_same fun t ht => ?_).symm
        refine hsame t fun x hx hd => ?_
        have h5 := List.all_eq_true.1 hst x hx
        simp only [hd, hat] at h5
        have h6 := lowOpnd_in oi ht
        simp [h6] at h5
      have hstab := hlow _ hxm
      simp only [hat] at hstab
      unfold Stab at hstab
      cases hop : oi.op <;> simp only [hop] at hstab
      case load t x =>
        have hev' : a.eval x = p := by simpa only [lowOpnd, hop] using hev
        obtain ⟨v, hv⟩ := hstab
        refine key (Instr.loadAt t p) (by simp only [execOp, hop, hev']) fun u w1 hrun => ?_
        rw [hv w hIw] at hrun
        cases hrun
        exact ⟨rfl, hv⟩
      case convert src d x =>
        have hev' : a.eval x = p := by simpa only [lowOpnd, hop] using hev
        obtain ⟨v, hv⟩ := hstab
        refine key (Go.convert src d p) (by simp only [execOp, hop, hev']) fun u w1 hrun => ?_
        rw [hv w hIw] at hrun
        cases hrun
        exact ⟨rfl, hv⟩
  | wr i r ih =>
    have B : ∀ (listed : Array Bool) (a : Act) (w : World), ((i != c || r.flat.isEmpty) && detT P ops need (low.map (·.1)) c true (listed.setIfInBounds i true) r) = true →
        wpList P ops (Seg (planT P ops (finI ops need low Q) I c (.wr i r)).2) (planT P ops (finI ops need low Q) I c (.wr i r)).1 a w → i ∈ Region.ready .any ops listed →
        wpOp P ops (Seg (finI ops need low Q)) i (fun a' w' => (i ≠ c → I w') ∧ wpAnyC P .any ops (Seg (finI ops need low Q)) I c r.flat.length (listed.setIfInBounds i true) a' w') a w := fun listed a w hd h hr => by
      simp only [Bool.and_eq_true] at hd
      refine writeT hr h fun a' w' ⟨h2, h3⟩ => ⟨h2, ?_⟩
      by_cases e : i = c
      · have hre := hd.1
        simp only [e, bne_self_eq_false, Bool.false_or] at hre
        have hn := flat_nil hre
        subst hn
        have : Region.ready .any ops (listed.setIfInBounds i true) = [] := by simpa [detT] using hd.2
        exact ⟨this, h3⟩
      · exact ih.1 _ a' w' hd.2 (h2 e) h3
    refine ⟨fun listed a w hd hIw h => ?_, fun listed a w m hm hd hIw h j hj hr => ?_⟩
    · unfold detT at hd
      rw [Bool.not_true, Bool.false_or, Bool.and_eq_true] at hd
      have hr : Region.ready .any ops listed = [i] := by simpa using hd.1
      refine ⟨fun h0 => (by rw [hr] at h0; cases h0), fun j hj => ?_⟩
      have hj' := hj
      rw [hr] at hj'
      obtain rfl : j = i := by simpa using hj'
      exact B listed a w hd.2 h hj
    · unfold detT at hd
      rw [Bool.not_false, Bool.true_or, Bool.true_and] at hd
      obtain rfl : j = i := by simpa [PT.heads] using hj
      obtain rfl : m = r.flat.length := by simp [PT.flat] at hm; omega
      exact B listed a w hd h hr
  | alt i r s ihr ihs =>
    have B : ∀ (listed : Array Bool) (a : Act) (w : World), (((i != c || r.flat.isEmpty) && detT P ops need (low.map (·.1)) c true (listed.setIfInBounds i true) r) && ((r.flat.length + 1 == s.flat.length) && detT P ops need (low.map (·.1)) c false listed s)) = true → I w →
        wpList P ops (Seg (planT P ops (finI ops need low Q) I c (.alt i r s)).2) (planT P ops (finI ops need low Q) I c (.alt i r s)).1 a w → ∀ j ∈ i :: s.heads, j ∈ Region.ready .any ops listed →
        wpOp P ops (Seg (finI ops need low Q)) j (fun a' w' => (j ≠ c → I w') ∧ wpAnyC P .any ops (Seg (finI ops need low Q)) I c r.flat.length (listed.setIfInBounds j true) a' w') a w := fun listed a w hd hIw h j hj hr => by
      rw [Bool.and_eq_true, Bool.and_eq_true, Bool.and_eq_true] at hd
      obtain ⟨⟨hd1, hd2⟩, hd3, hd4⟩ := hd
      rcases List.mem_cons.1 hj with rfl | hj
      · refine writeT hr h.1 fun a' w' ⟨h2, h3⟩ => ⟨h2, ?_⟩
        by_cases e : j = c
        · simp only [e, bne_self_eq_false, Bool.false_or] at hd1
          have hn := flat_nil hd1
          subst hn
          have : Region.ready .any ops (listed.setIfInBounds j true) = [] := by simpa [detT] using hd2
          exact ⟨this, h3⟩
        · exact ihr.1 _ a' w' hd2 (h2 e) h3
      · exact ihs.2 listed a w r.flat.length (by have := beq_iff_eq.1 hd3; omega) hd4 hIw h.2 j hj hr
    refine ⟨fun listed a w hd hIw h => ?_, fun listed a w m hm hd hIw h j hj hr => ?_⟩
    · unfold detT at hd
      rw [Bool.not_true, Bool.false_or, Bool.and_eq_true] at hd
      have hr : Region.ready .any ops listed = i :: s.heads := by simpa using hd.1
      refine ⟨fun h0 => (by rw [hr] at h0; cases h0), fun j hj => ?_⟩
      have hj' := hj
      rw [hr] at hj'
      exact B listed a w hd.2 hIw h j hj' hj
    · unfold detT at hd
      rw [Bool.not_false, Bool.true_or, Bool.true_and] at hd
      obtain rfl : m = r.flat.length := by simp [PT.flat] at hm; omega
      exact B listed a w hd hIw h j hj hr
/-- THE REGION, with branches. -/
theorem region_fork {Q : Exit → Act → World → Prop} {id : Nat} {l : List Oper} {a : Act} {w : World} (t : PT) (need : Needs) (low : List (Nat × Value)) (I : World → Prop) (c : Nat) (hm : P.follows .mixedOrders = true)
    (hs : Region.noSelect l.toArray = true) (hn : t.flat.length = l.length) (hd : detT P l.toArray need (low.map (·.1)) c true (Array.replicate l.length false) t = true)
    (hlow : ∀ x ∈ low, Stab P I (opAt l.toArray x.1) x.2) (hI : I w.drew)
    (h : wpList P l.toArray (Seg (planT P l.toArray (finI l.toArray need low Q) I c t).2) (planT P l.toArray (finI l.toArray need low Q) I c t).1 a w.drew) : (Code.region id l.toArray true).wp P Q a w := by
  refine Code.wp_mono (Q := Seg (finI l.toArray need low Q)) (fun e a w h => ?_) ?_
  · cases e <;> first | exact h.2.2 | exact h.elim
  · refine wp_region_any hm (wpAny_of_C (I := I) (c := c) _ _ _ _ (?_ : wpAnyC P .any l.toArray (Seg (finI l.toArray need low Q)) I c l.toArray.size (Array.replicate l.toArray.size false) a w.drew))
    have := (mainT (Q := Q) (c := c) hs hlow t).1 (Array.replicate l.length false) a w.drew hd hI h
    rw [hn] at this
    exact this
end
end TL
end Go

/- Plain: what package aes computes, step by step as its code does. No program in this text. No conditions but those each lemma names. -/
namespace Go
namespace TL
/-- A count of steps, each told its number. -/
def iterN {α : Type} (f : Nat → α → α) : Nat → α → α
  | 0, s => s
  | n + 1, s => f n (iterN f n s)
theorem iterN_succ {α : Type} (f : Nat → α → α) (n : Nat) (s : α) : iterN f (n + 1) s = f n (iterN f n s) := rfl
theorem iterN_inv {α : Type} (f : Nat → α → α) (p : α → Prop) (hf : ∀ n s, p s → p (f n s)) : ∀ (n : Nat) (s : α), p s → p (iterN f n s)
  | 0, _, h => h
  | n + 1, s, h => hf n _ (iterN_inv f p hf n s h)
theorem iterN_len (f : Nat → List UInt8 → List UInt8) (hf : ∀ n s, (f n s).length = s.length) (n : Nat) (s : List UInt8) : (iterN f n s).length = s.length := by
  induction n with
  | zero => rfl
  | succ n ih => rw [iterN_succ, hf, ih]
abbrev nth (l : List UInt8) (i : Nat) : UInt8 := l.getD i 0
/-! ### S -/
def tw (b : UInt8) : UInt8 := b <<< 1 ^^^ b >>> 7 * 27
def rl (b n : UInt8) : UInt8 := b <<< n ||| b >>> (8 - n)
structure BoxS where
  s : List UInt8
  p : UInt8
  q : UInt8
def boxQ (q : UInt8) : UInt8 :=
  let q1 := q ^^^ q <<< 1
  let q2 := q1 ^^^ q1 <<< 2
  let q3 := q2 ^^^ q2 <<< 4
  q3 ^^^ q3 >>> 7 * 9
def boxStep (_ : Nat) (x : BoxS) : BoxS := ⟨x.s.set x.p.toNat (x.q ^^^ rl x.q 1 ^^^ rl x.q 2 ^^^ rl x.q 3 ^^^ rl x.q 4 ^^^ 99), x.p ^^^ tw x.p, boxQ x.q⟩
def boxS (n : Nat) : BoxS := iterN boxStep n ⟨List.replicate 256 0, 1, 1⟩
theorem boxS_len (n : Nat) : (boxS n).s.length = 256 :=
  iterN_inv boxStep (fun x => x.s.length = 256) (fun n s h => by unfold boxStep; simpa using h) n _ (List.length_replicate ..)
def boxL : List UInt8 := (boxS 255).s.set 0 99
theorem boxL_len : boxL.length = 256 := by unfold boxL; rw [List.length_set]; exact boxS_len _
/-! ### A key's words -/
/-- A word's place is rotated, put through S, and so on: the i-th word of a schedule. -/
def rotT (t : List UInt8) : List UInt8 := [nth t 1, nth t 2, nth t 3, nth t 0]
def subT (s : List UInt8) (k : Nat) (t : List UInt8) : List UInt8 := t.set k (nth s (nth t k).toNat)
def word1 (W : List UInt8) (i : Nat) : List UInt8 := (W.drop (4 * (i - 1))).take 4
def word2 (W : List UInt8) (i : Nat) : List UInt8 := if i % 8 = 0 then rotT (word1 W i) else word1 W i
def word3 (s W : List UInt8) (i : Nat) : List UInt8 := if i % 4 = 0 then iterN (subT s) 4 (word2 W i) else word2 W i
def word4 (s W : List UInt8) (pw : UInt8) (i : Nat) : List UInt8 := if i % 8 = 0 then (word3 s W i).set 0 (nth (word3 s W i) 0 ^^^ pw) else word3 s W i
def powI (pw : UInt8) (i : Nat) : UInt8 := if i % 8 = 0 then tw pw else pw
def addT (t : List UInt8) (i k : Nat) (W : List UInt8) : List UInt8 := W.set (4 * i + k) (nth W (4 * (i - 8) + k) ^^^ nth t k)
def schW (s : List UInt8) (n : Nat) (x : List UInt8 × UInt8) : List UInt8 × UInt8 := (iterN (addT (word4 s x.1 x.2 (n + 8)) (n + 8)) 4 x.1, powI x.2 (n + 8))
def schS (s key : List UInt8) (n : Nat) : List UInt8 × UInt8 := iterN (schW s) n (key ++ List.replicate 208 0, 1)
def schL (s key : List UInt8) : List UInt8 := (schS s key 52).1
theorem addT_len (t : List UInt8) (i n : Nat) (W : List UInt8) : (addT t i n W).length = W.length := by unfold addT; rw [List.length_set]
theorem schS_len (s key : List UInt8) (hk : key.length = 32) (n : Nat) : (schS s key n).1.length = 240 :=
  iterN_inv (schW s) (fun x => x.1.length = 240) (fun n x h => by unfold schW; simp only; rw [iterN_len _ (addT_len _ _)]; exact h) n _ (by show (key ++ _).length = 240; rw [List.length_append, hk, List.length_replicate])
theorem schL_len (s key : List UInt8) (hk : key.length = 32) : (schL s key).length = 240 := schS_len s key hk _
theorem word1_len {W : List UInt8} {i : Nat} (hW : W.length = 240) (h1 : 1 ≤ i) (h2 : i ≤ 60) : (word1 W i).length = 4 := by unfold word1; simp; omega
theorem subT_len (s : List UInt8) (k : Nat) (t : List UInt8) : (subT s k t).length = t.length := by unfold subT; rw [List.length_set]
/-! ### A block -/
def addB (W : List UInt8) (round i : Nat) (b : List UInt8) : List UInt8 := b.set i (nth b i ^^^ nth W (16 * round + i))
def addL (W b : List UInt8) (round : Nat) : List UInt8 := iterN (addB W round) 16 b
def mixN (b : List UInt8) (i k : Nat) : UInt8 := nth b (i / 4 * 4 + (i + k) % 4)
def mixB (b : List UInt8) (i : Nat) (out : List UInt8) : List UInt8 := out.set i (tw (mixN b i 0) ^^^ tw (mixN b i 1) ^^^ mixN b i 1 ^^^ mixN b i 2 ^^^ mixN b i 3)
def mixL (b : List UInt8) : List UInt8 := iterN (mixB b) 16 (List.replicate 16 0)
def subB (s b : List UInt8) (i : Nat) (t : List UInt8) : List UInt8 := t.set i (nth s (nth b ((i + 4 * (i % 4)) % 16)).toNat)
def subL (s b : List UInt8) : List UInt8 := iterN (subB s b) 16 (List.replicate 16 0)
def roundL (s W : List UInt8) (n : Nat) (b : List UInt8) : List UInt8 := addL W (if n + 1 < 14 then mixL (subL s b) else subL s b) (n + 1)
def blockL (s W b : List UInt8) : List UInt8 := iterN (roundL s W) 14 (addL W b 0)
theorem addB_len (W : List UInt8) (r i : Nat) (b : List UInt8) : (addB W r i b).length = b.length := by unfold addB; rw [List.length_set]
theorem addL_len (W b : List UInt8) (r : Nat) : (addL W b r).length = b.length := iterN_len _ (addB_len W r) _ _
theorem mixL_len (b : List UInt8) : (mixL b).length = 16 := by unfold mixL; rw [iterN_len _ (fun n s => by unfold mixB; rw [List.length_set]), List.length_replicate]
theorem subL_len (s b : List UInt8) : (subL s b).length = 16 := by unfold subL; rw [iterN_len _ (fun n s => by unfold subB; rw [List.length_set]), List.length_replicate]
theorem roundL_len (s W : List UInt8) (n : Nat) (b : List UInt8) : (roundL s W n b).length = 16 := by unfold roundL; rw [addL_len]; split; exact mixL_len _; exact subL_len _ _
theorem blockL_len (s W b : List UInt8) (hb : b.length = 16) : (blockL s W b).length = 16 :=
  iterN_inv _ (fun l => l.length = 16) (fun n x _ => roundL_len s W n x) 14 _ (by rw [addL_len]; exact hb)
/-! ### A stream -/
def xorB (out : List UInt8) (at' i : Nat) (b : List UInt8) : List UInt8 := b.set (at' + i) (nth b (at' + i) ^^^ nth out i)
def strB (s W nonce : List UInt8) (k : Nat) (b : List UInt8) : List UInt8 := iterN (xorB (blockL s W (nonce ++ bigB (UInt64.ofNat k) 4)) (16 * k)) (min 16 (b.length - 16 * k)) b
def strN (s W nonce : List UInt8) (n : Nat) (b : List UInt8) : List UInt8 := iterN (strB s W nonce) n b
def streamL (key nonce text : List UInt8) : List UInt8 := strN boxL (schL boxL key) nonce ((text.length + 15) / 16) text
theorem xorB_len (out : List UInt8) (a i : Nat) (b : List UInt8) : (xorB out a i b).length = b.length := by unfold xorB; rw [List.length_set]
theorem strB_len (s W nonce : List UInt8) (k : Nat) (b : List UInt8) : (strB s W nonce k b).length = b.length := iterN_len _ (xorB_len _ _) _ _
theorem strN_len (s W nonce : List UInt8) (n : Nat) (b : List UInt8) : (strN s W nonce n b).length = b.length := iterN_len _ (strB_len s W nonce) _ _
theorem streamL_len (key nonce text : List UInt8) : (streamL key nonce text).length = text.length := strN_len _ _ _ _ _
/-! ### Twice a stream -/
/-- What xors a place with what does not hang on the text, done for many places. -/
theorem nth_set (l : List UInt8) (i j : Nat) (v : UInt8) (h : i < l.length) : nth (l.set i v) j = if i = j then v else nth l j := by
  unfold nth
  simp only [List.getD_eq_getElem?_getD, List.getElem?_set]
  by_cases e : i = j
  · subst e; simp [h]
  · simp [e]
theorem nth_ge (l : List UInt8) (i : Nat) (h : l.length ≤ i) : nth l i = 0 := by unfold nth; simp [List.getD_eq_getElem?_getD, List.getElem?_eq_none h]
theorem ext_nth {l m : List UInt8} (h : l.length = m.length) (hh : ∀ i, i < l.length → nth l i = nth m i) : l = m := by
  apply List.ext_getElem h
  intro i h1 h2
  have := hh i h1
  unfold nth at this
  simpa [List.getD_eq_getElem?_getD, List.getElem?_eq_getElem h1, List.getElem?_eq_getElem h2] using this
/-- Cells told one by one. -/
theorem iterN_nth (f : Nat → List UInt8 → List UInt8) (o : Nat) (v : Nat → List UInt8 → UInt8) (hf : ∀ i l, f i l = l.set (o + i) (v i l)) (hv : ∀ i l m, l.length = m.length → nth l (o + i) = nth m (o + i) → v i l = v i m) (l : List UInt8) :
    ∀ (n : Nat), o + n ≤ l.length → ∀ j, nth (iterN f n l) j = if o ≤ j ∧ j < o + n then v (j - o) l else nth l j
  | 0, _, j => by rw [if_neg (by omega)]; rfl
  | n + 1, h, j => by
    have ih := iterN_nth f o v hf hv l n (by omega)
    have hl : (iterN f n l).length = l.length := iterN_len f (fun i m => by rw [hf, List.length_set]) n l
    rw [iterN_succ, hf, nth_set _ _ _ _ (by rw [hl]; omega)]
    by_cases e : o + n = j
    · subst e
      rw [if_pos rfl, if_pos (by omega)]
      rw [hv n _ l hl (by rw [ih]; rw [if_neg (by omega)])]
      congr 1; omega
    · rw [if_neg e, ih]
      by_cases h2 : o ≤ j ∧ j < o + n
      · rw [if_pos h2, if_pos (by omega)]
      · rw [if_neg h2, if_neg (by omega)]
theorem strB_nth (s W nonce : List UInt8) (k : Nat) (b : List UInt8) (j : Nat) (hk : 16 * k ≤ b.length) : nth (strB s W nonce k b) j = if 16 * k ≤ j ∧ j < 16 * k + 16 ∧ j < b.length then nth b j ^^^ nth (blockL s W (nonce ++ bigB (UInt64.ofNat k) 4)) (j - 16 * k) else nth b j := by
  unfold strB
  rw [iterN_nth (xorB (blockL s W (nonce ++ bigB (UInt64.ofNat k) 4)) (16 * k)) (16 * k) (fun i l => nth l (16 * k + i) ^^^ nth (blockL s W (nonce ++ bigB (UInt64.ofNat k) 4)) i) (fun i l => rfl) (fun i l m _ h => by rw [h]) b _ (by omega)]
  by_cases h : 16 * k ≤ j ∧ j < 16 * k + min 16 (b.length - 16 * k)
  · rw [if_pos h, if_pos (by omega), show 16 * k + (j - 16 * k) = j by omega]
  · rw [if_neg h, if_neg (by omega)]
theorem strN_nth (s W nonce : List UInt8) (b : List UInt8) : ∀ (n j : Nat), 16 * n < b.length + 16 → nth (strN s W nonce n b) j = if j < 16 * n ∧ j < b.length then nth b j ^^^ nth (blockL s W (nonce ++ bigB (UInt64.ofNat (j / 16)) 4)) (j % 16) else nth b j
  | 0, j, _ => by rw [if_neg (by omega)]; rfl
  | n + 1, j, h => by
    have ih := strN_nth s W nonce b n j (by omega)
    have hl := strN_len s W nonce n b
    unfold strN at ih hl ⊢
    rw [iterN_succ, strB_nth _ _ _ _ _ _ (by rw [hl]; omega), hl]
    by_cases h1 : 16 * n ≤ j ∧ j < 16 * n + 16 ∧ j < b.length
    · rw [if_pos h1, if_pos (by omega), ih, if_neg (by omega), show j / 16 = n by omega, show j % 16 = j - 16 * n by omega]
    · rw [if_neg h1, ih]
      by_cases h2 : j < 16 * n ∧ j < b.length
      · rw [if_pos h2, if_pos (by omega)]
      · rw [if_neg h2, if_neg (by omega)]
theorem streamL_nth (key nonce text : List UInt8) (j : Nat) (hj : j < text.length) : nth (streamL key nonce text) j = nth text j ^^^ nth (blockL boxL (schL boxL key) (nonce ++ bigB (UInt64.ofNat (j / 16)) 4)) (j % 16) := by
  unfold streamL
  rw [strN_nth _ _ _ _ _ _ (by omega), if_pos (by omega)]
/-- Twice streamed, a text is itself. -/
theorem streamL_twice (key nonce text : List UInt8) : streamL key nonce (streamL key nonce text) = text := by
  refine ext_nth (by rw [streamL_len, streamL_len]) fun i hi => ?_
  rw [streamL_len, streamL_len] at hi
  rw [streamL_nth _ _ _ _ (by rw [streamL_len]; exact hi), streamL_nth _ _ _ _ hi, UInt8.xor_assoc, UInt8.xor_self, UInt8.xor_zero]
end TL
end Go

/- The walks of package aes: a byte's double, S, big numbers' bytes, and what is done to a block. Conditions: lengths. -/
namespace Go
namespace TL
theorem I8_toNat (x : UInt8) : (I8 x).toNat = x.toNat := by unfold I8; simp
end TL
end Go
namespace Go.Proofs.YtidadhbaomieiaaGreat
open Go.RowKit Go.TL
set_option maxRecDepth 100000 in
theorem twice_c (b : UInt8) (w : World) :
    Calls Tryz.prog 177 #[.int .u8 (I8 b)] w fun e w' => e = .returned (.int .u8 (I8 (tw b))) ∧ w = w' := by
  go_enter Tryz.func177, Tryz.ntmps177
  go_wp2
  go_ret
  exact ⟨rfl, rfl⟩
set_option maxRecDepth 100000 in
theorem rot8_c (b n : UInt8) (k : Int) (w : World) (hk : (k = 1 ∧ n = 1) ∨ (k = 2 ∧ n = 2) ∨ (k = 3 ∧ n = 3) ∨ (k = 4 ∧ n = 4)) :
    Calls Tryz.prog 191 #[.int .u8 (I8 b), .int .i64 k] w fun e w' => e = .returned (.int .u8 (I8 (rl b n))) ∧ w = w' := by
  have h1 : I64 (1 &&& 7) = 1 := by decide
  have h2 : I64 (2 &&& 7) = 2 := by decide
  have h3 : I64 (3 &&& 7) = 3 := by decide
  have h4 : I64 (4 &&& 7) = 4 := by decide
  have k7 : I64 7 = 7 := by decide
  have k6 : I64 6 = 6 := by decide
  have k5 : I64 5 = 5 := by decide
  have k4 : I64 4 = 4 := by decide
  rcases hk with ⟨rfl, rfl⟩ | ⟨rfl, rfl⟩ | ⟨rfl, rfl⟩ | ⟨rfl, rfl⟩
  all_goals
    go_enter Tryz.func191, Tryz.ntmps191
    go_wp2
    go_ret
    exact ⟨rfl, rfl⟩
set_option maxRecDepth 100000 in
set_option maxHeartbeats 4000000 in
theorem box_c (w : World) :
    Calls Tryz.prog 176 #[] w fun e w' => e = .returned (.agg (bs boxL).toArray) ∧ Below w.heap.size w w' := by
  have M := Mem.start [] w
  go_enter Tryz.func176, Tryz.ntmps176
  go_wp2_with ((first | ((with_reducible refine tAlloc (some 0) 256 ?_); refine w_alloc M _ rfl rfl (.agg (Array.replicate 256 (.int .u8 0))) (bs (List.replicate 256 (0 : UInt8))) (by kernel_rfl) rfl ?_; clear M; intro gs w1 M) | ((with_reducible refine tGuard ?_); first | refine gdS ?_ | (refine gdC ?_ ?_ <;> (intro hgd; rw [hgd]; try (exfalso; simp at hgd; omega)))) | ((with_reducible refine tConv _ 70 9 ?_); go_must (refine cvB ?_)) | ((with_reducible refine tLoad ?_); go_must (refine ldB ?_)) | ((with_reducible refine tStore ?_); go_must (refine stB ?_; clear M; intro w1 M; (try simp only [setC] at M))) | ((with_reducible refine tBox _ ?_); (refine bxA M ?_; clear M; intro g w1 M))) <;> (try conv => arg 5; simp only [Act.put, List.setIfInBounds_toArray, setC]))
  go_loopw [1, 2, 3] (fun pv qv kv wr => ∃ k : Nat, k ≤ 255 ∧ kv = .int .i64 k ∧ pv = .int .u8 (I8 (boxS k).p) ∧ qv = .int .u8 (I8 (boxS k).q) ∧ Mem [] w wr [.row gs (bs (boxS k).s)]) (fun _ _ kv _ => 255 - (intOf kv).toNat)
  case atStart => exact ⟨0, by omega, rfl, rfl, rfl, M⟩
  case round =>
    clear M
    obtain ⟨k, hk, rfl, rfl, rfl, M⟩ := hrel
    have hl := boxS_len k
    by_cases hlt : k < 255
    · obtain ⟨x, ex⟩ : ∃ x, x = boxS k := ⟨_, rfl⟩
      rw [← ex] at M hl
      rw [← ex]
      have e : boxS (k + 1) = boxStep k x := by rw [ex]; rfl
      have E := Lib.hid e
      have hp := x.p.toNat_lt
      have hp0 := (I8_bd x.p).1
      have hp1 := (I8_bd x.p).2
      have hp2 := I8_toNat x.p
      have hp3 : x.p.toNat < 256 := hp
      clear e ex hp
      go_wp2_with ((first | (go_at_call 177; go_must (refine (twice_c _ _).mono ?_; rintro e w1 ⟨rfl, rfl⟩)) | (go_at_call 191; go_must ((first | (with_reducible refine (rot8_c _ 1 1 _ (by decide)).mono ?_) | (with_reducible refine (rot8_c _ 2 2 _ (by decide)).mono ?_) | (with_reducible refine (rot8_c _ 3 3 _ (by decide)).mono ?_) | (with_reducible refine (rot8_c _ 4 4 _ (by decide)).mono ?_)); rintro e w1 ⟨rfl, rfl⟩)) | ((with_reducible refine tGuard ?_); first | refine gdS ?_ | (refine gdC ?_ ?_ <;> (intro hgd; rw [hgd]; try (exfalso; simp at hgd; omega)))) | ((with_reducible refine tConv _ 70 9 ?_); go_must (refine cvB ?_)) | ((with_reducible refine tLoad ?_); go_must (refine ldB ?_)) | ((with_reducible refine tStore ?_); go_must (refine stB ?_; clear M; intro w1 M; (try simp only [setC] at M))) | ((with_reducible refine tBox _ ?_); (refine bxA M ?_; clear M; intro g w1 M))) <;> (try conv => arg 5; simp only [Act.put, List.setIfInBounds_toArray, setC]))
      go_roundw
      case rel => exact ⟨k + 1, by omega, by go_num, by rw [E.out]; rfl, by rw [E.out]; rfl, by rw [E.out]; exact M⟩
      case measure => simp [intOf]; omega
    · obtain rfl : k = 255 := by omega
      have E := Lib.hid (show boxL = (boxS 255).s.set 0 99 from rfl)
      obtain ⟨x, ex⟩ : ∃ x, x = boxS 255 := ⟨_, rfl⟩
      rw [← ex] at M hl
      rw [← ex]
      rw [← ex] at E
      clear ex
      have hl2 : (x.s.set 0 99).length = 256 := by rw [List.length_set]; exact hl
      go_wp2_with ((first | ((with_reducible refine tGuard ?_); first | refine gdS ?_ | (refine gdC ?_ ?_ <;> (intro hgd; rw [hgd]; try (exfalso; simp at hgd; omega)))) | ((with_reducible refine tConv _ 70 9 ?_); go_must (refine cvB ?_)) | ((with_reducible refine tLoad ?_); go_must (refine ldB ?_)) | ((with_reducible refine tStore ?_); go_must (refine stBc ?_; clear M; intro w1 M; (try simp only [setC] at M); (try simp only [w8_lit] at M))) | ((with_reducible refine tBox _ ?_); (refine bxA M ?_; clear M; intro g w1 M))) <;> (try conv => arg 5; simp only [Act.put, List.setIfInBounds_toArray, setC]))
      rw [← E.out] at M
      exact bodyPost_ret (results_row rfl _ _ gs 0 (bs boxL) _ rfl (M.ok 0 _ rfl).2.1 Tryz.underlying256 rfl (by rw [bs_length, boxL_len]; kernel_rfl)) rfl ⟨rfl, M.below⟩
set_option maxRecDepth 100000 in
set_option maxHeartbeats 400000 in
theorem aesPut (base : Nat) (v : Value) (l : List UInt8) (x : UInt64) (n : Nat) (w : World) (hown : OwnB w base v l) (hbase : base ≤ w.heap.size) (hn : n ≤ 8) (hl : l.length ≤ 1000000000000) :
    Calls Tryz.prog 149 #[v, .int .u64 (I64 x), .int .i64 n] w fun e w' => ∃ v', e = .returned v' ∧ OwnB w' base v' (l ++ bigB x n) ∧ w.grownBy w' v.ownBlock ∧ FreshOr w v v' := by
  go_enter Tryz.func149, Tryz.ntmps149
  go_wp2
  go_loopw [0, 7] (fun b i wr => ∃ (j : Nat) (done : List UInt8), j ≤ n ∧ i = .int .i64 ((j : Int) - 1) ∧ done.length ≤ 8 ∧ done ++ bigB x j = bigB x n ∧ OwnB wr base b (l ++ done) ∧ w.grownBy wr v.ownBlock ∧ FreshOr w v b) (fun _ i _ => (intOf i + 1).toNat)
  case atStart => exact ⟨n, [], by omega, rfl, by simp, rfl, by simpa using hown, grownBy_refl _ _, .inl rfl⟩
  case round =>
    obtain ⟨j, done, hj, rfl, hd, H, ho, hg, hf⟩ := hrel
    have H' := Lib.hid H; clear H
    have ho' := Lib.hid ho; clear ho
    have hg' := Lib.hid hg; clear hg
    have hf' := Lib.hid hf; clear hf
    cases j with
    | zero =>
      go_wp2
      go_ret
      have hx : done = bigB x n := by have := H'.out; simpa [bigB] using this
      subst hx
      exact ⟨_, rfl, ho'.out, hg'.out, hf'.out⟩
    | succ i =>
      have e : ((i + 1 : Nat) : Int) - 1 = i := by omega
      rw [e]; clear e
      have b1 : 8 * (i : Int) ≤ 63 := by omega
      have b0 : 0 ≤ 8 * (i : Int) := by omega
      go_wp2_with (at_builtin; refine wpList_append_new bytesT rfl (.tmp 14) (.tmp 20) rfl base wr [_] _ _ rfl u0 (l ++ done) rfl ho'.out rfl ?_ ?_ ?_)
      · simp; omega
      · have := hg'.out.size; omega
      · intro v' w1 hown1 hg1 hf1
        have hg2 := Lib.hid (grow_step hg'.out hf'.out hg1)
        have hf2 := Lib.hid (fresh_trans hg'.out.size hf'.out hf1)
        have hown2 := Lib.hid hown1
        clear hown1 hg1 hf1
        go_wp2
        go_roundw
        case rel => exact ⟨i, done ++ [(x >>> (8 * UInt64.ofNat i)).toUInt8], by omega, by go_num, by have := bigB_length x n; rw [← H'.out] at this; simp [bigB, bigB_length] at this ⊢; omega, by rw [← H'.out]; simp [bigB], hown2.out, hg2.out, hf2.out⟩
        case measure => simp [intOf]
/-- The same, of a piece that is turned. -/
theorem aesPutc (v : Value) (l : List UInt8) (x : UInt64) (n : Nat) (w : World) (hok : (Chunk.sl 1 v l.length (bs l)).ok w) (hn : n ≤ 8) (hl : l.length ≤ 1000000000000) :
    Calls Tryz.prog 149 #[v, .int .u64 (I64 x), .int .i64 n] w fun e w' => ∃ p cap, e = .returned (.slice p (l ++ bigB x n).length cap) ∧ Upd w (.sl 1 v l.length (bs l)) w' (.sl 1 (.slice p (l ++ bigB x n).length cap) (l ++ bigB x n).length (bs (l ++ bigB x n))) :=
  (aesPut 0 v l x n w hok (Nat.zero_le _) hn hl).mono fun e w' h => by
    obtain ⟨v', rfl, ho, hg, hf⟩ := h
    obtain ⟨p, cap, rfl⟩ := Own.form0 ho
    refine ⟨p, cap, rfl, Kept.grown hg, ho, fun k hk => ?_⟩
    simp only [Chunk.fp, Option.mem_toList] at hk ⊢
    rcases hf with hf | ⟨g, h1, h2⟩
    · exact .inl (by rw [← hf]; exact hk)
    · rw [h1] at hk; cases hk; exact .inr h2
set_option maxRecDepth 100000 in
set_option maxHeartbeats 400000 in
theorem sealPut (base : Nat) (v : Value) (l : List UInt8) (x : UInt64) (n : Nat) (w : World) (hown : OwnB w base v l) (hbase : base ≤ w.heap.size) (hn : n ≤ 8) (hl : l.length ≤ 1000000000000) :
    Calls Tryz.prog 108 #[v, .int .u64 (I64 x), .int .i64 n] w fun e w' => ∃ v', e = .returned v' ∧ OwnB w' base v' (l ++ bigB x n) ∧ w.grownBy w' v.ownBlock ∧ FreshOr w v v' := by
  go_enter Tryz.func108, Tryz.ntmps108
  go_wp2
  go_loopw [0, 7] (fun b i wr => ∃ (j : Nat) (done : List UInt8), j ≤ n ∧ i = .int .i64 ((j : Int) - 1) ∧ done.length ≤ 8 ∧ done ++ bigB x j = bigB x n ∧ OwnB wr base b (l ++ done) ∧ w.grownBy wr v.ownBlock ∧ FreshOr w v b) (fun _ i _ => (intOf i + 1).toNat)
  case atStart => exact ⟨n, [], by omega, rfl, by simp, rfl, by simpa using hown, grownBy_refl _ _, .inl rfl⟩
  case round =>
    obtain ⟨j, done, hj, rfl, hd, H, ho, hg, hf⟩ := hrel
    have H' := Lib.hid H; clear H
    have ho' := Lib.hid ho; clear ho
    have hg' := Lib.hid hg; clear hg
    have hf' := Lib.hid hf; clear hf
    cases j with
    | zero =>
      go_wp2
      go_ret
      have hx : done = bigB x n := by have := H'.out; simpa [bigB] using this
      subst hx
      exact ⟨_, rfl, ho'.out, hg'.out, hf'.out⟩
    | succ i =>
      have e : ((i + 1 : Nat) : Int) - 1 = i := by omega
      rw [e]; clear e
      have b1 : 8 * (i : Int) ≤ 63 := by omega
      have b0 : 0 ≤ 8 * (i : Int) := by omega
      go_wp2_with (at_builtin; refine wpList_append_new bytesT rfl (.tmp 14) (.tmp 20) rfl base wr [_] _ _ rfl u0 (l ++ done) rfl ho'.out rfl ?_ ?_ ?_)
      · simp; omega
      · have := hg'.out.size; omega
      · intro v' w1 hown1 hg1 hf1
        have hg2 := Lib.hid (grow_step hg'.out hf'.out hg1)
        have hf2 := Lib.hid (fresh_trans hg'.out.size hf'.out hf1)
        have hown2 := Lib.hid hown1
        clear hown1 hg1 hf1
        go_wp2
        go_roundw
        case rel => exact ⟨i, done ++ [(x >>> (8 * UInt64.ofNat i)).toUInt8], by omega, by go_num, by have := bigB_length x n; rw [← H'.out] at this; simp [bigB, bigB_length] at this ⊢; omega, by rw [← H'.out]; simp [bigB], hown2.out, hg2.out, hf2.out⟩
        case measure => simp [intOf]
/-- The same, of a piece that is turned. -/
theorem sealPutc (v : Value) (l : List UInt8) (x : UInt64) (n : Nat) (w : World) (hok : (Chunk.sl 1 v l.length (bs l)).ok w) (hn : n ≤ 8) (hl : l.length ≤ 1000000000000) :
    Calls Tryz.prog 108 #[v, .int .u64 (I64 x), .int .i64 n] w fun e w' => ∃ p cap, e = .returned (.slice p (l ++ bigB x n).length cap) ∧ Upd w (.sl 1 v l.length (bs l)) w' (.sl 1 (.slice p (l ++ bigB x n).length cap) (l ++ bigB x n).length (bs (l ++ bigB x n))) :=
  (sealPut 0 v l x n w hok (Nat.zero_le _) hn hl).mono fun e w' h => by
    obtain ⟨v', rfl, ho, hg, hf⟩ := h
    obtain ⟨p, cap, rfl⟩ := Own.form0 ho
    refine ⟨p, cap, rfl, Kept.grown hg, ho, fun k hk => ?_⟩
    simp only [Chunk.fp, Option.mem_toList] at hk ⊢
    rcases hf with hf | ⟨g, h1, h2⟩
    · exact .inl (by rw [← hf]; exact hk)
    · rw [h1] at hk; cases hk; exact .inr h2
set_option maxRecDepth 100000 in
set_option maxHeartbeats 4000000 in
theorem add_c (gc : Nat) (s W b : List UInt8) (r : Nat) (rv : Int) (hrv : rv = r) (w : World) (R : (Chunk.row gc (bs (W ++ s))).ok w) (hW : W.length = 240) (hs : s.length = 256) (hb : b.length = 16) (hr : r ≤ 14) :
    Calls Tryz.prog 178 #[.pointer (some ⟨gc, 0, none⟩), .agg (bs b).toArray, .int .i64 rv] w fun e w' => e = .returned (.agg (bs (addL W b r)).toArray) ∧ Below w.heap.size w w' := by
  subst hrv
  have M := Mem.start [] w
  have hWs : (W ++ s).length = 496 := by rw [List.length_append, hW, hs]
  have NW : ∀ i, i < 240 → (W ++ s).getD i 0 = nth W i := fun i hi => by
    unfold nth; simp only [List.getD_eq_getElem?_getD]; rw [List.getElem?_append_left (by omega)]
  obtain ⟨C, eC⟩ : ∃ C, C = W ++ s := ⟨_, rfl⟩
  rw [← eC] at R hWs NW
  clear eC
  replace NW := Lib.hid NW
  go_enter Tryz.func178, Tryz.ntmps178
  go_wp2_with ((first | ((with_reducible refine tBox (some 4) ?_); refine w_box M _ _ rfl rfl _ rfl (bs b) rfl ?_; clear M; intro gb w1 M) | ((with_reducible refine tAlloc (some 6) 234 ?_); refine w_alloc M _ rfl rfl (.agg (Array.replicate 16 (.int .u8 0))) (bs (List.replicate 16 (0 : UInt8))) (by kernel_rfl) rfl ?_; clear M; intro go w1 M) | ((with_reducible refine tGuard ?_); first | refine gdS ?_ | (refine gdC ?_ ?_ <;> (intro hgd; rw [hgd]; try (exfalso; simp at hgd; omega)))) | ((with_reducible refine tConv _ 70 9 ?_); go_must (refine cvB ?_)) | ((with_reducible refine tLoad ?_); go_must (refine ldB ?_)) | ((with_reducible refine tStore ?_); go_must (refine stB ?_; clear M; intro w1 M; (try simp only [setC] at M))) | ((with_reducible refine tBox _ ?_); (refine bxA M ?_; clear M; intro g w1 M))) <;> (try conv => arg 5; simp only [Act.put, List.setIfInBounds_toArray, setC]))
  go_loopw [8] (fun kv wr => ∃ k : Nat, k ≤ 16 ∧ kv = .int .i64 k ∧ Mem [] w wr [.row go (bs (List.replicate 16 0)), .row gb (bs (iterN (addB W r) k b))]) (fun kv _ => 16 - (intOf kv).toNat)
  case atStart => exact ⟨0, by omega, rfl, M⟩
  case round =>
    clear M
    obtain ⟨k, hk, rfl, M⟩ := hrel
    obtain ⟨d, ed⟩ : ∃ d, d = iterN (addB W r) k b := ⟨_, rfl⟩
    have hd : d.length = 16 := by rw [ed, iterN_len _ (addB_len W r)]; exact hb
    rw [← ed] at M
    have ED := Lib.hid ed
    clear ed
    by_cases hlt : k < 16
    · go_wp2_with ((first | ((with_reducible refine tLoad ?_); refine w_at _ _ rfl (by exact ev_tmp rfl) ?_; intro hx; (first | refine w_rowB M R _ _ rfl hx rfl (by decide +kernel) (by first | assumption | omega | (simp; omega)) ?_); clear hx) | ((with_reducible show Code.wp _ (Code.region 4 _ _) _ _ _); go_must (have MR := M; refine region_lowc [(0, false), (1, false), (3, false), (4, false), (5, false), (6, false), (7, false), (8, false), (9, false), (10, false), (11, false), (12, false), (13, false), (14, false), (2, false), (15, false), (16, false), (17, false), (18, true)] [(15, .int), (17, .int), (16, .int), (18, .int), (20, .int), (14, .ptr), (13, .int), (26, .int)] [(2, _), (15, _)] (IxOk MR [1]) 18 (by kernel_rfl) (by kernel_rfl) rfl (by kernel_rfl) (lowA MR 1 k (lows_cons (stab_rowB MR R ((4*r+k/4)*4+k%4) rfl (by decide +kernel) (by first | assumption | omega | (simp; omega))) lows_nil)) (ixOk_self MR _) ?_; replace M := M.drew; simp only [planC, opAt, List.getElem?_toArray, List.getElem?_cons_zero, List.getElem?_cons_succ, Option.getD_some])) | ((with_reducible show Seg _ _ _ _); go_must (first | refine Seg.intro ⟨fun h => absurd rfl h, ?_⟩ | refine Seg.intro ⟨fun _ => ixA, ?_⟩ | refine Seg.intro ⟨ndA, atA, ?_⟩)) | ((with_reducible show OnlyN _ _ _ _ _); refine OnlyN.intro (by kernel_rfl) ?_) | ((with_reducible refine tGuard ?_); first | refine gdS ?_ | (refine gdC ?_ ?_ <;> (intro hgd; rw [hgd]; try (exfalso; simp at hgd; omega)))) | ((with_reducible refine tConv _ 70 9 ?_); go_must (refine cvB ?_)) | ((with_reducible refine tLoad ?_); go_must (refine ldB ?_)) | ((with_reducible refine tStore ?_); go_must (refine stB ?_; clear M; intro w1 M; (try simp only [setC] at M))) | ((with_reducible refine tBox _ ?_); (refine bxA M ?_; clear M; intro g w1 M))) <;> (try conv => arg 5; simp only [Act.put, List.setIfInBounds_toArray, setC]))
      have hC : C[(4 * r + k / 4) * 4 + k % 4]?.getD 0 = nth W (16 * r + k) := by
        rw [← NW.out _ (by omega), show 16 * r + k = (4 * r + k / 4) * 4 + k % 4 by omega, List.getD_eq_getElem?_getD]
      have hD : addB W r k d = d.set k (d[k] ^^^ nth W (16 * r + k)) := by
        unfold addB nth; simp [List.getElem?_eq_getElem (show k < d.length by omega)]
      rw [hC, ← hD] at M
      go_roundw
      case rel => exact ⟨k + 1, by omega, by go_num, by rw [iterN_succ, ← ED.out]; exact M⟩
      case measure => simp [intOf]; omega
    · obtain rfl : k = 16 := by omega
      go_wp2_with ((first | ((with_reducible refine tGuard ?_); first | refine gdS ?_ | (refine gdC ?_ ?_ <;> (intro hgd; rw [hgd]; try (exfalso; simp at hgd; omega)))) | ((with_reducible refine tConv _ 70 9 ?_); go_must (refine cvB ?_)) | ((with_reducible refine tLoad ?_); go_must (refine ldB ?_)) | ((with_reducible refine tStore ?_); go_must (refine stB ?_; clear M; intro w1 M; (try simp only [setC] at M))) | ((with_reducible refine tBox _ ?_); (refine bxA M ?_; clear M; intro g w1 M))) <;> (try conv => arg 5; simp only [Act.put, List.setIfInBounds_toArray, setC]))
      exact bodyPost_ret (results_row rfl _ _ go 0 (bs d) _ rfl (M.ok 0 _ rfl).2.1 Tryz.underlying234 rfl (by rw [bs_length, hd]; kernel_rfl)) rfl ⟨by rw [show addL W b r = d from ED.out.symm], M.below⟩
set_option maxRecDepth 100000 in
set_option maxHeartbeats 1000000 in
theorem mix1_c (g ga gi : Nat) (b : List UInt8) (at' i k : Nat) (kv : Int) (hkv : kv = k) (w : World) (hb : b.length = 16) (R : (Chunk.row g (bs b)).ok w) (RA : (Chunk.row ga [.int .i64 at']).ok w) (RI : (Chunk.row gi [.int .i64 i]).ok w) (ha : at' + 3 < 16) (hi : i < 16) (hk : k < 4) :
    Calls Tryz.prog 192 #[.int .i64 kv, .pointer (some ⟨g, 0, none⟩), .pointer (some ⟨ga, 0, none⟩), .pointer (some ⟨gi, 0, none⟩)] w fun e w' => e = .returned (.int .u8 (I8 (nth b (at' + (i + k) % 4)))) ∧ Below w.heap.size w w' := by
  subst hkv
  have M := Mem.start [] w
  go_enter Tryz.func192, Tryz.ntmps192
  go_wp2_with (first | ((with_reducible show wpList _ _ _ (Oper.mk _ (Op.load _ _) _ _ _ _ :: _) _ _); refine w_at _ _ rfl (by first | exact ev_tmp rfl | exact ev_const) ?_; intro hx; first | (refine w_rowB M R _ _ rfl hx rfl (by decide +kernel) (by first | assumption | omega | (simp; omega)) ?_; clear hx) | (refine w_rowC M RA _ _ rfl hx rfl (by decide +kernel) rfl ?_; clear hx) | (refine w_rowC M RI _ _ rfl hx rfl (by decide +kernel) rfl ?_; clear hx)))
  go_ret
  exact ⟨by simp [nth], M.below⟩
set_option maxRecDepth 100000 in
set_option maxHeartbeats 4000000 in
theorem mix_c (b : List UInt8) (w : World) (hb : b.length = 16) :
    Calls Tryz.prog 179 #[.agg (bs b).toArray] w fun e w' => e = .returned (.agg (bs (mixL b)).toArray) ∧ Below w.heap.size w w' := by
  have M := Mem.start [] w
  have hmf : ∀ (fn : Fn) (first cap : Array Value) (w : World), (Instr.makeFunc fn first cap).run Tryz.prog w = .ok (.func fn first cap) w := fun _ _ _ _ => rfl
  go_enter Tryz.func179, Tryz.ntmps179
  go_wp2_with ((first | ((with_reducible refine tBox (some 1) ?_); refine w_box M _ _ rfl rfl _ rfl (bs b) rfl ?_; clear M; intro gb w1 M) | ((with_reducible refine tAlloc (some 2) 234 ?_); refine w_alloc M _ rfl rfl (.agg (Array.replicate 16 (.int .u8 0))) (bs (List.replicate 16 (0 : UInt8))) (by kernel_rfl) rfl ?_; clear M; intro go w1 M) | ((with_reducible refine tGuard ?_); first | refine gdS ?_ | (refine gdC ?_ ?_ <;> (intro hgd; rw [hgd]; try (exfalso; simp at hgd; omega)))) | ((with_reducible refine tConv _ 70 9 ?_); go_must (refine cvB ?_)) | ((with_reducible refine tLoad ?_); go_must (refine ldB ?_)) | ((with_reducible refine tStore ?_); go_must (refine stB ?_; clear M; intro w1 M; (try simp only [setC] at M))) | ((with_reducible refine tBox _ ?_); (refine bxA M ?_; clear M; intro g w1 M))) <;> (try conv => arg 5; simp only [Act.put, List.setIfInBounds_toArray, setC]))
  go_loopw [6] (fun kv wr => ∃ k : Nat, k ≤ 16 ∧ kv = .int .i64 k ∧ Mem [] w wr [.row go (bs (iterN (mixB b) k (List.replicate 16 0))), .row gb (bs b)]) (fun kv _ => 16 - (intOf kv).toNat)
  case atStart => exact ⟨0, by omega, rfl, M⟩
  case round =>
    clear M
    obtain ⟨k, hk, rfl, M⟩ := hrel
    obtain ⟨d, ed⟩ : ∃ d, d = iterN (mixB b) k (List.replicate 16 0) := ⟨_, rfl⟩
    have hd : d.length = 16 := by rw [ed, iterN_len _ (fun n s => by unfold mixB; rw [List.length_set])]; exact List.length_replicate
    rw [← ed] at M
    have ED := Lib.hid ed
    clear ed
    by_cases hlt : k < 16
    · have hk4 : k / 4 * 4 + 3 < 16 := by omega
      go_wp2_with ((first | ((with_reducible refine tAlloc (some 3) 3 ?_); refine w_alloc M _ rfl rfl (.int .i64 0) ([.int .i64 0]) (by kernel_rfl) rfl ?_; clear M; intro gi w1 M) | ((with_reducible refine tAlloc (some 4) 3 ?_); refine w_alloc M _ rfl rfl (.int .i64 0) ([.int .i64 0]) (by kernel_rfl) rfl ?_; clear M; intro ga w1 M) | (go_at_call 177; go_must (refine (twice_c _ _).mono ?_; rintro e w1 ⟨rfl, rfl⟩)) | (go_at_call 192; go_must ((first | (with_reducible refine (mix1_c _ _ _ b _ _ 0 0 (by decide) _ hb (M.ok 3 _ rfl) (M.ok 0 _ rfl) (M.ok 1 _ rfl) hk4 hlt (by decide)).mono ?_) | (with_reducible refine (mix1_c _ _ _ b _ _ 1 1 (by decide) _ hb (M.ok 3 _ rfl) (M.ok 0 _ rfl) (M.ok 1 _ rfl) hk4 hlt (by decide)).mono ?_) | (with_reducible refine (mix1_c _ _ _ b _ _ 2 2 (by decide) _ hb (M.ok 3 _ rfl) (M.ok 0 _ rfl) (M.ok 1 _ rfl) hk4 hlt (by decide)).mono ?_) | (with_reducible refine (mix1_c _ _ _ b _ _ 3 3 (by decide) _ hb (M.ok 3 _ rfl) (M.ok 0 _ rfl) (M.ok 1 _ rfl) hk4 hlt (by decide)).mono ?_)); rintro e w1 ⟨rfl, hbl⟩; replace M := M.call hbl; clear hbl)) | ((with_reducible show Code.wp _ (Code.region 6 _ _) _ _ _); go_must (have MR := M; refine region_lowc [(1, false), (4, false), (8, false), (11, false), (14, false), (0, false), (2, true), (3, true), (5, true), (6, true), (7, false), (9, true), (10, false), (12, true), (13, false), (15, true), (16, false), (17, false), (18, true)] [(16, .int), (19, .int), (20, .int), (22, .int), (23, .int), (25, .int), (26, .int), (28, .int)] [(0, _)] (IxOk MR [1]) 18 (by kernel_rfl) (by kernel_rfl) rfl (by kernel_rfl) (lowA MR 1 0 lows_nil) (ixOk_self MR _) ?_; replace M := M.drew; simp only [planC, opAt, List.getElem?_toArray, List.getElem?_cons_zero, List.getElem?_cons_succ, Option.getD_some])) | ((with_reducible show Seg _ _ _ _); go_must (first | refine Seg.intro ⟨fun h => absurd rfl h, ?_⟩ | refine Seg.intro ⟨fun _ => ixA, ?_⟩ | refine Seg.intro ⟨ndA, atA, ?_⟩)) | ((with_reducible show OnlyN _ _ _ _ _); refine OnlyN.intro (by kernel_rfl) ?_) | ((with_reducible refine tGuard ?_); first | refine gdS ?_ | (refine gdC ?_ ?_ <;> (intro hgd; rw [hgd]; try (exfalso; simp at hgd; omega)))) | ((with_reducible refine tConv _ 70 9 ?_); go_must (refine cvB ?_)) | ((with_reducible refine tLoad ?_); go_must (refine ldB ?_)) | ((with_reducible refine tStore ?_); go_must (refine stB ?_; clear M; intro w1 M; (try simp only [setC] at M))) | ((with_reducible refine tBox _ ?_); (refine bxA M ?_; clear M; intro g w1 M))) <;> (try conv => arg 5; simp only [Act.put, List.setIfInBounds_toArray, setC]))
      have hD : mixB b k d = d.set k (tw (b[k / 4 * 4 + k % 4]?.getD 0) ^^^ tw (b[k / 4 * 4 + (k + 1) % 4]?.getD 0) ^^^ b[k / 4 * 4 + (k + 1) % 4]?.getD 0 ^^^ b[k / 4 * 4 + (k + 2) % 4]?.getD 0 ^^^ b[k / 4 * 4 + (k + 3) % 4]?.getD 0) := by
        unfold mixB mixN nth; simp only [List.getD_eq_getElem?_getD, Nat.add_zero]
      rw [← hD] at M
      replace M := M.tail.tail
      go_roundw
      case rel => exact ⟨k + 1, by omega, by go_num, by rw [iterN_succ, ← ED.out]; exact M⟩
      case measure => simp [intOf]; omega
    · obtain rfl : k = 16 := by omega
      go_wp2_with ((first | ((with_reducible refine tGuard ?_); first | refine gdS ?_ | (refine gdC ?_ ?_ <;> (intro hgd; rw [hgd]; try (exfalso; simp at hgd; omega)))) | ((with_reducible refine tConv _ 70 9 ?_); go_must (refine cvB ?_)) | ((with_reducible refine tLoad ?_); go_must (refine ldB ?_)) | ((with_reducible refine tStore ?_); go_must (refine stB ?_; clear M; intro w1 M; (try simp only [setC] at M))) | ((with_reducible refine tBox _ ?_); (refine bxA M ?_; clear M; intro g w1 M))) <;> (try conv => arg 5; simp only [Act.put, List.setIfInBounds_toArray, setC]))
      have e : mixL b = d := ED.out.symm
      exact bodyPost_ret (results_row rfl _ _ go 0 (bs d) _ rfl (M.ok 0 _ rfl).2.1 Tryz.underlying234 rfl (by rw [bs_length, hd]; kernel_rfl)) rfl ⟨by rw [e], M.below⟩
end Go.Proofs.YtidadhbaomieiaaGreat

/- The walk of a key's schedule. Conditions: lengths. -/
namespace Go
namespace TL
theorem foldl_off (o : Nat) (l : List Value) : ∀ (k : Nat) (C : Array Value), (l.zipIdx k).foldl (fun cs x => cs.setIfInBounds (o + x.2) x.1) C = (l.zipIdx (o + k)).foldl (fun cs x => cs.setIfInBounds x.2 x.1) C := by
  induction l with
  | nil => intro k C; rfl
  | cons v t ih => intro k C; rw [List.zipIdx_cons, List.zipIdx_cons, List.foldl_cons, List.foldl_cons, ih]; rfl
theorem foldl_at (o : Nat) (l : List Value) (C : Array Value) (h : o + l.length ≤ C.size) : (l.zipIdx.foldl (fun cs x => cs.setIfInBounds (o + x.2) x.1) C).toList = C.toList.take o ++ l ++ C.toList.drop (o + l.length) := by
  rw [foldl_off, Nat.add_zero]; exact foldl_set l o C h
theorem copy_step (key s : List UInt8) (k : Nat) (hk : k < 8) (hl : key.length = 32) :
    (key.take (4 * k) ++ (List.replicate (240 - 4 * k) 0 ++ s)).take (k * 4) ++ ((((key.drop (4 * k)).take (32 - 4 * k))).take 4 ++ (key.take (4 * k) ++ (List.replicate (240 - 4 * k) 0 ++ s)).drop (k * 4 + 4)) = key.take (4 * (k + 1)) ++ (List.replicate (240 - 4 * (k + 1)) 0 ++ s) := by
  have e1 : (key.take (4 * k)).length = 4 * k := by simp; omega
  rw [show k * 4 = 4 * k by omega, List.take_left' e1, ← List.drop_drop, List.drop_left' e1, List.take_take, Nat.min_eq_left (by omega), ← List.append_assoc, show 4 * (k + 1) = 4 * k + 4 by omega, List.take_add]
  congr 1
  rw [show 240 - 4 * k = 4 + (240 - (4 * k + 4)) by omega, ← List.replicate_append_replicate, List.append_assoc, List.drop_left' (by simp)]
theorem Mem.take1 {F : List Nat} {w0 w : World} {c : Chunk} {L : List Chunk} (M : Mem F w0 w (c :: L)) : Mem F w0 w [c] :=
  M.pick _ (fun i => i) (fun _ _ _ _ h => h) fun i c' h => by
    cases i with
    | zero => simpa using h
    | succ i => simp at h
theorem take_in (W s : List UInt8) (m : Nat) (h : m + 4 ≤ W.length) : ((W ++ s).drop m).take 4 = (W.drop m).take 4 := by
  rw [List.drop_append_of_le_length (by omega), List.take_append_of_le_length (by simp; omega)]
theorem set_in (W s : List UInt8) (m : Nat) (v : UInt8) (h : m < W.length) : (W ++ s).set m v = W.set m v ++ s := by
  rw [List.set_append_left _ _ h]
theorem nth_in (W s : List UInt8) (m : Nat) (h : m < W.length) : nth (W ++ s) m = nth W m := by
  unfold nth; simp only [List.getD_eq_getElem?_getD]; rw [List.getElem?_append_left h]
theorem nth_out (W s : List UInt8) (n m : Nat) (h : W.length = n) : nth (W ++ s) (n + m) = nth s m := by
  unfold nth; simp only [List.getD_eq_getElem?_getD]; rw [List.getElem?_append_right (by omega), h, Nat.add_sub_cancel_left]
theorem nth_at (l : List UInt8) (k : Nat) (h : k < l.length) : l[k] = nth l k := by unfold nth; simp [List.getElem?_eq_getElem h]
theorem nth_at' (l : List UInt8) (k : Nat) : l[k]?.getD 0 = nth l k := by unfold nth; rw [List.getD_eq_getElem?_getD]
end TL
end Go
namespace Go.Proofs.YtidadhbaomieiaaGreat
open Go.RowKit Go.TL
set_option maxRecDepth 100000 in
set_option maxHeartbeats 4000000 in
theorem schedule_c (key : List UInt8) (w : World) (hk : key.length = 32) :
    Calls Tryz.prog 148 #[.agg (bs key).toArray] w fun e w' => ∃ g, e = .returned (.pointer (some ⟨g, 0, none⟩)) ∧ Mem [] w w' [.row g (bs (schL boxL key ++ boxL))] := by
  have M := Mem.start [] w
  have B := box_c
  have hs := boxL_len
  obtain ⟨s, es⟩ : ∃ s, s = boxL := ⟨_, rfl⟩
  rw [← es] at B hs
  rw [← es]
  replace B := Lib.hid B
  clear es
  have hbs : (bs s).length = 256 := by rw [bs_length, hs]
  go_enter Tryz.func148, Tryz.ntmps148
  go_wp2_with ((first | ((with_reducible refine tBox (some 1) ?_); refine w_box M _ _ rfl rfl _ rfl (bs key) rfl ?_; clear M; intro gk w1 M) | (go_at_call 176; go_must (refine (B.out _).mono ?_; rintro e w1 ⟨rfl, hb⟩; replace M := M.call hb; clear hb)) | ((with_reducible refine tBox (some 12) ?_); refine w_box M _ _ rfl rfl _ rfl (_) rfl ?_; clear M; intro g w1 M) | ((with_reducible refine tGuard ?_); first | refine gdS ?_ | (refine gdC ?_ ?_ <;> (intro hgd; rw [hgd]; try (exfalso; simp at hgd; omega)))) | ((with_reducible refine tConv _ 70 9 ?_); go_must (refine cvB ?_)) | ((with_reducible refine tLoad ?_); go_must (refine ldB ?_)) | ((with_reducible refine tStore ?_); go_must (refine stB ?_; clear M; intro w1 M; (try simp only [setC] at M))) | ((with_reducible refine tBox _ ?_); (refine bxA M ?_; clear M; intro g w1 M))) <;> (try conv => arg 5; simp only [Act.put, List.setIfInBounds_toArray, setC]))
  have hz : Tryz.zeroCells261.toList = bs (List.replicate 496 0) := by kernel_rfl
  have e := foldl_at 240 (bs s) Tryz.zeroCells261 (by rw [hbs]; decide +kernel)
  have e2 : (bs (List.replicate 496 0)).take 240 ++ bs s ++ (bs (List.replicate 496 0)).drop (240 + (bs s).length) = bs (key.take (4 * 0) ++ (List.replicate (240 - 4 * 0) 0 ++ s)) := by
    rw [hbs, List.drop_eq_nil_of_le (by rw [bs_length, List.length_replicate]; omega), List.append_nil]
    simp [bs]
  rw [hz, e2] at e
  rw [e] at M
  clear e e2 hz
  go_loopw [13] (fun kv wr => ∃ k : Nat, k ≤ 8 ∧ kv = .int .i64 k ∧ Mem [] w wr [.row g (bs (key.take (4 * k) ++ (List.replicate (240 - 4 * k) 0 ++ s))), .row gk (bs key)]) (fun kv _ => 8 - (intOf kv).toNat)
  case atStart => exact ⟨0, by omega, rfl, M⟩
  case round =>
    clear M
    obtain ⟨k, hk8, rfl, M⟩ := hrel
    by_cases hlt : k < 8
    · have CS := copy_step key s k hlt hk
      have hl : (key.take (4 * k) ++ (List.replicate (240 - 4 * k) 0 ++ s)).length = 496 := by simp; omega
      obtain ⟨l, el⟩ : ∃ l, l = key.take (4 * k) ++ (List.replicate (240 - 4 * k) 0 ++ s) := ⟨_, rfl⟩
      rw [← el] at M CS hl
      replace CS := Lib.hid CS
      clear el
      have h4 : 4 * (k : Int) ≤ 32 := by omega
      have h5 : 0 ≤ 4 * (k : Int) := by omega
      have h6 : (4 * (k : Int)).toNat = 4 * k := by omega
      go_wp2_with ((first | ((with_reducible show Code.wp _ (Code.region 5 _ _) _ _ _); go_must (refine region_det [(0, false), (1, false), (2, false), (3, false), (4, false), (5, false), (6, false), (7, false), (8, false), (9, true)] [(16, .ptr), (22, .int)] (by kernel_rfl) (by kernel_rfl) rfl (by kernel_rfl) ?_; replace M := M.drew; simp only [reord, opAt, List.map_cons, List.map_nil, List.getElem?_toArray, List.getElem?_cons_zero, List.getElem?_cons_succ, Option.getD_some])) | ((with_reducible show wpList _ _ _ (Oper.mk _ (Op.call ⟨Callee.builtin Builtin.copy, _, _⟩) _ _ _ _ :: _) _ _); go_must (refine w_copyB M 0 bytesT _ _ _ rfl rfl rfl rfl rfl (row_sees (M.ok 1 _ rfl) (by omega) (Nat.le_refl _) (by simp only [maxLen]; omega)) 4 (by simp; omega) (by omega) ?_; clear M; intro w1 M; simp only [List.set_cons_zero] at M)) | ((with_reducible show Seg _ _ _ _); go_must (first | refine Seg.intro ⟨fun h => absurd rfl h, ?_⟩ | refine Seg.intro ⟨fun _ => ixA, ?_⟩ | refine Seg.intro ⟨ndA, atA, ?_⟩)) | ((with_reducible show OnlyN _ _ _ _ _); refine OnlyN.intro (by kernel_rfl) ?_) | ((with_reducible refine tGuard ?_); first | refine gdS ?_ | (refine gdC ?_ ?_ <;> (intro hgd; rw [hgd]; try (exfalso; simp at hgd; omega)))) | ((with_reducible refine tConv _ 70 9 ?_); go_must (refine cvB ?_)) | ((with_reducible refine tLoad ?_); go_must (refine ldB ?_)) | ((with_reducible refine tStore ?_); go_must (refine stB ?_; clear M; intro w1 M; (try simp only [setC] at M))) | ((with_reducible refine tBox _ ?_); (refine bxA M ?_; clear M; intro g w1 M))) <;> (try conv => arg 5; simp only [Act.put, List.setIfInBounds_toArray, setC]))
      rw [CS.out] at M
      go_roundw
      case rel => exact ⟨k + 1, by omega, by go_num, M⟩
      case measure => simp [intOf]; omega
    · obtain rfl : k = 8 := by omega
      have e : key.take (4 * 8) ++ (List.replicate (240 - 4 * 8) 0 ++ s) = (schS s key 0).1 ++ s := by
        rw [List.take_of_length_le (by omega), ← List.append_assoc]; rfl
      rw [e] at M
      have e0 : (schS s key 0).2 = 1 := rfl
      clear e
      go_wp2_with ((first | ((with_reducible refine tGuard ?_); first | refine gdS ?_ | (refine gdC ?_ ?_ <;> (intro hgd; rw [hgd]; try (exfalso; simp at hgd; omega)))) | ((with_reducible refine tConv _ 70 9 ?_); go_must (refine cvB ?_)) | ((with_reducible refine tLoad ?_); go_must (refine ldB ?_)) | ((with_reducible refine tStore ?_); go_must (refine stB ?_; clear M; intro w1 M; (try simp only [setC] at M))) | ((with_reducible refine tBox _ ?_); (refine bxA M ?_; clear M; intro g w1 M))) <;> (try conv => arg 5; simp only [Act.put, List.setIfInBounds_toArray, setC]))
      rw [show ((8 : Nat) : Int) = 8 from rfl]
      go_loopw [5, 6] (fun pv iv wr => ∃ n : Nat, n ≤ 52 ∧ pv = .int .u8 (I8 (schS s key n).2) ∧ iv = .int .i64 (n + 8) ∧ Mem [] w wr [.row g (bs ((schS s key n).1 ++ s)), .row gk (bs key)]) (fun _ iv _ => 60 - (intOf iv).toNat)
      case atStart => exact ⟨0, by omega, rfl, rfl, M⟩
      case round =>
        clear M e0
        obtain ⟨n, hn, rfl, rfl, M⟩ := hrel
        have hW := schS_len s key hk n
        obtain ⟨⟨W, pw⟩, ex⟩ : ∃ x, x = schS s key n := ⟨_, rfl⟩
        rw [← ex] at M hW
        rw [← ex]
        simp only at M hW
        simp only
        have EX := Lib.hid (show schS s key (n + 1) = schW s n (W, pw) by rw [ex]; rfl)
        have EX0 := Lib.hid ex
        clear ex
        by_cases hlt : n < 52
        · have hWs : (W ++ s).length = 496 := by rw [List.length_append, hW, hs]
          have ht := take_in W s ((n + 8 - 1) * 4) (by omega)
          have ht2 : (W.drop ((n + 8 - 1) * 4)).take 4 = word1 W (n + 8) := by unfold word1; rw [Nat.mul_comm]
          rw [ht2] at ht
          have hl1 := word1_len hW (show 1 ≤ n + 8 by omega) (by omega)
          obtain ⟨t1, e1⟩ : ∃ t, t = word1 W (n + 8) := ⟨_, rfl⟩
          have E2 : word2 W (n + 8) = if n % 8 = 0 then rotT t1 else t1 := by unfold word2; rw [← e1]; simp
          have E3 : word3 s W (n + 8) = if n % 4 = 0 then iterN (subT s) 4 (word2 W (n + 8)) else word2 W (n + 8) := by unfold word3; simp [show (n + 8) % 4 = n % 4 by omega]
          have E4 : word4 s W pw (n + 8) = if n % 8 = 0 then (word3 s W (n + 8)).set 0 (nth (word3 s W (n + 8)) 0 ^^^ pw) else word3 s W (n + 8) := by unfold word4; simp
          have EP : powI pw (n + 8) = if n % 8 = 0 then tw pw else pw := by unfold powI; simp
          rw [← e1] at ht hl1
          clear ht2 e1
          have hlX : (List.take 4 (List.drop ((n + 8 - 1) * 4) (W ++ s))).length = 4 := by rw [ht]; exact hl1
          have hlY : (bs (List.take 4 (List.drop ((n + 8 - 1) * 4) (W ++ s)))).length = 4 := by rw [bs_length, hlX]
          have q : ∀ j, j < 4 → nth t1 j = (W ++ s)[(n + 7) * 4 + j]?.getD 0 := fun j hj => by
            rw [← ht]; unfold nth; rw [List.getD_eq_getElem?_getD, List.getElem?_take, if_pos hj, List.getElem?_drop, show n + 8 - 1 = n + 7 by omega]
          by_cases h4 : n % 4 = 0
          · rw [if_pos h4] at E3
            have h4' : ((n : Int) + 8) % 4 = 0 := by omega
            by_cases h8 : n % 8 = 0
            · rw [if_pos h8] at E2 E4 EP
              have e2 : bs (rotT t1) = [.int .u8 (I8 ((W ++ s)[(n + 7) * 4 + 1]?.getD 0)), .int .u8 (I8 ((W ++ s)[(n + 7) * 4 + 2]?.getD 0)), .int .u8 (I8 ((W ++ s)[(n + 7) * 4 + 3]?.getD 0)), .int .u8 (I8 ((W ++ s)[(n + 7) * 4]?.getD 0))] := by
                unfold rotT; rw [q 1 (by omega), q 2 (by omega), q 3 (by omega), q 0 (by omega)]; rfl
              replace e2 := Lib.hid e2
              rw [E2] at E3
              replace E3 := Lib.hid E3
              replace E4 := Lib.hid E4
              replace EP := Lib.hid EP
              replace q := Lib.hid q
              clear E2
              have h8' : ((n : Int) + 8) % 8 = 0 := by omega
              go_wp2_with ((first | ((with_reducible refine tAlloc (some 7) 258 ?_); refine w_alloc M _ rfl rfl (.agg (Array.replicate 4 (.int .u8 0))) (bs (List.replicate 4 (0 : UInt8))) (by kernel_rfl) rfl ?_; clear M; intro gt w1 M) | (go_at_call 177; go_must (refine (twice_c _ _).mono ?_; rintro e w1 ⟨rfl, rfl⟩)) | ((with_reducible refine tGuard ?_); first | refine gdS ?_ | (refine gdC ?_ ?_ <;> (intro hgd; rw [hgd]; try (exfalso; simp at hgd; omega)))) | ((with_reducible refine tConv _ 70 9 ?_); go_must (refine cvB ?_)) | ((with_reducible refine tLoad ?_); go_must (refine w_at _ _ rfl (by exact ev_tmp rfl) ?_; intro hx; (first | refine w_load M _ _ _ rfl (by first | exact at0 | exact at1 | exact at2) hx rfl (by decide +kernel) (by exact rfl) ?_ | refine w_loadB M _ _ _ rfl (by first | exact at0 | exact at1 | exact at2) hx rfl (by decide +kernel) (by first | assumption | omega | (simp; omega)) ?_ | refine w_loadH M _ _ _ rfl (by first | exact at0 | exact at1 | exact at2) hx rfl (by decide +kernel) (by first | assumption | exact lenI | exact lenS ‹_› | rfl) (by decide +kernel) ?_ | refine w_loadR M _ _ _ rfl (by first | exact at0 | exact at1 | exact at2) hx rfl (by decide +kernel) (by kernel_rfl) ?_ | refine w_loadM M _ _ _ rfl (by first | exact at0 | exact at1 | exact at2) hx rfl (by decide +kernel) 4 (by decide +kernel) (by first | assumption | omega | (simp; omega)) ?_); clear hx)) | ((with_reducible refine tStore ?_); go_must (refine stB ?_; clear M; intro w1 M; (try simp only [setC] at M))) | ((with_reducible refine tBox _ ?_); (refine bxA M ?_; clear M; intro g w1 M))) <;> (try conv => arg 5; simp only [Act.put, List.setIfInBounds_toArray, setC]))
              rw [← e2.out] at M
              have hl2 : (rotT t1).length = 4 := rfl
              obtain ⟨t2, e3⟩ : ∃ t, t = rotT t1 := ⟨_, rfl⟩
              rw [← e3] at M hl2 E3
              clear e3 e2 ht hlX hlY q
              go_loopw [53] (fun kv wr => ∃ k : Nat, k ≤ 4 ∧ kv = .int .i64 k ∧ Mem [] w wr [.row gt (bs (iterN (subT s) k t2)), .row g (bs (W ++ s)), .row gk (bs key)]) (fun kv _ => 4 - (intOf kv).toNat)
              case atStart => exact ⟨0, by omega, rfl, M⟩
              case round =>
                clear M
                obtain ⟨k, hk4, rfl, M⟩ := hrel
                obtain ⟨d, ed⟩ : ∃ d, d = iterN (subT s) k t2 := ⟨_, rfl⟩
                have hd : d.length = 4 := by rw [ed, iterN_len _ (fun _ _ => subT_len _ _ _)]; exact hl2
                rw [← ed] at M
                have ED := Lib.hid ed
                clear ed
                by_cases hlt4 : k < 4
                · obtain ⟨q, eq⟩ : ∃ q, q = nth d k := ⟨_, rfl⟩
                  have hq0 := (I8_bd q).1
                  have hq1 := (I8_bd q).2
                  have hq2 := I8_toNat q
                  have hq3 := q.toNat_lt
                  have hq4 : q.toNat < 256 := hq3
                  have hd1 : d.getD k 0 = q := eq.symm
                  have hd2 : d[k]?.getD 0 = q := by rw [nth_at', eq]
                  have hd3 : d[k] = q := by rw [nth_at, eq]
                  have EQ := Lib.hid eq
                  clear eq hq3
                  go_wp2_with ((first | ((with_reducible show Code.wp _ (Code.region 18 _ _) _ _ _); go_must (have MR := M; refine region_lowc [(0, false), (1, false), (2, false), (3, false), (5, false), (6, false), (4, false), (7, false), (8, false), (9, false), (10, true)] [(57, .ptr)] [(4, _), (8, _)] (IxOk MR [0, 1]) 10 (by kernel_rfl) (by kernel_rfl) rfl (by kernel_rfl) (lowA MR 0 k (lowA MR 1 (240+q.toNat) lows_nil)) (ixOk_self MR _) ?_; replace M := M.drew; simp only [planC, opAt, List.getElem?_toArray, List.getElem?_cons_zero, List.getElem?_cons_succ, Option.getD_some])) | ((with_reducible show Seg _ _ _ _); go_must (first | refine Seg.intro ⟨fun h => absurd rfl h, ?_⟩ | refine Seg.intro ⟨fun _ => ixA, ?_⟩ | refine Seg.intro ⟨ndA, atA, ?_⟩)) | ((with_reducible show OnlyN _ _ _ _ _); refine OnlyN.intro (by kernel_rfl) ?_) | ((with_reducible refine tGuard ?_); first | refine gdS ?_ | (refine gdC ?_ ?_ <;> (intro hgd; rw [hgd]; try (exfalso; simp at hgd; omega)))) | ((with_reducible refine tConv _ 70 9 ?_); go_must (refine cvB ?_)) | ((with_reducible refine tLoad ?_); go_must (refine ldB ?_)) | ((with_reducible refine tStore ?_); go_must (refine stB ?_; clear M; intro w1 M; (try simp only [setC] at M))) | ((with_reducible refine tBox _ ?_); (refine bxA M ?_; clear M; intro g w1 M))) <;> (try conv => arg 5; simp only [Act.put, List.setIfInBounds_toArray, setC]))
                  rw [show (W ++ s).getD (240 + q.toNat) 0 = nth s q.toNat from nth_out W s 240 _ hW] at M
                  go_roundw
                  case rel => exact ⟨k + 1, by omega, by go_num, by
                    rw [iterN_succ, ← ED.out]; unfold subT; rw [← EQ.out]; exact M⟩
                  case measure => simp [intOf]; omega
                · obtain rfl : k = 4 := by omega
                  replace E3 := E3.out.trans ED.out.symm
                  replace E4 := E4.out
                  rw [E3] at E4
                  replace E4 := Lib.hid E4
                  clear E3 ED
                  go_wp2_with ((first | ((with_reducible refine tAlloc (some 7) 258 ?_); refine w_alloc M _ rfl rfl (.agg (Array.replicate 4 (.int .u8 0))) (bs (List.replicate 4 (0 : UInt8))) (by kernel_rfl) rfl ?_; clear M; intro gt w1 M) | (go_at_call 177; go_must (refine (twice_c _ _).mono ?_; rintro e w1 ⟨rfl, rfl⟩)) | ((with_reducible refine tGuard ?_); first | refine gdS ?_ | (refine gdC ?_ ?_ <;> (intro hgd; rw [hgd]; try (exfalso; simp at hgd; omega)))) | ((with_reducible refine tConv _ 70 9 ?_); go_must (refine cvB ?_)) | ((with_reducible refine tLoad ?_); go_must (refine w_at _ _ rfl (by exact ev_tmp rfl) ?_; intro hx; (first | refine w_load M _ _ _ rfl (by first | exact at0 | exact at1 | exact at2) hx rfl (by decide +kernel) (by exact rfl) ?_ | refine w_loadB M _ _ _ rfl (by first | exact at0 | exact at1 | exact at2) hx rfl (by decide +kernel) (by first | assumption | omega | (simp; omega)) ?_ | refine w_loadH M _ _ _ rfl (by first | exact at0 | exact at1 | exact at2) hx rfl (by decide +kernel) (by first | assumption | exact lenI | exact lenS ‹_› | rfl) (by decide +kernel) ?_ | refine w_loadR M _ _ _ rfl (by first | exact at0 | exact at1 | exact at2) hx rfl (by decide +kernel) (by kernel_rfl) ?_ | refine w_loadM M _ _ _ rfl (by first | exact at0 | exact at1 | exact at2) hx rfl (by decide +kernel) 4 (by decide +kernel) (by first | assumption | omega | (simp; omega)) ?_); clear hx)) | ((with_reducible refine tStore ?_); go_must (refine stB ?_; clear M; intro w1 M; (try simp only [setC] at M))) | ((with_reducible refine tBox _ ?_); (refine bxA M ?_; clear M; intro g w1 M))) <;> (try conv => arg 5; simp only [Act.put, List.setIfInBounds_toArray, setC]))
                  rw [nth_at d 0 (by omega)] at M
                  obtain ⟨t4, e4⟩ : ∃ t, t = d.set 0 (nth d 0 ^^^ pw) := ⟨_, rfl⟩
                  have ht4 : t4.length = 4 := by rw [e4, List.length_set]; exact hd
                  rw [← e4] at M E4
                  clear e4
                  go_loopw [77] (fun kv wr => ∃ k : Nat, k ≤ 4 ∧ kv = .int .i64 k ∧ Mem [] w wr [.row gt (bs t4), .row g (bs (iterN (addT t4 (n + 8)) k W ++ s)), .row gk (bs key)]) (fun kv _ => 4 - (intOf kv).toNat)
                  case atStart => exact ⟨0, by omega, rfl, M⟩
                  case round =>
                    clear M
                    obtain ⟨k, hk4, rfl, M⟩ := hrel
                    obtain ⟨V, eV⟩ : ∃ V, V = iterN (addT t4 (n + 8)) k W := ⟨_, rfl⟩
                    have hV : V.length = 240 := by rw [eV, iterN_len _ (addT_len _ _)]; exact hW
                    have hVs : (V ++ s).length = 496 := by rw [List.length_append, hV, hs]
                    rw [← eV] at M
                    have EV := Lib.hid eV
                    clear eV
                    by_cases hlt4 : k < 4
                    · go_wp2_with ((first | ((with_reducible show Code.wp _ (Code.region 26 _ _) _ _ _); go_must (refine region_det [(0, false), (1, false), (2, false), (3, false), (4, false), (5, false), (6, false), (7, false), (8, false), (9, false), (10, false), (12, false), (13, false), (16, false), (17, false), (18, false), (11, false), (14, false), (15, false), (19, false), (20, true)] [(84, .int), (83, .ptr), (80, .ptr), (91, .int), (94, .int)] (by kernel_rfl) (by kernel_rfl) rfl (by kernel_rfl) ?_; replace M := M.drew; simp only [reord, opAt, List.map_cons, List.map_nil, List.getElem?_toArray, List.getElem?_cons_zero, List.getElem?_cons_succ, Option.getD_some])) | ((with_reducible show Seg _ _ _ _); go_must (first | refine Seg.intro ⟨fun h => absurd rfl h, ?_⟩ | refine Seg.intro ⟨fun _ => ixA, ?_⟩ | refine Seg.intro ⟨ndA, atA, ?_⟩)) | ((with_reducible show OnlyN _ _ _ _ _); refine OnlyN.intro (by kernel_rfl) ?_) | ((with_reducible refine tGuard ?_); first | refine gdS ?_ | (refine gdC ?_ ?_ <;> (intro hgd; rw [hgd]; try (exfalso; simp at hgd; omega)))) | ((with_reducible refine tConv _ 70 9 ?_); go_must (refine cvB ?_)) | ((with_reducible refine tLoad ?_); go_must (refine ldB ?_)) | ((with_reducible refine tStore ?_); go_must (refine stB ?_; clear M; intro w1 M; (try simp only [setC] at M))) | ((with_reducible refine tBox _ ?_); (refine bxA M ?_; clear M; intro g w1 M))) <;> (try conv => arg 5; simp only [Act.put, List.setIfInBounds_toArray, setC]))
                      have q1 : addT t4 (n + 8) k V = V.set ((n + 8) * 4 + k) (nth V (4 * n + k) ^^^ nth t4 k) := by unfold addT; rw [Nat.mul_comm 4 (n + 8), Nat.add_sub_cancel]
                      have q2 : (V ++ s)[n * 4 + k]?.getD 0 = nth V (4 * n + k) := by rw [nth_at', nth_in _ _ _ (by omega), Nat.mul_comm]
                      rw [q2, nth_at t4 k (by omega), set_in V s _ _ (by omega), ← q1] at M
                      go_roundw
                      case rel => exact ⟨k + 1, by omega, by go_num, by rw [iterN_succ, ← EV.out]; exact M⟩
                      case measure => simp [intOf]; omega
                    · obtain rfl : k = 4 := by omega
                      go_wp2_with ((first | ((with_reducible refine tGuard ?_); first | refine gdS ?_ | (refine gdC ?_ ?_ <;> (intro hgd; rw [hgd]; try (exfalso; simp at hgd; omega)))) | ((with_reducible refine tConv _ 70 9 ?_); go_must (refine cvB ?_)) | ((with_reducible refine tLoad ?_); go_must (refine ldB ?_)) | ((with_reducible refine tStore ?_); go_must (refine stB ?_; clear M; intro w1 M; (try simp only [setC] at M))) | ((with_reducible refine tBox _ ?_); (refine bxA M ?_; clear M; intro g w1 M))) <;> (try conv => arg 5; simp only [Act.put, List.setIfInBounds_toArray, setC]))
                      go_roundw
                      case rel => exact ⟨n + 1, by omega, by rw [EX.out]; show _ = Value.int .u8 (I8 (powI pw (n + 8))); rw [EP.out], by go_num, by
                        rw [EX.out]; show Mem [] w _ [.row g (bs (iterN (addT (word4 s W pw (n + 8)) (n + 8)) 4 W ++ s)), .row gk (bs key)]
                        rw [E4.out, ← EV.out]; exact M.tail⟩
                      case measure => simp [intOf]; omega
            · rw [if_neg h8] at E2 E4 EP
              have hl2 := hl1
              obtain ⟨t2, e3⟩ : ∃ t, t = t1 := ⟨_, rfl⟩
              rw [E2, ← e3] at E3
              rw [← e3] at hl2
              replace E3 := Lib.hid E3
              replace E4 := Lib.hid E4
              replace EP := Lib.hid EP
              clear E2 q
              have h8' : ¬ ((n : Int) + 8) % 8 = 0 := by omega
              go_wp2_with ((first | ((with_reducible refine tAlloc (some 7) 258 ?_); refine w_alloc M _ rfl rfl (.agg (Array.replicate 4 (.int .u8 0))) (bs (List.replicate 4 (0 : UInt8))) (by kernel_rfl) rfl ?_; clear M; intro gt w1 M) | (go_at_call 177; go_must (refine (twice_c _ _).mono ?_; rintro e w1 ⟨rfl, rfl⟩)) | ((with_reducible refine tGuard ?_); first | refine gdS ?_ | (refine gdC ?_ ?_ <;> (intro hgd; rw [hgd]; try (exfalso; simp at hgd; omega)))) | ((with_reducible refine tConv _ 70 9 ?_); go_must (refine cvB ?_)) | ((with_reducible refine tLoad ?_); go_must (refine w_at _ _ rfl (by exact ev_tmp rfl) ?_; intro hx; (first | refine w_load M _ _ _ rfl (by first | exact at0 | exact at1 | exact at2) hx rfl (by decide +kernel) (by exact rfl) ?_ | refine w_loadB M _ _ _ rfl (by first | exact at0 | exact at1 | exact at2) hx rfl (by decide +kernel) (by first | assumption | omega | (simp; omega)) ?_ | refine w_loadH M _ _ _ rfl (by first | exact at0 | exact at1 | exact at2) hx rfl (by decide +kernel) (by first | assumption | exact lenI | exact lenS ‹_› | rfl) (by decide +kernel) ?_ | refine w_loadR M _ _ _ rfl (by first | exact at0 | exact at1 | exact at2) hx rfl (by decide +kernel) (by kernel_rfl) ?_ | refine w_loadM M _ _ _ rfl (by first | exact at0 | exact at1 | exact at2) hx rfl (by decide +kernel) 4 (by decide +kernel) (by first | assumption | omega | (simp; omega)) ?_); clear hx)) | ((with_reducible refine tStore ?_); go_must (refine stB ?_; clear M; intro w1 M; (try simp only [setC] at M))) | ((with_reducible refine tBox _ ?_); (refine bxA M ?_; clear M; intro g w1 M))) <;> (try conv => arg 5; simp only [Act.put, List.setIfInBounds_toArray, setC]))
              rw [ht, ← e3] at M
              clear e3 ht hlX hlY
              go_loopw [53] (fun kv wr => ∃ k : Nat, k ≤ 4 ∧ kv = .int .i64 k ∧ Mem [] w wr [.row gt (bs (iterN (subT s) k t2)), .row g (bs (W ++ s)), .row gk (bs key)]) (fun kv _ => 4 - (intOf kv).toNat)
              case atStart => exact ⟨0, by omega, rfl, M⟩
              case round =>
                clear M
                obtain ⟨k, hk4, rfl, M⟩ := hrel
                obtain ⟨d, ed⟩ : ∃ d, d = iterN (subT s) k t2 := ⟨_, rfl⟩
                have hd : d.length = 4 := by rw [ed, iterN_len _ (fun _ _ => subT_len _ _ _)]; exact hl2
                rw [← ed] at M
                have ED := Lib.hid ed
                clear ed
                by_cases hlt4 : k < 4
                · obtain ⟨q, eq⟩ : ∃ q, q = nth d k := ⟨_, rfl⟩
                  have hq0 := (I8_bd q).1
                  have hq1 := (I8_bd q).2
                  have hq2 := I8_toNat q
                  have hq3 := q.toNat_lt
                  have hq4 : q.toNat < 256 := hq3
                  have hd1 : d.getD k 0 = q := eq.symm
                  have hd2 : d[k]?.getD 0 = q := by rw [nth_at', eq]
                  have hd3 : d[k] = q := by rw [nth_at, eq]
                  have EQ := Lib.hid eq
                  clear eq hq3
                  go_wp2_with ((first | ((with_reducible show Code.wp _ (Code.region 18 _ _) _ _ _); go_must (have MR := M; refine region_lowc [(0, false), (1, false), (2, false), (3, false), (5, false), (6, false), (4, false), (7, false), (8, false), (9, false), (10, true)] [(57, .ptr)] [(4, _), (8, _)] (IxOk MR [0, 1]) 10 (by kernel_rfl) (by kernel_rfl) rfl (by kernel_rfl) (lowA MR 0 k (lowA MR 1 (240+q.toNat) lows_nil)) (ixOk_self MR _) ?_; replace M := M.drew; simp only [planC, opAt, List.getElem?_toArray, List.getElem?_cons_zero, List.getElem?_cons_succ, Option.getD_some])) | ((with_reducible show Seg _ _ _ _); go_must (first | refine Seg.intro ⟨fun h => absurd rfl h, ?_⟩ | refine Seg.intro ⟨fun _ => ixA, ?_⟩ | refine Seg.intro ⟨ndA, atA, ?_⟩)) | ((with_reducible show OnlyN _ _ _ _ _); refine OnlyN.intro (by kernel_rfl) ?_) | ((with_reducible refine tGuard ?_); first | refine gdS ?_ | (refine gdC ?_ ?_ <;> (intro hgd; rw [hgd]; try (exfalso; simp at hgd; omega)))) | ((with_reducible refine tConv _ 70 9 ?_); go_must (refine cvB ?_)) | ((with_reducible refine tLoad ?_); go_must (refine ldB ?_)) | ((with_reducible refine tStore ?_); go_must (refine stB ?_; clear M; intro w1 M; (try simp only [setC] at M))) | ((with_reducible refine tBox _ ?_); (refine bxA M ?_; clear M; intro g w1 M))) <;> (try conv => arg 5; simp only [Act.put, List.setIfInBounds_toArray, setC]))
                  rw [show (W ++ s).getD (240 + q.toNat) 0 = nth s q.toNat from nth_out W s 240 _ hW] at M
                  go_roundw
                  case rel => exact ⟨k + 1, by omega, by go_num, by
                    rw [iterN_succ, ← ED.out]; unfold subT; rw [← EQ.out]; exact M⟩
                  case measure => simp [intOf]; omega
                · obtain rfl : k = 4 := by omega
                  replace E3 := E3.out.trans ED.out.symm
                  replace E4 := E4.out
                  rw [E3] at E4
                  replace E4 := Lib.hid E4
                  clear E3 ED
                  go_wp2_with ((first | ((with_reducible refine tAlloc (some 7) 258 ?_); refine w_alloc M _ rfl rfl (.agg (Array.replicate 4 (.int .u8 0))) (bs (List.replicate 4 (0 : UInt8))) (by kernel_rfl) rfl ?_; clear M; intro gt w1 M) | (go_at_call 177; go_must (refine (twice_c _ _).mono ?_; rintro e w1 ⟨rfl, rfl⟩)) | ((with_reducible refine tGuard ?_); first | refine gdS ?_ | (refine gdC ?_ ?_ <;> (intro hgd; rw [hgd]; try (exfalso; simp at hgd; omega)))) | ((with_reducible refine tConv _ 70 9 ?_); go_must (refine cvB ?_)) | ((with_reducible refine tLoad ?_); go_must (refine w_at _ _ rfl (by exact ev_tmp rfl) ?_; intro hx; (first | refine w_load M _ _ _ rfl (by first | exact at0 | exact at1 | exact at2) hx rfl (by decide +kernel) (by exact rfl) ?_ | refine w_loadB M _ _ _ rfl (by first | exact at0 | exact at1 | exact at2) hx rfl (by decide +kernel) (by first | assumption | omega | (simp; omega)) ?_ | refine w_loadH M _ _ _ rfl (by first | exact at0 | exact at1 | exact at2) hx rfl (by decide +kernel) (by first | assumption | exact lenI | exact lenS ‹_› | rfl) (by decide +kernel) ?_ | refine w_loadR M _ _ _ rfl (by first | exact at0 | exact at1 | exact at2) hx rfl (by decide +kernel) (by kernel_rfl) ?_ | refine w_loadM M _ _ _ rfl (by first | exact at0 | exact at1 | exact at2) hx rfl (by decide +kernel) 4 (by decide +kernel) (by first | assumption | omega | (simp; omega)) ?_); clear hx)) | ((with_reducible refine tStore ?_); go_must (refine stB ?_; clear M; intro w1 M; (try simp only [setC] at M))) | ((with_reducible refine tBox _ ?_); (refine bxA M ?_; clear M; intro g w1 M))) <;> (try conv => arg 5; simp only [Act.put, List.setIfInBounds_toArray, setC]))
                  obtain ⟨t4, e4⟩ : ∃ t, t = d := ⟨_, rfl⟩
                  have ht4 : t4.length = 4 := by rw [e4]; exact hd
                  rw [← e4] at M E4
                  clear e4
                  go_loopw [77] (fun kv wr => ∃ k : Nat, k ≤ 4 ∧ kv = .int .i64 k ∧ Mem [] w wr [.row gt (bs t4), .row g (bs (iterN (addT t4 (n + 8)) k W ++ s)), .row gk (bs key)]) (fun kv _ => 4 - (intOf kv).toNat)
                  case atStart => exact ⟨0, by omega, rfl, M⟩
                  case round =>
                    clear M
                    obtain ⟨k, hk4, rfl, M⟩ := hrel
                    obtain ⟨V, eV⟩ : ∃ V, V = iterN (addT t4 (n + 8)) k W := ⟨_, rfl⟩
                    have hV : V.length = 240 := by rw [eV, iterN_len _ (addT_len _ _)]; exact hW
                    have hVs : (V ++ s).length = 496 := by rw [List.length_append, hV, hs]
                    rw [← eV] at M
                    have EV := Lib.hid eV
                    clear eV
                    by_cases hlt4 : k < 4
                    · go_wp2_with ((first | ((with_reducible show Code.wp _ (Code.region 26 _ _) _ _ _); go_must (refine region_det [(0, false), (1, false), (2, false), (3, false), (4, false), (5, false), (6, false), (7, false), (8, false), (9, false), (10, false), (12, false), (13, false), (16, false), (17, false), (18, false), (11, false), (14, false), (15, false), (19, false), (20, true)] [(84, .int), (83, .ptr), (80, .ptr), (91, .int), (94, .int)] (by kernel_rfl) (by kernel_rfl) rfl (by kernel_rfl) ?_; replace M := M.drew; simp only [reord, opAt, List.map_cons, List.map_nil, List.getElem?_toArray, List.getElem?_cons_zero, List.getElem?_cons_succ, Option.getD_some])) | ((with_reducible show Seg _ _ _ _); go_must (first | refine Seg.intro ⟨fun h => absurd rfl h, ?_⟩ | refine Seg.intro ⟨fun _ => ixA, ?_⟩ | refine Seg.intro ⟨ndA, atA, ?_⟩)) | ((with_reducible show OnlyN _ _ _ _ _); refine OnlyN.intro (by kernel_rfl) ?_) | ((with_reducible refine tGuard ?_); first | refine gdS ?_ | (refine gdC ?_ ?_ <;> (intro hgd; rw [hgd]; try (exfalso; simp at hgd; omega)))) | ((with_reducible refine tConv _ 70 9 ?_); go_must (refine cvB ?_)) | ((with_reducible refine tLoad ?_); go_must (refine ldB ?_)) | ((with_reducible refine tStore ?_); go_must (refine stB ?_; clear M; intro w1 M; (try simp only [setC] at M))) | ((with_reducible refine tBox _ ?_); (refine bxA M ?_; clear M; intro g w1 M))) <;> (try conv => arg 5; simp only [Act.put, List.setIfInBounds_toArray, setC]))
                      have q1 : addT t4 (n + 8) k V = V.set ((n + 8) * 4 + k) (nth V (4 * n + k) ^^^ nth t4 k) := by unfold addT; rw [Nat.mul_comm 4 (n + 8), Nat.add_sub_cancel]
                      have q2 : (V ++ s)[n * 4 + k]?.getD 0 = nth V (4 * n + k) := by rw [nth_at', nth_in _ _ _ (by omega), Nat.mul_comm]
                      rw [q2, nth_at t4 k (by omega), set_in V s _ _ (by omega), ← q1] at M
                      go_roundw
                      case rel => exact ⟨k + 1, by omega, by go_num, by rw [iterN_succ, ← EV.out]; exact M⟩
                      case measure => simp [intOf]; omega
                    · obtain rfl : k = 4 := by omega
                      go_wp2_with ((first | ((with_reducible refine tGuard ?_); first | refine gdS ?_ | (refine gdC ?_ ?_ <;> (intro hgd; rw [hgd]; try (exfalso; simp at hgd; omega)))) | ((with_reducible refine tConv _ 70 9 ?_); go_must (refine cvB ?_)) | ((with_reducible refine tLoad ?_); go_must (refine ldB ?_)) | ((with_reducible refine tStore ?_); go_must (refine stB ?_; clear M; intro w1 M; (try simp only [setC] at M))) | ((with_reducible refine tBox _ ?_); (refine bxA M ?_; clear M; intro g w1 M))) <;> (try conv => arg 5; simp only [Act.put, List.setIfInBounds_toArray, setC]))
                      go_roundw
                      case rel => exact ⟨n + 1, by omega, by rw [EX.out]; show _ = Value.int .u8 (I8 (powI pw (n + 8))); rw [EP.out], by go_num, by
                        rw [EX.out]; show Mem [] w _ [.row g (bs (iterN (addT (word4 s W pw (n + 8)) (n + 8)) 4 W ++ s)), .row gk (bs key)]
                        rw [E4.out, ← EV.out]; exact M.tail⟩
                      case measure => simp [intOf]; omega
          · rw [if_neg h4] at E3
            have h8 : ¬ n % 8 = 0 := by omega
            rw [if_neg h8] at E2 E4 EP
            rw [E2] at E3
            rw [E3] at E4
            have h4' : ¬ ((n : Int) + 8) % 4 = 0 := by omega
            have h8' : ¬ ((n : Int) + 8) % 8 = 0 := by omega
            obtain ⟨t4, e4⟩ : ∃ t, t = t1 := ⟨_, rfl⟩
            have ht4 : t4.length = 4 := by rw [e4]; exact hl1
            rw [← e4] at E4
            replace E4 := Lib.hid E4
            replace EP := Lib.hid EP
            clear E2 E3 q
            go_wp2_with ((first | ((with_reducible refine tAlloc (some 7) 258 ?_); refine w_alloc M _ rfl rfl (.agg (Array.replicate 4 (.int .u8 0))) (bs (List.replicate 4 (0 : UInt8))) (by kernel_rfl) rfl ?_; clear M; intro gt w1 M) | (go_at_call 177; go_must (refine (twice_c _ _).mono ?_; rintro e w1 ⟨rfl, rfl⟩)) | ((with_reducible refine tGuard ?_); first | refine gdS ?_ | (refine gdC ?_ ?_ <;> (intro hgd; rw [hgd]; try (exfalso; simp at hgd; omega)))) | ((with_reducible refine tConv _ 70 9 ?_); go_must (refine cvB ?_)) | ((with_reducible refine tLoad ?_); go_must (refine w_at _ _ rfl (by exact ev_tmp rfl) ?_; intro hx; (first | refine w_load M _ _ _ rfl (by first | exact at0 | exact at1 | exact at2) hx rfl (by decide +kernel) (by exact rfl) ?_ | refine w_loadB M _ _ _ rfl (by first | exact at0 | exact at1 | exact at2) hx rfl (by decide +kernel) (by first | assumption | omega | (simp; omega)) ?_ | refine w_loadH M _ _ _ rfl (by first | exact at0 | exact at1 | exact at2) hx rfl (by decide +kernel) (by first | assumption | exact lenI | exact lenS ‹_› | rfl) (by decide +kernel) ?_ | refine w_loadR M _ _ _ rfl (by first | exact at0 | exact at1 | exact at2) hx rfl (by decide +kernel) (by kernel_rfl) ?_ | refine w_loadM M _ _ _ rfl (by first | exact at0 | exact at1 | exact at2) hx rfl (by decide +kernel) 4 (by decide +kernel) (by first | assumption | omega | (simp; omega)) ?_); clear hx)) | ((with_reducible refine tStore ?_); go_must (refine stB ?_; clear M; intro w1 M; (try simp only [setC] at M))) | ((with_reducible refine tBox _ ?_); (refine bxA M ?_; clear M; intro g w1 M))) <;> (try conv => arg 5; simp only [Act.put, List.setIfInBounds_toArray, setC]))
            rw [ht, ← e4] at M
            clear e4 ht hlX hlY
            go_loopw [77] (fun kv wr => ∃ k : Nat, k ≤ 4 ∧ kv = .int .i64 k ∧ Mem [] w wr [.row gt (bs t4), .row g (bs (iterN (addT t4 (n + 8)) k W ++ s)), .row gk (bs key)]) (fun kv _ => 4 - (intOf kv).toNat)
            case atStart => exact ⟨0, by omega, rfl, M⟩
            case round =>
              clear M
              obtain ⟨k, hk4, rfl, M⟩ := hrel
              obtain ⟨V, eV⟩ : ∃ V, V = iterN (addT t4 (n + 8)) k W := ⟨_, rfl⟩
              have hV : V.length = 240 := by rw [eV, iterN_len _ (addT_len _ _)]; exact hW
              have hVs : (V ++ s).length = 496 := by rw [List.length_append, hV, hs]
              rw [← eV] at M
              have EV := Lib.hid eV
              clear eV
              by_cases hlt4 : k < 4
              · go_wp2_with ((first | ((with_reducible show Code.wp _ (Code.region 26 _ _) _ _ _); go_must (refine region_det [(0, false), (1, false), (2, false), (3, false), (4, false), (5, false), (6, false), (7, false), (8, false), (9, false), (10, false), (12, false), (13, false), (16, false), (17, false), (18, false), (11, false), (14, false), (15, false), (19, false), (20, true)] [(84, .int), (83, .ptr), (80, .ptr), (91, .int), (94, .int)] (by kernel_rfl) (by kernel_rfl) rfl (by kernel_rfl) ?_; replace M := M.drew; simp only [reord, opAt, List.map_cons, List.map_nil, List.getElem?_toArray, List.getElem?_cons_zero, List.getElem?_cons_succ, Option.getD_some])) | ((with_reducible show Seg _ _ _ _); go_must (first | refine Seg.intro ⟨fun h => absurd rfl h, ?_⟩ | refine Seg.intro ⟨fun _ => ixA, ?_⟩ | refine Seg.intro ⟨ndA, atA, ?_⟩)) | ((with_reducible show OnlyN _ _ _ _ _); refine OnlyN.intro (by kernel_rfl) ?_) | ((with_reducible refine tGuard ?_); first | refine gdS ?_ | (refine gdC ?_ ?_ <;> (intro hgd; rw [hgd]; try (exfalso; simp at hgd; omega)))) | ((with_reducible refine tConv _ 70 9 ?_); go_must (refine cvB ?_)) | ((with_reducible refine tLoad ?_); go_must (refine ldB ?_)) | ((with_reducible refine tStore ?_); go_must (refine stB ?_; clear M; intro w1 M; (try simp only [setC] at M))) | ((with_reducible refine tBox _ ?_); (refine bxA M ?_; clear M; intro g w1 M))) <;> (try conv => arg 5; simp only [Act.put, List.setIfInBounds_toArray, setC]))
                have q1 : addT t4 (n + 8) k V = V.set ((n + 8) * 4 + k) (nth V (4 * n + k) ^^^ nth t4 k) := by unfold addT; rw [Nat.mul_comm 4 (n + 8), Nat.add_sub_cancel]
                have q2 : (V ++ s)[n * 4 + k]?.getD 0 = nth V (4 * n + k) := by rw [nth_at', nth_in _ _ _ (by omega), Nat.mul_comm]
                rw [q2, nth_at t4 k (by omega), set_in V s _ _ (by omega), ← q1] at M
                go_roundw
                case rel => exact ⟨k + 1, by omega, by go_num, by rw [iterN_succ, ← EV.out]; exact M⟩
                case measure => simp [intOf]; omega
              · obtain rfl : k = 4 := by omega
                go_wp2_with ((first | ((with_reducible refine tGuard ?_); first | refine gdS ?_ | (refine gdC ?_ ?_ <;> (intro hgd; rw [hgd]; try (exfalso; simp at hgd; omega)))) | ((with_reducible refine tConv _ 70 9 ?_); go_must (refine cvB ?_)) | ((with_reducible refine tLoad ?_); go_must (refine ldB ?_)) | ((with_reducible refine tStore ?_); go_must (refine stB ?_; clear M; intro w1 M; (try simp only [setC] at M))) | ((with_reducible refine tBox _ ?_); (refine bxA M ?_; clear M; intro g w1 M))) <;> (try conv => arg 5; simp only [Act.put, List.setIfInBounds_toArray, setC]))
                go_roundw
                case rel => exact ⟨n + 1, by omega, by rw [EX.out]; show _ = Value.int .u8 (I8 (powI pw (n + 8))); rw [EP.out], by go_num, by
                  rw [EX.out]; show Mem [] w _ [.row g (bs (iterN (addT (word4 s W pw (n + 8)) (n + 8)) 4 W ++ s)), .row gk (bs key)]
                  rw [E4.out, ← EV.out]; exact M.tail⟩
                case measure => simp [intOf]; omega
        · obtain rfl : n = 52 := by omega
          have e : schL s key = W := by unfold schL; rw [← EX0.out]
          go_wp2_with ((first | ((with_reducible refine tGuard ?_); first | refine gdS ?_ | (refine gdC ?_ ?_ <;> (intro hgd; rw [hgd]; try (exfalso; simp at hgd; omega)))) | ((with_reducible refine tConv _ 70 9 ?_); go_must (refine cvB ?_)) | ((with_reducible refine tLoad ?_); go_must (refine ldB ?_)) | ((with_reducible refine tStore ?_); go_must (refine stB ?_; clear M; intro w1 M; (try simp only [setC] at M))) | ((with_reducible refine tBox _ ?_); (refine bxA M ?_; clear M; intro g w1 M))) <;> (try conv => arg 5; simp only [Act.put, List.setIfInBounds_toArray, setC]))
          go_ret
          exact ⟨g, rfl, by rw [e]; exact M.take1⟩
end Go.Proofs.YtidadhbaomieiaaGreat

/- The walk of what enciphers one block. Conditions: lengths. -/
namespace Go.Proofs.YtidadhbaomieiaaGreat
open Go.RowKit Go.TL
set_option maxRecDepth 100000 in
set_option maxHeartbeats 4000000 in
theorem block_c (gc : Nat) (s W b : List UInt8) (w : World) (R : (Chunk.row gc (bs (W ++ s))).ok w) (hW : W.length = 240) (hs : s.length = 256) (hb : b.length = 16) :
    Calls Tryz.prog 150 #[.pointer (some ⟨gc, 0, none⟩), .agg (bs b).toArray] w fun e w' => e = .returned (.agg (bs (blockL s W b)).toArray) ∧ Below w.heap.size w w' := by
  have M := Mem.start [] w
  have hWs : (W ++ s).length = 496 := by rw [List.length_append, hW, hs]
  have hz : (List.replicate 16 (0 : UInt8)).length = 16 := List.length_replicate
  have ha0 : (addL W b 0).length = 16 := by rw [addL_len]; exact hb
  have A0 := fun (w : World) (RR : (Chunk.row gc (bs (W ++ s))).ok w) => add_c gc s W b 0 0 rfl w RR hW hs hb (by omega)
  have BL : blockL s W b = iterN (roundL s W) 14 (addL W b 0) := rfl
  have IV : ∀ n, (iterN (roundL s W) n (addL W b 0)).length = 16 := fun n => iterN_inv _ (fun l => l.length = 16) (fun n x _ => roundL_len s W n x) n _ ha0
  obtain ⟨a0, e0⟩ : ∃ a, a = addL W b 0 := ⟨_, rfl⟩
  rw [← e0] at ha0 A0 BL IV
  obtain ⟨bl, ebl⟩ : ∃ x, x = blockL s W b := ⟨_, rfl⟩
  rw [← ebl] at BL
  rw [← ebl]
  replace A0 := Lib.hid A0
  replace BL := Lib.hid BL
  replace IV := Lib.hid IV
  clear e0 ebl
  go_enter Tryz.func150, Tryz.ntmps150
  go_wp2_with ((first | ((with_reducible refine tBox (some 3) ?_); refine w_box M _ _ rfl rfl _ rfl (bs b) rfl ?_; clear M; intro gb w1 M) | ((with_reducible refine tAlloc (some 4) 234 ?_); refine w_alloc M _ rfl rfl (.agg (Array.replicate 16 (.int .u8 0))) (bs (List.replicate 16 (0 : UInt8))) (by kernel_rfl) rfl ?_; clear M; intro go w1 M) | (go_at_call 178; go_must (refine (A0.out _ (M.stays R)).mono ?_; rintro e w1 ⟨rfl, hb⟩; replace M := M.call hb; clear hb)) | ((with_reducible refine tGuard ?_); first | refine gdS ?_ | (refine gdC ?_ ?_ <;> (intro hgd; rw [hgd]; try (exfalso; simp at hgd; omega)))) | ((with_reducible refine tConv _ 70 9 ?_); go_must (refine cvB ?_)) | ((with_reducible refine tLoad ?_); go_must (refine ldB ?_)) | ((with_reducible refine tStore ?_); go_must (refine stB ?_; clear M; intro w1 M; (try simp only [setC] at M))) | ((with_reducible refine tBox _ ?_); (refine bxA M ?_; clear M; intro g w1 M))) <;> (try conv => arg 5; simp only [Act.put, List.setIfInBounds_toArray, setC]))
  go_loopw [5] (fun kv wr => ∃ n : Nat, n ≤ 14 ∧ kv = .int .i64 ((n : Int) + 1) ∧ Mem [] w wr [.row go (bs (List.replicate 16 0)), .row gb (bs (iterN (roundL s W) n a0))]) (fun kv _ => 15 - (intOf kv).toNat)
  case atStart => exact ⟨0, by omega, rfl, M⟩
  case round =>
    clear M
    obtain ⟨n, hn, rfl, M⟩ := hrel
    have hd := IV.out n
    obtain ⟨d, ed⟩ : ∃ d, d = iterN (roundL s W) n a0 := ⟨_, rfl⟩
    rw [← ed] at M hd
    have ED := Lib.hid ed
    clear ed
    by_cases hlt : n < 14
    · go_wp2_with ((first | ((with_reducible refine tAlloc (some 6) 234 ?_); refine w_alloc M _ rfl rfl (.agg (Array.replicate 16 (.int .u8 0))) (bs (List.replicate 16 (0 : UInt8))) (by kernel_rfl) rfl ?_; clear M; intro gt w1 M) | ((with_reducible refine tGuard ?_); first | refine gdS ?_ | (refine gdC ?_ ?_ <;> (intro hgd; rw [hgd]; try (exfalso; simp at hgd; omega)))) | ((with_reducible refine tConv _ 70 9 ?_); go_must (refine cvB ?_)) | ((with_reducible refine tLoad ?_); go_must (refine ldB ?_)) | ((with_reducible refine tStore ?_); go_must (refine stB ?_; clear M; intro w1 M; (try simp only [setC] at M))) | ((with_reducible refine tBox _ ?_); (refine bxA M ?_; clear M; intro g w1 M))) <;> (try conv => arg 5; simp only [Act.put, List.setIfInBounds_toArray, setC]))
      go_loopw [15] (fun kv wr => ∃ k : Nat, k ≤ 16 ∧ kv = .int .i64 k ∧ Mem [] w wr [.row gt (bs (iterN (subB s d) k (List.replicate 16 0))), .row go (bs (List.replicate 16 0)), .row gb (bs d)]) (fun kv _ => 16 - (intOf kv).toNat)
      case atStart => exact ⟨0, by omega, rfl, M⟩
      case round =>
        clear M
        obtain ⟨k, hk16, rfl, M⟩ := hrel
        have ht : (iterN (subB s d) k (List.replicate 16 0)).length = 16 := by rw [iterN_len _ (fun n s => by unfold subB; rw [List.length_set])]; exact List.length_replicate
        obtain ⟨t, et⟩ : ∃ t, t = iterN (subB s d) k (List.replicate 16 0) := ⟨_, rfl⟩
        rw [← et] at M ht
        have ET := Lib.hid et
        clear et
        by_cases hlt16 : k < 16
        · have hj : (k + 4 * (k % 4)) % 16 < d.length := by omega
          obtain ⟨q, eq⟩ : ∃ q, q = nth d ((k + 4 * (k % 4)) % 16) := ⟨_, rfl⟩
          have hq0 := (I8_bd q).1
          have hq1 := (I8_bd q).2
          have hq2 := I8_toNat q
          have hq3 := q.toNat_lt
          have hq4 : q.toNat < 256 := hq3
          have hd1 : d.getD ((k + 4 * (k % 4)) % 16) 0 = q := eq.symm
          have hd2 : d[(k + 4 * (k % 4)) % 16]?.getD 0 = q := by rw [nth_at', eq]
          have hd3 : d[(k + 4 * (k % 4)) % 16] = q := by rw [nth_at, eq]
          have EQ := Lib.hid eq
          clear eq hq3
          go_wp2_with ((first | ((with_reducible show Code.wp _ (Code.region 9 _ _) _ _ _); go_must (refine region_det [(0, false), (1, false), (2, false), (3, false), (4, false), (5, false), (6, false), (7, false), (8, false), (10, false), (11, false), (9, false), (12, false), (13, false), (14, false), (15, true)] [(21, .int), (22, .int), (20, .int), (23, .int), (24, .int), (19, .ptr)] (by kernel_rfl) (by kernel_rfl) rfl (by kernel_rfl) ?_; replace M := M.drew; simp only [reord, opAt, List.map_cons, List.map_nil, List.getElem?_toArray, List.getElem?_cons_zero, List.getElem?_cons_succ, Option.getD_some])) | ((with_reducible refine tLoad ?_); refine w_at _ _ rfl (by exact ev_tmp rfl) ?_; intro hx; (first | refine w_rowB M R _ _ rfl hx rfl (by decide +kernel) (by first | assumption | omega | (simp; omega)) ?_); clear hx) | ((with_reducible show Seg _ _ _ _); go_must (first | refine Seg.intro ⟨fun h => absurd rfl h, ?_⟩ | refine Seg.intro ⟨fun _ => ixA, ?_⟩ | refine Seg.intro ⟨ndA, atA, ?_⟩)) | ((with_reducible show OnlyN _ _ _ _ _); refine OnlyN.intro (by kernel_rfl) ?_) | ((with_reducible refine tGuard ?_); first | refine gdS ?_ | (refine gdC ?_ ?_ <;> (intro hgd; rw [hgd]; try (exfalso; simp at hgd; omega)))) | ((with_reducible refine tConv _ 70 9 ?_); go_must (refine cvB ?_)) | ((with_reducible refine tLoad ?_); go_must (refine ldB ?_)) | ((with_reducible refine tStore ?_); go_must (refine stB ?_; clear M; intro w1 M; (try simp only [setC] at M))) | ((with_reducible refine tBox _ ?_); (refine bxA M ?_; clear M; intro g w1 M))) <;> (try conv => arg 5; simp only [Act.put, List.setIfInBounds_toArray, setC]))
          rw [show (W ++ s).getD (240 + q.toNat) 0 = nth s q.toNat from nth_out W s 240 _ hW] at M
          go_roundw
          case rel => exact ⟨k + 1, by omega, by go_num, by rw [iterN_succ, ← ET.out]; unfold subB; rw [← EQ.out]; exact M⟩
          case measure => simp [intOf]; omega
        · obtain rfl : k = 16 := by omega
          have e : t = subL s d := ET.out
          have hsl := subL_len s d
          rw [e] at M
          obtain ⟨t', e'⟩ : ∃ t, t = subL s d := ⟨_, rfl⟩
          rw [← e'] at M hsl
          have ER : roundL s W n d = addL W (if n + 1 < 14 then mixL t' else t') (n + 1) := by rw [e']; rfl
          clear e e' ht ET
          have MX := fun w => mix_c t' w hsl
          have AD := fun (m : List UInt8) (hm : m.length = 16) (w : World) (RR : (Chunk.row gc (bs (W ++ s))).ok w) => add_c gc s W m (n + 1) ((n : Int) + 1) (by omega) w RR hW hs hm (by omega)
          by_cases h14 : n + 1 < 14
          · rw [if_pos h14] at ER
            have hml := mixL_len t'
            obtain ⟨m, em⟩ : ∃ m, m = mixL t' := ⟨_, rfl⟩
            rw [← em] at ER MX hml
            replace AD := AD m hml
            have hal : (addL W m (n + 1)).length = 16 := by rw [addL_len]; exact hml
            obtain ⟨a, ea⟩ : ∃ a, a = addL W m (n + 1) := ⟨_, rfl⟩
            rw [← ea] at ER AD hal
            replace ER := Lib.hid fun _ : Unit => ER
            replace MX := Lib.hid MX
            replace AD := Lib.hid AD
            clear ea em
            go_wp2_with ((first | (go_at_call 178; go_must (refine (AD.out _ (M.stays R)).mono ?_; rintro e w1 ⟨rfl, hb⟩; replace M := M.call hb; clear hb)) | (go_at_call 179; go_must (refine (MX.out _).mono ?_; rintro e w1 ⟨rfl, hb⟩; replace M := M.call hb; clear hb)) | ((with_reducible refine tGuard ?_); first | refine gdS ?_ | (refine gdC ?_ ?_ <;> (intro hgd; rw [hgd]; try (exfalso; simp at hgd; omega)))) | ((with_reducible refine tConv _ 70 9 ?_); go_must (refine cvB ?_)) | ((with_reducible refine tLoad ?_); go_must (refine ldB ?_)) | ((with_reducible refine tStore ?_); go_must (refine stB ?_; clear M; intro w1 M; (try simp only [setC] at M))) | ((with_reducible refine tBox _ ?_); (refine bxA M ?_; clear M; intro g w1 M))) <;> (try conv => arg 5; simp only [Act.put, List.setIfInBounds_toArray, setC]))
            go_roundw
            case rel => exact ⟨n + 1, by omega, by go_num, by rw [iterN_succ, ← ED.out, ER.out ()]; exact M.tail⟩
            case measure => simp [intOf]; omega
          · rw [if_neg h14] at ER
            replace AD := AD t' hsl
            have hal : (addL W t' (n + 1)).length = 16 := by rw [addL_len]; exact hsl
            obtain ⟨a, ea⟩ : ∃ a, a = addL W t' (n + 1) := ⟨_, rfl⟩
            rw [← ea] at ER AD hal
            replace ER := Lib.hid fun _ : Unit => ER
            replace AD := Lib.hid AD
            clear ea MX
            go_wp2_with ((first | (go_at_call 178; go_must (refine (AD.out _ (M.stays R)).mono ?_; rintro e w1 ⟨rfl, hb⟩; replace M := M.call hb; clear hb)) | ((with_reducible refine tGuard ?_); first | refine gdS ?_ | (refine gdC ?_ ?_ <;> (intro hgd; rw [hgd]; try (exfalso; simp at hgd; omega)))) | ((with_reducible refine tConv _ 70 9 ?_); go_must (refine cvB ?_)) | ((with_reducible refine tLoad ?_); go_must (refine ldB ?_)) | ((with_reducible refine tStore ?_); go_must (refine stB ?_; clear M; intro w1 M; (try simp only [setC] at M))) | ((with_reducible refine tBox _ ?_); (refine bxA M ?_; clear M; intro g w1 M))) <;> (try conv => arg 5; simp only [Act.put, List.setIfInBounds_toArray, setC]))
            go_roundw
            case rel => exact ⟨n + 1, by omega, by go_num, by rw [iterN_succ, ← ED.out, ER.out ()]; exact M.tail⟩
            case measure => simp [intOf]; omega
    · obtain rfl : n = 14 := by omega
      have e : bl = d := BL.out.trans ED.out.symm
      go_wp2_with ((first | ((with_reducible refine tGuard ?_); first | refine gdS ?_ | (refine gdC ?_ ?_ <;> (intro hgd; rw [hgd]; try (exfalso; simp at hgd; omega)))) | ((with_reducible refine tConv _ 70 9 ?_); go_must (refine cvB ?_)) | ((with_reducible refine tLoad ?_); go_must (refine ldB ?_)) | ((with_reducible refine tStore ?_); go_must (refine stB ?_; clear M; intro w1 M; (try simp only [setC] at M))) | ((with_reducible refine tBox _ ?_); (refine bxA M ?_; clear M; intro g w1 M))) <;> (try conv => arg 5; simp only [Act.put, List.setIfInBounds_toArray, setC]))
      exact bodyPost_ret (results_row rfl _ _ go 0 (bs d) _ rfl (M.ok 0 _ rfl).2.1 Tryz.underlying234 rfl (by rw [bs_length, hd]; kernel_rfl)) rfl ⟨by rw [e], M.below⟩
end Go.Proofs.YtidadhbaomieiaaGreat

/- The walk of aes.Stream. Conditions: lengths. -/
namespace Go
namespace TL
theorem sees_of {w : World} {v : Value} {n : Nat} {l : List UInt8} (h : (Chunk.sl 1 v n (bs l)).ok w) (e : n = l.length) : SeesB w v l := by subst e; exact Own.sees h
theorem nonce_in (nonce : List UInt8) (h : nonce.length = 12) : (List.replicate 16 (0 : UInt8)).take 0 ++ ((((nonce.drop 0).take 12)).take 12 ++ (List.replicate 16 0).drop (0 + 12)) = nonce ++ List.replicate 4 0 := by
  have e : (nonce.take 12).take 12 = nonce := by rw [List.take_take, Nat.min_self, List.take_of_length_le (by omega)]
  rw [List.take_zero, List.nil_append, List.drop_zero, e]; rfl
theorem count_in (nonce big : List UInt8) (h : nonce.length = 12) (hb : big.length = 4) : (nonce ++ List.replicate 4 (0 : UInt8)).take 12 ++ (big.take 4 ++ (nonce ++ List.replicate 4 0).drop (12 + 4)) = nonce ++ big := by
  rw [List.take_left' h, List.take_of_length_le (by omega), List.drop_eq_nil_of_le (by simp; omega), List.append_nil]
end TL
end Go
namespace Go.Proofs.YtidadhbaomieiaaGreat
open Go.RowKit Go.TL
set_option maxRecDepth 100000 in
set_option maxHeartbeats 4000000 in
theorem Stream_c (key nonce text : List UInt8) (w : World) (hk : key.length = 32) (hn : nonce.length = 12) (ht : text.length ≤ 1000000) :
    Calls Tryz.prog 109 #[.agg (bs key).toArray, .agg (bs nonce).toArray, .string (mkS text)] w fun e w' => e = .returned (.string (mkS (streamL key nonce text))) ∧ Below w.heap.size w w' := by
  have M := Mem.start [] w
  have SC := fun w => schedule_c key w hk
  have hs := boxL_len
  have hW := schL_len boxL key hk
  have SL : streamL key nonce text = strN boxL (schL boxL key) nonce ((text.length + 15) / 16) text := rfl
  obtain ⟨W, eW⟩ : ∃ W, W = schL boxL key := ⟨_, rfl⟩
  rw [← eW] at SC hW SL
  obtain ⟨s, es⟩ : ∃ s, s = boxL := ⟨_, rfl⟩
  rw [← es] at SC hs SL
  obtain ⟨r, er⟩ : ∃ r, r = streamL key nonce text := ⟨_, rfl⟩
  rw [← er] at SL
  rw [← er]
  replace SL := Lib.hid fun _ : Unit => SL
  replace SC := Lib.hid SC
  clear eW es er
  obtain ⟨N, eN⟩ : ∃ N, N = text.length := ⟨_, rfl⟩
  have hWs : (W ++ s).length = 496 := by rw [List.length_append, hW, hs]
  have SN : ∀ n, (strN s W nonce n text).length = N := fun n => by rw [strN_len]; exact eN.symm
  replace SN := Lib.hid SN
  go_enter Tryz.func109, Tryz.ntmps109
  go_wp2_with ((first | ((with_reducible refine tBox (some 3) ?_); refine w_box M _ _ rfl rfl _ rfl (bs key) rfl ?_; clear M; intro gk w1 M) | ((with_reducible refine tBox (some 4) ?_); refine w_box M _ _ rfl rfl _ rfl (bs nonce) rfl ?_; clear M; intro gn w1 M) | (go_at_call 148; go_must (refine (SC.out _).mono ?_; rintro e w1 ⟨gc, rfl, MP⟩; replace M := M.join MP; clear MP; simp only [List.cons_append, List.nil_append] at M)) | ((with_reducible refine tConv (some 16) 9 70 ?_); go_must (refine w_bytes M _ _ _ _ rfl rfl rfl Tryz.underlying9 Tryz.underlying70 Tryz.underlying5 (by first | omega | (simp; omega)) ?_; clear M; intro gb capgb w1 hcapgb M)) | ((with_reducible refine tGuard ?_); first | refine gdS ?_ | (refine gdC ?_ ?_ <;> (intro hgd; rw [hgd]; try (exfalso; simp at hgd; omega)))) | ((with_reducible refine tConv _ 70 9 ?_); go_must (refine cvB ?_)) | ((with_reducible refine tLoad ?_); go_must (refine ldB ?_)) | ((with_reducible refine tStore ?_); go_must (refine stB ?_; clear M; intro w1 M; (try simp only [setC] at M))) | ((with_reducible refine tBox _ ?_); (refine bxA M ?_; clear M; intro g w1 M))) <;> (try conv => arg 5; simp only [Act.put, List.setIfInBounds_toArray, setC]))
  rw [← eN] at M
  rw [← eN]
  have hc2 : N ≤ capgb := by omega
  have hN : N ≤ 1000000 := by omega
  replace eN := Lib.hid fun _ : Unit => eN
  clear ht
  clear hcapgb
  go_loopw [9] (fun kv wr => ∃ n : Nat, 16 * n < N + 16 ∧ kv = .int .i64 (16 * (n : Int)) ∧ Mem [] w wr [.sl 1 (.slice (some ⟨gb, 0, none⟩) N capgb) N (bs (strN s W nonce n text)), .row gc (bs (W ++ s)), .row gn (bs nonce), .row gk (bs key)]) (fun kv _ => N + 16 - (intOf kv).toNat)
  case atStart => exact ⟨0, by omega, rfl, M⟩
  case round =>
    clear M
    obtain ⟨n, hn16, rfl, M⟩ := hrel
    have hd := SN.out n
    obtain ⟨d, ed⟩ : ∃ d, d = strN s W nonce n text := ⟨_, rfl⟩
    rw [← ed] at M hd
    have ED := Lib.hid fun _ : Unit => ed
    clear ed
    by_cases hlt : 16 * n < N
    · have hI : (16 * (n : Int)) < (N : Int) := by omega
      have SE : strB s W nonce n d = iterN (xorB (blockL s W (nonce ++ bigB (UInt64.ofNat n) 4)) (16 * n)) (min 16 (d.length - 16 * n)) d := rfl
      have hbig := bigB_length (UInt64.ofNat n) 4
      have CI := count_in nonce (bigB (UInt64.ofNat n) 4) hn hbig
      have AP := fun (w : World) hok => aesPutc (.slice none 0 0) [] (UInt64.ofNat n) 4 w hok (by omega) (by simp)
      rw [List.nil_append] at AP
      obtain ⟨big, ebig⟩ : ∃ b, b = bigB (UInt64.ofNat n) 4 := ⟨_, rfl⟩
      rw [← ebig] at SE hbig CI AP
      rw [hbig] at AP
      clear ebig
      have BC := fun (w : World) RR => block_c gc s W (nonce ++ big) w RR hW hs (by rw [List.length_append, hn, hbig])
      have hol := blockL_len s W (nonce ++ big) (by rw [List.length_append, hn, hbig])
      obtain ⟨o, eo⟩ : ∃ o, o = blockL s W (nonce ++ big) := ⟨_, rfl⟩
      rw [← eo] at SE BC hol
      clear eo
      have NI := nonce_in nonce hn
      have hin1 : (nonce ++ List.replicate 4 (0 : UInt8)).length = 16 := by simp [hn]
      have hin2 : (nonce ++ big).length = 16 := by rw [List.length_append, hn, hbig]
      replace SE := Lib.hid fun _ : Unit => SE
      replace CI := Lib.hid fun _ : Unit => CI
      replace NI := Lib.hid fun _ : Unit => NI
      replace AP := Lib.hid AP
      replace BC := Lib.hid BC
      have hz : (List.replicate 16 (0 : UInt8)).length = 16 := List.length_replicate
      have hq : (16 * (n : Int)) / 16 = n := by omega
      go_wp2_with ((first | ((with_reducible refine tAlloc (some 10) 234 ?_); refine w_alloc M _ rfl rfl (.agg (Array.replicate 16 (.int .u8 0))) (bs (List.replicate 16 (0 : UInt8))) (by kernel_rfl) rfl ?_; clear M; intro gi w1 M) | ((with_reducible show Code.wp _ (Code.region 7 _ _) _ _ _); go_must (refine region_det [(0, false), (1, false), (2, true)] [] (by kernel_rfl) (by kernel_rfl) rfl (by kernel_rfl) ?_; replace M := M.drew; simp only [reord, opAt, List.map_cons, List.map_nil, List.getElem?_toArray, List.getElem?_cons_zero, List.getElem?_cons_succ, Option.getD_some])) | ((with_reducible show Code.wp _ (Code.region 8 _ _) _ _ _); go_must (refine region_det [(0, false), (1, false), (2, false), (3, false), (4, true), (5, true)] [(27, .int), (28, .int)] (by kernel_rfl) (by kernel_rfl) rfl (by kernel_rfl) ?_; replace M := M.drew; simp only [reord, opAt, List.map_cons, List.map_nil, List.getElem?_toArray, List.getElem?_cons_zero, List.getElem?_cons_succ, Option.getD_some])) | ((with_reducible show wpList _ _ _ (Oper.mk _ (Op.call ⟨Callee.builtin Builtin.copy, _, _⟩) _ _ _ _ :: _) _ _); go_must (first | (refine w_copyB M 0 bytesT _ _ _ rfl rfl rfl rfl rfl (row_sees (M.ok 3 _ rfl) (by omega) (Nat.le_refl _) (by simp only [maxLen]; omega)) 12 (by simp; omega) (by omega) ?_; clear M; intro w1 M; simp only [List.set_cons_zero] at M; rw [NI.out ()] at M) | (refine w_copyB M 1 bytesT _ _ _ rfl rfl rfl rfl rfl (sees_of (M.ok 0 _ rfl) hbig.symm) 4 (by omega) (by omega) ?_; clear M; intro w1 M; simp only [List.set_cons_succ, List.set_cons_zero] at M; rw [CI.out ()] at M; replace M := M.tail))) | (go_at_call 149; go_must (replace M := M.nil 1; refine (AP.out _ (M.ok 0 _ rfl)).mono ?_; rintro e w1 ⟨p, c, rfl, U⟩; replace M := M.upd 0 rfl U; clear U; simp only [List.set_cons_zero] at M)) | (go_at_call 150; go_must (refine (BC.out _ (M.ok 2 _ rfl)).mono ?_; rintro e w1 ⟨rfl, hb⟩; replace M := M.call hb; clear hb)) | ((with_reducible refine tAlloc (some 11) 234 ?_); refine w_alloc M _ rfl rfl (.agg (Array.replicate 16 (.int .u8 0))) (bs (List.replicate 16 (0 : UInt8))) (by kernel_rfl) rfl ?_; clear M; intro go w1 M) | ((with_reducible show Seg _ _ _ _); go_must (first | refine Seg.intro ⟨fun h => absurd rfl h, ?_⟩ | refine Seg.intro ⟨fun _ => ixA, ?_⟩ | refine Seg.intro ⟨ndA, atA, ?_⟩)) | ((with_reducible show OnlyN _ _ _ _ _); refine OnlyN.intro (by kernel_rfl) ?_) | ((with_reducible refine tGuard ?_); first | refine gdS ?_ | (refine gdC ?_ ?_ <;> (intro hgd; rw [hgd]; try (exfalso; simp at hgd; omega)))) | ((with_reducible refine tConv _ 70 9 ?_); go_must (refine cvB ?_)) | ((with_reducible refine tLoad ?_); go_must (refine ldB ?_)) | ((with_reducible refine tStore ?_); go_must (refine stB ?_; clear M; intro w1 M; (try simp only [setC] at M))) | ((with_reducible refine tBox _ ?_); (refine bxA M ?_; clear M; intro g w1 M))) <;> (try conv => arg 5; simp only [Act.put, List.setIfInBounds_toArray, setC]))
      all_goals
        obtain ⟨c', hc1, hc3, hc4, hc5, hc7⟩ : ∃ c' : Nat, c' = min 16 (N - 16 * n) ∧ 16 * n + c' ≤ N ∧ c' ≤ 16 ∧ (16 * (n : Int) + 16 ≤ N → c' = 16) ∧ (N ≤ 16 * n + c' ∨ c' = 16) := ⟨_, rfl, by omega, by omega, by omega, by omega⟩
        replace SE := SE.out ()
        rw [hd, ← hc1] at SE
        replace SE := Lib.hid fun _ : Unit => SE
        clear hc1
        go_loopw [40] (fun kv wr => ∃ k : Nat, k ≤ c' ∧ kv = .int .i64 k ∧ Mem [] w wr [.row go (bs o), .row gi (bs (nonce ++ big)), .sl 1 (.slice (some ⟨gb, 0, none⟩) N capgb) N (bs (iterN (xorB o (16 * n)) k d)), .row gc (bs (W ++ s)), .row gn (bs nonce), .row gk (bs key)]) (fun kv _ => c' - (intOf kv).toNat)
        case atStart => exact ⟨0, by omega, rfl, M⟩
        case round =>
          clear M
          obtain ⟨k, hkc, rfl, M⟩ := hrel
          have hx := iterN_len _ (xorB_len o (16 * n)) k d
          obtain ⟨x, ex⟩ : ∃ x, x = iterN (xorB o (16 * n)) k d := ⟨_, rfl⟩
          rw [← ex] at M hx
          rw [hd] at hx
          have EX := Lib.hid fun _ : Unit => ex
          clear ex
          by_cases hltk : k < c'
          · have hb1 : (k : Int) < 16 := by omega
            have hb2 : (k : Int) < N - 16 * n := by omega
            go_wp2_with ((first | ((with_reducible show Code.wp _ (Code.region 13 _ _) _ _ _); go_must (refine region_det [(0, false), (1, false), (2, false), (3, false), (4, false), (6, false), (7, false), (5, false), (8, false), (9, false), (10, false), (11, true)] [(44, .int), (45, .int), (48, .int), (51, .int)] (by kernel_rfl) (by kernel_rfl) rfl (by kernel_rfl) ?_; replace M := M.drew; simp only [reord, opAt, List.map_cons, List.map_nil, List.getElem?_toArray, List.getElem?_cons_zero, List.getElem?_cons_succ, Option.getD_some])) | ((with_reducible show wpList _ _ _ (Oper.mk _ (Op.load _ _) _ _ _ _ :: _) _ _); refine w_at _ _ rfl (by first | exact ev_tmp rfl | exact ev_const) ?_; intro hx; refine w_slB M 2 _ _ rfl rfl hx rfl (by decide +kernel) (16 * n + k) (by first | rfl | omega) (by omega) ?_; clear hx) | ((with_reducible show wpList _ _ _ (Oper.mk _ (Op.store _ _ _) _ _ _ _ :: _) _ _); refine w_at2 _ _ _ rfl (by first | exact ev_tmp rfl | exact ev_const) (by first | exact ev_tmp rfl | exact ev_const) ?_; intro hx hy; refine w_slSetB M 2 _ _ _ rfl rfl hx rfl hy (by decide +kernel) (16 * n + k) (by first | rfl | omega) (by omega) ?_; clear hx hy M; intro w1 M; simp only [List.set_cons_succ, List.set_cons_zero] at M) | ((with_reducible show Seg _ _ _ _); go_must (first | refine Seg.intro ⟨fun h => absurd rfl h, ?_⟩ | refine Seg.intro ⟨fun _ => ixA, ?_⟩ | refine Seg.intro ⟨ndA, atA, ?_⟩)) | ((with_reducible show OnlyN _ _ _ _ _); refine OnlyN.intro (by kernel_rfl) ?_) | ((with_reducible refine tGuard ?_); first | refine gdS ?_ | (refine gdC ?_ ?_ <;> (intro hgd; rw [hgd]; try (exfalso; simp at hgd; omega)))) | ((with_reducible refine tConv _ 70 9 ?_); go_must (refine cvB ?_)) | ((with_reducible refine tLoad ?_); go_must (refine ldB ?_)) | ((with_reducible refine tStore ?_); go_must (refine stB ?_; clear M; intro w1 M; (try simp only [setC] at M))) | ((with_reducible refine tBox _ ?_); (refine bxA M ?_; clear M; intro g w1 M))) <;> (try conv => arg 5; simp only [Act.put, List.setIfInBounds_toArray, setC]))
            rw [nth_at' x, nth_at' o] at M
            go_roundw
            case rel => exact ⟨k + 1, by omega, by go_num, by rw [iterN_succ, ← EX.out ()]; exact M⟩
            case measure => simp [intOf]; omega
          · obtain rfl : k = c' := by omega
            have eB : x = strB s W nonce n d := (EX.out ()).trans (SE.out ()).symm
            have eN1 : strN s W nonce (n + 1) text = x := by rw [eB, ED.out ()]; rfl
            replace eN1 := Lib.hid fun _ : Unit => eN1
            clear eB EX SE
            go_wp2_with ((first | ((with_reducible refine tGuard ?_); first | refine gdS ?_ | (refine gdC ?_ ?_ <;> (intro hgd; rw [hgd]; try (exfalso; simp at hgd; omega)))) | ((with_reducible refine tConv _ 70 9 ?_); go_must (refine cvB ?_)) | ((with_reducible refine tLoad ?_); go_must (refine ldB ?_)) | ((with_reducible refine tStore ?_); go_must (refine stB ?_; clear M; intro w1 M; (try simp only [setC] at M))) | ((with_reducible refine tBox _ ?_); (refine bxA M ?_; clear M; intro g w1 M))) <;> (try conv => arg 5; simp only [Act.put, List.setIfInBounds_toArray, setC]))
            go_roundw
            case rel => exact ⟨n + 1, by omega, by go_num, by rw [eN1.out ()]; exact M.tail.tail⟩
            case measure => simp [intOf]; omega
    · have eR : r = d := by
        rw [SL.out (), ED.out (), ← eN.out (), show (N + 15) / 16 = n by omega]
      replace eR := Lib.hid fun _ : Unit => eR
      go_wp2_with ((first | ((with_reducible show wpList _ _ _ (Oper.mk _ (Op.convert _ _ _) _ _ _ _ :: _) _ _); go_must (refine w_string M 0 _ _ _ _ rfl rfl rfl hd.symm rfl Tryz.underlying70 Tryz.underlying5 Tryz.underlying9 ?_)) | ((with_reducible refine tGuard ?_); first | refine gdS ?_ | (refine gdC ?_ ?_ <;> (intro hgd; rw [hgd]; try (exfalso; simp at hgd; omega)))) | ((with_reducible refine tConv _ 70 9 ?_); go_must (refine cvB ?_)) | ((with_reducible refine tLoad ?_); go_must (refine ldB ?_)) | ((with_reducible refine tStore ?_); go_must (refine stB ?_; clear M; intro w1 M; (try simp only [setC] at M))) | ((with_reducible refine tBox _ ?_); (refine bxA M ?_; clear M; intro g w1 M))) <;> (try conv => arg 5; simp only [Act.put, List.setIfInBounds_toArray, setC]))
      go_ret
      exact ⟨congrArg (fun x => Ending.returned (.string (mkS x))) (eR.out ()).symm, M.below⟩
end Go.Proofs.YtidadhbaomieiaaGreat

/- Plain laws of layer 1 (pack): a number's bytes, seven bits in each, and how they are read. No program in this text. Conditions: numbers below 2^64. -/
namespace Go
namespace TL
/-- A number's bytes. -/
def numL (n : Nat) : List UInt8 := if n < 128 then [UInt8.ofNat n] else UInt8.ofNat (n % 128 + 128) :: numL (n / 128)
termination_by n
decreasing_by omega
theorem numL_small {n : Nat} (h : n < 128) : numL n = [UInt8.ofNat n] := by rw [numL, if_pos h]
theorem numL_big {n : Nat} (h : 128 ≤ n) : numL n = UInt8.ofNat (n % 128 + 128) :: numL (n / 128) := by rw [numL, if_neg (by omega)]
theorem numL_pos (n : Nat) : 0 < (numL n).length := by
  by_cases h : n < 128
  · rw [numL_small h]; exact Nat.one_pos
  · rw [numL_big (by omega)]; simp
theorem bitLenAux_zero : ∀ f, Lib.bitLenAux f 0 = 0
  | 0 => rfl
  | _ + 1 => rfl
theorem bitLenAux_log : ∀ (f x : Nat), x ≠ 0 → x < 2 ^ f → Lib.bitLenAux f x = Nat.log2 x + 1
  | 0, x, h0, h => by simp at h; omega
  | f + 1, x, h0, h => by
    rw [Lib.bitLenAux, if_neg h0, Nat.log2_def]
    by_cases h2 : 2 ≤ x
    · rw [if_pos h2, bitLenAux_log f (x / 2) (by omega) (by rw [Nat.pow_succ] at h; omega)]; omega
    · rw [if_neg h2, show x / 2 = 0 by omega, bitLenAux_zero]
theorem log2_div128 {n : Nat} (h : 128 ≤ n) : Nat.log2 n = Nat.log2 (n / 128) + 7 := by
  have e : ∀ m : Nat, 2 ≤ m → Nat.log2 m = Nat.log2 (m / 2) + 1 := fun m hm => by rw [Nat.log2_def, if_pos hm]
  rw [e n (by omega), e (n / 2) (by omega), e (n / 2 / 2) (by omega), e (n / 2 / 2 / 2) (by omega), e (n / 2 / 2 / 2 / 2) (by omega), e (n / 2 / 2 / 2 / 2 / 2) (by omega), e (n / 2 / 2 / 2 / 2 / 2 / 2) (by omega)]
  simp only [Nat.div_div_eq_div_mul]
theorem numL_length (n : Nat) : (numL n).length = if n = 0 then 1 else Nat.log2 n / 7 + 1 := by
  induction n using Nat.strongRecOn with
  | ind n ih =>
    by_cases h : n < 128
    · rw [numL_small h]
      by_cases h0 : n = 0
      · rw [if_pos h0]; rfl
      · rw [if_neg h0]
        have : Nat.log2 n < 7 := (Nat.log2_lt h0).2 (by omega)
        simp; omega
    · rw [numL_big (by omega), List.length_cons, ih (n / 128) (by omega), if_neg (by omega), if_neg (by omega), log2_div128 (n := n) (by omega)]
      omega
/-- The program's size. -/
theorem size_eq (n : Nat) (h : n < 18446744073709551616) : max 1 ((Lib.bitLen n + 6) / 7) = (numL n).length := by
  rw [numL_length]
  by_cases h0 : n = 0
  · subst h0; rfl
  · rw [if_neg h0, Lib.bitLen, bitLenAux_log 64 n h0 h]; omega
theorem numL_length_le (n : Nat) (h : n < 18446744073709551616) : (numL n).length ≤ 10 := by
  rw [numL_length]
  split
  · omega
  · rename_i h0
    have : Nat.log2 n < 64 := (Nat.log2_lt h0).2 (by omega)
    omega
/-! ### Reading -/
/-- How many bytes at the beginning say that another one follows. -/
def lead : List UInt8 → Nat
  | [] => 0
  | b :: l => if b.toNat < 128 then 0 else lead l + 1
/-- What bytes of seven bits tell, the lowest first. -/
def numV : List UInt8 → Nat
  | [] => 0
  | b :: l => b.toNat % 128 + 128 * numV l
/-- A number's reading: the number, how many bytes, the error. -/
def readN (s : List UInt8) (most : Nat) : Nat × Nat × Nat :=
  if 10 ≤ lead s then (0, 0, 8) else if s.length ≤ lead s then (0, 0, 7) else if lead s = 9 ∧ 1 < (s.getD 9 0).toNat then (0, 0, 8)
  else if 0 < lead s ∧ (s.getD (lead s) 0).toNat = 0 then (0, 0, 8)
  else if most < numV (s.take (lead s + 1)) then (0, 0, 8) else (numV (s.take (lead s + 1)), lead s + 1, 0)
theorem lead_le : ∀ s, lead s ≤ s.length
  | [] => Nat.le_refl _
  | b :: l => by rw [lead]; split <;> have := lead_le l <;> simp <;> omega
theorem ofNat_toNat {n : Nat} (h : n < 256) : (UInt8.ofNat n).toNat = n := by simp [UInt8.toNat_ofNat']; omega
theorem lead_numL (n : Nat) (r : List UInt8) : lead (numL n ++ r) + 1 = (numL n).length := by
  induction n using Nat.strongRecOn with
  | ind n ih =>
    by_cases h : n < 128
    · rw [numL_small h]; simp only [List.cons_append, List.nil_append, lead]; rw [if_pos (by rw [ofNat_toNat (by omega)]; exact h)]; rfl
    · rw [numL_big (by omega)]; simp only [List.cons_append, lead]
      rw [if_neg (by rw [ofNat_toNat (by omega)]; omega), ih (n / 128) (by omega)]; rfl
theorem numV_numL (n : Nat) : numV (numL n) = n := by
  induction n using Nat.strongRecOn with
  | ind n ih =>
    by_cases h : n < 128
    · rw [numL_small h]; simp only [numV]; rw [ofNat_toNat (by omega)]; omega
    · rw [numL_big (by omega)]; simp only [numV]; rw [ih (n / 128) (by omega), ofNat_toNat (by omega)]; omega
theorem numL_inj {a b : Nat} (h : numL a = numL b) : a = b := by rw [← numV_numL a, h, numV_numL]
/-- The last byte is below 128, and is no nought if there are others. -/
theorem numL_last (n : Nat) (r : List UInt8) : ((numL n ++ r).getD (lead (numL n ++ r)) 0).toNat < 128 ∧ (0 < lead (numL n ++ r) → 0 < ((numL n ++ r).getD (lead (numL n ++ r)) 0).toNat) := by
  induction n using Nat.strongRecOn with
  | ind n ih =>
    by_cases h : n < 128
    · rw [numL_small h]; simp only [List.cons_append, List.nil_append, lead]; rw [if_pos (by rw [ofNat_toNat (by omega)]; exact h)]
      simp only [List.getD_cons_zero]; rw [ofNat_toNat (by omega)]; omega
    · rw [numL_big (by omega)]; simp only [List.cons_append, lead]
      rw [if_neg (by rw [ofNat_toNat (by omega)]; omega)]; simp only [List.getD_cons_succ]
      refine ⟨(ih (n / 128) (by omega)).1, fun _ => ?_⟩
      by_cases h2 : n / 128 < 128
      · have e : numL (n / 128) = [UInt8.ofNat (n / 128)] := numL_small h2
        rw [e]; simp only [List.cons_append, List.nil_append, lead]; rw [if_pos (by rw [ofNat_toNat (by omega)]; exact h2)]
        simp only [List.getD_cons_zero]; rw [ofNat_toNat (by omega)]; omega
      · refine (ih (n / 128) (by omega)).2 ?_
        have := lead_numL (n / 128) r
        have : (numL (n / 128)).length = (numL (n / 128 / 128)).length + 1 := by rw [numL_big (by omega)]; rfl
        have := numL_pos (n / 128 / 128)
        omega
theorem take_numL (n : Nat) (r : List UInt8) : (numL n ++ r).take (lead (numL n ++ r) + 1) = numL n := by
  rw [lead_numL, List.take_left]
/-- The tenth byte of a number below 2^64 is at most 1. -/
theorem numL_ten (n : Nat) (r : List UInt8) (k : Nat) (hk : lead (numL n ++ r) = k) : ((numL n ++ r).getD k 0).toNat * 128 ^ k ≤ n := by
  induction n using Nat.strongRecOn generalizing k with
  | ind n ih =>
    by_cases h : n < 128
    · rw [numL_small h] at hk ⊢; simp only [List.cons_append, List.nil_append, lead] at hk ⊢; rw [if_pos (by rw [ofNat_toNat (by omega)]; exact h)] at hk
      subst hk
      simp only [List.getD_cons_zero]; rw [ofNat_toNat (by omega)]; omega
    · rw [numL_big (by omega)] at hk ⊢; simp only [List.cons_append, lead] at hk ⊢
      rw [if_neg (by rw [ofNat_toNat (by omega)]; omega)] at hk
      subst hk
      simp only [List.getD_cons_succ]
      have := ih (n / 128) (by omega) _ rfl
      rw [Nat.pow_succ, ← Nat.mul_assoc]; omega
theorem read_num (n most : Nat) (r : List UInt8) (h : n < 18446744073709551616) : readN (numL n ++ r) most = if most < n then (0, 0, 8) else (n, (numL n).length, 0) := by
  have h1 := lead_numL n r
  have h2 := numL_length_le n h
  obtain ⟨h3, h4⟩ := numL_last n r
  unfold readN
  rw [if_neg (by omega), if_neg (by simp; omega), if_neg, if_neg (by rintro ⟨a, b⟩; have := h4 a; omega), take_numL, numV_numL, h1]
  rintro ⟨a, b⟩
  have := numL_ten n r 9 a
  omega
theorem toNat_lt' (b : UInt8) : b.toNat < 256 := b.toNat_lt
theorem ofNat_toNat' (b : UInt8) : UInt8.ofNat b.toNat = b := UInt8.ofNat_toNat
theorem numV_ge : ∀ s : List UInt8, lead s < s.length → (s.getD (lead s) 0).toNat * 128 ^ lead s ≤ numV (s.take (lead s + 1)) ∧ numV (s.take (lead s + 1)) < ((s.getD (lead s) 0).toNat + 1) * 128 ^ lead s
  | [], h => by simp at h
  | b :: l, h => by
    by_cases hb : b.toNat < 128
    · have e : lead (b :: l) = 0 := by rw [lead, if_pos hb]
      rw [e]; simp [numV]; omega
    · have e : lead (b :: l) = lead l + 1 := by rw [lead, if_neg hb]
      rw [e] at h ⊢
      have ih := numV_ge l (by simpa using h)
      simp only [List.getD_cons_succ, List.take_succ_cons, numV]
      obtain ⟨i1, i2⟩ := ih
      have := toNat_lt' b
      rw [Nat.pow_succ, ← Nat.mul_assoc, ← Nat.mul_assoc]
      omega
theorem lead_last : ∀ s : List UInt8, lead s < s.length → (s.getD (lead s) 0).toNat < 128
  | [], h => by simp at h
  | b :: l, h => by
    by_cases hb : b.toNat < 128
    · have e : lead (b :: l) = 0 := by rw [lead, if_pos hb]
      rw [e]; simpa using hb
    · have e : lead (b :: l) = lead l + 1 := by rw [lead, if_neg hb]
      rw [e] at h ⊢
      simpa using lead_last l (by simpa using h)
theorem canon : ∀ s : List UInt8, lead s < s.length → (0 < lead s → (s.getD (lead s) 0).toNat ≠ 0) → numL (numV (s.take (lead s + 1))) = s.take (lead s + 1)
  | [], h, _ => by simp at h
  | b :: l, h, hz => by
    by_cases hb : b.toNat < 128
    · have e : lead (b :: l) = 0 := by rw [lead, if_pos hb]
      rw [e]
      simp only [List.take_succ_cons, List.take_zero, numV]
      rw [show b.toNat % 128 + 128 * 0 = b.toNat by omega, numL_small hb, ofNat_toNat']
    · have e : lead (b :: l) = lead l + 1 := by rw [lead, if_neg hb]
      rw [e] at h hz ⊢
      have hl : lead l < l.length := by simpa using h
      have hz' := hz (by omega)
      simp only [List.getD_cons_succ] at hz'
      have ih := canon l hl (fun _ => hz')
      have hv := (numV_ge l hl).1
      have hp : 0 < 128 ^ lead l := Nat.pow_pos (by omega)
      have h1 : 1 * 1 ≤ (l.getD (lead l) 0).toNat * 128 ^ lead l := Nat.mul_le_mul (by omega) hp
      simp only [List.take_succ_cons, numV]
      have := toNat_lt' b
      rw [numL_big (by omega), show (b.toNat % 128 + 128 * numV (l.take (lead l + 1))) / 128 = numV (l.take (lead l + 1)) by omega, ih, show (b.toNat % 128 + 128 * numV (l.take (lead l + 1))) % 128 + 128 = b.toNat by omega, ofNat_toNat']
theorem read_ok {s : List UInt8} {most n k : Nat} (h : readN s most = (n, k, 0)) : s = numL n ++ s.drop k ∧ k = (numL n).length ∧ n ≤ most ∧ n < 18446744073709551616 := by
  unfold readN at h
  split at h
  · simp at h
  split at h
  · simp at h
  split at h
  · simp at h
  split at h
  · simp at h
  split at h
  · simp at h
  rename_i h1 h2 h3 h4 h5
  simp only [Prod.mk.injEq, and_true] at h
  obtain ⟨rfl, rfl⟩ := h
  have c := canon s (by omega) (fun h => fun e => h4 ⟨h, e⟩)
  rw [c]
  refine ⟨by rw [List.take_append_drop], by simp; omega, by omega, ?_⟩
  have v := (numV_ge s (by omega)).2
  have l := lead_last s (by omega)
  by_cases h9 : lead s = 9
  · rw [h9] at v ⊢
    have : (s.getD 9 0).toNat ≤ 1 := by omega
    have : ((s.getD 9 0).toNat + 1) * 128 ^ 9 ≤ 2 * 128 ^ 9 := Nat.mul_le_mul_right _ (by omega)
    omega
  · have h8 : 128 ^ lead s ≤ 128 ^ 8 := Nat.pow_le_pow_right (by omega) (by omega)
    have : ((s.getD (lead s) 0).toNat + 1) * 128 ^ lead s ≤ 128 * 128 ^ 8 := Nat.mul_le_mul (by omega) h8
    omega
theorem lead_take : ∀ (s : List UInt8) (k : Nat), k ≤ lead s → lead (s.take k) = k
  | _, 0, _ => rfl
  | [], k + 1, h => by simp [lead] at h
  | b :: l, k + 1, h => by
    by_cases hb : b.toNat < 128
    · rw [lead, if_pos hb] at h; omega
    · rw [lead, if_neg hb] at h
      rw [List.take_succ_cons, lead, if_neg hb, lead_take l k (by omega)]
/-- A beginning of a number ends too early. -/
theorem read_short (n most k : Nat) (h : n < 18446744073709551616) (hk : k < (numL n).length) : readN ((numL n).take k) most = (0, 0, 7) := by
  have h1 := lead_numL n []
  rw [List.append_nil] at h1
  have h2 := numL_length_le n h
  have h3 := lead_take (numL n) k (by omega)
  unfold readN
  rw [h3, if_neg (by omega), if_pos (by simp; omega)]
/-- The error of a reading is 0, 7 or 8; with one there is nothing else. -/
theorem read_err (s : List UInt8) (most : Nat) : (readN s most).2.2 = 0 ∨ readN s most = (0, 0, 7) ∨ readN s most = (0, 0, 8) := by
  unfold readN
  split
  · simp
  split
  · simp
  split
  · simp
  split
  · simp
  split
  · simp
  · simp
theorem read_le {s : List UInt8} {most n k e : Nat} (h : readN s most = (n, k, e)) : k ≤ s.length ∧ k ≤ 10 ∧ n ≤ most := by
  by_cases he : e = 0
  · subst he
    obtain ⟨h1, h2, h3, h4⟩ := read_ok h
    have h5 : s.length = (numL n).length + (s.length - k) := by have := congrArg List.length h1; rwa [List.length_append, List.length_drop] at this
    have := numL_length_le n h4
    omega
  · have := read_err s most
    rw [h] at this
    simp at this
    omega
end TL
end Go

/- Plain laws of layer 1's reader (pack.In): its state, and what each method does to it. No program in this text. No conditions but those each lemma names. -/
namespace Go
namespace TL
/-- A number below 2^64, at most. -/
def maxU : Nat := 18446744073709551615
theorem maxU_eq : maxU = 18446744073709551615 := rfl
/-- A text's bytes: its length's, and its own. -/
def textL (t : List UInt8) : List UInt8 := numL t.length ++ t
/-- A reader's state: what is left, how many bytes were read, the error. -/
structure InS where
  rest : List UInt8
  read : Nat
  err : Nat
def InS.fit (x : InS) : Prop := x.read + x.rest.length ≤ 1000000000
/-- Bytes are taken, or an error. -/
def InS.take (x : InS) (k e : Nat) : InS := if e = 0 then ⟨x.rest.drop k, x.read + k, 0⟩ else ⟨x.rest, x.read, e⟩
def InS.most (x : InS) (m : Nat) : Nat × InS := if x.err = 0 then ((readN x.rest m).1, x.take (readN x.rest m).2.1 (readN x.rest m).2.2) else (0, x)
def InS.text (x : InS) (m : Nat) : List UInt8 × InS :=
  if x.err = 0 then
    if (readN x.rest m).2.2 = 0 then
      if (readN x.rest m).1 ≤ x.rest.length - (readN x.rest m).2.1 then ((x.rest.drop (readN x.rest m).2.1).take (readN x.rest m).1, x.take ((readN x.rest m).2.1 + (readN x.rest m).1) 0)
      else ([], x.take 0 7)
    else ([], x.take 0 (readN x.rest m).2.2)
  else ([], x)
def InS.byte (x : InS) : Nat × InS := if x.err = 0 then (match x.rest with | [] => (0, x.take 0 7) | b :: _ => (b.toNat, x.take 1 0)) else (0, x)
/-- How it ends: its error, or that bytes are left. -/
def InS.fin (x : InS) : Nat := if x.err = 0 then (if x.rest.length = 0 then 0 else 8) else x.err
/-- A beginning of a number ends it: its length. -/
theorem numL_len_le : ∀ (k n : Nat), 0 < k → n < 128 ^ k → (numL n).length ≤ k
  | 0, _, h, _ => by omega
  | k + 1, n, _, h => by
    by_cases hn : n < 128
    · rw [numL_small hn]; simp
    · rw [numL_big (by omega), List.length_cons]
      have hk : 0 < k := by
        rcases Nat.eq_zero_or_pos k with rfl | h0
        · simp at h; omega
        · exact h0
      have := numL_len_le k (n / 128) hk (by rw [Nat.pow_succ] at h; omega)
      omega
/-- Whether a number has as many bytes as it was read from. -/
theorem size_canon (s : List UInt8) (h : lead s < s.length) : ((numL (numV (s.take (lead s + 1)))).length = lead s + 1) ↔ ¬ (0 < lead s ∧ (s.getD (lead s) 0).toNat = 0) := by
  constructor
  · rintro h1 ⟨h2, h3⟩
    have hv := (numV_ge s h).2
    rw [h3, Nat.zero_add, Nat.one_mul] at hv
    have := numL_len_le _ _ h2 hv
    omega
  · intro h1
    rw [canon s h fun h2 h3 => h1 ⟨h2, h3⟩]; simp; omega
theorem numV_lt64 {s : List UInt8} (h : lead s < s.length) (h9 : lead s ≤ 9) (ht : lead s = 9 → (s.getD 9 0).toNat ≤ 1) : numV (s.take (lead s + 1)) < 18446744073709551616 := by
  have v := (numV_ge s h).2
  have l := lead_last s h
  by_cases h9 : lead s = 9
  · rw [h9] at v ⊢
    have := ht h9
    have : ((s.getD 9 0).toNat + 1) * 128 ^ 9 ≤ 2 * 128 ^ 9 := Nat.mul_le_mul_right _ (by omega)
    omega
  · have h8 : 128 ^ lead s ≤ 128 ^ 8 := Nat.pow_le_pow_right (by omega) (by omega)
    have : ((s.getD (lead s) 0).toNat + 1) * 128 ^ lead s ≤ 128 * 128 ^ 8 := Nat.mul_le_mul (by omega) h8
    omega
theorem lead_ge : ∀ (s : List UInt8) (k : Nat), k < lead s → 128 ≤ (s.getD k 0).toNat
  | [], k, h => by simp [lead] at h
  | b :: l, k, h => by
    by_cases hb : b.toNat < 128
    · rw [lead, if_pos hb] at h; omega
    · rw [lead, if_neg hb] at h
      cases k with
      | zero => simpa using hb
      | succ k => simpa using lead_ge l k (by omega)
theorem lead_stop (s : List UInt8) (k : Nat) (h : k ≤ lead s) (hb : (s.getD k 0).toNat < 128) : lead s = k := by
  by_cases e : k < lead s
  · have := lead_ge s k e; omega
  · omega
/-- The number's reading, unbounded: pack.number. -/
theorem readN_form (s : List UInt8) (h : 10 ≤ lead s) (m : Nat) : readN s m = (0, 0, 8) := by unfold readN; rw [if_pos h]
theorem readN_short (s : List UInt8) (h : lead s < 10) (h1 : s.length ≤ lead s) (m : Nat) : readN s m = (0, 0, 7) := by unfold readN; rw [if_neg (by omega), if_pos h1]
theorem readN_ten (s : List UInt8) (h : lead s = 9) (h1 : lead s < s.length) (h2 : 1 < (s.getD 9 0).toNat) (m : Nat) : readN s m = (0, 0, 8) := by
  unfold readN; rw [if_neg (by omega), if_neg (by omega), if_pos ⟨h, h2⟩]
theorem readN_zero (s : List UInt8) (h : lead s < 10) (h1 : lead s < s.length) (h2 : 0 < lead s) (h3 : (s.getD (lead s) 0).toNat = 0) (m : Nat) : readN s m = (0, 0, 8) := by
  unfold readN; rw [if_neg (by omega), if_neg (by omega)]
  split
  · rfl
  · rw [if_pos ⟨h2, h3⟩]
theorem readN_val (s : List UInt8) (h : lead s < 10) (h1 : lead s < s.length) (h9 : lead s = 9 → (s.getD 9 0).toNat ≤ 1) (h3 : ¬ (0 < lead s ∧ (s.getD (lead s) 0).toNat = 0)) (m : Nat) :
    readN s m = if m < numV (s.take (lead s + 1)) then (0, 0, 8) else (numV (s.take (lead s + 1)), lead s + 1, 0) := by
  unfold readN; rw [if_neg (by omega), if_neg (by omega), if_neg (by rintro ⟨a, b⟩; have := h9 a; omega), if_neg h3]
theorem readN_max (s : List UInt8) (m : Nat) : readN s m = if (readN s maxU).2.2 = 0 ∧ m < (readN s maxU).1 then (0, 0, 8) else readN s maxU := by
  rw [maxU_eq] at *
  by_cases a : 10 ≤ lead s
  · rw [readN_form s a, readN_form s a]; rfl
  by_cases b : s.length ≤ lead s
  · rw [readN_short s (by omega) b, readN_short s (by omega) b]; rfl
  by_cases c : lead s = 9 ∧ 1 < (s.getD 9 0).toNat
  · rw [readN_ten s c.1 (by omega) c.2, readN_ten s c.1 (by omega) c.2]; rfl
  by_cases d : 0 < lead s ∧ (s.getD (lead s) 0).toNat = 0
  · rw [readN_zero s (by omega) (by omega) d.1 d.2, readN_zero s (by omega) (by omega) d.1 d.2]; rfl
  have h9 : lead s = 9 → (s.getD 9 0).toNat ≤ 1 := fun e => by
    have : ¬ 1 < (s.getD 9 0).toNat := fun h => c ⟨e, h⟩
    omega
  have hv := numV_lt64 (s := s) (by omega) (by omega) h9
  rw [readN_val s (by omega) (by omega) h9 d, readN_val s (by omega) (by omega) h9 d, if_neg (by omega : ¬ 18446744073709551615 < numV (s.take (lead s + 1)))]
  simp
theorem numV_drop : ∀ (s : List UInt8) (i : Nat), i < s.length → numV (s.drop i) = (s.getD i 0).toNat % 128 + 128 * numV (s.drop (i + 1))
  | [], i, h => by simp at h
  | b :: l, 0, _ => by simp [numV]
  | b :: l, i + 1, h => by simpa using numV_drop l i (by simpa using h)
theorem numV_lt (s : List UInt8) : numV s < 128 ^ s.length := by
  induction s with
  | nil => simp [numV]
  | cons b l ih => rw [numV, List.length_cons, Nat.pow_succ]; omega
theorem numV_last : ∀ (n : Nat) (l : List UInt8), l.length = n + 1 → numV l < ((l.getD n 0).toNat % 128 + 1) * 128 ^ n
  | _, [], h => by simp at h
  | 0, [b], _ => by simp [numV]
  | 0, b :: c :: l, h => by simp at h
  | n + 1, b :: l, h => by
    have := numV_last n l (by simpa using h)
    rw [numV, List.getD_cons_succ, Nat.pow_succ, ← Nat.mul_assoc]; omega
theorem numV_drop_lt (s : List UInt8) (hl : lead s < s.length) (h9 : lead s ≤ 9) (ht : lead s = 9 → (s.getD 9 0).toNat ≤ 1) (j : Nat) (hj : 1 ≤ j) : numV ((s.take (lead s + 1)).drop j) < 144115188075855872 := by
  by_cases hjl : j ≤ lead s
  · have e : ((s.take (lead s + 1)).drop j).length = (lead s - j) + 1 := by simp; omega
    have h := numV_last _ _ e
    have g : ((s.take (lead s + 1)).drop j).getD (lead s - j) 0 = s.getD (lead s) 0 := by
      simp only [List.getD_eq_getElem?_getD, List.getElem?_drop, List.getElem?_take]
      rw [show j + (lead s - j) = lead s by omega, if_pos (by omega)]
    rw [g] at h
    by_cases e9 : lead s = 9
    · have h8 : 128 ^ (lead s - j) ≤ 128 ^ 8 := Nat.pow_le_pow_right (by omega) (by omega)
      have t := ht e9
      rw [← e9] at t
      have := Nat.mul_le_mul (show (s.getD (lead s) 0).toNat % 128 + 1 ≤ 2 by omega) h8
      omega
    · have h8 : 128 ^ (lead s - j) ≤ 128 ^ 7 := Nat.pow_le_pow_right (by omega) (by omega)
      have := Nat.mul_le_mul (show (s.getD (lead s) 0).toNat % 128 + 1 ≤ 128 by omega) h8
      omega
  · rw [List.drop_of_length_le (by simp; omega)]; simp [numV]
/-- What pack.number comes to behind its loop. -/
theorem readN_size (s : List UInt8) (h : lead s ≤ 9) (h1 : lead s < s.length) (h9 : lead s = 9 → (s.getD 9 0).toNat ≤ 1) :
    readN s maxU = if (numL (numV (s.take (lead s + 1)))).length = lead s + 1 then (numV (s.take (lead s + 1)), lead s + 1, 0) else (0, 0, 8) := by
  have hc := size_canon s h1
  have hv := numV_lt64 h1 h h9
  by_cases d : 0 < lead s ∧ (s.getD (lead s) 0).toNat = 0
  · rw [readN_zero s (by omega) h1 d.1 d.2, if_neg (fun e => hc.1 e d)]
  · rw [readN_val s (by omega) h1 h9 d, if_pos (hc.2 d), maxU_eq, if_neg (by omega)]
end TL
end Go

/-
  DERIVED: THE SHELF's CONTRACTS AT THIS DUMP, IN PLAIN WORDS (tools/lay-plain.mjs out of 'TryzShelf.lean', which tools/lay-shelf.mjs wrote): THE SAME DECLARATIONS UNDER THE SAME NAMES: 'import', 'namespace', 'open', 'def', 'theorem' AND NOTHING ELSE: no command of the shelf's: FOR A HAND-IN. Each laying: the table of numbers ('.._ren') and one theorem, a field a fact of the dump's own or the kernel's comparison; each contract: ONE APPLICATION.
-/
namespace Go.Proofs
open Go.Shelf
def Tryz.lays137_ren : Go.Shelf.Ren := ⟨fun | 137 => 215 | 217 => 217 | 266 => 221 | n => n, fun | 9 => 9 | 5 => 5 | 3 => 3 | n => n, fun | n => n⟩
theorem Tryz.lays137 : Go.Proofs.Lays.n137 Tryz.prog Tryz.lays137_ren := {
  mixed := by kernel_rfl
  f137 := Tryz.func215.trans (congrArg some (by kernel_rfl))
  f217 := Tryz.func217.trans (congrArg some (by kernel_rfl))
  f266 := Tryz.func221.trans (congrArg some (by kernel_rfl))
  t3 := Tryz.underlying3
  a3 := Tryz.isAgg3
  z3 := Tryz.sizeOf3
  v3 := Tryz.zeroValue3
  t5 := Tryz.underlying5
  a5 := Tryz.isAgg5
  z5 := Tryz.sizeOf5
  v5 := Tryz.zeroValue5
  t9 := Tryz.underlying9
  a9 := Tryz.isAgg9
  z9 := Tryz.sizeOf9
  v9 := Tryz.zeroValue9 }
open Go.RowKit in
/-- strings.IndexByte: "IndexByte returns the index of the first instance of c in s, or -1 if c is not present in s.": IT RETURNS 'Lib.indexByte s c'; the world is as it was. (LAID: no walk: one application.) -/
theorem Tryz.strings_IndexByte (s : ByteArray) (c : Int) (w : World) :
    Calls Tryz.prog 215 #[.string s, .int .u8 c] w fun e w' => e = .returned (.int .i64 (Lib.indexByte s.data.toList c.toNat.toUInt8)) ∧ w' = w := Any.strings_IndexByte Tryz.lays137 s c w
def Tryz.lays129_ren : Go.Shelf.Ren := ⟨fun | 129 => 170 | n => n, fun | 53 => 30 | 3 => 3 | 4 => 4 | 46 => 109 | 5 => 5 | 9 => 9 | n => n, fun | n => n⟩
theorem Tryz.lays129 : Go.Proofs.Lays.n129 Tryz.prog Tryz.lays129_ren := {
  mixed := by kernel_rfl
  f129 := Tryz.func170.trans (congrArg some (by kernel_rfl))
  t3 := Tryz.underlying3
  a3 := Tryz.isAgg3
  z3 := Tryz.sizeOf3
  v3 := Tryz.zeroValue3
  t4 := Tryz.underlying4
  a4 := Tryz.isAgg4
  z4 := Tryz.sizeOf4
  v4 := Tryz.zeroValue4
  t5 := Tryz.underlying5
  a5 := Tryz.isAgg5
  z5 := Tryz.sizeOf5
  v5 := Tryz.zeroValue5
  t9 := Tryz.underlying9
  a9 := Tryz.isAgg9
  z9 := Tryz.sizeOf9
  v9 := Tryz.zeroValue9
  t46 := Tryz.underlying109
  a46 := Tryz.isAgg109
  z46 := Tryz.sizeOf109
  v46 := Tryz.zeroValue109
  t53 := Tryz.underlying30
  a53 := Tryz.isAgg30
  z53 := Tryz.sizeOf30
  v53 := Tryz.zeroValue30 }
/-- bits.Len64: "Len64 returns the minimum number of bits required to represent x; the result is 0 for x == 0.": IT RETURNS 'Lib.bitLen x'; the world is as it was. ('h0', 'h1': x is a uint64.) (LAID: no walk: one application.) -/
theorem Tryz.bits_Len64 (x : Int) (w : World) (h0 : 0 ≤ x) (h1 : x ≤ 18446744073709551615) :
    Calls Tryz.prog 170 #[.int .u64 x] w fun e w' => e = .returned (.int .i64 (Lib.bitLen x.toNat)) ∧ w' = w := Any.bits_Len64 Tryz.lays129 x w h0 h1
def Tryz.lays217_ren : Go.Shelf.Ren := ⟨fun | 217 => 217 | 266 => 221 | n => n, fun | 9 => 9 | 5 => 5 | 3 => 3 | n => n, fun | n => n⟩
theorem Tryz.lays217 : Go.Proofs.Lays.n217 Tryz.prog Tryz.lays217_ren := {
  mixed := by kernel_rfl
  f217 := Tryz.func217.trans (congrArg some (by kernel_rfl))
  f266 := Tryz.func221.trans (congrArg some (by kernel_rfl))
  t3 := Tryz.underlying3
  a3 := Tryz.isAgg3
  z3 := Tryz.sizeOf3
  v3 := Tryz.zeroValue3
  t5 := Tryz.underlying5
  a5 := Tryz.isAgg5
  z5 := Tryz.sizeOf5
  v5 := Tryz.zeroValue5
  t9 := Tryz.underlying9
  a9 := Tryz.isAgg9
  z9 := Tryz.sizeOf9
  v9 := Tryz.zeroValue9 }
open Go.RowKit Go.Lib in
/-- internal/stringslite.IndexByte (what strings.IndexByte calls): IT RETURNS 'Lib.indexByte s c'; the world is as it was. (LAID: no walk: one application.) -/
theorem Tryz.stringslite_IndexByte (s : ByteArray) (c : Int) (w : World) :
    Calls Tryz.prog 217 #[.string s, .int .u8 c] w fun e w' => e = .returned (.int .i64 (Lib.indexByte s.data.toList c.toNat.toUInt8)) ∧ w' = w := Any.stringslite_IndexByte Tryz.lays217 s c w
def Tryz.lays224_ren : Go.Shelf.Ren := ⟨fun | 224 => 219 | n => n, fun | 3 => 3 | n => n, fun | n => n⟩
theorem Tryz.lays224 : Go.Proofs.Lays.n224 Tryz.prog Tryz.lays224_ren := {
  mixed := by kernel_rfl
  f224 := Tryz.func219.trans (congrArg some (by kernel_rfl))
  t3 := Tryz.underlying3
  a3 := Tryz.isAgg3
  z3 := Tryz.sizeOf3
  v3 := Tryz.zeroValue3 }
open Go.RowKit Go.Lib in
/-- internal/bytealg.Cutover: "Cutover reports the number of failures of IndexByte we should tolerate before switching over to Index. n is the number of bytes processed so far.": on amd64: (n + 16) / 8. (LAID: no walk: one application.) -/
theorem Tryz.bytealg_Cutover (n : Int) (h0 : 0 ≤ n) (h1 : n < 4611686018427387904) (w : World) :
    Calls Tryz.prog 219 #[.int .i64 n] w fun e w' => e = .returned (.int .i64 ((n + 16) / 8)) ∧ w' = w := Any.bytealg_Cutover Tryz.lays224 n h0 h1 w
def Tryz.lays314_ren : Go.Shelf.Ren := ⟨fun | 314 => 222 | n => n, fun | 9 => 9 | 51 => 22 | 3 => 3 | 4 => 4 | 5 => 5 | 46 => 109 | n => n, fun | n => n⟩
theorem Tryz.lays314 : Go.Proofs.Lays.n314 Tryz.prog Tryz.lays314_ren := {
  mixed := by kernel_rfl
  f314 := Tryz.func222.trans (congrArg some (by kernel_rfl))
  t3 := Tryz.underlying3
  a3 := Tryz.isAgg3
  z3 := Tryz.sizeOf3
  v3 := Tryz.zeroValue3
  t4 := Tryz.underlying4
  a4 := Tryz.isAgg4
  z4 := Tryz.sizeOf4
  v4 := Tryz.zeroValue4
  t5 := Tryz.underlying5
  a5 := Tryz.isAgg5
  z5 := Tryz.sizeOf5
  v5 := Tryz.zeroValue5
  t9 := Tryz.underlying9
  a9 := Tryz.isAgg9
  z9 := Tryz.sizeOf9
  v9 := Tryz.zeroValue9
  t46 := Tryz.underlying109
  a46 := Tryz.isAgg109
  z46 := Tryz.sizeOf109
  v46 := Tryz.zeroValue109
  t51 := Tryz.underlying22
  a51 := Tryz.isAgg22
  z51 := Tryz.sizeOf22
  v51 := Tryz.zeroValue22 }
open Go.RowKit Go.Lib in
/-- hashStr: "returns the hash and the appropriate multiplicative factor for use in Rabin-Karp algorithm": THE HASH OF ALL OF sep, AND 16777619 ^ len(sep), both in uint32. (LAID: no walk: one application.) -/
theorem Tryz.bytealg_hashStr (sep : ByteArray) (hs : sep.size < 4294967281) (w : World) :
    Calls Tryz.prog 222 #[.string sep] w fun e w' => e = .returned (.tuple #[.int .u32 (RK.H sep.data.toList % 4294967296), .int .u32 (16777619 ^ sep.size % 4294967296)]) ∧ w' = w := Any.bytealg_hashStr Tryz.lays314 sep hs w
def Tryz.lays267_ren : Go.Shelf.Ren := ⟨fun | 267 => 220 | 314 => 222 | n => n, fun | 9 => 9 | 3 => 3 | 146 => 289 | 51 => 22 | 4 => 4 | 5 => 5 | 46 => 109 | n => n, fun | n => n⟩
theorem Tryz.lays267 : Go.Proofs.Lays.n267 Tryz.prog Tryz.lays267_ren := {
  mixed := by kernel_rfl
  f267 := Tryz.func220.trans (congrArg some (by kernel_rfl))
  f314 := Tryz.func222.trans (congrArg some (by kernel_rfl))
  t3 := Tryz.underlying3
  a3 := Tryz.isAgg3
  z3 := Tryz.sizeOf3
  v3 := Tryz.zeroValue3
  t4 := Tryz.underlying4
  a4 := Tryz.isAgg4
  z4 := Tryz.sizeOf4
  v4 := Tryz.zeroValue4
  t5 := Tryz.underlying5
  a5 := Tryz.isAgg5
  z5 := Tryz.sizeOf5
  v5 := Tryz.zeroValue5
  t9 := Tryz.underlying9
  a9 := Tryz.isAgg9
  z9 := Tryz.sizeOf9
  v9 := Tryz.zeroValue9
  t46 := Tryz.underlying109
  a46 := Tryz.isAgg109
  z46 := Tryz.sizeOf109
  v46 := Tryz.zeroValue109
  t51 := Tryz.underlying22
  a51 := Tryz.isAgg22
  z51 := Tryz.sizeOf22
  v51 := Tryz.zeroValue22
  t146 := Tryz.underlying289
  a146 := Tryz.isAgg289
  z146 := Tryz.sizeOf289
  v146 := Tryz.zeroValue289 }
open Go.RowKit Go.Lib in
theorem Tryz.bytealg_IndexRabinKarp (s sep : ByteArray) (h1 : 1 ≤ sep.size) (h2 : sep.size ≤ s.size) (hs : s.size < 4294967281) (w : World) :
    Calls Tryz.prog 220 #[.string s, .string sep] w fun e w' => e = .returned (.int .i64 (Lib.index s.data.toList sep.data.toList)) ∧ w' = w := Any.bytealg_IndexRabinKarp Tryz.lays267 s sep h1 h2 hs w
def Tryz.lays219_ren : Go.Shelf.Ren := ⟨fun | 219 => 216 | 217 => 217 | 225 => 218 | 224 => 219 | 267 => 220 | 266 => 221 | 314 => 222 | n => n, fun | 9 => 9 | 3 => 3 | 4 => 4 | 5 => 5 | 46 => 109 | 146 => 289 | 51 => 22 | n => n, fun | 1 => 0 | n => n⟩
theorem Tryz.lays219 : Go.Proofs.Lays.n219 Tryz.prog Tryz.lays219_ren := {
  mixed := by kernel_rfl
  f217 := Tryz.func217.trans (congrArg some (by kernel_rfl))
  f219 := Tryz.func216.trans (congrArg some (by kernel_rfl))
  f224 := Tryz.func219.trans (congrArg some (by kernel_rfl))
  f225 := Tryz.func218.trans (congrArg some (by kernel_rfl))
  f266 := Tryz.func221.trans (congrArg some (by kernel_rfl))
  f267 := Tryz.func220.trans (congrArg some (by kernel_rfl))
  f314 := Tryz.func222.trans (congrArg some (by kernel_rfl))
  t3 := Tryz.underlying3
  a3 := Tryz.isAgg3
  z3 := Tryz.sizeOf3
  v3 := Tryz.zeroValue3
  t4 := Tryz.underlying4
  a4 := Tryz.isAgg4
  z4 := Tryz.sizeOf4
  v4 := Tryz.zeroValue4
  t5 := Tryz.underlying5
  a5 := Tryz.isAgg5
  z5 := Tryz.sizeOf5
  v5 := Tryz.zeroValue5
  t9 := Tryz.underlying9
  a9 := Tryz.isAgg9
  z9 := Tryz.sizeOf9
  v9 := Tryz.zeroValue9
  t46 := Tryz.underlying109
  a46 := Tryz.isAgg109
  z46 := Tryz.sizeOf109
  v46 := Tryz.zeroValue109
  t51 := Tryz.underlying22
  a51 := Tryz.isAgg22
  z51 := Tryz.sizeOf22
  v51 := Tryz.zeroValue22
  t146 := Tryz.underlying289
  a146 := Tryz.isAgg289
  z146 := Tryz.sizeOf289
  v146 := Tryz.zeroValue289
  g1 := by kernel_rfl }
open Go.RowKit Go.Lib in
/-- internal/stringslite.Index (what strings.Index calls) AT A substr OF ONE BYTE c: IT RETURNS 'Lib.indexByte s c'; the world is as it was. (LAID: no walk: one application.) -/
theorem Tryz.stringslite_Index_one (s : ByteArray) (c : UInt8) (w : World) :
    Calls Tryz.prog 216 #[.string s, .string ⟨#[c]⟩] w fun e w' => e = .returned (.int .i64 (Lib.indexByte s.data.toList c)) ∧ w' = w := Any.stringslite_Index_one Tryz.lays219 s c w
open Go.RowKit Go.Lib in
/-- internal/stringslite.Index (what strings.Index calls) AT A substr OF WHATEVER LENGTH: IT RETURNS 'Lib.index s substr'; the world is as it was. 'm': what internal/bytealg.MaxLen holds: whatever. (LAID: no walk: one application.) -/
theorem Tryz.stringslite_Index (s sub : ByteArray) (m : Int) (w : World) (hs : s.size < 4294967281) (hm : w.cell? ⟨0, 0, none⟩ = some (.int .i64 m)) :
    Calls Tryz.prog 216 #[.string s, .string sub] w fun e w' => e = .returned (.int .i64 (Lib.index s.data.toList sub.data.toList)) ∧ w' = w := Any.stringslite_Index Tryz.lays219 s sub m w hs hm
def Tryz.lays220_ren : Go.Shelf.Ren := ⟨fun | 220 => 214 | 219 => 216 | 217 => 217 | 225 => 218 | 224 => 219 | 267 => 220 | 266 => 221 | 314 => 222 | n => n, fun | 9 => 9 | 4 => 4 | 3 => 3 | 5 => 5 | 46 => 109 | 146 => 289 | 51 => 22 | n => n, fun | 1 => 0 | n => n⟩
theorem Tryz.lays220 : Go.Proofs.Lays.n220 Tryz.prog Tryz.lays220_ren := {
  mixed := by kernel_rfl
  f217 := Tryz.func217.trans (congrArg some (by kernel_rfl))
  f219 := Tryz.func216.trans (congrArg some (by kernel_rfl))
  f220 := Tryz.func214.trans (congrArg some (by kernel_rfl))
  f224 := Tryz.func219.trans (congrArg some (by kernel_rfl))
  f225 := Tryz.func218.trans (congrArg some (by kernel_rfl))
  f266 := Tryz.func221.trans (congrArg some (by kernel_rfl))
  f267 := Tryz.func220.trans (congrArg some (by kernel_rfl))
  f314 := Tryz.func222.trans (congrArg some (by kernel_rfl))
  t3 := Tryz.underlying3
  a3 := Tryz.isAgg3
  z3 := Tryz.sizeOf3
  v3 := Tryz.zeroValue3
  t4 := Tryz.underlying4
  a4 := Tryz.isAgg4
  z4 := Tryz.sizeOf4
  v4 := Tryz.zeroValue4
  t5 := Tryz.underlying5
  a5 := Tryz.isAgg5
  z5 := Tryz.sizeOf5
  v5 := Tryz.zeroValue5
  t9 := Tryz.underlying9
  a9 := Tryz.isAgg9
  z9 := Tryz.sizeOf9
  v9 := Tryz.zeroValue9
  t46 := Tryz.underlying109
  a46 := Tryz.isAgg109
  z46 := Tryz.sizeOf109
  v46 := Tryz.zeroValue109
  t51 := Tryz.underlying22
  a51 := Tryz.isAgg22
  z51 := Tryz.sizeOf22
  v51 := Tryz.zeroValue22
  t146 := Tryz.underlying289
  a146 := Tryz.isAgg289
  z146 := Tryz.sizeOf289
  v146 := Tryz.zeroValue289
  g1 := by kernel_rfl }
open Go.RowKit Go.Lib in
/-- internal/stringslite.Cut (what strings.Cut calls): IT RETURNS 'Lib.cut s sep'; the world is as it was but for the count of draws. (LAID: no walk: one application.) -/
theorem Tryz.stringslite_Cut (s sep : ByteArray) (m : Int) (w : World) (hs : s.size < 4294967281) (hm : w.cell? ⟨0, 0, none⟩ = some (.int .i64 m)) :
    Calls Tryz.prog 214 #[.string s, .string sep] w fun e w' => e = .returned (.tuple #[.string ⟨(Lib.cut s.data.toList sep.data.toList).1.toArray⟩, .string ⟨(Lib.cut s.data.toList sep.data.toList).2.1.toArray⟩, .bool (Lib.cut s.data.toList sep.data.toList).2.2]) ∧ ∃ n, w' = w.drewN n := Any.stringslite_Cut Tryz.lays220 s sep m w hs hm
def Tryz.lays145_ren : Go.Shelf.Ren := ⟨fun | 145 => 211 | 220 => 214 | 219 => 216 | 217 => 217 | 225 => 218 | 224 => 219 | 267 => 220 | 266 => 221 | 314 => 222 | n => n, fun | 9 => 9 | 4 => 4 | 59 => 250 | 3 => 3 | 5 => 5 | 46 => 109 | 146 => 289 | 51 => 22 | n => n, fun | 1 => 0 | n => n⟩
theorem Tryz.lays145 : Go.Proofs.Lays.n145 Tryz.prog Tryz.lays145_ren := {
  mixed := by kernel_rfl
  f145 := Tryz.func211.trans (congrArg some (by kernel_rfl))
  f217 := Tryz.func217.trans (congrArg some (by kernel_rfl))
  f219 := Tryz.func216.trans (congrArg some (by kernel_rfl))
  f220 := Tryz.func214.trans (congrArg some (by kernel_rfl))
  f224 := Tryz.func219.trans (congrArg some (by kernel_rfl))
  f225 := Tryz.func218.trans (congrArg some (by kernel_rfl))
  f266 := Tryz.func221.trans (congrArg some (by kernel_rfl))
  f267 := Tryz.func220.trans (congrArg some (by kernel_rfl))
  f314 := Tryz.func222.trans (congrArg some (by kernel_rfl))
  t3 := Tryz.underlying3
  a3 := Tryz.isAgg3
  z3 := Tryz.sizeOf3
  v3 := Tryz.zeroValue3
  t4 := Tryz.underlying4
  a4 := Tryz.isAgg4
  z4 := Tryz.sizeOf4
  v4 := Tryz.zeroValue4
  t5 := Tryz.underlying5
  a5 := Tryz.isAgg5
  z5 := Tryz.sizeOf5
  v5 := Tryz.zeroValue5
  t9 := Tryz.underlying9
  a9 := Tryz.isAgg9
  z9 := Tryz.sizeOf9
  v9 := Tryz.zeroValue9
  t46 := Tryz.underlying109
  a46 := Tryz.isAgg109
  z46 := Tryz.sizeOf109
  v46 := Tryz.zeroValue109
  t51 := Tryz.underlying22
  a51 := Tryz.isAgg22
  z51 := Tryz.sizeOf22
  v51 := Tryz.zeroValue22
  t59 := Tryz.underlying250
  a59 := Tryz.isAgg250
  z59 := Tryz.sizeOf250
  v59 := Tryz.zeroValue250
  t146 := Tryz.underlying289
  a146 := Tryz.isAgg289
  z146 := Tryz.sizeOf289
  v146 := Tryz.zeroValue289
  g1 := by kernel_rfl }
open Go.RowKit Go.Lib in
/-- strings.Cut: "Cut slices s around the first instance of sep, returning the text before and after sep. The found result reports whether sep appears in s. If sep does not appear in s, cut returns s, "", false.": IT RETURNS 'Lib.cut s sep'; the world is as it was but for the count of draws. (LAID: no walk: one application.) -/
theorem Tryz.strings_Cut (s sep : ByteArray) (m : Int) (w : World) (hs : s.size < 4294967281) (hm : w.cell? ⟨0, 0, none⟩ = some (.int .i64 m)) :
    Calls Tryz.prog 211 #[.string s, .string sep] w fun e w' => e = .returned (.tuple #[.string ⟨(Lib.cut s.data.toList sep.data.toList).1.toArray⟩, .string ⟨(Lib.cut s.data.toList sep.data.toList).2.1.toArray⟩, .bool (Lib.cut s.data.toList sep.data.toList).2.2]) ∧ ∃ n, w' = w.drewN n := Any.strings_Cut Tryz.lays145 s sep m w hs hm
def Tryz.laysM219_ren : Go.Shelf.Ren := ⟨fun | 219 => 216 | 217 => 217 | 225 => 218 | 224 => 219 | 267 => 220 | 266 => 221 | 314 => 222 | n => n, fun | 9 => 9 | 3 => 3 | 4 => 4 | 5 => 5 | 46 => 109 | 146 => 289 | 51 => 22 | n => n, fun | 1 => 0 | n => n⟩
theorem Tryz.laysM219 : Go.Proofs.LaysM.n219 Tryz.prog Tryz.laysM219_ren := {
  mixed := by kernel_rfl
  f217 := Tryz.func217.trans (congrArg some (by kernel_rfl))
  f219 := Tryz.func216.trans (congrArg some (by kernel_rfl))
  f224 := Tryz.func219.trans (congrArg some (by kernel_rfl))
  f225 := Tryz.func218.trans (congrArg some (by kernel_rfl))
  f266 := Tryz.func221.trans (congrArg some (by kernel_rfl))
  f267 := Tryz.func220.trans (congrArg some (by kernel_rfl))
  f314 := Tryz.func222.trans (congrArg some (by kernel_rfl))
  t3 := Tryz.underlying3
  a3 := Tryz.isAgg3
  z3 := Tryz.sizeOf3
  v3 := Tryz.zeroValue3
  t4 := Tryz.underlying4
  a4 := Tryz.isAgg4
  z4 := Tryz.sizeOf4
  v4 := Tryz.zeroValue4
  t5 := Tryz.underlying5
  a5 := Tryz.isAgg5
  z5 := Tryz.sizeOf5
  v5 := Tryz.zeroValue5
  t9 := Tryz.underlying9
  a9 := Tryz.isAgg9
  z9 := Tryz.sizeOf9
  v9 := Tryz.zeroValue9
  t46 := Tryz.underlying109
  a46 := Tryz.isAgg109
  z46 := Tryz.sizeOf109
  v46 := Tryz.zeroValue109
  t51 := Tryz.underlying22
  a51 := Tryz.isAgg22
  z51 := Tryz.sizeOf22
  v51 := Tryz.zeroValue22
  t146 := Tryz.underlying289
  a146 := Tryz.isAgg289
  z146 := Tryz.sizeOf289
  v146 := Tryz.zeroValue289
  g1 := by kernel_rfl
  i3 := by kernel_rfl
  i4 := by kernel_rfl
  i5 := by kernel_rfl
  i9 := by kernel_rfl
  i46 := by kernel_rfl
  i51 := by kernel_rfl
  i146 := by kernel_rfl
  m1 := by kernel_rfl
  s1_3 := fun w h => Go.Proofs.cell_of_shapedOpen_int (zero := #[.int .i64 0]) (t := 3) h (of_decide_eq_true (by kernel_rfl)) (by kernel_rfl) rfl (by kernel_rfl) (by kernel_rfl) Tryz.underlying3 }
open Go.RowKit Go.Lib in
theorem Tryz.stringslite_Index_shaped (s sub : ByteArray) (w : World) (h : w.ShapedOpen Tryz.prog) (hs : s.size < 4294967281) :
    Calls Tryz.prog 216 #[.string s, .string sub] w fun e w' => e = .returned (.int .i64 (Lib.index s.data.toList sub.data.toList)) ∧ w' = w := Any.stringslite_Index_shaped Tryz.laysM219 s sub w h hs
def Tryz.laysM220_ren : Go.Shelf.Ren := ⟨fun | 220 => 214 | 219 => 216 | 217 => 217 | 225 => 218 | 224 => 219 | 267 => 220 | 266 => 221 | 314 => 222 | n => n, fun | 9 => 9 | 4 => 4 | 3 => 3 | 5 => 5 | 46 => 109 | 146 => 289 | 51 => 22 | n => n, fun | 1 => 0 | n => n⟩
theorem Tryz.laysM220 : Go.Proofs.LaysM.n220 Tryz.prog Tryz.laysM220_ren := {
  mixed := by kernel_rfl
  f217 := Tryz.func217.trans (congrArg some (by kernel_rfl))
  f219 := Tryz.func216.trans (congrArg some (by kernel_rfl))
  f220 := Tryz.func214.trans (congrArg some (by kernel_rfl))
  f224 := Tryz.func219.trans (congrArg some (by kernel_rfl))
  f225 := Tryz.func218.trans (congrArg some (by kernel_rfl))
  f266 := Tryz.func221.trans (congrArg some (by kernel_rfl))
  f267 := Tryz.func220.trans (congrArg some (by kernel_rfl))
  f314 := Tryz.func222.trans (congrArg some (by kernel_rfl))
  t3 := Tryz.underlying3
  a3 := Tryz.isAgg3
  z3 := Tryz.sizeOf3
  v3 := Tryz.zeroValue3
  t4 := Tryz.underlying4
  a4 := Tryz.isAgg4
  z4 := Tryz.sizeOf4
  v4 := Tryz.zeroValue4
  t5 := Tryz.underlying5
  a5 := Tryz.isAgg5
  z5 := Tryz.sizeOf5
  v5 := Tryz.zeroValue5
  t9 := Tryz.underlying9
  a9 := Tryz.isAgg9
  z9 := Tryz.sizeOf9
  v9 := Tryz.zeroValue9
  t46 := Tryz.underlying109
  a46 := Tryz.isAgg109
  z46 := Tryz.sizeOf109
  v46 := Tryz.zeroValue109
  t51 := Tryz.underlying22
  a51 := Tryz.isAgg22
  z51 := Tryz.sizeOf22
  v51 := Tryz.zeroValue22
  t146 := Tryz.underlying289
  a146 := Tryz.isAgg289
  z146 := Tryz.sizeOf289
  v146 := Tryz.zeroValue289
  g1 := by kernel_rfl
  i3 := by kernel_rfl
  i4 := by kernel_rfl
  i5 := by kernel_rfl
  i9 := by kernel_rfl
  i46 := by kernel_rfl
  i51 := by kernel_rfl
  i146 := by kernel_rfl
  m1 := by kernel_rfl
  s1_3 := fun w h => Go.Proofs.cell_of_shapedOpen_int (zero := #[.int .i64 0]) (t := 3) h (of_decide_eq_true (by kernel_rfl)) (by kernel_rfl) rfl (by kernel_rfl) (by kernel_rfl) Tryz.underlying3 }
open Go.RowKit Go.Lib in
theorem Tryz.stringslite_Cut_shaped (s sep : ByteArray) (w : World) (h : w.ShapedOpen Tryz.prog) (hs : s.size < 4294967281) :
    Calls Tryz.prog 214 #[.string s, .string sep] w fun e w' => e = .returned (.tuple #[.string ⟨(Lib.cut s.data.toList sep.data.toList).1.toArray⟩, .string ⟨(Lib.cut s.data.toList sep.data.toList).2.1.toArray⟩, .bool (Lib.cut s.data.toList sep.data.toList).2.2]) ∧ ∃ n, w' = w.drewN n := Any.stringslite_Cut_shaped Tryz.laysM220 s sep w h hs
def Tryz.laysM145_ren : Go.Shelf.Ren := ⟨fun | 145 => 211 | 220 => 214 | 219 => 216 | 217 => 217 | 225 => 218 | 224 => 219 | 267 => 220 | 266 => 221 | 314 => 222 | n => n, fun | 9 => 9 | 4 => 4 | 59 => 250 | 3 => 3 | 5 => 5 | 46 => 109 | 146 => 289 | 51 => 22 | n => n, fun | 1 => 0 | n => n⟩
theorem Tryz.laysM145 : Go.Proofs.LaysM.n145 Tryz.prog Tryz.laysM145_ren := {
  mixed := by kernel_rfl
  f145 := Tryz.func211.trans (congrArg some (by kernel_rfl))
  f217 := Tryz.func217.trans (congrArg some (by kernel_rfl))
  f219 := Tryz.func216.trans (congrArg some (by kernel_rfl))
  f220 := Tryz.func214.trans (congrArg some (by kernel_rfl))
  f224 := Tryz.func219.trans (congrArg some (by kernel_rfl))
  f225 := Tryz.func218.trans (congrArg some (by kernel_rfl))
  f266 := Tryz.func221.trans (congrArg some (by kernel_rfl))
  f267 := Tryz.func220.trans (congrArg some (by kernel_rfl))
  f314 := Tryz.func222.trans (congrArg some (by kernel_rfl))
  t3 := Tryz.underlying3
  a3 := Tryz.isAgg3
  z3 := Tryz.sizeOf3
  v3 := Tryz.zeroValue3
  t4 := Tryz.underlying4
  a4 := Tryz.isAgg4
  z4 := Tryz.sizeOf4
  v4 := Tryz.zeroValue4
  t5 := Tryz.underlying5
  a5 := Tryz.isAgg5
  z5 := Tryz.sizeOf5
  v5 := Tryz.zeroValue5
  t9 := Tryz.underlying9
  a9 := Tryz.isAgg9
  z9 := Tryz.sizeOf9
  v9 := Tryz.zeroValue9
  t46 := Tryz.underlying109
  a46 := Tryz.isAgg109
  z46 := Tryz.sizeOf109
  v46 := Tryz.zeroValue109
  t51 := Tryz.underlying22
  a51 := Tryz.isAgg22
  z51 := Tryz.sizeOf22
  v51 := Tryz.zeroValue22
  t59 := Tryz.underlying250
  a59 := Tryz.isAgg250
  z59 := Tryz.sizeOf250
  v59 := Tryz.zeroValue250
  t146 := Tryz.underlying289
  a146 := Tryz.isAgg289
  z146 := Tryz.sizeOf289
  v146 := Tryz.zeroValue289
  g1 := by kernel_rfl
  i3 := by kernel_rfl
  i4 := by kernel_rfl
  i5 := by kernel_rfl
  i9 := by kernel_rfl
  i46 := by kernel_rfl
  i51 := by kernel_rfl
  i59 := by kernel_rfl
  i146 := by kernel_rfl
  m1 := by kernel_rfl
  s1_3 := fun w h => Go.Proofs.cell_of_shapedOpen_int (zero := #[.int .i64 0]) (t := 3) h (of_decide_eq_true (by kernel_rfl)) (by kernel_rfl) rfl (by kernel_rfl) (by kernel_rfl) Tryz.underlying3 }
open Go.RowKit Go.Lib in
theorem Tryz.strings_Cut_shaped (s sep : ByteArray) (w : World) (h : w.ShapedOpen Tryz.prog) (hs : s.size < 4294967281) :
    Calls Tryz.prog 211 #[.string s, .string sep] w fun e w' => e = .returned (.tuple #[.string ⟨(Lib.cut s.data.toList sep.data.toList).1.toArray⟩, .string ⟨(Lib.cut s.data.toList sep.data.toList).2.1.toArray⟩, .bool (Lib.cut s.data.toList sep.data.toList).2.2]) ∧ ∃ n, w' = w.drewN n := Any.strings_Cut_shaped Tryz.laysM145 s sep w h hs
def Tryz.lays264_ren : Go.Shelf.Ren := ⟨fun | 264 => 186 | n => n, fun | 53 => 30 | 46 => 109 | n => n, fun | n => n⟩
theorem Tryz.lays264 : Go.Proofs.Lays.n264 Tryz.prog Tryz.lays264_ren := {
  mixed := by kernel_rfl
  f264 := Tryz.func186.trans (congrArg some (by kernel_rfl))
  t46 := Tryz.underlying109
  a46 := Tryz.isAgg109
  z46 := Tryz.sizeOf109
  v46 := Tryz.zeroValue109
  t53 := Tryz.underlying30
  a53 := Tryz.isAgg30
  z53 := Tryz.sizeOf30
  v53 := Tryz.zeroValue30 }
open Go.RowKit Go.Lib in
theorem Tryz.bits_Mul64 (x y : Nat) (hx : x < 18446744073709551616) (hy : y < 18446744073709551616) (w : World) :
    Calls Tryz.prog 186 #[.int .u64 x, .int .u64 y] w fun e w' => e = .returned (.tuple #[.int .u64 ((x * y / 18446744073709551616 : Nat) : Int), .int .u64 ((x * y % 18446744073709551616 : Nat) : Int)]) ∧ w' = w := Any.bits_Mul64 Tryz.lays264 x y hx hy w
end Go.Proofs

/- The walk of pack.size. Conditions: numbers below 2^64. -/
namespace Go.Proofs.YtidadhbaomieiaaGreat
open Go.RowKit Go.TL
theorem or128 (m : Nat) : UInt8.ofNat m ||| 128 = UInt8.ofNat (m % 128 + 128) := by
  have h : ∀ n : Fin 256, UInt8.ofNat n.1 ||| 128 = UInt8.ofNat (n.1 % 128 + 128) := by decide +kernel
  have e : UInt8.ofNat m = UInt8.ofNat (m % 256) := by apply UInt8.toNat_inj.1; simp
  have := h ⟨m % 256, by omega⟩
  rw [e, this, show m % 256 % 128 = m % 128 by omega]
theorem Len64_c (n : Nat) (w : World) (h : n < 18446744073709551616) :
    Calls Tryz.prog 170 #[.int .u64 n] w fun e w' => e = .returned (.int .i64 (Lib.bitLen n)) ∧ w = w' :=
  (Go.Proofs.Tryz.bits_Len64 n w (by omega) (by omega)).mono fun _ _ ⟨a, b⟩ => ⟨a, b.symm⟩
set_option maxHeartbeats 1000000 in
theorem size_c (n : Nat) (w : World) (h : n < 18446744073709551616) :
    Calls Tryz.prog 137 #[.int .u64 n] w fun e w' => e = .returned (.int .i64 (numL n).length) ∧ w = w' := by
  have hs := size_eq n h
  have hl := numL_length_le n h
  have hp := numL_pos n
  obtain ⟨k, ek⟩ : ∃ k, k = (numL n).length := ⟨_, rfl⟩
  obtain ⟨b, eb⟩ : ∃ b, b = Lib.bitLen n := ⟨_, rfl⟩
  rw [← ek, ← eb] at hs
  rw [← ek] at hl hp ⊢
  have hb : b ≤ 70 := by omega
  have L := Len64_c n w h
  rw [← eb] at L
  obtain ⟨q, eq⟩ : ∃ q, q = (b + 6) / 7 := ⟨_, rfl⟩
  have e1 : ((b : Int) + 7 - 1).tdiv 7 = (q : Int) := by rw [Int.tdiv_eq_ediv_of_nonneg (by omega)]; omega
  rw [← eq] at hs
  by_cases h1 : 1 ≤ q
  all_goals
    go_enter Tryz.func137, Tryz.ntmps137
    go_wp2_with (first | (go_at_call 170; go_must (refine (L).mono ?_; rintro e w1 ⟨rfl, rfl⟩)))
    go_ret
    exact ⟨by first | rfl | (congr; omega) | (simp; omega), rfl⟩
end Go.Proofs.YtidadhbaomieiaaGreat

/- Bytes of texts, in a word that is closed to the walk. No conditions but those each law names. -/
namespace Go
namespace TL
open Go.RowKit
theorem lead_geI {s : List UInt8} {k : Nat} (h : k < lead s) : 128 ≤ I8 (bt s k) := by have := lead_ge s k h; rw [I8_bt]; omega
theorem lead_lastI {s : List UInt8} (h : lead s < s.length) : I8 (bt s (lead s)) < 128 := by have := lead_last s h; rw [I8_bt]; omega
theorem shl_or (n : Nat) (b : UInt8) (h : n < 144115188075855872) : I64 (w64 (n : Int) <<< 7 ||| w64 ((I8 b).tmod 128)) = ((b.toNat % 128 + 128 * n : Nat) : Int) := by
  have hb := I8_bd b
  rw [Int.tmod_eq_emod_of_nonneg hb.1, I8_eq, show ((b.toNat : Int) % 128) = ((b.toNat % 128 : Nat) : Int) by omega, w64_nat, w64_nat, I64_eq, UInt64.toNat_or, UInt64.toNat_shiftLeft]
  have e1 : (UInt64.ofNat n).toNat = n := by rw [UInt64.toNat_ofNat']; omega
  have e2 : (UInt64.ofNat (b.toNat % 128)).toNat = b.toNat % 128 := by rw [UInt64.toNat_ofNat']; omega
  rw [e1, e2]
  have e3 : ((7 : UInt64).toNat % 64) = 7 := rfl
  rw [e3, Nat.mod_eq_of_lt (by rw [Nat.shiftLeft_eq]; omega), ← Nat.shiftLeft_add_eq_or_of_lt (by omega), Nat.shiftLeft_eq]
  omega
theorem I64_nat (n : Nat) (h : n < 18446744073709551616) : I64 (w64 (n : Int)) = (n : Int) := by
  rw [w64_nat, I64_eq, UInt64.toNat_ofNat']; omega
theorem SeesB.of_own {w : World} {v : Value} {n : Nat} {l : List UInt8} (h : (Chunk.sl 1 v n (bs l)).ok w) (hn : n = l.length) : SeesB w v l := by
  subst hn; exact Own.sees h
end TL
end Go

/- The walks of pack.number and pack.bounded. Conditions: lengths. -/
namespace Go.Proofs.YtidadhbaomieiaaGreat
open Go.RowKit Go.TL
set_option maxRecDepth 100000 in
set_option maxHeartbeats 2000000 in
theorem number_c (s : List UInt8) (w : World) (hs : s.length ≤ 1000000000) :
    Calls Tryz.prog 97 #[.string (mkS s)] w fun e w' => e = .returned (.tuple #[.int .u64 (readN s maxU).1, .int .i64 (readN s maxU).2.1, .int .i64 (readN s maxU).2.2]) ∧ w = w' := by
  obtain ⟨R, eR⟩ : ∃ R, R = readN s maxU := ⟨_, rfl⟩
  rw [← eR]
  have ER := Lib.hid eR; clear eR
  obtain ⟨L, eL⟩ : ∃ L, L = lead s := ⟨_, rfl⟩
  have hle : L ≤ s.length := by rw [eL]; exact lead_le s
  have EL := Lib.hid eL; clear eL
  go_enter Tryz.func97, Tryz.ntmps97
  go_wp2_with fail
  go_loop [3] (fun n => ∃ k : Nat, k ≤ L ∧ k ≤ 10 ∧ n = .int .i64 k) (fun n => s.length - (intOf n).toNat)
  case atStart => exact ⟨0, by omega, by omega, rfl⟩
  case round =>
    obtain ⟨k, hk, hk10, rfl⟩ := hrel
    by_cases hlt : k < L ∧ k < 10
    · obtain ⟨h1, h2⟩ := hlt
      have hb : 128 ≤ I8 (bt s k) := lead_geI (by rw [← EL.out]; exact h1)
      have hm : (k : Int) < min (s.length : Int) 10 := by omega
      go_wp2_with fail
      go_round
      case rel => exact ⟨k + 1, by omega, by omega, by go_num⟩
      case measure => simp [intOf]; omega
    · by_cases h10 : k = 10
      · subst h10
        have e : R = (0, 0, 8) := by rw [ER.out]; exact readN_form s (by rw [← EL.out]; omega) _
        subst e
        go_wp2_with fail
        go_ret3
        exact ⟨rfl, rfl⟩
      · have ek : L = k := by omega
        subst ek
        have h9 : L ≤ 9 := by omega
        by_cases hlen : L = s.length
        · have e : R = (0, 0, 7) := by rw [ER.out]; exact readN_short s (by rw [← EL.out]; omega) (by rw [← EL.out]; omega) _
          subst e
          have hm : ((L : Int) < min (s.length : Int) 10) = False := by simp; omega
          have hne : ((L : Int) == 10) = false := by simp; omega
          have heq : ((L : Int) == (s.length : Int)) = true := by simp; omega
          go_wp2_with fail
          go_ret3
          exact ⟨rfl, rfl⟩
        · have hlt' : L < s.length := by omega
          have hb : I8 (bt s L) < 128 := by
            have h2 : lead s < s.length := by rw [← EL.out]; exact hlt'
            have h1 := lead_lastI h2
            rwa [← EL.out] at h1
          have hm : (L : Int) < min (s.length : Int) 10 := by omega
          have hne : ((L : Int) == 10) = false := by simp; omega
          have heq : ((L : Int) == (s.length : Int)) = false := by simp; omega
          by_cases ht : L = 9 ∧ 1 < (bt s 9).toNat
          · obtain ⟨rfl, ht⟩ := ht
            have e : R = (0, 0, 8) := by rw [ER.out]; exact readN_ten s EL.out.symm (by rw [← EL.out]; omega) ht _
            subst e
            have hb2 : 1 < I8 (bt s 9) := by rw [I8_eq]; omega
            go_wp2_with fail
            go_ret3
            exact ⟨rfl, rfl⟩
          · have hb2 : L = 9 → I8 (bt s L) ≤ 1 := fun h => by subst h; rw [I8_eq]; omega
            have HB2 := Lib.hid hb2; clear hb2
            clear ht hlt h10 hlen hk hk10
            by_cases hn9 : L = 9
            have hq : ((L : Int) == 9) = true := by simp; omega
            have hb3 := HB2.out hn9
            replace hn9 := Lib.hid hn9
            go_wp2_with fail
            clear hq hb3
            rotate_left
            have hq : ((L : Int) == 9) = false := by simp; omega
            replace hn9 := Lib.hid hn9
            go_wp2_with fail
            clear hq
            rotate_left
            all_goals
              clear hm hne heq hn9
              obtain ⟨T, eT⟩ : ∃ T, T = s.take (L + 1) := ⟨_, rfl⟩
              have lT : T.length = L + 1 := by rw [eT]; simp; omega
              have h2 : lead s < s.length := by rw [← EL.out]; exact hlt'
              have h4 : lead s = 9 → (s.getD 9 0).toNat ≤ 1 := fun h => by
                have h := HB2.out (EL.out.trans h)
                rw [I8_bt, EL.out, ‹lead s = 9›] at h
                omega
              have DR : Hid (∀ j, numV (T.drop j) = if j ≤ L then (bt s j).toNat % 128 + 128 * numV (T.drop (j + 1)) else 0) := Lib.hid fun j => by
                by_cases hj : j ≤ L
                · have := numV_drop T j (by omega)
                  rw [if_pos hj, this, eT]; simp only [bt, List.getD_eq_getElem?_getD, List.getElem?_take]; rw [if_pos (by omega)]
                · rw [if_neg hj, List.drop_of_length_le (by omega)]; rfl
              have LT : Hid (∀ j, numV (T.drop (j + 1)) < 144115188075855872) := Lib.hid fun j => by
                rw [eT, EL.out]; exact numV_drop_lt s h2 (by rw [← EL.out]; exact h9) h4 (j + 1) (by omega)
              have RS := Lib.hid (readN_size s (by rw [← EL.out]; exact h9) h2 h4)
              rw [← ER.out, ← EL.out, ← eT] at RS
              have VT := numV_lt64 h2 (by rw [← EL.out]; exact h9) h4
              rw [← EL.out, ← eT] at VT
              have lT := Lib.hid lT
              clear eT h2 h4
              go_loop [2, 5] (fun nv iv => ∃ j : Nat, j ≤ L + 1 ∧ iv = .int .i64 ((j : Int) - 1) ∧ nv = .int .u64 (numV (T.drop j))) (fun _ iv => (intOf iv + 1).toNat)
              case atStart => exact ⟨L + 1, by omega, by go_num, by rw [List.drop_of_length_le (by have := lT.out; omega)]; rfl⟩
              case round =>
                obtain ⟨j, hj, rfl, rfl⟩ := hrel
                cases j with
                | zero =>
                  rw [List.drop_zero]
                  obtain ⟨V, eV⟩ : ∃ V, V = numV T := ⟨_, rfl⟩
                  rw [← eV] at RS VT ⊢
                  obtain ⟨z, ez⟩ : ∃ z, z = (numL V).length := ⟨_, rfl⟩
                  have SZ := Lib.hid (size_c V w VT)
                  rw [← ez] at RS SZ
                  clear eV ez
                  by_cases hz : z = L + 1
                  · have e := RS.out
                    rw [if_pos hz] at e
                    have hzz : ((z : Int) == (L : Int) + 1) = true := by simp; omega
                    have hzz' : ((z : Int) != (L : Int) + 1) = false := by simp; omega
                    subst e
                    go_wp2_with ((go_at_call 137; go_must (refine (SZ.out).mono ?_; rintro e w1 ⟨rfl, rfl⟩)))
                    go_ret3
                    exact ⟨by congr, rfl⟩
                  · have e := RS.out
                    rw [if_neg hz] at e
                    have hzz : ((z : Int) == (L : Int) + 1) = false := by simp; omega
                    have hzz' : ((z : Int) != (L : Int) + 1) = true := by simp; omega
                    subst e
                    go_wp2_with ((go_at_call 137; go_must (refine (SZ.out).mono ?_; rintro e w1 ⟨rfl, rfl⟩)))
                    go_ret3
                    exact ⟨rfl, rfl⟩
                | succ j =>
                  have l57 := LT.out j
                  have hjL : j ≤ L := by omega
                  have e : I64 (w64 ((numV (T.drop (j + 1)) : Nat) : Int) <<< 7 ||| w64 ((I8 (bt s j)).tmod 128)) = ((numV (T.drop j) : Nat) : Int) := by
                    rw [shl_or _ _ l57, DR.out j, if_pos hjL]
                  obtain ⟨X, eX⟩ : ∃ X, X = numV (T.drop (j + 1)) := ⟨_, rfl⟩
                  rw [← eX] at e l57 ⊢
                  have E := Lib.hid e
                  clear e eX
                  have hjs : j < s.length := by omega
                  go_wp2_with fail
                  go_round
                  case rel => exact ⟨j, by omega, rfl, by rw [E.out]⟩
                  case measure => simp [intOf]
end Go.Proofs.YtidadhbaomieiaaGreat

/- The walks of pack.In's methods: the reader's state turns as its plain law says. Conditions: lengths. -/
namespace Go
namespace TL
open Go.RowKit
/-- A reader's cells. -/
def inV (x : InS) : List Value := [.string (mkS x.rest), .int .i64 x.read, .int .i64 x.err]
end TL
end Go
namespace Go.Proofs.YtidadhbaomieiaaGreat
open Go.RowKit Go.TL
set_option maxRecDepth 100000 in
set_option maxHeartbeats 2000000 in
theorem bounded_c (s : List UInt8) (m : Nat) (w : World) (hs : s.length ≤ 1000000000) (hm : m < 9223372036854775808) :
    Calls Tryz.prog 95 #[.string (mkS s), .int .i64 m] w fun e w' => e = .returned (.tuple #[.int .i64 (readN s m).1, .int .i64 (readN s m).2.1, .int .i64 (readN s m).2.2]) ∧ w = w' := by
  have hr := readN_max s m
  obtain ⟨⟨x, b, e⟩, eR⟩ : ∃ R, R = readN s maxU := ⟨_, rfl⟩
  have he := read_err s maxU
  have hlt : e = 0 → x < 18446744073709551616 := fun h => (read_ok (eR.symm.trans (by rw [h]))).2.2.2
  have hle := read_le eR.symm
  have N := number_c s w hs
  rw [← eR] at hr he N
  rw [hr]
  simp only at N he ⊢
  clear eR hr
  have N := Lib.hid N
  have HE := Lib.hid he
  have HI := Lib.hid (I64_nat m (by omega))
  clear he
  by_cases h0 : e = 0
  · subst h0
    replace hlt := hlt rfl
    by_cases hx : m < x
    · rw [if_pos ⟨rfl, hx⟩]
      go_enter Tryz.func95, Tryz.ntmps95
      go_wp2_with ((go_at_call 97; go_must (refine (N.out).mono ?_; rintro e w1 ⟨rfl, rfl⟩)))
      all_goals (first | (exfalso; have := HI.out; omega) | (go_ret3; exact ⟨rfl, rfl⟩))
    · rw [if_neg (fun h => hx h.2)]
      go_enter Tryz.func95, Tryz.ntmps95
      go_wp2_with ((go_at_call 97; go_must (refine (N.out).mono ?_; rintro e w1 ⟨rfl, rfl⟩)))
      all_goals (first | (exfalso; have := HI.out; omega) | (go_ret3; exact ⟨rfl, rfl⟩))
  · rw [if_neg (fun h => h0 h.1)]
    have h0' : ((e : Int) == 0) = false := by simp; omega
    have h0'' : ((e : Int) != 0) = true := by simp; omega
    obtain ⟨rfl, rfl⟩ : x = 0 ∧ b = 0 := by
      have := HE.out; simp at this; omega
    go_enter Tryz.func95, Tryz.ntmps95
    go_wp2_with ((go_at_call 97; go_must (refine (N.out).mono ?_; rintro e w1 ⟨rfl, rfl⟩)))
    go_ret3
    exact ⟨rfl, rfl⟩
section
variable (g : Nat) (x : InS) (w : World) (h : (Chunk.row g (inV x)).ok w)
include h
set_option maxHeartbeats 1000000 in
theorem reads_ok (he : x.err = 0) : Calls Tryz.prog 94 #[.pointer (some ⟨g, 0, none⟩)] w fun e w' => e = .returned (.bool true) ∧ w = w' := by
  obtain ⟨rest, read, err⟩ := x
  simp only at he; subst he
  have M := Mem.start1 (c := .row g [.string (mkS rest), .int .i64 (read : Nat), .int .i64 (0 : Nat)]) h
  go_enter Tryz.func94, Tryz.ntmps94
  go_wp2_with ((first | ((with_reducible refine tGuard ?_); first | refine gdS ?_ | (refine gdC ?_ ?_ <;> (intro hgd; rw [hgd]; try (exfalso; simp at hgd; omega)))) | ((with_reducible refine tConv _ 70 9 ?_); go_must (refine cvB ?_)) | ((with_reducible refine tLoad ?_); go_must (refine ldB ?_)) | ((with_reducible refine tStore ?_); go_must (refine stB ?_; clear M; intro w1 M; (try simp only [setC] at M))) | ((with_reducible refine tBox _ ?_); (refine bxA M ?_; clear M; intro g w1 M))) <;> (try conv => arg 5; simp only [Act.put, List.setIfInBounds_toArray, setC]))
  go_ret
  exact ⟨rfl, rfl⟩
set_option maxHeartbeats 1000000 in
theorem reads_no (he : x.err ≠ 0) : Calls Tryz.prog 94 #[.pointer (some ⟨g, 0, none⟩)] w fun e w' => e = .returned (.bool false) ∧ w = w' := by
  obtain ⟨rest, read, err⟩ := x
  have M := Mem.start1 (c := .row g [.string (mkS rest), .int .i64 (read : Nat), .int .i64 (err : Nat)]) h
  have hz : ((err : Int) == 0) = false := by simp at he ⊢; exact he
  go_enter Tryz.func94, Tryz.ntmps94
  go_wp2_with ((first | ((with_reducible refine tGuard ?_); first | refine gdS ?_ | (refine gdC ?_ ?_ <;> (intro hgd; rw [hgd]; try (exfalso; simp at hgd; omega)))) | ((with_reducible refine tConv _ 70 9 ?_); go_must (refine cvB ?_)) | ((with_reducible refine tLoad ?_); go_must (refine ldB ?_)) | ((with_reducible refine tStore ?_); go_must (refine stB ?_; clear M; intro w1 M; (try simp only [setC] at M))) | ((with_reducible refine tBox _ ?_); (refine bxA M ?_; clear M; intro g w1 M))) <;> (try conv => arg 5; simp only [Act.put, List.setIfInBounds_toArray, setC]))
  go_ret
  exact ⟨rfl, rfl⟩
set_option maxHeartbeats 1000000 in
theorem takes_ok (hf : x.fit) (k : Nat) (hk : k ≤ x.rest.length) (a b : Int) (ha : a = (k : Int)) (hb : b = 0) :
    Calls Tryz.prog 96 #[.pointer (some ⟨g, 0, none⟩), .int .i64 a, .int .i64 b] w fun e w' => e = .returned (.bool true) ∧ Upd w (.row g (inV x)) w' (.row g (inV (x.take k 0))) := by
  subst ha; subst hb
  obtain ⟨rest, read, err⟩ := x
  unfold InS.fit at hf
  simp only at hk hf
  have M := Mem.start1 (c := .row g [.string (mkS rest), .int .i64 (read : Nat), .int .i64 (err : Nat)]) h
  go_enter Tryz.func96, Tryz.ntmps96
  go_wp2_with ((first | ((with_reducible refine tGuard ?_); first | refine gdS ?_ | (refine gdC ?_ ?_ <;> (intro hgd; rw [hgd]; try (exfalso; simp at hgd; omega)))) | ((with_reducible refine tConv _ 70 9 ?_); go_must (refine cvB ?_)) | ((with_reducible refine tLoad ?_); go_must (refine ldB ?_)) | ((with_reducible refine tStore ?_); go_must (refine stB ?_; clear M; intro w1 M; (try simp only [setC] at M))) | ((with_reducible refine tBox _ ?_); (refine bxA M ?_; clear M; intro g w1 M))) <;> (try conv => arg 5; simp only [Act.put, List.setIfInBounds_toArray, setC]))
  go_ret
  refine ⟨rfl, ?_⟩
  rw [show inV (InS.take ⟨rest, read, err⟩ k 0) = [.string (mkS (rest.drop k)), .int .i64 ((read : Int) + k), .int .i64 0] by simp [inV, InS.take]]
  exact M.upd1 0 rfl
set_option maxHeartbeats 1000000 in
theorem takes_no (k : Nat) (er : Nat) (hn : er ≠ 0) (a b : Int) (hb : b = (er : Int)) :
    Calls Tryz.prog 96 #[.pointer (some ⟨g, 0, none⟩), .int .i64 a, .int .i64 b] w fun e w' => e = .returned (.bool false) ∧ Upd w (.row g (inV x)) w' (.row g (inV (x.take k er))) := by
  subst hb
  obtain ⟨rest, read, err⟩ := x
  have M := Mem.start1 (c := .row g [.string (mkS rest), .int .i64 (read : Nat), .int .i64 (err : Nat)]) h
  have hz : ((er : Int) == 0) = false := by simp; exact hn
  go_enter Tryz.func96, Tryz.ntmps96
  go_wp2_with ((first | ((with_reducible refine tGuard ?_); first | refine gdS ?_ | (refine gdC ?_ ?_ <;> (intro hgd; rw [hgd]; try (exfalso; simp at hgd; omega)))) | ((with_reducible refine tConv _ 70 9 ?_); go_must (refine cvB ?_)) | ((with_reducible refine tLoad ?_); go_must (refine ldB ?_)) | ((with_reducible refine tStore ?_); go_must (refine stB ?_; clear M; intro w1 M; (try simp only [setC] at M))) | ((with_reducible refine tBox _ ?_); (refine bxA M ?_; clear M; intro g w1 M))) <;> (try conv => arg 5; simp only [Act.put, List.setIfInBounds_toArray, setC]))
  go_ret
  refine ⟨rfl, ?_⟩
  rw [show inV (InS.take ⟨rest, read, err⟩ k er) = [.string (mkS rest), .int .i64 read, .int .i64 er] by simp [inV, InS.take, hn]]
  exact M.upd1 0 rfl
set_option maxHeartbeats 1000000 in
theorem Left_c (hf : x.fit) : Calls Tryz.prog 98 #[.pointer (some ⟨g, 0, none⟩)] w fun e w' => e = .returned (.int .i64 x.rest.length) ∧ w = w' := by
  obtain ⟨rest, read, err⟩ := x
  have M := Mem.start1 (c := .row g [.string (mkS rest), .int .i64 (read : Nat), .int .i64 (err : Nat)]) h
  go_enter Tryz.func98, Tryz.ntmps98
  go_wp2_with ((first | ((with_reducible refine tGuard ?_); first | refine gdS ?_ | (refine gdC ?_ ?_ <;> (intro hgd; rw [hgd]; try (exfalso; simp at hgd; omega)))) | ((with_reducible refine tConv _ 70 9 ?_); go_must (refine cvB ?_)) | ((with_reducible refine tLoad ?_); go_must (refine ldB ?_)) | ((with_reducible refine tStore ?_); go_must (refine stB ?_; clear M; intro w1 M; (try simp only [setC] at M))) | ((with_reducible refine tBox _ ?_); (refine bxA M ?_; clear M; intro g w1 M))) <;> (try conv => arg 5; simp only [Act.put, List.setIfInBounds_toArray, setC]))
  go_ret
  exact ⟨rfl, rfl⟩
set_option maxHeartbeats 2000000 in
theorem Most_c (hf : x.fit) (m : Nat) (a : Int) (ha : a = (m : Int)) (hm : m < 9223372036854775808) :
    Calls Tryz.prog 58 #[.pointer (some ⟨g, 0, none⟩), .int .i64 a] w fun e w' => e = .returned (.int .i64 (x.most m).1) ∧ Upd w (.row g (inV x)) w' (.row g (inV (x.most m).2)) := by
  subst ha
  have M := Mem.start1 h
  have hl : x.rest.length ≤ 1000000000 := by unfold InS.fit at hf; omega
  by_cases h0 : x.err = 0
  · have e1 : x.most m = ((readN x.rest m).1, x.take (readN x.rest m).2.1 (readN x.rest m).2.2) := by unfold InS.most; rw [if_pos h0]
    rw [e1]; clear e1
    obtain ⟨⟨n, b, er⟩, eR⟩ : ∃ R, R = readN x.rest m := ⟨_, rfl⟩
    have hb := (read_le eR.symm).1
    have hz := read_err x.rest m
    have B := bounded_c x.rest m w hl hm
    rw [← eR] at B hz ⊢
    have B := Lib.hid B
    have HZ := Lib.hid hz
    clear eR hz
    simp only
    have H0 := Lib.hid h0
    clear h0
    by_cases he : er = 0
    · subst he
      go_enter Tryz.func58, Tryz.ntmps58
      go_wp2_with ((first | (go_at_call 94; go_must (refine (reads_ok g x _ h H0.out).mono ?_; rintro e w1 ⟨rfl, rfl⟩)) | (go_at_call 95; go_must (refine (B.out).mono ?_; rintro e w1 ⟨rfl, rfl⟩)) | (go_at_call 96; go_must (refine (takes_ok g x _ (M.ok 0 _ rfl) hf b hb _ _ rfl rfl).mono ?_; rintro e w1 ⟨rfl, U⟩; replace M := M.upd 0 rfl U; clear U)) | ((with_reducible refine tGuard ?_); first | refine gdS ?_ | (refine gdC ?_ ?_ <;> (intro hgd; rw [hgd]; try (exfalso; simp at hgd; omega)))) | ((with_reducible refine tConv _ 70 9 ?_); go_must (refine cvB ?_)) | ((with_reducible refine tLoad ?_); go_must (refine ldB ?_)) | ((with_reducible refine tStore ?_); go_must (refine stB ?_; clear M; intro w1 M; (try simp only [setC] at M))) | ((with_reducible refine tBox _ ?_); (refine bxA M ?_; clear M; intro g w1 M))) <;> (try conv => arg 5; simp only [Act.put, List.setIfInBounds_toArray, setC]))
      go_ret
      exact ⟨rfl, M.upd1 0 rfl⟩
    · obtain ⟨rfl, rfl⟩ : n = 0 ∧ b = 0 := by
        have := HZ.out; simp at this; omega
      go_enter Tryz.func58, Tryz.ntmps58
      go_wp2_with ((first | (go_at_call 94; go_must (refine (reads_ok g x _ h H0.out).mono ?_; rintro e w1 ⟨rfl, rfl⟩)) | (go_at_call 95; go_must (refine (B.out).mono ?_; rintro e w1 ⟨rfl, rfl⟩)) | (go_at_call 96; go_must (refine (takes_no g x _ (M.ok 0 _ rfl) 0 er he _ _ rfl).mono ?_; rintro e w1 ⟨rfl, U⟩; replace M := M.upd 0 rfl U; clear U)) | ((with_reducible refine tGuard ?_); first | refine gdS ?_ | (refine gdC ?_ ?_ <;> (intro hgd; rw [hgd]; try (exfalso; simp at hgd; omega)))) | ((with_reducible refine tConv _ 70 9 ?_); go_must (refine cvB ?_)) | ((with_reducible refine tLoad ?_); go_must (refine ldB ?_)) | ((with_reducible refine tStore ?_); go_must (refine stB ?_; clear M; intro w1 M; (try simp only [setC] at M))) | ((with_reducible refine tBox _ ?_); (refine bxA M ?_; clear M; intro g w1 M))) <;> (try conv => arg 5; simp only [Act.put, List.setIfInBounds_toArray, setC]))
      go_ret
      exact ⟨rfl, M.upd1 0 rfl⟩
  · have e1 : x.most m = (0, x) := by unfold InS.most; rw [if_neg h0]
    rw [e1]; clear e1
    have H0 := Lib.hid h0
    clear h0
    go_enter Tryz.func58, Tryz.ntmps58
    go_wp2_with (first | (go_at_call 94; go_must (refine (reads_no g x _ h H0.out).mono ?_; rintro e w1 ⟨rfl, rfl⟩)))
    go_ret
    exact ⟨rfl, M.upd1 0 rfl⟩
end
end Go.Proofs.YtidadhbaomieiaaGreat

/- The walks of pack.In's Text, Fault and End, and of pack.Of. Conditions: lengths. -/
namespace Go.Proofs.YtidadhbaomieiaaGreat
open Go.RowKit Go.TL
section
variable (g : Nat) (x : InS) (w : World) (h : (Chunk.row g (inV x)).ok w)
include h
set_option maxRecDepth 100000 in
set_option maxHeartbeats 2000000 in
theorem In_Text_c (hf : x.fit) (m : Nat) (a : Int) (ha : a = (m : Int)) (hm : m < 1000000000) :
    Calls Tryz.prog 60 #[.pointer (some ⟨g, 0, none⟩), .int .i64 a] w fun e w' => e = .returned (.string (mkS (x.text m).1)) ∧ Upd w (.row g (inV x)) w' (.row g (inV (x.text m).2)) := by
  subst ha
  have M := Mem.start1 h
  have hl : x.rest.length ≤ 1000000000 := by unfold InS.fit at hf; omega
  by_cases h0 : x.err = 0
  · have e1 : x.text m = if (readN x.rest m).2.2 = 0 then if (readN x.rest m).1 ≤ x.rest.length - (readN x.rest m).2.1 then ((x.rest.drop (readN x.rest m).2.1).take (readN x.rest m).1, x.take ((readN x.rest m).2.1 + (readN x.rest m).1) 0) else ([], x.take 0 7) else ([], x.take 0 (readN x.rest m).2.2) := by unfold InS.text; rw [if_pos h0]
    rw [e1]; clear e1
    obtain ⟨⟨n, b, er⟩, eR⟩ : ∃ R, R = readN x.rest m := ⟨_, rfl⟩
    have hb := read_le eR.symm
    have hz := read_err x.rest m
    have B := bounded_c x.rest m w hl (by omega)
    rw [← eR] at B hz ⊢
    have B := Lib.hid B
    have HZ := Lib.hid hz
    clear eR hz
    simp only
    have H0 := Lib.hid h0
    clear h0
    obtain ⟨hb1, hb2, hb3⟩ := hb
    by_cases he : er = 0
    · subst he
      rw [if_pos rfl]
      by_cases hn : n ≤ x.rest.length - b
      · rw [if_pos hn]
        have e2 : (x.rest.drop b).take n = (x.rest.take (b + n)).drop b := by rw [List.drop_take]; congr; omega
        simp only
        rw [e2]; clear e2
        have hn' : (n : Int) ≤ (x.rest.length : Int) - b := by omega
        go_enter Tryz.func60, Tryz.ntmps60
        go_wp2_with ((first | (go_at_call 94; go_must (refine (reads_ok g x _ h H0.out).mono ?_; rintro e w1 ⟨rfl, rfl⟩)) | (go_at_call 95; go_must (refine (B.out).mono ?_; rintro e w1 ⟨rfl, rfl⟩)) | (go_at_call 96; go_must (refine (takes_ok g x _ (M.ok 0 _ rfl) hf (b + n) (by omega) _ _ (by simp) rfl).mono ?_; rintro e w1 ⟨rfl, U⟩; replace M := M.upd 0 rfl U; clear U)) | ((with_reducible refine tGuard ?_); first | refine gdS ?_ | (refine gdC ?_ ?_ <;> (intro hgd; rw [hgd]; try (exfalso; simp at hgd; omega)))) | ((with_reducible refine tConv _ 70 9 ?_); go_must (refine cvB ?_)) | ((with_reducible refine tLoad ?_); go_must (refine ldB ?_)) | ((with_reducible refine tStore ?_); go_must (refine stB ?_; clear M; intro w1 M; (try simp only [setC] at M))) | ((with_reducible refine tBox _ ?_); (refine bxA M ?_; clear M; intro g w1 M))) <;> (try conv => arg 5; simp only [Act.put, List.setIfInBounds_toArray, setC]))
        go_ret
        exact ⟨rfl, M.upd1 0 rfl⟩
      · rw [if_neg hn]
        have hn' : (x.rest.length : Int) - b < (n : Int) := by omega
        go_enter Tryz.func60, Tryz.ntmps60
        go_wp2_with ((first | (go_at_call 94; go_must (refine (reads_ok g x _ h H0.out).mono ?_; rintro e w1 ⟨rfl, rfl⟩)) | (go_at_call 95; go_must (refine (B.out).mono ?_; rintro e w1 ⟨rfl, rfl⟩)) | (go_at_call 96; go_must (refine (takes_no g x _ (M.ok 0 _ rfl) 0 7 (by decide) _ _ rfl).mono ?_; rintro e w1 ⟨rfl, U⟩; replace M := M.upd 0 rfl U; clear U)) | ((with_reducible refine tGuard ?_); first | refine gdS ?_ | (refine gdC ?_ ?_ <;> (intro hgd; rw [hgd]; try (exfalso; simp at hgd; omega)))) | ((with_reducible refine tConv _ 70 9 ?_); go_must (refine cvB ?_)) | ((with_reducible refine tLoad ?_); go_must (refine ldB ?_)) | ((with_reducible refine tStore ?_); go_must (refine stB ?_; clear M; intro w1 M; (try simp only [setC] at M))) | ((with_reducible refine tBox _ ?_); (refine bxA M ?_; clear M; intro g w1 M))) <;> (try conv => arg 5; simp only [Act.put, List.setIfInBounds_toArray, setC]))
        go_ret
        exact ⟨rfl, M.upd1 0 rfl⟩
    · obtain ⟨rfl, rfl⟩ : n = 0 ∧ b = 0 := by
        have := HZ.out; simp at this; omega
      rw [if_neg he]
      have hz0 : ((er : Int) == 0) = false := by simp; exact he
      go_enter Tryz.func60, Tryz.ntmps60
      go_wp2_with ((first | (go_at_call 94; go_must (refine (reads_ok g x _ h H0.out).mono ?_; rintro e w1 ⟨rfl, rfl⟩)) | (go_at_call 95; go_must (refine (B.out).mono ?_; rintro e w1 ⟨rfl, rfl⟩)) | (go_at_call 96; go_must (refine (takes_no g x _ (M.ok 0 _ rfl) 0 er he _ _ rfl).mono ?_; rintro e w1 ⟨rfl, U⟩; replace M := M.upd 0 rfl U; clear U)) | ((with_reducible refine tGuard ?_); first | refine gdS ?_ | (refine gdC ?_ ?_ <;> (intro hgd; rw [hgd]; try (exfalso; simp at hgd; omega)))) | ((with_reducible refine tConv _ 70 9 ?_); go_must (refine cvB ?_)) | ((with_reducible refine tLoad ?_); go_must (refine ldB ?_)) | ((with_reducible refine tStore ?_); go_must (refine stB ?_; clear M; intro w1 M; (try simp only [setC] at M))) | ((with_reducible refine tBox _ ?_); (refine bxA M ?_; clear M; intro g w1 M))) <;> (try conv => arg 5; simp only [Act.put, List.setIfInBounds_toArray, setC]))
      go_ret
      exact ⟨rfl, M.upd1 0 rfl⟩
  · have e1 : x.text m = ([], x) := by unfold InS.text; rw [if_neg h0]
    rw [e1]; clear e1
    have H0 := Lib.hid h0
    clear h0
    go_enter Tryz.func60, Tryz.ntmps60
    go_wp2_with (first | (go_at_call 94; go_must (refine (reads_no g x _ h H0.out).mono ?_; rintro e w1 ⟨rfl, rfl⟩)))
    go_ret
    exact ⟨rfl, M.upd1 0 rfl⟩
set_option maxHeartbeats 2000000 in
theorem Fault_ok (he : x.err = 0) :
    Calls Tryz.prog 92 #[.pointer (some ⟨g, 0, none⟩)] w fun e w' => e = .returned (.tuple #[.int .i64 0, .int .i64 0]) ∧ w = w' := by
  have M := Mem.start1 h
  have H0 := Lib.hid he
  clear he
  go_enter Tryz.func92, Tryz.ntmps92
  go_wp2_with (first | (go_at_call 94; go_must (refine (reads_ok g x _ h H0.out).mono ?_; rintro e w1 ⟨rfl, rfl⟩)))
  go_ret2
  exact ⟨rfl, rfl⟩
set_option maxHeartbeats 2000000 in
theorem Fault_no (he : x.err ≠ 0) :
    Calls Tryz.prog 92 #[.pointer (some ⟨g, 0, none⟩)] w fun e w' => e = .returned (.tuple #[.int .i64 x.err, .int .i64 x.read]) ∧ Below w.heap.size w w' := by
  have M := Mem.start1 h
  have H0 := Lib.hid he
  clear he
  go_enter Tryz.func92, Tryz.ntmps92
  go_wp2_with ((first | (go_at_call 94; go_must (refine (reads_no g x _ h H0.out).mono ?_; rintro e w1 ⟨rfl, rfl⟩)) | ((with_reducible show Code.wp _ (Code.region 3 _ _) _ _ _); go_must (refine region_det [(0, false), (1, false), (2, false), (4, false), (5, false), (6, false), (3, false), (8, false), (7, false), (9, false)] [(10, .ptr), (14, .ptr)] (by kernel_rfl) (by kernel_rfl) rfl (by kernel_rfl) ?_; replace M := M.drew; simp only [reord, opAt, List.map_cons, List.map_nil, List.getElem?_toArray, List.getElem?_cons_zero, List.getElem?_cons_succ, Option.getD_some])) | ((with_reducible show Seg _ _ _ _); go_must (first | refine Seg.intro ⟨fun h => absurd rfl h, ?_⟩ | refine Seg.intro ⟨fun _ => ixA, ?_⟩ | refine Seg.intro ⟨ndA, atA, ?_⟩)) | ((with_reducible show OnlyN _ _ _ _ _); refine OnlyN.intro (by kernel_rfl) ?_) | ((with_reducible refine tGuard ?_); first | refine gdS ?_ | (refine gdC ?_ ?_ <;> (intro hgd; rw [hgd]; try (exfalso; simp at hgd; omega)))) | ((with_reducible refine tConv _ 70 9 ?_); go_must (refine cvB ?_)) | ((with_reducible refine tLoad ?_); go_must (refine ldB ?_)) | ((with_reducible refine tStore ?_); go_must (refine stB ?_; clear M; intro w1 M; (try simp only [setC] at M))) | ((with_reducible refine tBox _ ?_); (refine bxA M ?_; clear M; intro g w1 M))) <;> (try conv => arg 5; simp only [Act.put, List.setIfInBounds_toArray, setC]))
  go_ret2
  exact ⟨rfl, (Kept.refl [] w).drew.below⟩
set_option maxHeartbeats 2000000 in
theorem End_c (hf : x.fit) :
    Calls Tryz.prog 62 #[.pointer (some ⟨g, 0, none⟩)] w fun e w' => e = .returned (.int .i64 x.fin) ∧ Below w.heap.size w w' := by
  have M := (Mem.start [] w)
  have H := Lib.hid h
  by_cases he : x.err = 0
  · have H0 := Lib.hid he
    by_cases hl : x.rest.length = 0
    · have e : x.fin = 0 := by unfold InS.fin; rw [if_pos he, if_pos hl]
      have hl' : ¬ (0 : Int) < (x.rest.length : Int) := by omega
      rw [e]; clear e hl he
      go_enter Tryz.func62, Tryz.ntmps62
      go_wp2_with (first | (go_at_call 92; go_must (refine (Fault_ok g x _ H.out H0.out).mono ?_; rintro e w1 ⟨rfl, rfl⟩)) | (go_at_call 98; go_must (refine (Left_c g x _ H.out hf).mono ?_; rintro e w1 ⟨rfl, rfl⟩)))
      go_ret
      exact ⟨rfl, M.below⟩
    · have e : x.fin = 8 := by unfold InS.fin; rw [if_pos he, if_neg hl]
      have hl' : (0 : Int) < (x.rest.length : Int) := by omega
      rw [e]; clear e hl he
      go_enter Tryz.func62, Tryz.ntmps62
      go_wp2_with (first | (go_at_call 92; go_must (refine (Fault_ok g x _ H.out H0.out).mono ?_; rintro e w1 ⟨rfl, rfl⟩)) | (go_at_call 98; go_must (refine (Left_c g x _ H.out hf).mono ?_; rintro e w1 ⟨rfl, rfl⟩)))
      go_ret
      exact ⟨rfl, M.below⟩
  · have H0 := Lib.hid he
    have e : x.fin = x.err := by unfold InS.fin; rw [if_neg he]
    have hz0 : ((x.err : Int) == 0) = false := by simp; exact he
    rw [e]; clear e he
    go_enter Tryz.func62, Tryz.ntmps62
    go_wp2_with (first | (go_at_call 92; go_must (refine (Fault_no g x _ H.out H0.out).mono ?_; rintro e w1 ⟨rfl, hb⟩; replace M := M.call hb; clear hb)))
    go_ret
    exact ⟨rfl, M.below⟩
end
set_option maxHeartbeats 1000000 in
theorem packOf_c (s : List UInt8) (w : World) :
    Calls Tryz.prog 57 #[.string (mkS s)] w fun e w' => ∃ g, e = .returned (.pointer (some ⟨g, 0, none⟩)) ∧ Mem [] w w' [.row g (inV ⟨s, 0, 0⟩)] := by
  have M := Mem.start [] w
  go_enter Tryz.func57, Tryz.ntmps57
  go_wp2_with (first | ((with_reducible refine tBox (some 5) ?_); refine w_box M _ _ rfl rfl _ rfl (inV ⟨s, 0, 0⟩) rfl ?_; clear M; intro g w1 M; (try conv => arg 5; simp only [Act.put, List.setIfInBounds_toArray, setC])))
  go_ret
  exact ⟨g, rfl, M⟩
end Go.Proofs.YtidadhbaomieiaaGreat
