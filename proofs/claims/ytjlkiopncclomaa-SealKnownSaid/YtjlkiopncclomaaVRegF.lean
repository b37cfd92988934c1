/- A region that draws its order and in which two operations that write may come in either order: walked once for each. No conditions but those each law names. -/
import Derived.Test.YtjlkiopncclomaaZb
namespace Go
namespace TL
open Go.RowKit
/-- A plan that branches: rd, what may be taken first; wr, the only one; alt, one of several. -/
inductive PT where
  | nil
  | rd (i : Nat) (r : PT)
  | wr (i : Nat) (r : PT)
  | alt (i : Nat) (r s : PT)
def PT.flat : PT → Plan
  | .nil => []
  | .rd i r => (i, false) :: r.flat
  | .wr i r => (i, true) :: r.flat
  | .alt i r _ => (i, true) :: r.flat
def PT.heads : PT → List Nat
  | .wr i _ => [i]
  | .alt i _ s => i :: s.heads
  | _ => []
def planT (P : Program) (ops : Array Oper) (fin : Act → World → Prop) (I : World → Prop) (c : Nat) : PT → List Oper × (Act → World → Prop)
  | .nil => ([], fin)
  | .rd i r => (opAt ops i :: (planT P ops fin I c r).1, (planT P ops fin I c r).2)
  | .wr i r => ([opAt ops i], fun a w => (i ≠ c → I w) ∧ wpList P ops (Seg (planT P ops fin I c r).2) (planT P ops fin I c r).1 a w)
  | .alt i r s => ([], fun a w => wpList P ops (Seg fun a w => (i ≠ c → I w) ∧ wpList P ops (Seg (planT P ops fin I c r).2) (planT P ops fin I c r).1 a w) [opAt ops i] a w ∧
      wpList P ops (Seg (planT P ops fin I c s).2) (planT P ops fin I c s).1 a w)
def detT (P : Program) (ops : Array Oper) (need : Needs) (idx : List Nat) (c : Nat) : Bool → Array Bool → PT → Bool
  | chk, listed, .nil => chk && (Region.ready .any ops listed).isEmpty
  | chk, listed, .rd i r =>
    chk && ((Region.ready .any ops listed).contains i && Region.free .any ops listed i &&
      ((stays ops need (opAt ops i) ((i, false) :: r.flat) && pureOp P (needOf need (opAt ops i)) (opAt ops i)) || (idx.contains i && staysLow ops (opAt ops i) ((i, false) :: r.flat))) &&
      (waitsC ops c i && detT P ops need idx c true (listed.setIfInBounds i true) r))
  | chk, listed, .wr i r => (!chk || Region.ready .any ops listed == [i]) && ((i != c || r.flat.isEmpty) && detT P ops need idx c true (listed.setIfInBounds i true) r)
  | chk, listed, .alt i r s => (!chk || Region.ready .any ops listed == i :: s.heads) && (((i != c || r.flat.isEmpty) && detT P ops need idx c true (listed.setIfInBounds i true) r) && ((r.flat.length + 1 == s.flat.length) && detT P ops need idx c false listed s))
section
variable {P : Program} {ops : Array Oper} {I : World → Prop} {fin : Act → World → Prop} {c : Nat}
theorem Seg.alt {Q1 Q2 : Exit → Act → World → Prop} {l1 l2 : List Oper} {a : Act} {w : World} (h : wpList P ops Q1 l1 a w) (h' : wpList P ops Q2 l2 a w) : Seg (fun a w => wpList P ops Q1 l1 a w ∧ wpList P ops Q2 l2 a w) .normal a w := ⟨h, h'⟩
theorem endsT : ∀ (t : PT) (a : Act) (w : World), wpList P ops (Seg (planT P ops fin I c t).2) (planT P ops fin I c t).1 a w →
    ∃ af wf, fin af wf ∧ ∀ p, (∀ x ∈ t.flat, (opAt ops x.1).dst ≠ some p) → af.tmps.getD p undef = a.tmps.getD p undef
  | .nil, a, w, h => ⟨a, w, h, fun _ _ => rfl⟩
  | .rd i r, a, w, h => by
    obtain ⟨a', w', h1, h2⟩ := stepS h
    obtain ⟨af, wf, h3, h4⟩ := endsT r a' w' h1
    exact ⟨af, wf, h3, fun t ht => (h4 t fun x hx => ht x (List.mem_cons_of_mem _ hx)).trans (h2 t (ht (i, false) List.mem_cons_self))⟩
  | .wr i r, a, w, h => by
    obtain ⟨a', w', h1, h2⟩ := stepS h
    obtain ⟨af, wf, h3, h4⟩ := endsT r a' w' h1.2
    exact ⟨af, wf, h3, fun t ht => (h4 t fun x hx => ht x (List.mem_cons_of_mem _ hx)).trans (h2 t (ht (i, true) List.mem_cons_self))⟩
  | .alt i r s, a, w, h => by
    obtain ⟨a', w', h1, h2⟩ := stepS h.1
    obtain ⟨af, wf, h3, h4⟩ := endsT r a' w' h1.2
    exact ⟨af, wf, h3, fun t ht => (h4 t fun x hx => ht x (List.mem_cons_of_mem _ hx)).trans (h2 t (ht (i, true) List.mem_cons_self))⟩
/-- One that writes, or not wanted. -/
theorem writeT {F G K : Act → World → Prop} {i : Nat} {listed : Array Bool} {a : Act} {w : World} (hr : i ∈ Region.ready .any ops listed) (h : wpList P ops (Seg G) [opAt ops i] a w) (cont : ∀ a' w', G a' w' → K a' w') : wpOp P ops (Seg F) i K a w := by
  obtain ⟨_, oi, hoi, _⟩ := mem_ready.1 hr
  have hat : opAt ops i = oi := by simp [opAt, hoi]
  rw [hat] at h
  unfold wpOp
  rw [hoi]
  unfold wpList at h
  dsimp only
  split
  · rename_i hw
    rw [if_pos hw] at h
    rcases h with h | h
    · exact .inl (Oper.wp_seg cont h)
    · exact (Seg.letsOut h.2).elim
  · rename_i hw
    rw [if_neg hw] at h
    exact cont _ _ h
theorem flat_nil {t : PT} (h : t.flat.isEmpty = true) : t = .nil := by cases t <;> simp [PT.flat] at h ⊢
theorem mainT {need : Needs} {low : List (Nat × Value)} {Q : Exit → Act → World → Prop} (hs : Region.noSelect ops = true) (hlow : ∀ x ∈ low, Stab P I (opAt ops x.1) x.2) : ∀ t : PT,
    (∀ (listed : Array Bool) (a : Act) (w : World), detT P ops need (low.map (·.1)) c true listed t = true → I w →
      wpList P ops (Seg (planT P ops (finI ops need low Q) I c t).2) (planT P ops (finI ops need low Q) I c t).1 a w →
      wpAnyC P .any ops (Seg (finI ops need low Q)) I c t.flat.length listed a w) ∧
    (∀ (listed : Array Bool) (a : Act) (w : World) (m : Nat), t.flat.length = m + 1 → detT P ops need (low.map (·.1)) c false listed t = true → I w →
      wpList P ops (Seg (planT P ops (finI ops need low Q) I c t).2) (planT P ops (finI ops need low Q) I c t).1 a w →
      ∀ j ∈ t.heads, j ∈ Region.ready .any ops listed → wpOp P ops (Seg (finI ops need low Q)) j (fun a' w' => (j ≠ c → I w') ∧ wpAnyC P .any ops (Seg (finI ops need low Q)) I c m (listed.setIfInBounds j true) a' w') a w) := by
  intro t
  induction t with
  | nil =>
    refine ⟨fun listed a w hd _ h => ?_, fun _ _ _ _ _ _ _ _ j hj => by simp [PT.heads] at hj⟩
    have : Region.ready .any ops listed = [] := by simpa [detT] using hd
    exact ⟨this, h⟩
  | rd i r ih =>
    refine ⟨fun listed a w hd hIw h => ?_, fun _ _ _ _ _ _ _ _ j hj => by simp [PT.heads] at hj⟩
    simp only [detT, Bool.true_and, Bool.and_eq_true] at hd
    obtain ⟨⟨⟨hr, hf⟩, hk⟩, hwt, hrest⟩ := hd
    have hwait := waitsC_spec hwt
    have hr' : i ∈ Region.ready .any ops listed := by simpa using hr
    obtain ⟨_, oi, hoi, _⟩ := mem_ready.1 hr'
    have hat : opAt ops i = oi := by simp [opAt, hoi]
    have hends := endsT (.rd i r) a w h
    have h' : wpList P ops (Seg (planT P ops (finI ops need low Q) I c r).2) (oi :: (planT P ops (finI ops need low Q) I c r).1) a w := by
      rw [← hat]; exact h
    have hQ : ∀ v c a w, Seg (finI ops need low Q) (.panic c) (a.put oi.dst v) w → Seg (finI ops need low Q) (.panic c) a w := fun _ _ _ _ h => h.elim
    have hsel := fun j o cs b ho => Region.noSelect_spec hs j o cs b ho
    have key : ∀ (s : Sem Value), execOp a.eval oi = (do Pure.pure (Next.value (← s))) → (∀ v w1, s.run P w = .ok v w1 → w1 = w ∧ ∀ w', I w' → s.run P w' = .ok v w') →
        wpAnyC P .any ops (Seg (finI ops need low Q)) I c (r.flat.length + 1) listed a w := fun s hex hl => by
      cases hw : Region.wanted oi (yielded ops a.tmps) with
      | true =>
        unfold wpList at h'
        rw [if_pos hw] at h'
        rcases h' with h' | h'
        · unfold Oper.wp at h'
          rw [hex, Sem.run_bind] at h'
          cases hrun : s.run P w with
          | ok v w1 =>
            obtain ⟨rfl, hall⟩ := hl _ _ hrun
            rw [hrun] at h'
            have hy : YieldsIf P ops I oi v a := .inl ⟨hw, fun w' hw' => by rw [hex, Sem.run_bind, hall w' hw']; rfl⟩
            exact C_first hoi hsel (hQ v) hwait r.flat.length listed a w1 (Region.free_spec hoi hf) hr' hy hIw (ih.1 _ _ w1 hrest hIw h')
          | halt x w1 =>
            rw [hrun] at h'
            cases x <;> exact h'.elim
        · exact (Seg.letsOut h'.2).elim
      | false =>
        unfold wpList at h'
        rw [if_neg (by rw [hw]; decide)] at h'
        exact C_first hoi hsel (hQ undef) hwait r.flat.length listed a w (Region.free_spec hoi hf) hr' (.inr ⟨hw, rfl⟩) hIw (ih.1 _ _ w hrest hIw h')
    obtain ⟨af, wf, ⟨hneed, hlowf, _⟩, hsame⟩ := hends
    rcases (Bool.or_eq_true _ _).mp hk with hp | hp
    · obtain ⟨hst, hp⟩ := (Bool.and_eq_true _ _).mp hp
      have hne : needOk (needOf need (opAt ops i)) a = true := by
        unfold needOk at hneed ⊢
        rw [List.all_eq_true] at hneed ⊢
        intro p hpm
        have hp0 := hpm
        simp only [needOf, List.mem_filter] at hpm
        have h3 := hneed p hpm.1
        rw [hsame p.1 (fun x hx hd => by
          have h5 := List.all_eq_true.1 hst x hx
          simp only [hd] at h5
          have h6 := List.all_eq_true.1 h5 p hp0
          simp at h6)] at h3
        exact h3
      rw [hat] at hp hne
      obtain ⟨s, hex, hloc⟩ := pureOp_local hp hne
      exact key s hex fun v w1 hrun => ⟨(hloc _ _ _ hrun).1, fun w' _ => (hloc _ _ _ hrun).2 w'⟩
    · obtain ⟨hix, hst⟩ := (Bool.and_eq_true _ _).mp hp
      simp only [List.contains_iff_mem, List.mem_map] at hix
      obtain ⟨⟨i', p⟩, hxm, hxi⟩ := hix
      have hxi' : i' = i := hxi
      subst hxi'
      have hev : a.eval (lowOpnd oi) = p := by
        have e := hlowf _ hxm
        simp only [hat] at e
        rw [← e]
        refine (eval_same fun t ht => ?_).symm
        refine hsame t fun x hx hd => ?_
        have h5 := List.all_eq_true.1 hst x hx
        simp only [hd, hat] at h5
        have h6 := lowOpnd_in oi ht
        simp [h6] at h5
      have hstab := hlow _ hxm
      simp only [hat] at hstab
      unfold Stab at hstab
      cases hop : oi.op <;> simp only [hop] at hstab
      case load t x =>
        have hev' : a.eval x = p := by simpa only [lowOpnd, hop] using hev
        obtain ⟨v, hv⟩ := hstab
        refine key (Instr.loadAt t p) (by simp only [execOp, hop, hev']) fun u w1 hrun => ?_
        rw [hv w hIw] at hrun
        cases hrun
        exact ⟨rfl, hv⟩
      case convert src d x =>
        have hev' : a.eval x = p := by simpa only [lowOpnd, hop] using hev
        obtain ⟨v, hv⟩ := hstab
        refine key (Go.convert src d p) (by simp only [execOp, hop, hev']) fun u w1 hrun => ?_
        rw [hv w hIw] at hrun
        cases hrun
        exact ⟨rfl, hv⟩
  | wr i r ih =>
    have B : ∀ (listed : Array Bool) (a : Act) (w : World), ((i != c || r.flat.isEmpty) && detT P ops need (low.map (·.1)) c true (listed.setIfInBounds i true) r) = true →
        wpList P ops (Seg (planT P ops (finI ops need low Q) I c (.wr i r)).2) (planT P ops (finI ops need low Q) I c (.wr i r)).1 a w → i ∈ Region.ready .any ops listed →
        wpOp P ops (Seg (finI ops need low Q)) i (fun a' w' => (i ≠ c → I w') ∧ wpAnyC P .any ops (Seg (finI ops need low Q)) I c r.flat.length (listed.setIfInBounds i true) a' w') a w := fun listed a w hd h hr => by
      simp only [Bool.and_eq_true] at hd
      refine writeT hr h fun a' w' ⟨h2, h3⟩ => ⟨h2, ?_⟩
      by_cases e : i = c
      · have hre := hd.1
        simp only [e, bne_self_eq_false, Bool.false_or] at hre
        have hn := flat_nil hre
        subst hn
        have : Region.ready .any ops (listed.setIfInBounds i true) = [] := by simpa [detT] using hd.2
        exact ⟨this, h3⟩
      · exact ih.1 _ a' w' hd.2 (h2 e) h3
    refine ⟨fun listed a w hd hIw h => ?_, fun listed a w m hm hd hIw h j hj hr => ?_⟩
    · unfold detT at hd
      rw [Bool.not_true, Bool.false_or, Bool.and_eq_true] at hd
      have hr : Region.ready .any ops listed = [i] := by simpa using hd.1
      refine ⟨fun h0 => (by rw [hr] at h0; cases h0), fun j hj => ?_⟩
      have hj' := hj
      rw [hr] at hj'
      obtain rfl : j = i := by simpa using hj'
      exact B listed a w hd.2 h hj
    · unfold detT at hd
      rw [Bool.not_false, Bool.true_or, Bool.true_and] at hd
      obtain rfl : j = i := by simpa [PT.heads] using hj
      obtain rfl : m = r.flat.length := by simp [PT.flat] at hm; omega
      exact B listed a w hd h hr
  | alt i r s ihr ihs =>
    have B : ∀ (listed : Array Bool) (a : Act) (w : World), (((i != c || r.flat.isEmpty) && detT P ops need (low.map (·.1)) c true (listed.setIfInBounds i true) r) && ((r.flat.length + 1 == s.flat.length) && detT P ops need (low.map (·.1)) c false listed s)) = true → I w →
        wpList P ops (Seg (planT P ops (finI ops need low Q) I c (.alt i r s)).2) (planT P ops (finI ops need low Q) I c (.alt i r s)).1 a w → ∀ j ∈ i :: s.heads, j ∈ Region.ready .any ops listed →
        wpOp P ops (Seg (finI ops need low Q)) j (fun a' w' => (j ≠ c → I w') ∧ wpAnyC P .any ops (Seg (finI ops need low Q)) I c r.flat.length (listed.setIfInBounds j true) a' w') a w := fun listed a w hd hIw h j hj hr => by
      rw [Bool.and_eq_true, Bool.and_eq_true, Bool.and_eq_true] at hd
      obtain ⟨⟨hd1, hd2⟩, hd3, hd4⟩ := hd
      rcases List.mem_cons.1 hj with rfl | hj
      · refine writeT hr h.1 fun a' w' ⟨h2, h3⟩ => ⟨h2, ?_⟩
        by_cases e : j = c
        · simp only [e, bne_self_eq_false, Bool.false_or] at hd1
          have hn := flat_nil hd1
          subst hn
          have : Region.ready .any ops (listed.setIfInBounds j true) = [] := by simpa [detT] using hd2
          exact ⟨this, h3⟩
        · exact ihr.1 _ a' w' hd2 (h2 e) h3
      · exact ihs.2 listed a w r.flat.length (by have := beq_iff_eq.1 hd3; omega) hd4 hIw h.2 j hj hr
    refine ⟨fun listed a w hd hIw h => ?_, fun listed a w m hm hd hIw h j hj hr => ?_⟩
    · unfold detT at hd
      rw [Bool.not_true, Bool.false_or, Bool.and_eq_true] at hd
      have hr : Region.ready .any ops listed = i :: s.heads := by simpa using hd.1
      refine ⟨fun h0 => (by rw [hr] at h0; cases h0), fun j hj => ?_⟩
      have hj' := hj
      rw [hr] at hj'
      exact B listed a w hd.2 hIw h j hj' hj
    · unfold detT at hd
      rw [Bool.not_false, Bool.true_or, Bool.true_and] at hd
      obtain rfl : m = r.flat.length := by simp [PT.flat] at hm; omega
      exact B listed a w hd hIw h j hj hr
/-- THE REGION, with branches. -/
theorem region_fork {Q : Exit → Act → World → Prop} {id : Nat} {l : List Oper} {a : Act} {w : World} (t : PT) (need : Needs) (low : List (Nat × Value)) (I : World → Prop) (c : Nat) (hm : P.follows .mixedOrders = true)
    (hs : Region.noSelect l.toArray = true) (hn : t.flat.length = l.length) (hd : detT P l.toArray need (low.map (·.1)) c true (Array.replicate l.length false) t = true)
    (hlow : ∀ x ∈ low, Stab P I (opAt l.toArray x.1) x.2) (hI : I w.drew)
    (h : wpList P l.toArray (Seg (planT P l.toArray (finI l.toArray need low Q) I c t).2) (planT P l.toArray (finI l.toArray need low Q) I c t).1 a w.drew) : (Code.region id l.toArray true).wp P Q a w := by
  refine Code.wp_mono (Q := Seg (finI l.toArray need low Q)) (fun e a w h => ?_) ?_
  · cases e <;> first | exact h.2.2 | exact h.elim
  · refine wp_region_any hm (wpAny_of_C (I := I) (c := c) _ _ _ _ (?_ : wpAnyC P .any l.toArray (Seg (finI l.toArray need low Q)) I c l.toArray.size (Array.replicate l.toArray.size false) a w.drew))
    have := (mainT (Q := Q) (c := c) hs hlow t).1 (Array.replicate l.length false) a w.drew hd hI h
    rw [hn] at this
    exact this
end
end TL
end Go
