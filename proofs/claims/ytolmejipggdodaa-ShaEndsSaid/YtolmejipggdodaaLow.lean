/- A region that draws its order and holds calls that leave alone what was there: what is loaded there is loaded at any time. Walked in one order. Conditions: the check 'detI', by computation; what is loaded is the same in every world that meets I; behind each operation that writes I holds. -/
import Derived.Test.YtolmejipggdodaaDet
import Derived.Deep.MidRow
import Derived.Test.YtolmejipggdodaaMem
namespace Go
namespace TL
/-- The regular end alone. -/
def Seg (F : Act → World → Prop) : Exit → Act → World → Prop
  | .normal, a, w => F a w
  | _, _, _ => False
theorem Seg.intro {F : Act → World → Prop} {a : Act} {w : World} (h : F a w) : Seg F .normal a w := h
theorem Seg.letsOut {F : Act → World → Prop} (h : LetsOut (Seg F)) : False := by
  obtain ⟨a, w, h⟩ := h; exact h
theorem Oper.wp_seg {P : Program} {o : Oper} {a : Act} {w : World} {K K' : Act → World → Prop} {F F' : Act → World → Prop} (h : ∀ a w, K a w → K' a w) (hh : o.wp P a w K (Seg F)) : o.wp P a w K' (Seg F') := by
  unfold Oper.wp at *
  generalize (execOp a.eval o).run P w = r at *
  cases r with
  | ok n w1 =>
    cases n <;> simp only [Oper.upon] at hh ⊢
    case value v => exact h _ _ hh
    case skip => exact h _ _ hh
    case defer d => exact h _ _ hh
    case enter f args =>
      refine Calls.mono hh fun e w2 h2 => ?_
      cases e with
      | returned v => exact h _ _ h2
      | panicked c => exact h2.elim
      | outgrown => exact (Seg.letsOut h2).elim
    case row row args => exact fun b k => let ⟨v, w2, h1, h2⟩ := hh b k; ⟨v, w2, h _ _ h1, h2⟩
  | halt x w1 => cases x <;> simp only [Oper.upon] at hh <;> exact hh.elim
section
variable {P : Program} {ops : Array Oper} {Q : Exit → Act → World → Prop} {md : Region.Mode} {I : World → Prop}
def wpAnyI (P : Program) (md : Region.Mode) (ops : Array Oper) (Q : Exit → Act → World → Prop) (I : World → Prop) : Nat → Array Bool → Act → World → Prop
  | 0, listed, a, w => Region.ready md ops listed = [] ∧ Q .normal a w
  | fuel + 1, listed, a, w =>
    (Region.ready md ops listed = [] → Q .normal a w) ∧
    ∀ j ∈ Region.ready md ops listed, wpOp P ops Q j (fun a' w' => I w' ∧ wpAnyI P md ops Q I fuel (listed.setIfInBounds j true) a' w') a w
theorem wpAny_of_I : ∀ (fuel : Nat) (listed : Array Bool) (a : Act) (w : World), wpAnyI P md ops Q I fuel listed a w → wpAny P md ops Q fuel listed a w
  | 0, _, _, _, h => h
  | fuel + 1, _, _, _, h => ⟨h.1, fun j hj => wpOp_mono (fun a' w' h' => wpAny_of_I fuel _ a' w' h'.2) (h.2 j hj)⟩
/-- What yields the same in every world that meets I may be taken first. -/
theorem I_first {i : Nat} {oi : Oper} {v : Value} (hi : ops[i]? = some oi) (hsel : ∀ (j : Nat) (o : Oper) cs b, ops[j]? = some o → o.op ≠ .select cs b)
    (hQ : ∀ c a w, Q (.panic c) (a.put oi.dst v) w → Q (.panic c) a w) :
    ∀ (fuel : Nat) (listed : Array Bool) (a : Act) (w : World),
      (∀ j oj, ops[j]? = some oj → j ≠ i → listed.getD j true = false → (∀ e ∈ oj.after, Region.binds md e = true → e.on ≠ i) → oi.apart ops oj = true) →
      i ∈ Region.ready md ops listed → YieldsIf P ops I oi v a → I w →
      wpAnyI P md ops Q I fuel (listed.setIfInBounds i true) (a.put oi.dst v) w → wpAnyI P md ops Q I (fuel + 1) listed a w := by
  intro fuel
  induction fuel with
  | zero =>
    intro listed a w _ hr hy hw H
    refine ⟨fun h => (by rw [h] at hr; cases hr), fun j hj => ?_⟩
    by_cases hji : j = i
    · subst hji; exact hy.wpOp hi hw ⟨hw, H⟩
    · have := ready_mono hj hji
      rw [H.1] at this
      cases this
  | succ fuel ih =>
    intro listed a w hfree hr hy hw H
    refine ⟨fun h => (by rw [h] at hr; cases hr), fun j hj => ?_⟩
    by_cases hji : j = i
    · subst hji; exact hy.wpOp hi hw ⟨hw, H⟩
    · have h1 := H.2 j (ready_mono hj hji)
      obtain ⟨hjun, oj, hoj, hall⟩ := mem_ready.1 hj
      have hnot := not_waits hr hoj hall
      have h2 := wpOp_putIf hoj (hfree j oj hoj hji hjun hnot) (fun cs b => hsel i oi cs b hi) (fun cs b => hsel j oj cs b hoj) hQ hy h1
      have hfree' : ∀ k ok, ops[k]? = some ok → k ≠ i → (listed.setIfInBounds j true).getD k true = false →
          (∀ e ∈ ok.after, Region.binds md e = true → e.on ≠ i) → oi.apart ops ok = true := fun k ok hk hki hun hno => by
        refine hfree k ok hk hki ?_ hno
        by_cases hjk : j = k
        · subst hjk; exact hjun
        · rw [getD_set_ne true hjk] at hun; exact hun
      refine wpOp_mono (fun a' w' h3 => ⟨h3.2.1, ih (listed.setIfInBounds j true) a' w' hfree' (ready_mono hr (Ne.symm hji)) h3.1 h3.2.1 ?_⟩) h2
      rw [Array.setIfInBounds_comm _ _ hji]; exact h3.2.2
end
/-! ### The walk -/
/-- The operations up to the first that writes, and what is to hold there. -/
def planW (P : Program) (ops : Array Oper) (fin : Act → World → Prop) (I : World → Prop) : Plan → List Oper × (Act → World → Prop)
  | [] => ([], fin)
  | (i, false) :: r => (opAt ops i :: (planW P ops fin I r).1, (planW P ops fin I r).2)
  | (i, true) :: r => ([opAt ops i], fun a w => I w ∧ wpList P ops (Seg (planW P ops fin I r).2) (planW P ops fin I r).1 a w)
def lowOpnd (o : Oper) : Operand := match o.op with | .load _ x => x | .convert _ _ x => x | _ => .const undef
/-- What is loaded at p is the same in every world that meets I. -/
def Stab (P : Program) (I : World → Prop) (o : Oper) (p : Value) : Prop :=
  match o.op with
  | .load t _ => ∃ v, ∀ w, I w → (Instr.loadAt t p).run P w = .ok v w
  | .convert src dst _ => ∃ v, ∀ w, I w → (convert src dst p).run P w = .ok v w
  | _ => False
def finI (ops : Array Oper) (need : Needs) (low : List (Nat × Value)) (Q : Exit → Act → World → Prop) : Act → World → Prop := fun a w =>
  needOk need a = true ∧ (∀ x ∈ low, a.eval (lowOpnd (opAt ops x.1)) = x.2) ∧ Q .normal a w
def staysLow (ops : Array Oper) (o : Oper) (r : Plan) : Bool := r.all fun x => match (opAt ops x.1).dst with | some d => !(tmpsIn o).contains d | none => true
def detI (P : Program) (ops : Array Oper) (need : Needs) (idx : List Nat) : Array Bool → Plan → Bool
  | listed, [] => (Region.ready .any ops listed).isEmpty
  | listed, (i, false) :: r =>
    (Region.ready .any ops listed).contains i && Region.free .any ops listed i &&
      ((stays ops need (opAt ops i) ((i, false) :: r) && pureOp P (needOf need (opAt ops i)) (opAt ops i)) || (idx.contains i && staysLow ops (opAt ops i) ((i, false) :: r))) &&
      detI P ops need idx (listed.setIfInBounds i true) r
  | listed, (i, true) :: r => Region.ready .any ops listed == [i] && detI P ops need idx (listed.setIfInBounds i true) r
section
variable {P : Program} {ops : Array Oper} {I : World → Prop} {fin : Act → World → Prop}
theorem stepS {F : Act → World → Prop} {o : Oper} {l : List Oper} {a : Act} {w : World} (h : wpList P ops (Seg F) (o :: l) a w) :
    ∃ a' w', wpList P ops (Seg F) l a' w' ∧ ∀ t, o.dst ≠ some t → a'.tmps.getD t undef = a.tmps.getD t undef := by
  unfold wpList at h
  split at h
  · rcases h with h | h
    · unfold Oper.wp at h
      generalize (execOp a.eval o).run P w = r at h
      cases r with
      | ok n w1 =>
        cases n <;> simp only [Oper.upon] at h
        case value v => exact ⟨_, _, h, fun t ht => put_ne ht⟩
        case skip => exact ⟨_, _, h, fun t ht => put_ne ht⟩
        case defer d => exact ⟨_, _, h, fun t ht => put_ne (a := { a with defers := d :: a.defers }) ht⟩
        case enter f args =>
          obtain ⟨e, w2, fr, hR, _⟩ := h []
          cases e with
          | returned v => exact ⟨_, _, hR, fun t ht => put_ne ht⟩
          | panicked c => exact hR.elim
          | outgrown => exact (Seg.letsOut hR).elim
        case row row args =>
          obtain ⟨v, w2, hR, _⟩ := h default []
          exact ⟨_, _, hR, fun t ht => put_ne ht⟩
      | halt x w1 => cases x <;> simp only [Oper.upon] at h <;> exact h.elim
    · exact (Seg.letsOut h.2).elim
  · exact ⟨_, _, h, fun t ht => put_ne ht⟩
theorem endsP : ∀ (plan : Plan) (a : Act) (w : World), wpList P ops (Seg (planW P ops fin I plan).2) (planW P ops fin I plan).1 a w →
    ∃ af wf, fin af wf ∧ ∀ t, (∀ x ∈ plan, (opAt ops x.1).dst ≠ some t) → af.tmps.getD t undef = a.tmps.getD t undef
  | [], a, w, h => ⟨a, w, h, fun _ _ => rfl⟩
  | (i, false) :: r, a, w, h => by
    obtain ⟨a', w', h1, h2⟩ := stepS h
    obtain ⟨af, wf, h3, h4⟩ := endsP r a' w' h1
    exact ⟨af, wf, h3, fun t ht => (h4 t fun x hx => ht x (List.mem_cons_of_mem _ hx)).trans (h2 t (ht (i, false) List.mem_cons_self))⟩
  | (i, true) :: r, a, w, h => by
    obtain ⟨a', w', h1, h2⟩ := stepS h
    obtain ⟨af, wf, h3, h4⟩ := endsP r a' w' h1.2
    exact ⟨af, wf, h3, fun t ht => (h4 t fun x hx => ht x (List.mem_cons_of_mem _ hx)).trans (h2 t (ht (i, true) List.mem_cons_self))⟩
theorem eval_same {a a' : Act} {x : Operand} (h : ∀ t, x = .tmp t → a'.tmps.getD t undef = a.tmps.getD t undef) : a'.eval x = a.eval x := by
  cases x <;> simp only [Act.eval]
  exact h _ rfl
theorem lowOpnd_in (o : Oper) {t : Tmp} (h : lowOpnd o = .tmp t) : t ∈ tmpsIn o := by
  obtain ⟨dst, op, type, pos, after, guard⟩ := o
  cases op <;> simp only [lowOpnd, reduceCtorEq] at h
  all_goals (subst h; simp [tmpsIn, Op.operands])
theorem mainI {need : Needs} {low : List (Nat × Value)} {Q : Exit → Act → World → Prop} (hs : Region.noSelect ops = true) (hlow : ∀ x ∈ low, Stab P I (opAt ops x.1) x.2) :
    ∀ (plan : Plan) (listed : Array Bool) (a : Act) (w : World), detI P ops need (low.map (·.1)) listed plan = true → I w →
      wpList P ops (Seg (planW P ops (finI ops need low Q) I plan).2) (planW P ops (finI ops need low Q) I plan).1 a w →
      wpAnyI P .any ops (Seg (finI ops need low Q)) I plan.length listed a w
  | [], listed, a, w, hd, _, h => by
    have : Region.ready .any ops listed = [] := by simpa [detI] using hd
    exact ⟨this, h⟩
  | (i, false) :: r, listed, a, w, hd, hIw, h => by
    simp only [detI, Bool.and_eq_true] at hd
    obtain ⟨⟨⟨hr, hf⟩, hk⟩, hrest⟩ := hd
    have hr' : i ∈ Region.ready .any ops listed := by simpa using hr
    obtain ⟨_, oi, hoi, _⟩ := mem_ready.1 hr'
    have hat : opAt ops i = oi := by simp [opAt, hoi]
    have hends := endsP ((i, false) :: r) a w h
    have h' : wpList P ops (Seg (planW P ops (finI ops need low Q) I r).2) (oi :: (planW P ops (finI ops need low Q) I r).1) a w := by
      rw [← hat]; exact h
    have hQ : ∀ v c a w, Seg (finI ops need low Q) (.panic c) (a.put oi.dst v) w → Seg (finI ops need low Q) (.panic c) a w := fun _ _ _ _ h => h.elim
    have hsel := fun j o cs b ho => Region.noSelect_spec hs j o cs b ho
    -- what it comes to, in every world that meets I
    have key : ∀ (s : Sem Value), execOp a.eval oi = (do Pure.pure (Next.value (← s))) → (∀ v w1, s.run P w = .ok v w1 → w1 = w ∧ ∀ w', I w' → s.run P w' = .ok v w') →
        wpAnyI P .any ops (Seg (finI ops need low Q)) I (r.length + 1) listed a w := fun s hex hl => by
      cases hw : Region.wanted oi (yielded ops a.tmps) with
      | true =>
        unfold wpList at h'
        rw [if_pos hw] at h'
        rcases h' with h' | h'
        · unfold Oper.wp at h'
          rw [hex, Sem.run_bind] at h'
          cases hrun : s.run P w with
          | ok v w1 =>
            obtain ⟨rfl, hall⟩ := hl _ _ hrun
            rw [hrun] at h'
            have hy : YieldsIf P ops I oi v a := .inl ⟨hw, fun w' hw' => by rw [hex, Sem.run_bind, hall w' hw']; rfl⟩
            exact I_first hoi hsel (hQ v) r.length listed a w1 (Region.free_spec hoi hf) hr' hy hIw (mainI hs hlow r _ _ w1 hrest hIw h')
          | halt x w1 =>
            rw [hrun] at h'
            cases x <;> exact h'.elim
        · exact (Seg.letsOut h'.2).elim
      | false =>
        unfold wpList at h'
        rw [if_neg (by rw [hw]; decide)] at h'
        exact I_first hoi hsel (hQ undef) r.length listed a w (Region.free_spec hoi hf) hr' (.inr ⟨hw, rfl⟩) hIw (mainI hs hlow r _ _ w hrest hIw h')
    obtain ⟨af, wf, ⟨hneed, hlowf, _⟩, hsame⟩ := hends
    rcases (Bool.or_eq_true _ _).mp hk with hp | hp
    · obtain ⟨hst, hp⟩ := (Bool.and_eq_true _ _).mp hp
      have hne : needOk (needOf need (opAt ops i)) a = true := by
        unfold needOk at hneed ⊢
        rw [List.all_eq_true] at hneed ⊢
        intro p hpm
        have hp0 := hpm
        simp only [needOf, List.mem_filter] at hpm
        have h3 := hneed p hpm.1
        rw [hsame p.1 (fun x hx hd => by
          have h5 := List.all_eq_true.1 hst x hx
          simp only [hd] at h5
          have h6 := List.all_eq_true.1 h5 p hp0
          simp at h6)] at h3
        exact h3
      rw [hat] at hp hne
      obtain ⟨s, hex, hloc⟩ := pureOp_local hp hne
      exact key s hex fun v w1 hrun => ⟨(hloc _ _ _ hrun).1, fun w' _ => (hloc _ _ _ hrun).2 w'⟩
    · obtain ⟨hix, hst⟩ := (Bool.and_eq_true _ _).mp hp
      simp only [List.contains_iff_mem, List.mem_map] at hix
      obtain ⟨⟨i', p⟩, hxm, hxi⟩ := hix
      have hxi' : i' = i := hxi
      subst hxi'
      have hev : a.eval (lowOpnd oi) = p := by
        have e := hlowf _ hxm
        simp only [hat] at e
        rw [← e]
        refine (eval_same fun t ht => ?_).symm
        refine hsame t fun x hx hd => ?_
        have h5 := List.all_eq_true.1 hst x hx
        simp only [hd, hat] at h5
        have h6 := lowOpnd_in oi ht
        simp [h6] at h5
      have hstab := hlow _ hxm
      simp only [hat] at hstab
      unfold Stab at hstab
      cases hop : oi.op <;> simp only [hop] at hstab
      case load t x =>
        have hev' : a.eval x = p := by simpa only [lowOpnd, hop] using hev
        obtain ⟨v, hv⟩ := hstab
        refine key (Instr.loadAt t p) (by simp only [execOp, hop, hev']) fun u w1 hrun => ?_
        rw [hv w hIw] at hrun
        cases hrun
        exact ⟨rfl, hv⟩
      case convert src d x =>
        have hev' : a.eval x = p := by simpa only [lowOpnd, hop] using hev
        obtain ⟨v, hv⟩ := hstab
        refine key (Go.convert src d p) (by simp only [execOp, hop, hev']) fun u w1 hrun => ?_
        rw [hv w hIw] at hrun
        cases hrun
        exact ⟨rfl, hv⟩
  | (i, true) :: r, listed, a, w, hd, hIw, h => by
    simp only [detI, Bool.and_eq_true] at hd
    have hr : Region.ready .any ops listed = [i] := by simpa using hd.1
    have hr' : i ∈ Region.ready .any ops listed := by rw [hr]; simp
    obtain ⟨_, oi, hoi, _⟩ := mem_ready.1 hr'
    have hat : opAt ops i = oi := by simp [opAt, hoi]
    refine ⟨fun h0 => (by rw [hr] at h0; cases h0), fun j hj => ?_⟩
    rw [hr] at hj
    obtain rfl : j = i := by simpa using hj
    have h1 : wpList P ops (Seg (planW P ops (finI ops need low Q) I ((j, true) :: r)).2) [oi] a w := by rw [← hat]; exact h
    have cont : ∀ a' w', I w' ∧ wpList P ops (Seg (planW P ops (finI ops need low Q) I r).2) (planW P ops (finI ops need low Q) I r).1 a' w' →
        I w' ∧ wpAnyI P .any ops (Seg (finI ops need low Q)) I r.length (listed.setIfInBounds j true) a' w' := fun a' w' ⟨h2, h3⟩ => ⟨h2, mainI hs hlow r _ a' w' hd.2 h2 h3⟩
    unfold wpOp
    rw [hoi]
    unfold wpList at h1
    dsimp only
    split
    · rename_i hw
      rw [if_pos hw] at h1
      rcases h1 with h1 | h1
      · exact .inl (Oper.wp_seg cont h1)
      · exact (Seg.letsOut h1.2).elim
    · rename_i hw
      rw [if_neg hw] at h1
      exact cont _ _ h1
/-- THE REGION. 'low': the loads (and readings of bytes) that may come at any time, each with the place that it reads. -/
theorem region_low {Q : Exit → Act → World → Prop} {id : Nat} {l : List Oper} {a : Act} {w : World} (plan : Plan) (need : Needs) (low : List (Nat × Value)) (I : World → Prop) (hm : P.follows .mixedOrders = true)
    (hs : Region.noSelect l.toArray = true) (hn : plan.length = l.length) (hd : detI P l.toArray need (low.map (·.1)) (Array.replicate l.length false) plan = true)
    (hlow : ∀ x ∈ low, Stab P I (opAt l.toArray x.1) x.2) (hI : I w.drew)
    (h : wpList P l.toArray (Seg (planW P l.toArray (finI l.toArray need low Q) I plan).2) (planW P l.toArray (finI l.toArray need low Q) I plan).1 a w.drew) : (Code.region id l.toArray true).wp P Q a w := by
  refine Code.wp_mono (Q := Seg (finI l.toArray need low Q)) (fun e a w h => ?_) ?_
  · cases e <;> first | exact h.2.2 | exact h.elim
  · refine wp_region_any hm (wpAny_of_I (I := I) _ _ _ _ (?_ : wpAnyI P .any l.toArray (Seg (finI l.toArray need low Q)) I l.toArray.size (Array.replicate l.toArray.size false) a w.drew))
    have := mainI (Q := Q) hs hlow plan (Array.replicate l.length false) a w.drew hd hI h
    rw [hn] at this
    exact this
end
/-! ### What is told to it -/
theorem stab_load {P : Program} {I : World → Prop} {o : Oper} {t : TypeId} {x : Operand} (ho : o.op = .load t x) (b off : Nat) (cs : List Value) (d : TypeDesc) (hI : ∀ w', I w' → w'.rangeAt b off cs)
    (hu : P.underlying t = some d) (hd : d.isRow = true) (hi : (P.info? t).map (·.size) = some cs.length) : Stab P I o (.pointer (some ⟨b, off, none⟩)) := by
  unfold Stab; rw [ho]
  exact ⟨_, fun w' hw => run_loadAt_mid w' b off t cs d (hI w' hw) hu hd hi⟩
theorem stab_conv {P : Program} {I : World → Prop} {o : Oper} {src dst e : TypeId} {x : Operand} (ho : o.op = .convert src dst x) (v : Value) (l : List UInt8) (hI : ∀ w', I w' → SeesB w' v l)
    (hs : P.underlying src = some (.slice e)) (he : P.underlying e = some (.int .u8)) (hd : P.underlying dst = some .string) : Stab P I o v := by
  unfold Stab; rw [ho]
  exact ⟨_, fun w' hw => SeesB.run_string (hI w' hw) src dst e hs he hd w' (grownBy_refl _ _)⟩
theorem lows_cons {P : Program} {I : World → Prop} {ops : Array Oper} {x : Nat × Value} {low : List (Nat × Value)} (h : Stab P I (opAt ops x.1) x.2) (r : ∀ x ∈ low, Stab P I (opAt ops x.1) x.2) : ∀ y ∈ x :: low, Stab P I (opAt ops y.1) y.2 :=
  List.forall_mem_cons.2 ⟨h, r⟩
theorem lows_nil {P : Program} {I : World → Prop} {ops : Array Oper} : ∀ y ∈ ([] : List (Nat × Value)), Stab P I (opAt ops y.1) y.2 := fun _ h => by cases h
theorem ats_cons {ops : Array Oper} {a : Act} {x : Nat × Value} {low : List (Nat × Value)} (h : a.eval (lowOpnd (opAt ops x.1)) = x.2) (r : ∀ x ∈ low, a.eval (lowOpnd (opAt ops x.1)) = x.2) : ∀ y ∈ x :: low, a.eval (lowOpnd (opAt ops y.1)) = y.2 :=
  List.forall_mem_cons.2 ⟨h, r⟩
theorem ats_nil {ops : Array Oper} {a : Act} : ∀ y ∈ ([] : List (Nat × Value)), a.eval (lowOpnd (opAt ops y.1)) = y.2 := fun _ h => by cases h
theorem needs_nil {a : Act} : needOk [] a = true := rfl
theorem needs_cons {a : Act} {x : Tmp × Shape} {r : Needs} (h : x.2.ok (a.tmps.getD x.1 undef) = true) (k : needOk r a = true) : needOk (x :: r) a = true := by
  unfold needOk at *; rw [List.all_cons, h, k]; rfl
end TL
end Go
