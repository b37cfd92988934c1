/- Texts of this seat, put together: Low, Reg, Str, Row, AesA. Each begins with a remark that says what is proved in it, and under which conditions. -/
import Derived.Deep.MidRow
import Derived.Lib.ConvBytes
import Derived.Test.YtjlkiopncclomaaZa
/- A region that draws its order and holds calls that leave alone what was there: what is loaded there is loaded at any time. Walked in one order. Conditions: the check 'detI', by computation; what is loaded is the same in every world that meets I; behind each operation that writes I holds. -/
namespace Go
namespace TL
/-- The regular end alone. -/
def Seg (F : Act → World → Prop) : Exit → Act → World → Prop
  | .normal, a, w => F a w
  | _, _, _ => False
theorem Seg.intro {F : Act → World → Prop} {a : Act} {w : World} (h : F a w) : Seg F .normal a w := h
theorem Seg.letsOut {F : Act → World → Prop} (h : LetsOut (Seg F)) : False := by
  obtain ⟨a, w, h⟩ := h; exact h
theorem Oper.wp_seg {P : Program} {o : Oper} {a : Act} {w : World} {K K' : Act → World → Prop} {F F' : Act → World → Prop} (h : ∀ a w, K a w → K' a w) (hh : o.wp P a w K (Seg F)) : o.wp P a w K' (Seg F') := by
  unfold Oper.wp at *
  generalize (execOp a.eval o).run P w = r at *
  cases r with
  | ok n w1 =>
    cases n <;> simp only [Oper.upon] at hh ⊢
    case value v => exact h _ _ hh
    case skip => exact h _ _ hh
    case defer d => exact h _ _ hh
    case enter f args =>
      refine Calls.mono hh fun e w2 h2 => ?_
      cases e with
      | returned v => exact h _ _ h2
      | panicked c => exact h2.elim
      | outgrown => exact (Seg.letsOut h2).elim
    case row row args => exact fun b k => let ⟨v, w2, h1, h2⟩ := hh b k; ⟨v, w2, h _ _ h1, h2⟩
  | halt x w1 => cases x <;> simp only [Oper.upon] at hh <;> exact hh.elim
section
variable {P : Program} {ops : Array Oper} {Q : Exit → Act → World → Prop} {md : Region.Mode} {I : World → Prop}
def wpAnyI (P : Program) (md : Region.Mode) (ops : Array Oper) (Q : Exit → Act → World → Prop) (I : World → Prop) : Nat → Array Bool → Act → World → Prop
  | 0, listed, a, w => Region.ready md ops listed = [] ∧ Q .normal a w
  | fuel + 1, listed, a, w =>
    (Region.ready md ops listed = [] → Q .normal a w) ∧
    ∀ j ∈ Region.ready md ops listed, wpOp P ops Q j (fun a' w' => I w' ∧ wpAnyI P md ops Q I fuel (listed.setIfInBounds j true) a' w') a w
theorem wpAny_of_I : ∀ (fuel : Nat) (listed : Array Bool) (a : Act) (w : World), wpAnyI P md ops Q I fuel listed a w → wpAny P md ops Q fuel listed a w
  | 0, _, _, _, h => h
  | fuel + 1, _, _, _, h => ⟨h.1, fun j hj => wpOp_mono (fun a' w' h' => wpAny_of_I fuel _ a' w' h'.2) (h.2 j hj)⟩
/-- What yields the same in every world that meets I may be taken first. -/
theorem I_first {i : Nat} {oi : Oper} {v : Value} (hi : ops[i]? = some oi) (hsel : ∀ (j : Nat) (o : Oper) cs b, ops[j]? = some o → o.op ≠ .select cs b)
    (hQ : ∀ c a w, Q (.panic c) (a.put oi.dst v) w → Q (.panic c) a w) :
    ∀ (fuel : Nat) (listed : Array Bool) (a : Act) (w : World),
      (∀ j oj, ops[j]? = some oj → j ≠ i → listed.getD j true = false → (∀ e ∈ oj.after, Region.binds md e = true → e.on ≠ i) → oi.apart ops oj = true) →
      i ∈ Region.ready md ops listed → YieldsIf P ops I oi v a → I w →
      wpAnyI P md ops Q I fuel (listed.setIfInBounds i true) (a.put oi.dst v) w → wpAnyI P md ops Q I (fuel + 1) listed a w := by
  intro fuel
  induction fuel with
  | zero =>
    intro listed a w _ hr hy hw H
    refine ⟨fun h => (by rw [h] at hr; cases hr), fun j hj => ?_⟩
    by_cases hji : j = i
    · subst hji; exact hy.wpOp hi hw ⟨hw, H⟩
    · have := ready_mono hj hji
      rw [H.1] at this
      cases this
  | succ fuel ih =>
    intro listed a w hfree hr hy hw H
    refine ⟨fun h => (by rw [h] at hr; cases hr), fun j hj => ?_⟩
    by_cases hji : j = i
    · subst hji; exact hy.wpOp hi hw ⟨hw, H⟩
    · have h1 := H.2 j (ready_mono hj hji)
      obtain ⟨hjun, oj, hoj, hall⟩ := mem_ready.1 hj
      have hnot := not_waits hr hoj hall
      have h2 := wpOp_putIf hoj (hfree j oj hoj hji hjun hnot) (fun cs b => hsel i oi cs b hi) (fun cs b => hsel j oj cs b hoj) hQ hy h1
      have hfree' : ∀ k ok, ops[k]? = some ok → k ≠ i → (listed.setIfInBounds j true).getD k true = false →
          (∀ e ∈ ok.after, Region.binds md e = true → e.on ≠ i) → oi.apart ops ok = true := fun k ok hk hki hun hno => by
        refine hfree k ok hk hki ?_ hno
        by_cases hjk : j = k
        · subst hjk; exact hjun
        · rw [getD_set_ne true hjk] at hun; exact hun
      refine wpOp_mono (fun a' w' h3 => ⟨h3.2.1, ih (listed.setIfInBounds j true) a' w' hfree' (ready_mono hr (Ne.symm hji)) h3.1 h3.2.1 ?_⟩) h2
      rw [Array.setIfInBounds_comm _ _ hji]; exact h3.2.2
end
/-! ### The walk -/
/-- The operations up to the first that writes, and what is to hold there. -/
def planW (P : Program) (ops : Array Oper) (fin : Act → World → Prop) (I : World → Prop) : Plan → List Oper × (Act → World → Prop)
  | [] => ([], fin)
  | (i, false) :: r => (opAt ops i :: (planW P ops fin I r).1, (planW P ops fin I r).2)
  | (i, true) :: r => ([opAt ops i], fun a w => I w ∧ wpList P ops (Seg (planW P ops fin I r).2) (planW P ops fin I r).1 a w)
def lowOpnd (o : Oper) : Operand := match o.op with | .load _ x => x | .convert _ _ x => x | _ => .const undef
/-- What is loaded at p is the same in every world that meets I. -/
def Stab (P : Program) (I : World → Prop) (o : Oper) (p : Value) : Prop :=
  match o.op with
  | .load t _ => ∃ v, ∀ w, I w → (Instr.loadAt t p).run P w = .ok v w
  | .convert src dst _ => ∃ v, ∀ w, I w → (convert src dst p).run P w = .ok v w
  | _ => False
def finI (ops : Array Oper) (need : Needs) (low : List (Nat × Value)) (Q : Exit → Act → World → Prop) : Act → World → Prop := fun a w =>
  needOk need a = true ∧ (∀ x ∈ low, a.eval (lowOpnd (opAt ops x.1)) = x.2) ∧ Q .normal a w
def staysLow (ops : Array Oper) (o : Oper) (r : Plan) : Bool := r.all fun x => match (opAt ops x.1).dst with | some d => !(tmpsIn o).contains d | none => true
def detI (P : Program) (ops : Array Oper) (need : Needs) (idx : List Nat) : Array Bool → Plan → Bool
  | listed, [] => (Region.ready .any ops listed).isEmpty
  | listed, (i, false) :: r =>
    (Region.ready .any ops listed).contains i && Region.free .any ops listed i &&
      ((stays ops need (opAt ops i) ((i, false) :: r) && pureOp P (needOf need (opAt ops i)) (opAt ops i)) || (idx.contains i && staysLow ops (opAt ops i) ((i, false) :: r))) &&
      detI P ops need idx (listed.setIfInBounds i true) r
  | listed, (i, true) :: r => Region.ready .any ops listed == [i] && detI P ops need idx (listed.setIfInBounds i true) r
section
variable {P : Program} {ops : Array Oper} {I : World → Prop} {fin : Act → World → Prop}
theorem stepS {F : Act → World → Prop} {o : Oper} {l : List Oper} {a : Act} {w : World} (h : wpList P ops (Seg F) (o :: l) a w) :
    ∃ a' w', wpList P ops (Seg F) l a' w' ∧ ∀ t, o.dst ≠ some t → a'.tmps.getD t undef = a.tmps.getD t undef := by
  unfold wpList at h
  split at h
  · rcases h with h | h
    · unfold Oper.wp at h
      generalize (execOp a.eval o).run P w = r at h
      cases r with
      | ok n w1 =>
        cases n <;> simp only [Oper.upon] at h
        case value v => exact ⟨_, _, h, fun t ht => put_ne ht⟩
        case skip => exact ⟨_, _, h, fun t ht => put_ne ht⟩
        case defer d => exact ⟨_, _, h, fun t ht => put_ne (a := { a with defers := d :: a.defers }) ht⟩
        case enter f args =>
          obtain ⟨e, w2, fr, hR, _⟩ := h []
          cases e with
          | returned v => exact ⟨_, _, hR, fun t ht => put_ne ht⟩
          | panicked c => exact hR.elim
          | outgrown => exact (Seg.letsOut hR).elim
        case row row args =>
          obtain ⟨v, w2, hR, _⟩ := h default []
          exact ⟨_, _, hR, fun t ht => put_ne ht⟩
      | halt x w1 => cases x <;> simp only [Oper.upon] at h <;> exact h.elim
    · exact (Seg.letsOut h.2).elim
  · exact ⟨_, _, h, fun t ht => put_ne ht⟩
theorem endsP : ∀ (plan : Plan) (a : Act) (w : World), wpList P ops (Seg (planW P ops fin I plan).2) (planW P ops fin I plan).1 a w →
    ∃ af wf, fin af wf ∧ ∀ t, (∀ x ∈ plan, (opAt ops x.1).dst ≠ some t) → af.tmps.getD t undef = a.tmps.getD t undef
  | [], a, w, h => ⟨a, w, h, fun _ _ => rfl⟩
  | (i, false) :: r, a, w, h => by
    obtain ⟨a', w', h1, h2⟩ := stepS h
    obtain ⟨af, wf, h3, h4⟩ := endsP r a' w' h1
    exact ⟨af, wf, h3, fun t ht => (h4 t fun x hx => ht x (List.mem_cons_of_mem _ hx)).trans (h2 t (ht (i, false) List.mem_cons_self))⟩
  | (i, true) :: r, a, w, h => by
    obtain ⟨a', w', h1, h2⟩ := stepS h
    obtain ⟨af, wf, h3, h4⟩ := endsP r a' w' h1.2
    exact ⟨af, wf, h3, fun t ht => (h4 t fun x hx => ht x (List.mem_cons_of_mem _ hx)).trans (h2 t (ht (i, true) List.mem_cons_self))⟩
theorem eval_same {a a' : Act} {x : Operand} (h : ∀ t, x = .tmp t → a'.tmps.getD t undef = a.tmps.getD t undef) : a'.eval x = a.eval x := by
  cases x <;> simp only [Act.eval]
  exact h _ rfl
theorem lowOpnd_in (o : Oper) {t : Tmp} (h : lowOpnd o = .tmp t) : t ∈ tmpsIn o := by
  obtain ⟨dst, op, type, pos, after, guard⟩ := o
  cases op <;> simp only [lowOpnd, reduceCtorEq] at h
  all_goals (subst h; simp [tmpsIn, Op.operands])
theorem mainI {need : Needs} {low : List (Nat × Value)} {Q : Exit → Act → World → Prop} (hs : Region.noSelect ops = true) (hlow : ∀ x ∈ low, Stab P I (opAt ops x.1) x.2) :
    ∀ (plan : Plan) (listed : Array Bool) (a : Act) (w : World), detI P ops need (low.map (·.1)) listed plan = true → I w →
      wpList P ops (Seg (planW P ops (finI ops need low Q) I plan).2) (planW P ops (finI ops need low Q) I plan).1 a w →
      wpAnyI P .any ops (Seg (finI ops need low Q)) I plan.length listed a w
  | [], listed, a, w, hd, _, h => by
    have : Region.ready .any ops listed = [] := by simpa [detI] using hd
    exact ⟨this, h⟩
  | (i, false) :: r, listed, a, w, hd, hIw, h => by
    simp only [detI, Bool.and_eq_true] at hd
    obtain ⟨⟨⟨hr, hf⟩, hk⟩, hrest⟩ := hd
    have hr' : i ∈ Region.ready .any ops listed := by simpa using hr
    obtain ⟨_, oi, hoi, _⟩ := mem_ready.1 hr'
    have hat : opAt ops i = oi := by simp [opAt, hoi]
    have hends := endsP ((i, false) :: r) a w h
    have h' : wpList P ops (Seg (planW P ops (finI ops need low Q) I r).2) (oi :: (planW P ops (finI ops need low Q) I r).1) a w := by
      rw [← hat]; exact h
    have hQ : ∀ v c a w, Seg (finI ops need low Q) (.panic c) (a.put oi.dst v) w → Seg (finI ops need low Q) (.panic c) a w := fun _ _ _ _ h => h.elim
    have hsel := fun j o cs b ho => Region.noSelect_spec hs j o cs b ho
    -- what it comes to, in every world that meets I
    have key : ∀ (s : Sem Value), execOp a.eval oi = (do Pure.pure (Next.value (← s))) → (∀ v w1, s.run P w = .ok v w1 → w1 = w ∧ ∀ w', I w' → s.run P w' = .ok v w') →
        wpAnyI P .any ops (Seg (finI ops need low Q)) I (r.length + 1) listed a w := fun s hex hl => by
      cases hw : Region.wanted oi (yielded ops a.tmps) with
      | true =>
        unfold wpList at h'
        rw [if_pos hw] at h'
        rcases h' with h' | h'
        · unfold Oper.wp at h'
          rw [hex, Sem.run_bind] at h'
          cases hrun : s.run P w with
          | ok v w1 =>
            obtain ⟨rfl, hall⟩ := hl _ _ hrun
            rw [hrun] at h'
            have hy : YieldsIf P ops I oi v a := .inl ⟨hw, fun w' hw' => by rw [hex, Sem.run_bind, hall w' hw']; rfl⟩
            exact I_first hoi hsel (hQ v) r.length listed a w1 (Region.free_spec hoi hf) hr' hy hIw (mainI hs hlow r _ _ w1 hrest hIw h')
          | halt x w1 =>
            rw [hrun] at h'
            cases x <;> exact h'.elim
        · exact (Seg.letsOut h'.2).elim
      | false =>
        unfold wpList at h'
        rw [if_neg (by rw [hw]; decide)] at h'
        exact I_first hoi hsel (hQ undef) r.length listed a w (Region.free_spec hoi hf) hr' (.inr ⟨hw, rfl⟩) hIw (mainI hs hlow r _ _ w hrest hIw h')
    obtain ⟨af, wf, ⟨hneed, hlowf, _⟩, hsame⟩ := hends
    rcases (Bool.or_eq_true _ _).mp hk with hp | hp
    · obtain ⟨hst, hp⟩ := (Bool.and_eq_true _ _).mp hp
      have hne : needOk (needOf need (opAt ops i)) a = true := by
        unfold needOk at hneed ⊢
        rw [List.all_eq_true] at hneed ⊢
        intro p hpm
        have hp0 := hpm
        simp only [needOf, List.mem_filter] at hpm
        have h3 := hneed p hpm.1
        rw [hsame p.1 (fun x hx hd => by
          have h5 := List.all_eq_true.1 hst x hx
          simp only [hd] at h5
          have h6 := List.all_eq_true.1 h5 p hp0
          simp at h6)] at h3
        exact h3
      rw [hat] at hp hne
      obtain ⟨s, hex, hloc⟩ := pureOp_local hp hne
      exact key s hex fun v w1 hrun => ⟨(hloc _ _ _ hrun).1, fun w' _ => (hloc _ _ _ hrun).2 w'⟩
    · obtain ⟨hix, hst⟩ := (Bool.and_eq_true _ _).mp hp
      simp only [List.contains_iff_mem, List.mem_map] at hix
      obtain ⟨⟨i', p⟩, hxm, hxi⟩ := hix
      have hxi' : i' = i := hxi
      subst hxi'
      have hev : a.eval (lowOpnd oi) = p := by
        have e := hlowf _ hxm
        simp only [hat] at e
        rw [← e]
        refine (eval_same fun t ht => ?_).symm
        refine hsame t fun x hx hd => ?_
        have h5 := List.all_eq_true.1 hst x hx
        simp only [hd, hat] at h5
        have h6 := lowOpnd_in oi ht
        simp [h6] at h5
      have hstab := hlow _ hxm
      simp only [hat] at hstab
      unfold Stab at hstab
      cases hop : oi.op <;> simp only [hop] at hstab
      case load t x =>
        have hev' : a.eval x = p := by simpa only [lowOpnd, hop] using hev
        obtain ⟨v, hv⟩ := hstab
        refine key (Instr.loadAt t p) (by simp only [execOp, hop, hev']) fun u w1 hrun => ?_
        rw [hv w hIw] at hrun
        cases hrun
        exact ⟨rfl, hv⟩
      case convert src d x =>
        have hev' : a.eval x = p := by simpa only [lowOpnd, hop] using hev
        obtain ⟨v, hv⟩ := hstab
        refine key (Go.convert src d p) (by simp only [execOp, hop, hev']) fun u w1 hrun => ?_
        rw [hv w hIw] at hrun
        cases hrun
        exact ⟨rfl, hv⟩
  | (i, true) :: r, listed, a, w, hd, hIw, h => by
    simp only [detI, Bool.and_eq_true] at hd
    have hr : Region.ready .any ops listed = [i] := by simpa using hd.1
    have hr' : i ∈ Region.ready .any ops listed := by rw [hr]; simp
    obtain ⟨_, oi, hoi, _⟩ := mem_ready.1 hr'
    have hat : opAt ops i = oi := by simp [opAt, hoi]
    refine ⟨fun h0 => (by rw [hr] at h0; cases h0), fun j hj => ?_⟩
    rw [hr] at hj
    obtain rfl : j = i := by simpa using hj
    have h1 : wpList P ops (Seg (planW P ops (finI ops need low Q) I ((j, true) :: r)).2) [oi] a w := by rw [← hat]; exact h
    have cont : ∀ a' w', I w' ∧ wpList P ops (Seg (planW P ops (finI ops need low Q) I r).2) (planW P ops (finI ops need low Q) I r).1 a' w' →
        I w' ∧ wpAnyI P .any ops (Seg (finI ops need low Q)) I r.length (listed.setIfInBounds j true) a' w' := fun a' w' ⟨h2, h3⟩ => ⟨h2, mainI hs hlow r _ a' w' hd.2 h2 h3⟩
    unfold wpOp
    rw [hoi]
    unfold wpList at h1
    dsimp only
    split
    · rename_i hw
      rw [if_pos hw] at h1
      rcases h1 with h1 | h1
      · exact .inl (Oper.wp_seg cont h1)
      · exact (Seg.letsOut h1.2).elim
    · rename_i hw
      rw [if_neg hw] at h1
      exact cont _ _ h1
/-- THE REGION. 'low': the loads (and readings of bytes) that may come at any time, each with the place that it reads. -/
theorem region_low {Q : Exit → Act → World → Prop} {id : Nat} {l : List Oper} {a : Act} {w : World} (plan : Plan) (need : Needs) (low : List (Nat × Value)) (I : World → Prop) (hm : P.follows .mixedOrders = true)
    (hs : Region.noSelect l.toArray = true) (hn : plan.length = l.length) (hd : detI P l.toArray need (low.map (·.1)) (Array.replicate l.length false) plan = true)
    (hlow : ∀ x ∈ low, Stab P I (opAt l.toArray x.1) x.2) (hI : I w.drew)
    (h : wpList P l.toArray (Seg (planW P l.toArray (finI l.toArray need low Q) I plan).2) (planW P l.toArray (finI l.toArray need low Q) I plan).1 a w.drew) : (Code.region id l.toArray true).wp P Q a w := by
  refine Code.wp_mono (Q := Seg (finI l.toArray need low Q)) (fun e a w h => ?_) ?_
  · cases e <;> first | exact h.2.2 | exact h.elim
  · refine wp_region_any hm (wpAny_of_I (I := I) _ _ _ _ (?_ : wpAnyI P .any l.toArray (Seg (finI l.toArray need low Q)) I l.toArray.size (Array.replicate l.toArray.size false) a w.drew))
    have := mainI (Q := Q) hs hlow plan (Array.replicate l.length false) a w.drew hd hI h
    rw [hn] at this
    exact this
end
/-! ### What is told to it -/
theorem stab_load {P : Program} {I : World → Prop} {o : Oper} {t : TypeId} {x : Operand} (ho : o.op = .load t x) (b off : Nat) (cs : List Value) (d : TypeDesc) (hI : ∀ w', I w' → w'.rangeAt b off cs)
    (hu : P.underlying t = some d) (hd : d.isRow = true) (hi : (P.info? t).map (·.size) = some cs.length) : Stab P I o (.pointer (some ⟨b, off, none⟩)) := by
  unfold Stab; rw [ho]
  exact ⟨_, fun w' hw => run_loadAt_mid w' b off t cs d (hI w' hw) hu hd hi⟩
theorem stab_conv {P : Program} {I : World → Prop} {o : Oper} {src dst e : TypeId} {x : Operand} (ho : o.op = .convert src dst x) (v : Value) (l : List UInt8) (hI : ∀ w', I w' → SeesB w' v l)
    (hs : P.underlying src = some (.slice e)) (he : P.underlying e = some (.int .u8)) (hd : P.underlying dst = some .string) : Stab P I o v := by
  unfold Stab; rw [ho]
  exact ⟨_, fun w' hw => SeesB.run_string (hI w' hw) src dst e hs he hd w' (grownBy_refl _ _)⟩
theorem lows_cons {P : Program} {I : World → Prop} {ops : Array Oper} {x : Nat × Value} {low : List (Nat × Value)} (h : Stab P I (opAt ops x.1) x.2) (r : ∀ x ∈ low, Stab P I (opAt ops x.1) x.2) : ∀ y ∈ x :: low, Stab P I (opAt ops y.1) y.2 :=
  List.forall_mem_cons.2 ⟨h, r⟩
theorem lows_nil {P : Program} {I : World → Prop} {ops : Array Oper} : ∀ y ∈ ([] : List (Nat × Value)), Stab P I (opAt ops y.1) y.2 := fun _ h => by cases h
theorem ats_cons {ops : Array Oper} {a : Act} {x : Nat × Value} {low : List (Nat × Value)} (h : a.eval (lowOpnd (opAt ops x.1)) = x.2) (r : ∀ x ∈ low, a.eval (lowOpnd (opAt ops x.1)) = x.2) : ∀ y ∈ x :: low, a.eval (lowOpnd (opAt ops y.1)) = y.2 :=
  List.forall_mem_cons.2 ⟨h, r⟩
theorem ats_nil {ops : Array Oper} {a : Act} : ∀ y ∈ ([] : List (Nat × Value)), a.eval (lowOpnd (opAt ops y.1)) = y.2 := fun _ h => by cases h
theorem needs_nil {a : Act} : needOk [] a = true := rfl
theorem needs_cons {a : Act} {x : Tmp × Shape} {r : Needs} (h : x.2.ok (a.tmps.getD x.1 undef) = true) (k : needOk r a = true) : needOk (x :: r) a = true := by
  unfold needOk at *; rw [List.all_cons, h, k]; rfl
end TL
end Go

/- A region that draws its order, walked in one order, beside the walk's memory. No conditions but those each law names. -/
namespace Go
namespace TL
open Go.RowKit
/-! ### The walk of such a region: behind its last operation, c, nothing is asked, if it waits for all that was read -/
section
variable {P : Program} {ops : Array Oper} {Q : Exit → Act → World → Prop} {md : Region.Mode} {I : World → Prop} {c : Nat}
def wpAnyC (P : Program) (md : Region.Mode) (ops : Array Oper) (Q : Exit → Act → World → Prop) (I : World → Prop) (c : Nat) : Nat → Array Bool → Act → World → Prop
  | 0, listed, a, w => Region.ready md ops listed = [] ∧ Q .normal a w
  | fuel + 1, listed, a, w =>
    (Region.ready md ops listed = [] → Q .normal a w) ∧
    ∀ j ∈ Region.ready md ops listed, wpOp P ops Q j (fun a' w' => (j ≠ c → I w') ∧ wpAnyC P md ops Q I c fuel (listed.setIfInBounds j true) a' w') a w
theorem wpAny_of_C : ∀ (fuel : Nat) (listed : Array Bool) (a : Act) (w : World), wpAnyC P md ops Q I c fuel listed a w → wpAny P md ops Q fuel listed a w
  | 0, _, _, _, h => h
  | fuel + 1, _, _, _, h => ⟨h.1, fun j hj => wpOp_mono (fun a' w' h' => wpAny_of_C fuel _ a' w' h'.2) (h.2 j hj)⟩
/-- What yields the same in every world that meets I may be taken first. -/
theorem C_first {i : Nat} {oi : Oper} {v : Value} (hi : ops[i]? = some oi) (hsel : ∀ (j : Nat) (o : Oper) cs b, ops[j]? = some o → o.op ≠ .select cs b)
    (hQ : ∀ c a w, Q (.panic c) (a.put oi.dst v) w → Q (.panic c) a w) (hwait : ∀ oc, ops[c]? = some oc → ∃ e ∈ oc.after, Region.binds md e = true ∧ e.on = i) :
    ∀ (fuel : Nat) (listed : Array Bool) (a : Act) (w : World),
      (∀ j oj, ops[j]? = some oj → j ≠ i → listed.getD j true = false → (∀ e ∈ oj.after, Region.binds md e = true → e.on ≠ i) → oi.apart ops oj = true) →
      i ∈ Region.ready md ops listed → YieldsIf P ops I oi v a → I w →
      wpAnyC P md ops Q I c fuel (listed.setIfInBounds i true) (a.put oi.dst v) w → wpAnyC P md ops Q I c (fuel + 1) listed a w := by
  intro fuel
  induction fuel with
  | zero =>
    intro listed a w _ hr hy hw H
    refine ⟨fun h => (by rw [h] at hr; cases hr), fun j hj => ?_⟩
    by_cases hji : j = i
    · subst hji; exact hy.wpOp hi hw ⟨fun _ => hw, H⟩
    · have := ready_mono hj hji
      rw [H.1] at this
      cases this
  | succ fuel ih =>
    intro listed a w hfree hr hy hw H
    refine ⟨fun h => (by rw [h] at hr; cases hr), fun j hj => ?_⟩
    by_cases hji : j = i
    · subst hji; exact hy.wpOp hi hw ⟨fun _ => hw, H⟩
    · have h1 := H.2 j (ready_mono hj hji)
      obtain ⟨hjun, oj, hoj, hall⟩ := mem_ready.1 hj
      have hnot := not_waits hr hoj hall
      have hjc : j ≠ c := fun e => by
        subst e
        obtain ⟨x, hx, hb, hxi⟩ := hwait oj hoj
        exact hnot x hx hb hxi
      have h2 := wpOp_putIf hoj (hfree j oj hoj hji hjun hnot) (fun cs b => hsel i oi cs b hi) (fun cs b => hsel j oj cs b hoj) hQ hy h1
      have hfree' : ∀ k ok, ops[k]? = some ok → k ≠ i → (listed.setIfInBounds j true).getD k true = false →
          (∀ e ∈ ok.after, Region.binds md e = true → e.on ≠ i) → oi.apart ops ok = true := fun k ok hk hki hun hno => by
        refine hfree k ok hk hki ?_ hno
        by_cases hjk : j = k
        · subst hjk; exact hjun
        · rw [getD_set_ne true hjk] at hun; exact hun
      refine wpOp_mono (fun a' w' h3 => ⟨fun _ => h3.2.1 hjc, ih (listed.setIfInBounds j true) a' w' hfree' (ready_mono hr (Ne.symm hji)) h3.1 (h3.2.1 hjc) ?_⟩) h2
      rw [Array.setIfInBounds_comm _ _ hji]; exact h3.2.2
end
/-! ### The walk -/
/-- The operations up to the first that writes, and what is to hold there. -/
def planC (P : Program) (ops : Array Oper) (fin : Act → World → Prop) (I : World → Prop) (c : Nat) : Plan → List Oper × (Act → World → Prop)
  | [] => ([], fin)
  | (i, false) :: r => (opAt ops i :: (planC P ops fin I c r).1, (planC P ops fin I c r).2)
  | (i, true) :: r => ([opAt ops i], fun a w => (i ≠ c → I w) ∧ wpList P ops (Seg (planC P ops fin I c r).2) (planC P ops fin I c r).1 a w)
def waitsC (ops : Array Oper) (c i : Nat) : Bool := match ops[c]? with | none => true | some oc => oc.after.any fun e => Region.binds .any e && e.on == i
theorem waitsC_spec {ops : Array Oper} {c i : Nat} (h : waitsC ops c i = true) : ∀ oc, ops[c]? = some oc → ∃ e ∈ oc.after, Region.binds .any e = true ∧ e.on = i := fun oc hoc => by
  unfold waitsC at h; rw [hoc] at h
  simp only [Array.any_eq_true'] at h
  obtain ⟨e, he, h⟩ := h
  simp only [Bool.and_eq_true, beq_iff_eq] at h
  exact ⟨e, he, h.1, h.2⟩
def detC (P : Program) (ops : Array Oper) (need : Needs) (idx : List Nat) (c : Nat) : Array Bool → Plan → Bool
  | listed, [] => (Region.ready .any ops listed).isEmpty
  | listed, (i, false) :: r =>
    (Region.ready .any ops listed).contains i && Region.free .any ops listed i &&
      ((stays ops need (opAt ops i) ((i, false) :: r) && pureOp P (needOf need (opAt ops i)) (opAt ops i)) || (idx.contains i && staysLow ops (opAt ops i) ((i, false) :: r))) &&
      (waitsC ops c i && detC P ops need idx c (listed.setIfInBounds i true) r)
  | listed, (i, true) :: r => Region.ready .any ops listed == [i] && ((i != c || r.isEmpty) && detC P ops need idx c (listed.setIfInBounds i true) r)
section
variable {P : Program} {ops : Array Oper} {I : World → Prop} {fin : Act → World → Prop} {c : Nat}
theorem endsC : ∀ (plan : Plan) (a : Act) (w : World), wpList P ops (Seg (planC P ops fin I c plan).2) (planC P ops fin I c plan).1 a w →
    ∃ af wf, fin af wf ∧ ∀ t, (∀ x ∈ plan, (opAt ops x.1).dst ≠ some t) → af.tmps.getD t undef = a.tmps.getD t undef
  | [], a, w, h => ⟨a, w, h, fun _ _ => rfl⟩
  | (i, false) :: r, a, w, h => by
    obtain ⟨a', w', h1, h2⟩ := stepS h
    obtain ⟨af, wf, h3, h4⟩ := endsC r a' w' h1
    exact ⟨af, wf, h3, fun t ht => (h4 t fun x hx => ht x (List.mem_cons_of_mem _ hx)).trans (h2 t (ht (i, false) List.mem_cons_self))⟩
  | (i, true) :: r, a, w, h => by
    obtain ⟨a', w', h1, h2⟩ := stepS h
    obtain ⟨af, wf, h3, h4⟩ := endsC r a' w' h1.2
    exact ⟨af, wf, h3, fun t ht => (h4 t fun x hx => ht x (List.mem_cons_of_mem _ hx)).trans (h2 t (ht (i, true) List.mem_cons_self))⟩
theorem mainC {need : Needs} {low : List (Nat × Value)} {Q : Exit → Act → World → Prop} (hs : Region.noSelect ops = true) (hlow : ∀ x ∈ low, Stab P I (opAt ops x.1) x.2) :
    ∀ (plan : Plan) (listed : Array Bool) (a : Act) (w : World), detC P ops need (low.map (·.1)) c listed plan = true → I w →
      wpList P ops (Seg (planC P ops (finI ops need low Q) I c plan).2) (planC P ops (finI ops need low Q) I c plan).1 a w →
      wpAnyC P .any ops (Seg (finI ops need low Q)) I c plan.length listed a w
  | [], listed, a, w, hd, _, h => by
    have : Region.ready .any ops listed = [] := by simpa [detC] using hd
    exact ⟨this, h⟩
  | (i, false) :: r, listed, a, w, hd, hIw, h => by
    simp only [detC, Bool.and_eq_true] at hd
    obtain ⟨⟨⟨hr, hf⟩, hk⟩, hwt, hrest⟩ := hd
    have hwait := waitsC_spec hwt
    have hr' : i ∈ Region.ready .any ops listed := by simpa using hr
    obtain ⟨_, oi, hoi, _⟩ := mem_ready.1 hr'
    have hat : opAt ops i = oi := by simp [opAt, hoi]
    have hends := endsC ((i, false) :: r) a w h
    have h' : wpList P ops (Seg (planC P ops (finI ops need low Q) I c r).2) (oi :: (planC P ops (finI ops need low Q) I c r).1) a w := by
      rw [← hat]; exact h
    have hQ : ∀ v c a w, Seg (finI ops need low Q) (.panic c) (a.put oi.dst v) w → Seg (finI ops need low Q) (.panic c) a w := fun _ _ _ _ h => h.elim
    have hsel := fun j o cs b ho => Region.noSelect_spec hs j o cs b ho
    -- what it comes to, in every world that meets I
    have key : ∀ (s : Sem Value), execOp a.eval oi = (do Pure.pure (Next.value (← s))) → (∀ v w1, s.run P w = .ok v w1 → w1 = w ∧ ∀ w', I w' → s.run P w' = .ok v w') →
        wpAnyC P .any ops (Seg (finI ops need low Q)) I c (r.length + 1) listed a w := fun s hex hl => by
      cases hw : Region.wanted oi (yielded ops a.tmps) with
      | true =>
        unfold wpList at h'
        rw [if_pos hw] at h'
        rcases h' with h' | h'
        · unfold Oper.wp at h'
          rw [hex, Sem.run_bind] at h'
          cases hrun : s.run P w with
          | ok v w1 =>
            obtain ⟨rfl, hall⟩ := hl _ _ hrun
            rw [hrun] at h'
            have hy : YieldsIf P ops I oi v a := .inl ⟨hw, fun w' hw' => by rw [hex, Sem.run_bind, hall w' hw']; rfl⟩
            exact C_first hoi hsel (hQ v) hwait r.length listed a w1 (Region.free_spec hoi hf) hr' hy hIw (mainC hs hlow r _ _ w1 hrest hIw h')
          | halt x w1 =>
            rw [hrun] at h'
            cases x <;> exact h'.elim
        · exact (Seg.letsOut h'.2).elim
      | false =>
        unfold wpList at h'
        rw [if_neg (by rw [hw]; decide)] at h'
        exact C_first hoi hsel (hQ undef) hwait r.length listed a w (Region.free_spec hoi hf) hr' (.inr ⟨hw, rfl⟩) hIw (mainC hs hlow r _ _ w hrest hIw h')
    obtain ⟨af, wf, ⟨hneed, hlowf, _⟩, hsame⟩ := hends
    rcases (Bool.or_eq_true _ _).mp hk with hp | hp
    · obtain ⟨hst, hp⟩ := (Bool.and_eq_true _ _).mp hp
      have hne : needOk (needOf need (opAt ops i)) a = true := by
        unfold needOk at hneed ⊢
        rw [List.all_eq_true] at hneed ⊢
        intro p hpm
        have hp0 := hpm
        simp only [needOf, List.mem_filter] at hpm
        have h3 := hneed p hpm.1
        rw [hsame p.1 (fun x hx hd => by
          have h5 := List.all_eq_true.1 hst x hx
          simp only [hd] at h5
          have h6 := List.all_eq_true.1 h5 p hp0
          simp at h6)] at h3
        exact h3
      rw [hat] at hp hne
      obtain ⟨s, hex, hloc⟩ := pureOp_local hp hne
      exact key s hex fun v w1 hrun => ⟨(hloc _ _ _ hrun).1, fun w' _ => (hloc _ _ _ hrun).2 w'⟩
    · obtain ⟨hix, hst⟩ := (Bool.and_eq_true _ _).mp hp
      simp only [List.contains_iff_mem, List.mem_map] at hix
      obtain ⟨⟨i', p⟩, hxm, hxi⟩ := hix
      have hxi' : i' = i := hxi
      subst hxi'
      have hev : a.eval (lowOpnd oi) = p := by
        have e := hlowf _ hxm
        simp only [hat] at e
        rw [← e]
        refine (eval_same fun t ht => ?_).symm
        refine hsame t fun x hx hd => ?_
        have h5 := List.all_eq_true.1 hst x hx
        simp only [hd, hat] at h5
        have h6 := lowOpnd_in oi ht
        simp [h6] at h5
      have hstab := hlow _ hxm
      simp only [hat] at hstab
      unfold Stab at hstab
      cases hop : oi.op <;> simp only [hop] at hstab
      case load t x =>
        have hev' : a.eval x = p := by simpa only [lowOpnd, hop] using hev
        obtain ⟨v, hv⟩ := hstab
        refine key (Instr.loadAt t p) (by simp only [execOp, hop, hev']) fun u w1 hrun => ?_
        rw [hv w hIw] at hrun
        cases hrun
        exact ⟨rfl, hv⟩
      case convert src d x =>
        have hev' : a.eval x = p := by simpa only [lowOpnd, hop] using hev
        obtain ⟨v, hv⟩ := hstab
        refine key (Go.convert src d p) (by simp only [execOp, hop, hev']) fun u w1 hrun => ?_
        rw [hv w hIw] at hrun
        cases hrun
        exact ⟨rfl, hv⟩
  | (i, true) :: r, listed, a, w, hd, hIw, h => by
    simp only [detC, Bool.and_eq_true] at hd
    have hr : Region.ready .any ops listed = [i] := by simpa using hd.1
    have hr' : i ∈ Region.ready .any ops listed := by rw [hr]; simp
    obtain ⟨_, oi, hoi, _⟩ := mem_ready.1 hr'
    have hat : opAt ops i = oi := by simp [opAt, hoi]
    refine ⟨fun h0 => (by rw [hr] at h0; cases h0), fun j hj => ?_⟩
    rw [hr] at hj
    obtain rfl : j = i := by simpa using hj
    have h1 : wpList P ops (Seg (planC P ops (finI ops need low Q) I c ((j, true) :: r)).2) [oi] a w := by rw [← hat]; exact h
    have cont : ∀ a' w', (j ≠ c → I w') ∧ wpList P ops (Seg (planC P ops (finI ops need low Q) I c r).2) (planC P ops (finI ops need low Q) I c r).1 a' w' →
        (j ≠ c → I w') ∧ wpAnyC P .any ops (Seg (finI ops need low Q)) I c r.length (listed.setIfInBounds j true) a' w' := fun a' w' ⟨h2, h3⟩ => by
      refine ⟨h2, ?_⟩
      by_cases e : j = c
      · have hre := hd.2.1
        cases r with
        | nil =>
          have : Region.ready .any ops (listed.setIfInBounds j true) = [] := by simpa [detC] using hd.2.2
          exact ⟨this, h3⟩
        | cons x r => simp [e] at hre
      · exact mainC hs hlow r _ a' w' hd.2.2 (h2 e) h3
    unfold wpOp
    rw [hoi]
    unfold wpList at h1
    dsimp only
    split
    · rename_i hw
      rw [if_pos hw] at h1
      rcases h1 with h1 | h1
      · exact .inl (Oper.wp_seg cont h1)
      · exact (Seg.letsOut h1.2).elim
    · rename_i hw
      rw [if_neg hw] at h1
      exact cont _ _ h1
/-- THE REGION. 'low': the loads (and readings of bytes) that may come at any time, each with the place that it reads. -/
theorem region_lowc {Q : Exit → Act → World → Prop} {id : Nat} {l : List Oper} {a : Act} {w : World} (plan : Plan) (need : Needs) (low : List (Nat × Value)) (I : World → Prop) (c : Nat) (hm : P.follows .mixedOrders = true)
    (hs : Region.noSelect l.toArray = true) (hn : plan.length = l.length) (hd : detC P l.toArray need (low.map (·.1)) c (Array.replicate l.length false) plan = true)
    (hlow : ∀ x ∈ low, Stab P I (opAt l.toArray x.1) x.2) (hI : I w.drew)
    (h : wpList P l.toArray (Seg (planC P l.toArray (finI l.toArray need low Q) I c plan).2) (planC P l.toArray (finI l.toArray need low Q) I c plan).1 a w.drew) : (Code.region id l.toArray true).wp P Q a w := by
  refine Code.wp_mono (Q := Seg (finI l.toArray need low Q)) (fun e a w h => ?_) ?_
  · cases e <;> first | exact h.2.2 | exact h.elim
  · refine wp_region_any hm (wpAny_of_C (I := I) (c := c) _ _ _ _ (?_ : wpAnyC P .any l.toArray (Seg (finI l.toArray need low Q)) I c l.toArray.size (Array.replicate l.toArray.size false) a w.drew))
    have := mainC (Q := Q) hs hlow plan (Array.replicate l.length false) a w.drew hd hI h
    rw [hn] at this
    exact this
end
/-- The pieces that a region's loads read stand as they were. -/
def IxOk {F : List Nat} {w0 w : World} {L : List Chunk} (_ : Mem F w0 w L) (is : List Nat) (w' : World) : Prop := Kept F w0 w' ∧ ∀ i ∈ is, ∀ c, L[i]? = some c → Chunk.ok w' c
section
variable {P : Program} {o : Oper} {w w0 w' : World} {F : List Nat} {L : List Chunk} {M : Mem F w0 w L} {is : List Nat}
theorem ixOk_self (M : Mem F w0 w L) (is : List Nat) : IxOk M is w.drew := ⟨M.drew.kept, fun i _ c hc => M.drew.ok i c hc⟩
theorem ixOk_nil (hk : Kept F w0 w') : IxOk M [] w' := ⟨hk, fun _ h => by cases h⟩
theorem ixOk_cons {i : Nat} {c : Chunk} (hi : L[i]? = some c) (h : c.ok w') (r : IxOk M is w') : IxOk M (i :: is) w' := ⟨r.1, fun j hj d hd => by
  rcases List.mem_cons.1 hj with rfl | hj
  · rw [hi] at hd; cases hd; exact h
  · exact r.2 j hj d hd⟩
theorem rowCell {g : Nat} {cs : List Value} (h : (Chunk.row g cs).ok w') {off : Nat} {v : Value} (hv : cs[off]? = some v) : w'.cell? ⟨g, off, none⟩ = some v := by
  have := h.2.1 off v hv; rwa [Nat.zero_add] at this
theorem stab_ix (M : Mem F w0 w L) (i : Nat) (off : Nat) {t : TypeId} {x : Operand} (ho : o.op = .load t x) {g : Nat} {cs : List Value} (hi : L[i]? = some (.row g cs)) (hin : i ∈ is) (ht : scalarT P t = true) {v : Value} (hv : cs[off]? = some v) : Stab P (IxOk M is) o (.pointer (some ⟨g, off, none⟩)) := by
  unfold Stab; rw [ho]
  refine ⟨v, fun w' hw => ?_⟩
  simp only [Instr.loadAt, Instr.sureAddr, Sem.run_bind, Sem.run_pure, Result.andThen_ok, run_loadVar_scalar ht w' g off v (rowCell (hw.2 i hin _ hi) hv)]
theorem stab_ixB (M : Mem F w0 w L) (i : Nat) (off : Nat) {t : TypeId} {x : Operand} (ho : o.op = .load t x) {g : Nat} {l : List UInt8} (hi : L[i]? = some (.row g (bs l))) (hin : i ∈ is) (ht : scalarT P t = true) (hlt : off < l.length) : Stab P (IxOk M is) o (.pointer (some ⟨g, off, none⟩)) :=
  stab_ix M i off ho hi hin ht (getD_some hlt)
theorem stab_ixA (M : Mem F w0 w L) (i : Nat) (off : Nat) {t : TypeId} {x : Operand} (ho : o.op = .load t x) {g : Nat} {cs : List Value} (hi : L[i]? = some (.row g cs)) (hin : i ∈ is) (ht : rowT P t = true) (pre mid post : List Value) (hcs : cs = pre ++ (mid ++ post)) (hpre : pre.length = off) (hn : (P.info? t).map (·.size) = some mid.length) : Stab P (IxOk M is) o (.pointer (some ⟨g, off, none⟩)) := by
  unfold rowT at ht
  cases hu : P.underlying t with
  | none => simp [hu] at ht
  | some d =>
    simp only [hu] at ht
    refine stab_load ho g off mid d (fun w' hw j v hv => rowCell (hw.2 i hin _ hi) ?_) hu ht hn
    have hj : j < mid.length := (List.getElem?_eq_some_iff.1 hv).1
    rw [hcs, ← hpre, List.getElem?_append_right (by omega), Nat.add_sub_cancel_left, List.getElem?_append_left hj]; exact hv
theorem stab_ixR (M : Mem F w0 w L) (i : Nat) {t : TypeId} {x : Operand} (ho : o.op = .load t x) {g : Nat} {cs : List Value} (hi : L[i]? = some (.row g cs)) (hin : i ∈ is) (ht : rowT P t = true) (hn : (P.info? t).map (·.size) = some cs.length) : Stab P (IxOk M is) o (.pointer (some ⟨g, 0, none⟩)) :=
  stab_ixA M i 0 ho hi hin ht [] cs [] (by simp) rfl hn
theorem stab_ixH (M : Mem F w0 w L) (i : Nat) {t : TypeId} {x : Operand} (ho : o.op = .load t x) {g : Nat} {l : List UInt8} (hi : L[i]? = some (.row g (bs l))) (hin : i ∈ is) (ht : rowT P t = true) {n : Nat} (hl : l.length = n) (hn : (P.info? t).map (·.size) = some n) : Stab P (IxOk M is) o (.pointer (some ⟨g, 0, none⟩)) :=
  stab_ixR M i ho hi hin ht (by rw [bs_length, hl]; exact hn)
/-- string(a[:]), a an array. -/
theorem stab_ixW (M : Mem F w0 w L) (i : Nat) {src dst e : TypeId} {x : Operand} (ho : o.op = .convert src dst x) {g : Nat} {l : List UInt8} (hi : L[i]? = some (.row g (bs l))) (hin : i ∈ is) {n : Nat} (hl : l.length = n) (hm : n ≤ maxLen) (hs : P.underlying src = some (.slice e)) (he : P.underlying e = some (.int .u8)) (hd : P.underlying dst = some .string) : Stab P (IxOk M is) o (.slice (some ⟨g, 0, none⟩) n n) := by
  refine stab_conv ho _ l (fun w' hw => ?_) hs he hd
  have := row_sees (off := 0) (n := n) (cap := n) (hw.2 i hin _ hi) (by omega) (Nat.le_refl _) hm
  rwa [List.drop_zero, List.take_of_length_le (by omega)] at this
/-- string(b), b owned. -/
theorem stab_ixS (M : Mem F w0 w L) (i : Nat) {src dst e : TypeId} {x : Operand} (ho : o.op = .convert src dst x) {v : Value} {n : Nat} {l : List UInt8} (hi : L[i]? = some (.sl 1 v n (bs l))) (hin : i ∈ is) (hl : n = l.length) (hs : P.underlying src = some (.slice e)) (he : P.underlying e = some (.int .u8)) (hd : P.underlying dst = some .string) : Stab P (IxOk M is) o v := by
  subst hl
  exact stab_conv ho v l (fun w' hw => Own.sees (hw.2 i hin _ hi)) hs he hd
end
theorem needs_at {l : List Value} {d : List Deferred} {n : Nat} {s : Shape} {r : Needs} {v : Value} (h : l[n]? = some v) (hs : s.ok v = true) (k : needOk r ⟨l.toArray, d⟩ = true) : needOk ((n, s) :: r) ⟨l.toArray, d⟩ = true :=
  needs_cons (by simpa [h] using hs) k
theorem nums_bs (l : List UInt8) : Shape.ok .nums (.agg (bs l).toArray) = true := nums_vb l
end TL
end Go

/- Texts as lists of bytes, in the walk. No conditions but those each law names. -/
namespace Go
namespace TL
open Go.RowKit
attribute [go_sem] mkS_size mkS_toList mkS_append
@[go_sem] theorem mkS_fold (l : List UInt8) : ByteArray.mk (List.toArray l) = mkS l := rfl
theorem mkS_extract (l : List UInt8) (i j : Nat) : (mkS l).extract i j = mkS ((l.take j).drop i) := by
  apply ByteArray.ext; apply Array.ext'; simp [mkS, ByteArray.data_extract, List.extract, List.drop_take]
@[go_sem high] theorem mkS_extract0 (l : List UInt8) (j : Nat) : (mkS l).extract 0 j = mkS (l.take j) := by rw [mkS_extract, List.drop_zero]
@[go_sem high] theorem mkS_extractE (l : List UInt8) (i : Nat) : (mkS l).extract i l.length = mkS (l.drop i) := by rw [mkS_extract, List.take_length]
@[go_sem] theorem mkS_extractM (l : List UInt8) (i j : Nat) : (mkS l).extract i j = mkS ((l.take j).drop i) := mkS_extract l i j
/-- A text's byte, in a word that is closed to the walk. -/
def bt (l : List UInt8) (i : Nat) : UInt8 := l.getD i 0
@[go_sem] theorem mkS_bt (l : List UInt8) (k : Nat) (h : k < (mkS l).size) : (mkS l)[k] = bt l k := by
  have hl : k < l.length := by rwa [mkS_size] at h
  rw [bt, List.getD_eq_getElem?_getD, List.getElem?_eq_getElem hl]; rfl
theorem I8_bt (l : List UInt8) (k : Nat) : I8 (bt l k) = ((l.getD k 0).toNat : Int) := rfl
@[go_sem ↓] theorem run_index_mkS {P : Program} (w : World) (t : TypeId) (l : List UInt8) (k : IntKind) (i : Int) (hu : P.underlying t = some .string) (h0 : 0 ≤ i) (h1 : i < l.length) :
    (Instr.index t (.string (mkS l)) (.int k i)).run P w = .ok (.int .u8 (I8 (bt l i.toNat))) w := by
  have hs : i.toNat < (mkS l).size := by rw [mkS_size]; omega
  have hl : i.toNat < l.length := by omega
  have e : (mkS l)[i.toNat]? = some (l.getD i.toNat 0) := by
    rw [getElem?_pos (mkS l) i.toNat hs, List.getD_eq_getElem?_getD, List.getElem?_eq_getElem hl]; rfl
  simp only [Instr.index, asIntOf, Sem.run_bind, Sem.run_pure, Result.andThen_ok, run_underlying hu]
  simp only [h0, if_true, e]
  rfl
section
variable {P : Program} {ops : Array Oper} {rest : List Oper} {o : Oper} {a : Act} {w w0 : World} {Q : Exit → Act → World → Prop} {F : List Nat} {L : List Chunk}
/-- make([]byte, n). -/
theorem w_makeB (M : Mem F w0 w L) (t : TypeId) (x y : Operand) (ho : o.op = .makeSlice t x y) (hw : Region.wanted o (yielded ops a.tmps) = true) (n : Nat) {kl kc : IntKind} {m m' : Int} (hx : a.eval x = .int kl m) (hy : a.eval y = .int kc m') (hm : m = (n : Nat)) (hm' : m' = (n : Nat)) {e : TypeId} (ht : P.underlying t = some (.slice e)) (hz : (P.info? e).bind (·.zero) = some (.int .u8 0)) (hs : (P.info? e).map (fun i => (i.size, i.bytes)) = some (1, 1)) (hn : n ≤ 16777216)
    (h : ∀ (g : Nat) (w' : World), Mem F w0 w' (.row g (bs (List.replicate n 0)) :: L) → wpList P ops Q rest (a.put o.dst (.slice (some ⟨g, 0, none⟩) n n)) w') : wpList P ops Q (o :: rest) a w :=
  wpW hw fun _ hK => by
    subst hm hm'
    cases hq : P.info? e with
    | none => simp [hq] at hz
    | some inf =>
      have hzz : inf.zero = some (.int .u8 0) := by simpa [hq] using hz
      have hss : inf.size = 1 ∧ inf.bytes = 1 := by simpa [hq] using hs
      have hr := run_makeSlice (P := P) (w := w) t e inf (.int .u8 0) ht hq hzz kl kc n n (by omega) (Int.le_refl _) (by rw [hss.1]; simp; omega) (by rw [hss.2]; omega) (by omega)
      have e1 : madeCells (Value.int .u8 0).cells ((n : Int).toNat * inf.size) = (bs (List.replicate n 0)).toArray := by
        rw [hss.1]
        apply Array.ext'
        simp [madeCells, bs, vb, I8, Value.cells]
        apply List.ext_getElem
        · simp
        · intro i h1 h2; simp [Nat.mod_one]
      rw [e1] at hr
      unfold Oper.wp execOp
      simp only [ho, hx, hy, Sem.run_bind, hr, Result.andThen_ok]
      refine hK _ _ ?_
      have := h _ _ (M.alloc (bs (List.replicate n 0)).toArray e)
      simpa using this
end
theorem eqInRow {P : Program} {t e : TypeId} {n : Nat} (hu : P.underlying t = some (.array n e)) (he : P.underlying e = some (.int .u8)) (hc : P.cellsOf e = 1) (l m : List UInt8) (hl : l.length = n) (hm : m.length = n) (w : World) : (Op.equalIn 10000 t (.agg (bs l).toArray) (.agg (bs m).toArray)).run P w = .ok (l == m) w := by
  obtain ⟨i, hi⟩ := info_of_underlying he
  have := run_equalIn_array w 9999 (bs l).toArray (bs m).toArray hu hi
  unfold bs at this ⊢
  rw [hc, run_eqItemsB he 9998 l m (by omega) w (List.range n) (fun i hi => by rw [hl]; exact List.mem_range.1 hi)] at this
  rw [← hl, all_range_eq l m (by omega)] at this
  exact this
/-- What is written byte by byte. -/
theorem setTake (l : List UInt8) (n k : Nat) (hl : l.length = n) (hk : k < n) : (l.take k ++ List.replicate (n - k) 0).set k (l.getD k 0) = l.take (k + 1) ++ List.replicate (n - (k + 1)) 0 := by
  rw [List.set_append_right _ _ (by simp; omega)]
  simp only [List.length_take, Nat.min_eq_left (show k ≤ l.length by omega), Nat.sub_self]
  rw [List.take_succ_eq_append_getElem (by omega), List.append_assoc, show n - k = (n - (k + 1)) + 1 by omega, List.replicate_succ, List.set_cons_zero, List.getD_eq_getElem?_getD, List.getElem?_eq_getElem (by omega)]
  rfl
end TL
end Go
namespace Go
namespace TL
open Go.RowKit
section
variable {P : Program} {ops : Array Oper} {rest : List Oper} {o : Oper} {a : Act} {w w0 : World} {Q : Exit → Act → World → Prop} {F : List Nat} {L : List Chunk}
/-- A slice that has elements lies somewhere. -/
theorem Mem.slAddr (M : Mem F w0 w L) (i : Nat) {size n cap : Nat} {q : Option Addr} {m : Nat} {xs : List Value} (hi : L[i]? = some (.sl size (.slice q m cap) n xs)) (hn : 0 < n) : ∃ g o, q = some ⟨g, o, none⟩ := by
  rcases (M.ok i _ hi).2 with ⟨_, h0⟩ | ⟨g, o, c, hv, _⟩
  · omega
  · injection hv with h1 h2 h3; exact ⟨g, o, h1⟩
theorem Mem.slCap (M : Mem F w0 w L) (i : Nat) {size n cap : Nat} {q : Option Addr} {m : Nat} {xs : List Value} (hi : L[i]? = some (.sl size (.slice q m cap) n xs)) : m = n ∧ n ≤ cap ∧ cap ≤ maxLen ∧ xs.length = n * size := by
  have h := M.ok i _ hi
  rcases h.2 with ⟨hv, h0⟩ | ⟨g, o, c, hv, _, _, h1, h2, _⟩
  · injection hv with _ e1 e2; exact ⟨by omega, by omega, by omega, h.1⟩
  · injection hv with _ e1 e2; exact ⟨e1, by omega, by omega, h.1⟩
theorem Mem.slCell (M : Mem F w0 w L) (i : Nat) {size n m cap g so : Nat} {xs : List Value} (hi : L[i]? = some (.sl size (.slice (some ⟨g, so, none⟩) m cap) n xs)) {j : Nat} {v : Value} (hv : xs[j]? = some v) : w.cell? ⟨g, so + j, none⟩ = some v := by
  rcases (M.ok i _ hi).2 with ⟨h0, _⟩ | ⟨g', o', c, hv', _, _, _, _, hr, _⟩
  · cases h0
  · injection hv' with h1 _ _; injection h1 with h1; injection h1 with h1 h2; subst h1; subst h2; exact hr j v hv
/-- An element of one cell. -/
theorem w_loadS (M : Mem F w0 w L) (i : Nat) (t : TypeId) (x : Operand) (ho : o.op = .load t x) {size n m cap g so off : Nat} {xs : List Value} (hi : L[i]? = some (.sl size (.slice (some ⟨g, so, none⟩) m cap) n xs)) (hx : a.eval x = .pointer (some ⟨g, off, none⟩)) (hw : Region.wanted o (yielded ops a.tmps) = true)
    (ht : scalarT P t = true) (j : Nat) (hoff : off = so + j) {v : Value} (hv : xs[j]? = some v) (h : wpList P ops Q rest (a.put o.dst v) w) : wpList P ops Q (o :: rest) a w :=
  wpW hw fun _ hK => by
    subst hoff
    unfold Oper.wp execOp
    simp only [ho, hx, Instr.loadAt, Instr.sureAddr, Sem.run_bind, Sem.run_pure, Result.andThen_ok, run_loadVar_scalar ht w g _ v (M.slCell i hi hv)]
    exact hK _ _ h
/-- An element that is a struct. -/
theorem w_loadSA (M : Mem F w0 w L) (i : Nat) (t : TypeId) (x : Operand) (ho : o.op = .load t x) {size n m cap g so off : Nat} {xs : List Value} (hi : L[i]? = some (.sl size (.slice (some ⟨g, so, none⟩) m cap) n xs)) (hx : a.eval x = .pointer (some ⟨g, off, none⟩)) (hw : Region.wanted o (yielded ops a.tmps) = true)
    (ht : rowT P t = true) (j : Nat) (hoff : off = so + j) (cs : List Value) (hcs : ∀ k v, cs[k]? = some v → xs[j + k]? = some v) (hn : (P.info? t).map (·.size) = some cs.length) (h : wpList P ops Q rest (a.put o.dst (.agg cs.toArray)) w) : wpList P ops Q (o :: rest) a w :=
  wpW hw fun _ hK => by
    subst hoff
    unfold rowT at ht
    cases hu : P.underlying t with
    | none => simp [hu] at ht
    | some d =>
      simp only [hu] at ht
      refine wp_load_mid t x ho g _ hx cs d ?_ hu ht hn (hK _ _ h)
      intro k v hv
      rw [Nat.add_assoc]
      exact M.slCell i hi (hcs k v hv)
end
end TL
end Go
namespace Go
namespace TL
open Go.RowKit
section
variable {P : Program} {ops : Array Oper} {rest : List Oper} {o : Oper} {a : Act} {w w0 : World} {Q : Exit → Act → World → Prop} {F : List Nat} {L : List Chunk}
/-- []byte(s): a slice of the call's own. -/
theorem w_bytes (M : Mem F w0 w L) (src dst e : TypeId) (x : Operand) (ho : o.op = .convert src dst x) (hw : Region.wanted o (yielded ops a.tmps) = true) {l : List UInt8} (hx : a.eval x = .string (mkS l))
    (hs : P.underlying src = some .string) (hd : P.underlying dst = some (.slice e)) (he : P.underlying e = some (.int .u8)) (hl : l.length ≤ 1000000000000)
    (h : ∀ (g cap : Nat) (w' : World), l.length ≤ cap → Mem F w0 w' (.sl 1 (.slice (some ⟨g, 0, none⟩) l.length cap) l.length (bs l) :: L) → wpList P ops Q rest (a.put o.dst (.slice (some ⟨g, 0, none⟩) l.length cap)) w') : wpList P ops Q (o :: rest) a w :=
  wpW hw fun _ hK => by
    have hr := Lib.run_convert_string_bytes (P := P) w src dst e (mkS l) hs hd he
    rw [mkS_size] at hr
    obtain ⟨cap, ec⟩ : ∃ cap, cap = grownCap w l.length 0 e := ⟨_, rfl⟩
    have hc1 : l.length ≤ cap := by rw [ec]; exact grownCap_ge _ _ _ _
    have hc2 : cap ≤ maxLen := by rw [ec]; exact grownCap_le_maxLen _ _ _ _ (by simp only [maxLen]; omega)
    have hsz : (Lib.bytesCells w e (mkS l)).size = cap := by
      simp only [Lib.bytesCells, Array.size_append, Array.size_map, Array.size_replicate, mkS_size, ← ec]
      show (mkS l).data.size + _ = _
      have : (mkS l).data.size = l.length := mkS_size l
      omega
    have hnew := Lib.bytesWorld_at_new w e (mkS l)
    have hk : Kept [] w (Lib.bytesWorld w e (mkS l)) := ⟨rfl, rfl, rfl, by rw [Lib.bytesWorld_size]; omega, fun k hk _ => Lib.bytesWorld_at_old w e (mkS l) k hk⟩
    have hok : (Chunk.sl 1 (.slice (some ⟨w.heap.size, 0, none⟩) l.length cap) l.length (bs l)).ok (Lib.bytesWorld w e (mkS l)) := by
      refine ⟨by simp [bs_length], .inr ⟨w.heap.size, 0, cap, rfl, Nat.zero_le _, by rw [Lib.bytesWorld_size]; omega, hc1, hc2, ?_, ?_⟩⟩
      · intro j v hv
        have hj : j < l.length := by have := (List.getElem?_eq_some_iff.1 hv).1; rwa [bs_length] at this
        rw [Nat.zero_add, Lib.bytesWorld_cell w e (mkS l) j (by rw [mkS_size]; exact hj), mkS_data, ← hv, getD_some hj]; rfl
      · intro j hj
        rw [Nat.mul_one] at hj
        rw [Nat.zero_add]
        constructor
        · simp only [World.cell?, hnew]
          rw [if_neg (by decide), Array.getElem?_eq_getElem (by omega)]; rfl
        · simp only [World.frozen?, hnew]
          rw [hsz]; simp; omega
    rw [← ec] at hr
    unfold Oper.wp execOp
    simp only [ho, hx, Sem.run_bind, hr, Result.andThen_ok]
    exact hK _ _ (h _ cap _ hc1 (M.add _ hk hok (by simp [Chunk.fp, Value.ownBlock])))
end
end TL
end Go
namespace Go
namespace TL
open Go.RowKit
theorem w_buildSliceB {P : Program} {ops : Array Oper} {rest : List Oper} {o : Oper} {a : Act} {w w0 : World} {Q : Exit → Act → World → Prop} {F : List Nat} {L : List Chunk} (M : Mem F w0 w L) {t e : TypeId} (T : SliceT P t e 1 1) (x : Operand) (ho : o.op = .buildSlice t 1 #[(0, x)]) (hw : Region.wanted o (yielded ops a.tmps) = true) {b : UInt8} (hx : a.eval x = .int .u8 (I8 b))
    (h : ∀ (g : Nat) (w' : World), Mem F w0 w' (.row g (bs [b]) :: L) → wpList P ops Q rest (a.put o.dst (.slice (some ⟨g, 0, none⟩) 1 1)) w') : wpList P ops Q (o :: rest) a w :=
  w_buildSlice1 M T (by decide) x ho hw hx (bs [b]) rfl rfl h
end TL
end Go

/- A row of bytes that came in, and is only read. No conditions but those each law names. -/
namespace Go
namespace TL
open Go.RowKit
section
variable {P : Program} {ops : Array Oper} {rest : List Oper} {o : Oper} {a : Act} {w w0 : World} {Q : Exit → Act → World → Prop} {F : List Nat} {L : List Chunk} {g : Nat} {l : List UInt8}
theorem Mem.stays {c : Chunk} (M : Mem [] w0 w L) (R : c.ok w0) : c.ok w := R.stay M.kept.size fun k hk => M.kept.block k (R.lt k hk) (by simp)
/-- A byte of it. -/
theorem w_rowB (M : Mem [] w0 w L) (R : (Chunk.row g (bs l)).ok w0) (t : TypeId) (x : Operand) (ho : o.op = .load t x) {off : Nat} (hx : a.eval x = .pointer (some ⟨g, off, none⟩)) (hw : Region.wanted o (yielded ops a.tmps) = true)
    (ht : scalarT P t = true) (hlt : off < l.length) (h : wpList P ops Q rest (a.put o.dst (.int .u8 (I8 (l.getD off 0)))) w) : wpList P ops Q (o :: rest) a w :=
  wpW hw fun _ hK => by
    unfold Oper.wp execOp
    simp only [ho, hx, Instr.loadAt, Instr.sureAddr, Sem.run_bind, Sem.run_pure, Result.andThen_ok, run_loadVar_scalar ht w g _ _ (rowCell (M.stays R) (getD_some hlt))]
    exact hK _ _ h
/-- A cell of a row that came in. -/
theorem w_rowC {cs : List Value} (M : Mem [] w0 w L) (R : (Chunk.row g cs).ok w0) (t : TypeId) (x : Operand) (ho : o.op = .load t x) {off : Nat} (hx : a.eval x = .pointer (some ⟨g, off, none⟩)) (hw : Region.wanted o (yielded ops a.tmps) = true)
    (ht : scalarT P t = true) {v : Value} (hv : cs[off]? = some v) (h : wpList P ops Q rest (a.put o.dst v) w) : wpList P ops Q (o :: rest) a w :=
  wpW hw fun _ hK => by
    unfold Oper.wp execOp
    simp only [ho, hx, Instr.loadAt, Instr.sureAddr, Sem.run_bind, Sem.run_pure, Result.andThen_ok, run_loadVar_scalar ht w g _ _ (rowCell (M.stays R) hv)]
    exact hK _ _ h
/-- A byte of it, as a region's load that may come at any time. -/
theorem stab_rowB (M : Mem [] w0 w L) {is : List Nat} (R : (Chunk.row g (bs l)).ok w0) (off : Nat) {t : TypeId} {x : Operand} (ho : o.op = .load t x) (ht : scalarT P t = true) (hlt : off < l.length) : Stab P (IxOk M is) o (.pointer (some ⟨g, off, none⟩)) := by
  unfold Stab; rw [ho]
  have R' : ∀ w' : World, Kept [] w0 w' → (Chunk.row g (bs l)).ok w' := fun w' k => R.stay k.size fun j hj => k.block j (R.lt j hj) (by simp)
  refine ⟨.int .u8 (I8 (l.getD off 0)), fun w' hw => ?_⟩
  simp only [Instr.loadAt, Instr.sureAddr, Sem.run_bind, Sem.run_pure, Result.andThen_ok, run_loadVar_scalar ht w' g off _ (rowCell (R' w' hw.1) (getD_some hlt))]
/-- A store of a byte that is told as a number. -/
theorem w_storeBc (M : Mem F w0 w L) (i : Nat) (t : TypeId) (x y : Operand) (ho : o.op = .store t x y) {off : Nat} (hi : L[i]? = some (.row g (bs l))) (hx : a.eval x = .pointer (some ⟨g, off, none⟩)) (hw : Region.wanted o (yielded ops a.tmps) = true)
    {n : Int} (hy : a.eval y = .int .u8 n) (hb : n = I8 (w8 n)) (hn : (P.info? t).map (·.size) = some 1) (hlt : off < l.length)
    (h : ∀ w' : World, Mem F w0 w' (L.set i (.row g (bs (l.set off (w8 n))))) → wpList P ops Q rest (a.put o.dst undef) w') : wpList P ops Q (o :: rest) a w :=
  w_storeB M i t x y ho hi hx hw (hy.trans (congrArg (Value.int .u8) hb)) hn hlt h
/-- A byte of an owned slice. -/
theorem w_slB (M : Mem F w0 w L) (i : Nat) (t : TypeId) (x : Operand) (ho : o.op = .load t x) {so n m cap : Nat} (hi : L[i]? = some (.sl 1 (.slice (some ⟨g, so, none⟩) m cap) n (bs l))) {at' : Nat} (hx : a.eval x = .pointer (some ⟨g, at', none⟩)) (hw : Region.wanted o (yielded ops a.tmps) = true)
    (ht : scalarT P t = true) (k : Nat) (hat : at' = so + k) (hlt : k < l.length) (h : wpList P ops Q rest (a.put o.dst (.int .u8 (I8 (l.getD k 0)))) w) : wpList P ops Q (o :: rest) a w :=
  wpW hw fun _ hK => by
    subst hat
    unfold Oper.wp execOp
    simp only [ho, hx, Instr.loadAt, Instr.sureAddr, Sem.run_bind, Sem.run_pure, Result.andThen_ok, run_loadVar_scalar ht w g _ _ (M.slCell i hi (getD_some hlt))]
    exact hK _ _ h
/-- A cell of an owned slice is turned. -/
theorem upd_slSet {size n m cap g so off : Nat} {cs : List Value} (h : (Chunk.sl size (.slice (some ⟨g, so, none⟩) m cap) n cs).ok w) (hlt : off < cs.length) (v : Value) :
    Upd w (.sl size (.slice (some ⟨g, so, none⟩) m cap) n cs) (w.setCell ⟨g, so + off, none⟩ v) (.sl size (.slice (some ⟨g, so, none⟩) m cap) n (cs.set off v)) := by
  obtain ⟨h1, h2⟩ := h
  rcases h2 with ⟨h0, _⟩ | ⟨g', o', c, hv, _, hg, hn, hc, hr, ht⟩
  · cases h0
  · injection hv with e1 e2 e3; injection e1 with e1; injection e1 with e1 e4; subst e1; subst e2; subst e3; subst e4
    have hle : cs.length ≤ cap * size := by rw [h1]; exact Nat.mul_le_mul_right _ hn
    refine ⟨Kept.grown (grownBy_setCell w ⟨g, so + off, none⟩ v), ⟨by rw [List.length_set]; exact h1, .inr ⟨g, so, cap, rfl, Nat.zero_le _, by rw [← setCells_one, size_setCells]; exact hg, hn, hc, ?_, ?_⟩⟩, fun k hk => .inl hk⟩
    · rw [← setCells_one, List.set_eq_take_append_cons_drop, if_pos hlt]
      have hcs : cs = cs.take off ++ ([cs[off]] ++ cs.drop (off + 1)) := by simp
      refine rangeAt_append ?_ (rangeAt_append (xs := [v]) ?_ ?_)
      · refine World.rangeAt_setCells_apart (rangeAt_take hr off) _ _ _ (.inr (.inl (by rw [List.length_take]; omega)))
      · rw [List.length_take, Nat.min_eq_left (by omega)]
        refine World.rangeAt_setCells_same _ _ _ _ ?_
        exact there_mono (there_drop ht off) (by simp; omega)
      · refine World.rangeAt_setCells_apart ?_ _ _ _ (.inr (.inr (by rw [List.length_take]; simp; omega)))
        have := rangeAt_drop hr (off + 1)
        rw [List.length_take, Nat.min_eq_left (by omega)]
        simpa [Nat.add_assoc] using this
    · rw [← setCells_one]; exact World.there_setCells ht _ _ _
/-- A store of one cell into an owned slice. -/
theorem w_slSet (M : Mem F w0 w L) (i : Nat) (t : TypeId) (x y : Operand) (ho : o.op = .store t x y) {size n m cap g so : Nat} {cs : List Value} (hi : L[i]? = some (.sl size (.slice (some ⟨g, so, none⟩) m cap) n cs)) {at' : Nat} (hx : a.eval x = .pointer (some ⟨g, at', none⟩)) (hw : Region.wanted o (yielded ops a.tmps) = true)
    {v : Value} (hy : a.eval y = v) (h1 : v.oneCell' = true) (hc : v.cells = #[v]) (hn : (P.info? t).map (·.size) = some 1) (off : Nat) (hat : at' = so + off) (hlt : off < cs.length)
    (h : ∀ w' : World, Mem F w0 w' (L.set i (.sl size (.slice (some ⟨g, so, none⟩) m cap) n (cs.set off v))) → wpList P ops Q rest (a.put o.dst undef) w') : wpList P ops Q (o :: rest) a w :=
  wpW hw fun _ hK => by
    subst hat
    have hok := M.ok i _ hi
    have hth : w.there g (so + off) 1 := by
      obtain ⟨k1, k2⟩ := hok
      rcases k2 with ⟨h0, _⟩ | ⟨g', o', c, hv, _, hg, hn', hc', hr, ht⟩
      · cases h0
      · injection hv with e1 e2 e3; injection e1 with e1; injection e1 with e1 e4; subst e1; subst e2; subst e3; subst e4
        have hle : cs.length ≤ cap * size := by rw [k1]; exact Nat.mul_le_mul_right _ hn'
        exact there_mono (there_drop ht off) (by omega)
    have hst := run_storeCells_mid (P := P) (w := w) (g := g) (o := so + off) [v] hth (by simpa using h1)
    cases hq : P.info? t with
    | none => simp [hq] at hn
    | some inf =>
      have hs : inf.size = 1 := by simpa [hq] using hn
      unfold Oper.wp execOp
      simp only [ho, hx, hy, Instr.storeAt, Instr.sureAddr, storeVar, Sem.run_bind, Sem.run_pure, Result.andThen_ok, sizeOf, typeInfo, run_program, hq, hs, hc]
      simp only [List.size_toArray, List.length_cons, List.length_nil, Nat.zero_add, ne_eq, not_true_eq_false, if_false, hst, Result.andThen_ok]
      rw [setCells_one]
      exact hK _ _ (h _ (M.upd i hi (upd_slSet hok hlt v)))
/-- A store of a byte into an owned slice. -/
theorem w_slSetB (M : Mem F w0 w L) (i : Nat) (t : TypeId) (x y : Operand) (ho : o.op = .store t x y) {so n m cap : Nat} (hi : L[i]? = some (.sl 1 (.slice (some ⟨g, so, none⟩) m cap) n (bs l))) {at' : Nat} (hx : a.eval x = .pointer (some ⟨g, at', none⟩)) (hw : Region.wanted o (yielded ops a.tmps) = true)
    {b : UInt8} (hy : a.eval y = .int .u8 (I8 b)) (hn : (P.info? t).map (·.size) = some 1) (k : Nat) (hat : at' = so + k) (hlt : k < l.length)
    (h : ∀ w' : World, Mem F w0 w' (L.set i (.sl 1 (.slice (some ⟨g, so, none⟩) m cap) n (bs (l.set k b)))) → wpList P ops Q rest (a.put o.dst undef) w') : wpList P ops Q (o :: rest) a w :=
  w_slSet M i t x y ho hi hx hw hy rfl rfl hn k hat (by rw [bs_length]; exact hlt) (fun w' M' => h w' (by rw [bs_set]; exact M'))
/-- copy into a row of bytes. -/
theorem w_copyB (M : Mem F w0 w L) (i : Nat) {t e : TypeId} {bytes : Nat} (T : SliceT P t e 1 bytes) (d x : Operand) (u : TypeId) (ho : o.op = .call { callee := .builtin .copy, args := #[d, x], argTypes := #[t, u] }) (hw : Region.wanted o (yielded ops a.tmps) = true)
    {off dl dc : Nat} (hi : L[i]? = some (.row g (bs l))) (hd : a.eval d = .slice (some ⟨g, off, none⟩) dl dc) {xv : Value} (hx : a.eval x = xv) {news : List UInt8} (hsee : SeesB w xv news) (k : Nat) (hk : k = min news.length dl) (hlen : off + k ≤ l.length)
    (h : ∀ w' : World, Mem F w0 w' (L.set i (.row g (bs (l.take off ++ (news.take k ++ l.drop (off + k)))))) → wpList P ops Q rest (a.put o.dst (.int .i64 k)) w') : wpList P ops Q (o :: rest) a w := by
  refine w_copy M i T d x u ho hw hi hd hx news.length (bs news) (Src_of_sees hsee (bs_one _)) k hk (by rw [bs_length]; omega) fun w' M' => h w' ?_
  rw [Nat.mul_one] at M'
  rw [bs_append, bs_append]
  simpa [bs, List.map_take, List.map_drop] using M'
/-- An array within a row of bytes. -/
theorem w_loadM (M : Mem F w0 w L) (i : Nat) (t : TypeId) (x : Operand) (ho : o.op = .load t x) {off : Nat} (hi : L[i]? = some (.row g (bs l))) (hx : a.eval x = .pointer (some ⟨g, off, none⟩)) (hw : Region.wanted o (yielded ops a.tmps) = true)
    (ht : rowT P t = true) (n : Nat) (hn : (P.info? t).map (·.size) = some n) (hle : off + n ≤ l.length) (h : wpList P ops Q rest (a.put o.dst (.agg (bs ((l.drop off).take n)).toArray)) w) : wpList P ops Q (o :: rest) a w := by
  refine w_loadA M i t x ho hi hx hw ht (bs (l.take off)) (bs ((l.drop off).take n)) (bs (l.drop (off + n))) ?_ ?_ ?_ h
  · rw [← bs_append, ← bs_append, ← List.drop_drop, List.take_append_drop, List.take_append_drop]
  · rw [bs_length, List.length_take]; omega
  · rw [bs_length, List.length_take, List.length_drop]; rw [hn]; congr 1; omega
end
end TL
end Go

/- The walks of package aes: a byte's double, S, big numbers' bytes, and what is done to a block. Conditions: lengths. -/
namespace Go
namespace TL
theorem I8_toNat (x : UInt8) : (I8 x).toNat = x.toNat := by unfold I8; simp
end TL
end Go
namespace Go.Proofs.Ytjlkiopncclomaa
open Go.RowKit Go.TL
set_option maxRecDepth 100000 in
theorem twice_c (b : UInt8) (w : World) :
    Calls Try.prog 78 #[.int .u8 (I8 b)] w fun e w' => e = .returned (.int .u8 (I8 (tw b))) ∧ w = w' := by
  go_enter Try.func78, Try.ntmps78
  go_wp2
  go_ret
  exact ⟨rfl, rfl⟩
set_option maxRecDepth 100000 in
theorem rot8_c (b n : UInt8) (k : Int) (w : World) (hk : (k = 1 ∧ n = 1) ∨ (k = 2 ∧ n = 2) ∨ (k = 3 ∧ n = 3) ∨ (k = 4 ∧ n = 4)) :
    Calls Try.prog 106 #[.int .u8 (I8 b), .int .i64 k] w fun e w' => e = .returned (.int .u8 (I8 (rl b n))) ∧ w = w' := by
  have h1 : I64 (1 &&& 7) = 1 := by decide
  have h2 : I64 (2 &&& 7) = 2 := by decide
  have h3 : I64 (3 &&& 7) = 3 := by decide
  have h4 : I64 (4 &&& 7) = 4 := by decide
  have k7 : I64 7 = 7 := by decide
  have k6 : I64 6 = 6 := by decide
  have k5 : I64 5 = 5 := by decide
  have k4 : I64 4 = 4 := by decide
  rcases hk with ⟨rfl, rfl⟩ | ⟨rfl, rfl⟩ | ⟨rfl, rfl⟩ | ⟨rfl, rfl⟩
  all_goals
    go_enter Try.func106, Try.ntmps106
    go_wp2
    go_ret
    exact ⟨rfl, rfl⟩
set_option maxRecDepth 100000 in
set_option maxHeartbeats 4000000 in
theorem box_c (w : World) :
    Calls Try.prog 77 #[] w fun e w' => e = .returned (.agg (bs boxL).toArray) ∧ Below w.heap.size w w' := by
  have M := Mem.start [] w
  go_enter Try.func77, Try.ntmps77
  go_wp2_with (first | ((with_reducible show wpList _ _ _ (Oper.mk (some 0) (Op.alloc 121) _ _ _ _ :: _) _ _); refine w_alloc M _ rfl rfl (.agg (Array.replicate 256 (.int .u8 0))) (bs (List.replicate 256 (0 : UInt8))) (by kernel_rfl) rfl ?_; clear M; intro gs w1 M; (try conv => arg 5; simp only [Act.put, List.setIfInBounds_toArray, List.set_cons_succ, List.set_cons_zero])) | ((with_reducible show wpList _ _ _ (Oper.mk _ _ _ _ _ (some _) :: _) _ _); first | refine w_strip rfl (by with_reducible rfl) ?_ | ((fail_if_success (refine w_lit false rfl (by with_reducible rfl) ?_)); (fail_if_success (refine w_lit true rfl (by with_reducible rfl) ?_)); refine w_case rfl ?_ ?_ <;> (intro hgd; rw [hgd]; try (exfalso; simp at hgd; omega)))) | ((with_reducible show wpList _ _ _ (Oper.mk _ (Op.convert 45 9 _) _ _ _ _ :: _) _ _); go_must (first | (refine w_stringW M 0 _ _ _ _ rfl rfl rfl rfl (by first | assumption | exact shaL_len _ | exact macL_len _ _ | exact words_len _ | exact List.length_replicate | (rw [List.length_set]; first | assumption | exact List.length_replicate) | rfl) (by decide) Try.underlying45 Try.underlying5 Try.underlying9 ?_; (try conv => arg 5; simp only [Act.put, List.setIfInBounds_toArray, List.set_cons_succ, List.set_cons_zero])) | (refine w_string M 0 _ _ _ _ rfl rfl rfl (by first | rfl | (simp; done) | assumption) rfl Try.underlying45 Try.underlying5 Try.underlying9 ?_; (try conv => arg 5; simp only [Act.put, List.setIfInBounds_toArray, List.set_cons_succ, List.set_cons_zero])))) | ((with_reducible show wpList _ _ _ (Oper.mk _ (Op.load _ _) _ _ _ _ :: _) _ _); go_must (refine w_at _ _ rfl (by first | exact ev_tmp rfl | exact ev_const) ?_; intro hx; first | (refine w_load M 0 _ _ rfl rfl hx rfl (by decide +kernel) rfl ?_; clear hx; (try conv => arg 5; simp only [Act.put, List.setIfInBounds_toArray, List.set_cons_succ, List.set_cons_zero])) | (refine w_loadB M 0 _ _ rfl rfl hx rfl (by decide +kernel) (by first | assumption | omega | (simp; omega)) ?_; clear hx; (try conv => arg 5; simp only [Act.put, List.setIfInBounds_toArray, List.set_cons_succ, List.set_cons_zero])) | (refine w_loadH M 0 _ _ rfl rfl hx rfl (by decide +kernel) (by first | assumption | exact shaL_len _ | exact macL_len _ _ | exact words_len _ | exact List.length_replicate | (rw [List.length_set]; first | assumption | exact List.length_replicate) | rfl) (by decide +kernel) ?_; clear hx; (try conv => arg 5; simp only [Act.put, List.setIfInBounds_toArray, List.set_cons_succ, List.set_cons_zero])) | (refine w_loadR M 0 _ _ rfl rfl hx rfl (by decide +kernel) (by kernel_rfl) ?_; clear hx; (try conv => arg 5; simp only [Act.put, List.setIfInBounds_toArray, List.set_cons_succ, List.set_cons_zero])))) | ((with_reducible show wpList _ _ _ (Oper.mk _ (Op.store _ _ _) _ _ _ _ :: _) _ _); go_must (refine w_at2 _ _ _ rfl (by first | exact ev_tmp rfl | exact ev_const) (by first | exact ev_tmp rfl | exact ev_const) ?_; intro hx hy; first | (refine w_storeB M 0 _ _ _ rfl rfl hx rfl hy (by decide +kernel) (by first | assumption | omega | (simp; omega)) ?_; clear hx hy M; intro w1 M; (try simp only [List.set_cons_zero] at M); (try conv => arg 5; simp only [Act.put, List.setIfInBounds_toArray, List.set_cons_succ, List.set_cons_zero])) | (refine w_storeH M 0 _ _ _ rfl rfl hx rfl hy (by first | assumption | exact shaL_len _ | exact macL_len _ _ | exact words_len _ | exact List.length_replicate | (rw [List.length_set]; first | assumption | exact List.length_replicate) | rfl) (by decide +kernel) (by first | assumption | exact shaL_len _ | exact macL_len _ _ | exact words_len _ | exact List.length_replicate | (rw [List.length_set]; first | assumption | exact List.length_replicate) | rfl) ?_; clear hx hy M; intro w1 M; (try simp only [List.set_cons_zero] at M); (try conv => arg 5; simp only [Act.put, List.setIfInBounds_toArray, List.set_cons_succ, List.set_cons_zero])) | (refine w_store M 0 _ _ _ rfl rfl hx rfl hy rfl rfl (by decide +kernel) (by first | decide | simp | (simp; omega)) ?_; clear hx hy M; intro w1 M; (try simp only [List.set_cons_zero] at M); (try conv => arg 5; simp only [Act.put, List.setIfInBounds_toArray, List.set_cons_succ, List.set_cons_zero])) | (refine w_storeR M 0 _ _ _ rfl rfl hx rfl _ hy rfl (by kernel_rfl) (by simp [Value.oneCell']) (by first | rfl | assumption) ?_; clear hx hy M; intro w1 M; (try simp only [List.set_cons_zero] at M); (try conv => arg 5; simp only [Act.put, List.setIfInBounds_toArray, List.set_cons_succ, List.set_cons_zero])))) | ((with_reducible show wpList _ _ _ (Oper.mk _ (Op.box _ _) _ _ _ _ :: _) _ _); (refine w_box M _ _ rfl rfl _ rfl _ rfl ?_; clear M; intro g w1 M; (try conv => arg 5; simp only [Act.put, List.setIfInBounds_toArray, List.set_cons_succ, List.set_cons_zero]))))
  go_loopw [1, 2, 3] (fun pv qv kv wr => ∃ k : Nat, k ≤ 255 ∧ kv = .int .i64 k ∧ pv = .int .u8 (I8 (boxS k).p) ∧ qv = .int .u8 (I8 (boxS k).q) ∧ Mem [] w wr [.row gs (bs (boxS k).s)]) (fun _ _ kv _ => 255 - (intOf kv).toNat)
  case atStart => exact ⟨0, by omega, rfl, rfl, rfl, M⟩
  case round =>
    clear M
    obtain ⟨k, hk, rfl, rfl, rfl, M⟩ := hrel
    have hl := boxS_len k
    by_cases hlt : k < 255
    · obtain ⟨x, ex⟩ : ∃ x, x = boxS k := ⟨_, rfl⟩
      rw [← ex] at M hl
      rw [← ex]
      have e : boxS (k + 1) = boxStep k x := by rw [ex]; rfl
      have E := Lib.hid e
      have hp := x.p.toNat_lt
      have hp0 := (I8_bd x.p).1
      have hp1 := (I8_bd x.p).2
      have hp2 := I8_toNat x.p
      have hp3 : x.p.toNat < 256 := hp
      clear e ex hp
      go_wp2_with (first | (go_at_call 78; go_must (refine (twice_c _ _).mono ?_; rintro e w1 ⟨rfl, rfl⟩)) | (go_at_call 106; go_must ((first | (with_reducible refine (rot8_c _ 1 1 _ (by decide)).mono ?_) | (with_reducible refine (rot8_c _ 2 2 _ (by decide)).mono ?_) | (with_reducible refine (rot8_c _ 3 3 _ (by decide)).mono ?_) | (with_reducible refine (rot8_c _ 4 4 _ (by decide)).mono ?_)); rintro e w1 ⟨rfl, rfl⟩)) | ((with_reducible show wpList _ _ _ (Oper.mk _ _ _ _ _ (some _) :: _) _ _); first | refine w_strip rfl (by with_reducible rfl) ?_ | ((fail_if_success (refine w_lit false rfl (by with_reducible rfl) ?_)); (fail_if_success (refine w_lit true rfl (by with_reducible rfl) ?_)); refine w_case rfl ?_ ?_ <;> (intro hgd; rw [hgd]; try (exfalso; simp at hgd; omega)))) | ((with_reducible show wpList _ _ _ (Oper.mk _ (Op.convert 45 9 _) _ _ _ _ :: _) _ _); go_must (first | (refine w_stringW M 0 _ _ _ _ rfl rfl rfl rfl (by first | assumption | exact shaL_len _ | exact macL_len _ _ | exact words_len _ | exact List.length_replicate | (rw [List.length_set]; first | assumption | exact List.length_replicate) | rfl) (by decide) Try.underlying45 Try.underlying5 Try.underlying9 ?_; (try conv => arg 5; simp only [Act.put, List.setIfInBounds_toArray, List.set_cons_succ, List.set_cons_zero])) | (refine w_string M 0 _ _ _ _ rfl rfl rfl (by first | rfl | (simp; done) | assumption) rfl Try.underlying45 Try.underlying5 Try.underlying9 ?_; (try conv => arg 5; simp only [Act.put, List.setIfInBounds_toArray, List.set_cons_succ, List.set_cons_zero])))) | ((with_reducible show wpList _ _ _ (Oper.mk _ (Op.load _ _) _ _ _ _ :: _) _ _); go_must (refine w_at _ _ rfl (by first | exact ev_tmp rfl | exact ev_const) ?_; intro hx; first | (refine w_load M 0 _ _ rfl rfl hx rfl (by decide +kernel) rfl ?_; clear hx; (try conv => arg 5; simp only [Act.put, List.setIfInBounds_toArray, List.set_cons_succ, List.set_cons_zero])) | (refine w_loadB M 0 _ _ rfl rfl hx rfl (by decide +kernel) (by first | assumption | omega | (simp; omega)) ?_; clear hx; (try conv => arg 5; simp only [Act.put, List.setIfInBounds_toArray, List.set_cons_succ, List.set_cons_zero])) | (refine w_loadH M 0 _ _ rfl rfl hx rfl (by decide +kernel) (by first | assumption | exact shaL_len _ | exact macL_len _ _ | exact words_len _ | exact List.length_replicate | (rw [List.length_set]; first | assumption | exact List.length_replicate) | rfl) (by decide +kernel) ?_; clear hx; (try conv => arg 5; simp only [Act.put, List.setIfInBounds_toArray, List.set_cons_succ, List.set_cons_zero])) | (refine w_loadR M 0 _ _ rfl rfl hx rfl (by decide +kernel) (by kernel_rfl) ?_; clear hx; (try conv => arg 5; simp only [Act.put, List.setIfInBounds_toArray, List.set_cons_succ, List.set_cons_zero])))) | ((with_reducible show wpList _ _ _ (Oper.mk _ (Op.store _ _ _) _ _ _ _ :: _) _ _); go_must (refine w_at2 _ _ _ rfl (by first | exact ev_tmp rfl | exact ev_const) (by first | exact ev_tmp rfl | exact ev_const) ?_; intro hx hy; first | (refine w_storeB M 0 _ _ _ rfl rfl hx rfl hy (by decide +kernel) (by first | assumption | omega | (simp; omega)) ?_; clear hx hy M; intro w1 M; (try simp only [List.set_cons_zero] at M); (try conv => arg 5; simp only [Act.put, List.setIfInBounds_toArray, List.set_cons_succ, List.set_cons_zero])) | (refine w_storeH M 0 _ _ _ rfl rfl hx rfl hy (by first | assumption | exact shaL_len _ | exact macL_len _ _ | exact words_len _ | exact List.length_replicate | (rw [List.length_set]; first | assumption | exact List.length_replicate) | rfl) (by decide +kernel) (by first | assumption | exact shaL_len _ | exact macL_len _ _ | exact words_len _ | exact List.length_replicate | (rw [List.length_set]; first | assumption | exact List.length_replicate) | rfl) ?_; clear hx hy M; intro w1 M; (try simp only [List.set_cons_zero] at M); (try conv => arg 5; simp only [Act.put, List.setIfInBounds_toArray, List.set_cons_succ, List.set_cons_zero])) | (refine w_store M 0 _ _ _ rfl rfl hx rfl hy rfl rfl (by decide +kernel) (by first | decide | simp | (simp; omega)) ?_; clear hx hy M; intro w1 M; (try simp only [List.set_cons_zero] at M); (try conv => arg 5; simp only [Act.put, List.setIfInBounds_toArray, List.set_cons_succ, List.set_cons_zero])) | (refine w_storeR M 0 _ _ _ rfl rfl hx rfl _ hy rfl (by kernel_rfl) (by simp [Value.oneCell']) (by first | rfl | assumption) ?_; clear hx hy M; intro w1 M; (try simp only [List.set_cons_zero] at M); (try conv => arg 5; simp only [Act.put, List.setIfInBounds_toArray, List.set_cons_succ, List.set_cons_zero])))) | ((with_reducible show wpList _ _ _ (Oper.mk _ (Op.box _ _) _ _ _ _ :: _) _ _); (refine w_box M _ _ rfl rfl _ rfl _ rfl ?_; clear M; intro g w1 M; (try conv => arg 5; simp only [Act.put, List.setIfInBounds_toArray, List.set_cons_succ, List.set_cons_zero]))))
      go_roundw
      case rel => exact ⟨k + 1, by omega, by go_num, by rw [E.out]; rfl, by rw [E.out]; rfl, by rw [E.out]; exact M⟩
      case measure => simp [intOf]; omega
    · obtain rfl : k = 255 := by omega
      have E := Lib.hid (show boxL = (boxS 255).s.set 0 99 from rfl)
      obtain ⟨x, ex⟩ : ∃ x, x = boxS 255 := ⟨_, rfl⟩
      rw [← ex] at M hl
      rw [← ex]
      rw [← ex] at E
      clear ex
      have hl2 : (x.s.set 0 99).length = 256 := by rw [List.length_set]; exact hl
      go_wp2_with (first | ((with_reducible show wpList _ _ _ (Oper.mk _ _ _ _ _ (some _) :: _) _ _); first | refine w_strip rfl (by with_reducible rfl) ?_ | ((fail_if_success (refine w_lit false rfl (by with_reducible rfl) ?_)); (fail_if_success (refine w_lit true rfl (by with_reducible rfl) ?_)); refine w_case rfl ?_ ?_ <;> (intro hgd; rw [hgd]; try (exfalso; simp at hgd; omega)))) | ((with_reducible show wpList _ _ _ (Oper.mk _ (Op.convert 45 9 _) _ _ _ _ :: _) _ _); go_must (first | (refine w_stringW M 0 _ _ _ _ rfl rfl rfl rfl (by first | assumption | exact shaL_len _ | exact macL_len _ _ | exact words_len _ | exact List.length_replicate | (rw [List.length_set]; first | assumption | exact List.length_replicate) | rfl) (by decide) Try.underlying45 Try.underlying5 Try.underlying9 ?_; (try conv => arg 5; simp only [Act.put, List.setIfInBounds_toArray, List.set_cons_succ, List.set_cons_zero])) | (refine w_string M 0 _ _ _ _ rfl rfl rfl (by first | rfl | (simp; done) | assumption) rfl Try.underlying45 Try.underlying5 Try.underlying9 ?_; (try conv => arg 5; simp only [Act.put, List.setIfInBounds_toArray, List.set_cons_succ, List.set_cons_zero])))) | ((with_reducible show wpList _ _ _ (Oper.mk _ (Op.load _ _) _ _ _ _ :: _) _ _); go_must (refine w_at _ _ rfl (by first | exact ev_tmp rfl | exact ev_const) ?_; intro hx; first | (refine w_load M 0 _ _ rfl rfl hx rfl (by decide +kernel) rfl ?_; clear hx; (try conv => arg 5; simp only [Act.put, List.setIfInBounds_toArray, List.set_cons_succ, List.set_cons_zero])) | (refine w_loadB M 0 _ _ rfl rfl hx rfl (by decide +kernel) (by first | assumption | omega | (simp; omega)) ?_; clear hx; (try conv => arg 5; simp only [Act.put, List.setIfInBounds_toArray, List.set_cons_succ, List.set_cons_zero])) | (refine w_loadH M 0 _ _ rfl rfl hx rfl (by decide +kernel) (by first | assumption | exact shaL_len _ | exact macL_len _ _ | exact words_len _ | exact List.length_replicate | (rw [List.length_set]; first | assumption | exact List.length_replicate) | rfl) (by decide +kernel) ?_; clear hx; (try conv => arg 5; simp only [Act.put, List.setIfInBounds_toArray, List.set_cons_succ, List.set_cons_zero])) | (refine w_loadR M 0 _ _ rfl rfl hx rfl (by decide +kernel) (by kernel_rfl) ?_; clear hx; (try conv => arg 5; simp only [Act.put, List.setIfInBounds_toArray, List.set_cons_succ, List.set_cons_zero])))) | ((with_reducible show wpList _ _ _ (Oper.mk _ (Op.store _ _ _) _ _ _ _ :: _) _ _); go_must (refine w_at2 _ _ _ rfl (by first | exact ev_tmp rfl | exact ev_const) (by first | exact ev_tmp rfl | exact ev_const) ?_; intro hx hy; first | (refine w_storeB M 0 _ _ _ rfl rfl hx rfl hy (by decide +kernel) (by first | assumption | omega | (simp; omega)) ?_; clear hx hy M; intro w1 M; (try simp only [List.set_cons_zero] at M); (try conv => arg 5; simp only [Act.put, List.setIfInBounds_toArray, List.set_cons_succ, List.set_cons_zero])) | (refine w_storeH M 0 _ _ _ rfl rfl hx rfl hy (by first | assumption | exact shaL_len _ | exact macL_len _ _ | exact words_len _ | exact List.length_replicate | (rw [List.length_set]; first | assumption | exact List.length_replicate) | rfl) (by decide +kernel) (by first | assumption | exact shaL_len _ | exact macL_len _ _ | exact words_len _ | exact List.length_replicate | (rw [List.length_set]; first | assumption | exact List.length_replicate) | rfl) ?_; clear hx hy M; intro w1 M; (try simp only [List.set_cons_zero] at M); (try conv => arg 5; simp only [Act.put, List.setIfInBounds_toArray, List.set_cons_succ, List.set_cons_zero])) | (refine w_storeBc M 0 _ _ _ rfl rfl hx rfl hy (by decide) (by decide +kernel) (by first | assumption | omega | (simp; omega)) ?_; clear hx hy M; intro w1 M; (try simp only [List.set_cons_zero] at M); (try conv => arg 5; simp only [Act.put, List.setIfInBounds_toArray, List.set_cons_succ, List.set_cons_zero]); simp only [w8_lit] at M) | (refine w_store M 0 _ _ _ rfl rfl hx rfl hy rfl rfl (by decide +kernel) (by first | decide | simp | (simp; omega)) ?_; clear hx hy M; intro w1 M; (try simp only [List.set_cons_zero] at M); (try conv => arg 5; simp only [Act.put, List.setIfInBounds_toArray, List.set_cons_succ, List.set_cons_zero])) | (refine w_storeR M 0 _ _ _ rfl rfl hx rfl _ hy rfl (by kernel_rfl) (by simp [Value.oneCell']) (by first | rfl | assumption) ?_; clear hx hy M; intro w1 M; (try simp only [List.set_cons_zero] at M); (try conv => arg 5; simp only [Act.put, List.setIfInBounds_toArray, List.set_cons_succ, List.set_cons_zero])))) | ((with_reducible show wpList _ _ _ (Oper.mk _ (Op.box _ _) _ _ _ _ :: _) _ _); (refine w_box M _ _ rfl rfl _ rfl _ rfl ?_; clear M; intro g w1 M; (try conv => arg 5; simp only [Act.put, List.setIfInBounds_toArray, List.set_cons_succ, List.set_cons_zero]))))
      rw [← E.out] at M
      exact bodyPost_ret (results_row rfl _ _ gs 0 (bs boxL) _ rfl (M.ok 0 _ rfl).2.1 Try.underlying121 rfl (by rw [bs_length, boxL_len]; kernel_rfl)) rfl ⟨rfl, M.below⟩
set_option maxRecDepth 100000 in
set_option maxHeartbeats 400000 in
theorem aesPut (base : Nat) (v : Value) (l : List UInt8) (x : UInt64) (n : Nat) (w : World) (hown : OwnB w base v l) (hbase : base ≤ w.heap.size) (hn : n ≤ 8) (hl : l.length ≤ 1000000000000) :
    Calls Try.prog 41 #[v, .int .u64 (I64 x), .int .i64 n] w fun e w' => ∃ v', e = .returned v' ∧ OwnB w' base v' (l ++ bigB x n) ∧ w.grownBy w' v.ownBlock ∧ FreshOr w v v' := by
  go_enter Try.func41, Try.ntmps41
  go_wp2
  go_loopw [0, 7] (fun b i wr => ∃ (j : Nat) (done : List UInt8), j ≤ n ∧ i = .int .i64 ((j : Int) - 1) ∧ done.length ≤ 8 ∧ done ++ bigB x j = bigB x n ∧ OwnB wr base b (l ++ done) ∧ w.grownBy wr v.ownBlock ∧ FreshOr w v b) (fun _ i _ => (intOf i + 1).toNat)
  case atStart => exact ⟨n, [], by omega, rfl, by simp, rfl, by simpa using hown, grownBy_refl _ _, .inl rfl⟩
  case round =>
    obtain ⟨j, done, hj, rfl, hd, H, ho, hg, hf⟩ := hrel
    have H' := Lib.hid H; clear H
    have ho' := Lib.hid ho; clear ho
    have hg' := Lib.hid hg; clear hg
    have hf' := Lib.hid hf; clear hf
    cases j with
    | zero =>
      go_wp2
      go_ret
      have hx : done = bigB x n := by have := H'.out; simpa [bigB] using this
      subst hx
      exact ⟨_, rfl, ho'.out, hg'.out, hf'.out⟩
    | succ i =>
      have e : ((i + 1 : Nat) : Int) - 1 = i := by omega
      rw [e]; clear e
      have b1 : 8 * (i : Int) ≤ 63 := by omega
      have b0 : 0 ≤ 8 * (i : Int) := by omega
      go_wp2_with (at_builtin; refine wpList_append_new bytesT rfl (.tmp 14) (.tmp 20) rfl base wr [_] _ _ rfl u0 (l ++ done) rfl ho'.out rfl ?_ ?_ ?_)
      · simp; omega
      · have := hg'.out.size; omega
      · intro v' w1 hown1 hg1 hf1
        have hg2 := Lib.hid (grow_step hg'.out hf'.out hg1)
        have hf2 := Lib.hid (fresh_trans hg'.out.size hf'.out hf1)
        have hown2 := Lib.hid hown1
        clear hown1 hg1 hf1
        go_wp2
        go_roundw
        case rel => exact ⟨i, done ++ [(x >>> (8 * UInt64.ofNat i)).toUInt8], by omega, by go_num, by have := bigB_length x n; rw [← H'.out] at this; simp [bigB, bigB_length] at this ⊢; omega, by rw [← H'.out]; simp [bigB], hown2.out, hg2.out, hf2.out⟩
        case measure => simp [intOf]
/-- The same, of a piece that is turned. -/
theorem aesPutc (v : Value) (l : List UInt8) (x : UInt64) (n : Nat) (w : World) (hok : (Chunk.sl 1 v l.length (bs l)).ok w) (hn : n ≤ 8) (hl : l.length ≤ 1000000000000) :
    Calls Try.prog 41 #[v, .int .u64 (I64 x), .int .i64 n] w fun e w' => ∃ p cap, e = .returned (.slice p (l ++ bigB x n).length cap) ∧ Upd w (.sl 1 v l.length (bs l)) w' (.sl 1 (.slice p (l ++ bigB x n).length cap) (l ++ bigB x n).length (bs (l ++ bigB x n))) :=
  (aesPut 0 v l x n w hok (Nat.zero_le _) hn hl).mono fun e w' h => by
    obtain ⟨v', rfl, ho, hg, hf⟩ := h
    obtain ⟨p, cap, rfl⟩ := Own.form0 ho
    refine ⟨p, cap, rfl, Kept.grown hg, ho, fun k hk => ?_⟩
    simp only [Chunk.fp, Option.mem_toList] at hk ⊢
    rcases hf with hf | ⟨g, h1, h2⟩
    · exact .inl (by rw [← hf]; exact hk)
    · rw [h1] at hk; cases hk; exact .inr h2
set_option maxRecDepth 100000 in
set_option maxHeartbeats 400000 in
theorem sealPut (base : Nat) (v : Value) (l : List UInt8) (x : UInt64) (n : Nat) (w : World) (hown : OwnB w base v l) (hbase : base ≤ w.heap.size) (hn : n ≤ 8) (hl : l.length ≤ 1000000000000) :
    Calls Try.prog 76 #[v, .int .u64 (I64 x), .int .i64 n] w fun e w' => ∃ v', e = .returned v' ∧ OwnB w' base v' (l ++ bigB x n) ∧ w.grownBy w' v.ownBlock ∧ FreshOr w v v' := by
  go_enter Try.func76, Try.ntmps76
  go_wp2
  go_loopw [0, 7] (fun b i wr => ∃ (j : Nat) (done : List UInt8), j ≤ n ∧ i = .int .i64 ((j : Int) - 1) ∧ done.length ≤ 8 ∧ done ++ bigB x j = bigB x n ∧ OwnB wr base b (l ++ done) ∧ w.grownBy wr v.ownBlock ∧ FreshOr w v b) (fun _ i _ => (intOf i + 1).toNat)
  case atStart => exact ⟨n, [], by omega, rfl, by simp, rfl, by simpa using hown, grownBy_refl _ _, .inl rfl⟩
  case round =>
    obtain ⟨j, done, hj, rfl, hd, H, ho, hg, hf⟩ := hrel
    have H' := Lib.hid H; clear H
    have ho' := Lib.hid ho; clear ho
    have hg' := Lib.hid hg; clear hg
    have hf' := Lib.hid hf; clear hf
    cases j with
    | zero =>
      go_wp2
      go_ret
      have hx : done = bigB x n := by have := H'.out; simpa [bigB] using this
      subst hx
      exact ⟨_, rfl, ho'.out, hg'.out, hf'.out⟩
    | succ i =>
      have e : ((i + 1 : Nat) : Int) - 1 = i := by omega
      rw [e]; clear e
      have b1 : 8 * (i : Int) ≤ 63 := by omega
      have b0 : 0 ≤ 8 * (i : Int) := by omega
      go_wp2_with (at_builtin; refine wpList_append_new bytesT rfl (.tmp 14) (.tmp 20) rfl base wr [_] _ _ rfl u0 (l ++ done) rfl ho'.out rfl ?_ ?_ ?_)
      · simp; omega
      · have := hg'.out.size; omega
      · intro v' w1 hown1 hg1 hf1
        have hg2 := Lib.hid (grow_step hg'.out hf'.out hg1)
        have hf2 := Lib.hid (fresh_trans hg'.out.size hf'.out hf1)
        have hown2 := Lib.hid hown1
        clear hown1 hg1 hf1
        go_wp2
        go_roundw
        case rel => exact ⟨i, done ++ [(x >>> (8 * UInt64.ofNat i)).toUInt8], by omega, by go_num, by have := bigB_length x n; rw [← H'.out] at this; simp [bigB, bigB_length] at this ⊢; omega, by rw [← H'.out]; simp [bigB], hown2.out, hg2.out, hf2.out⟩
        case measure => simp [intOf]
/-- The same, of a piece that is turned. -/
theorem sealPutc (v : Value) (l : List UInt8) (x : UInt64) (n : Nat) (w : World) (hok : (Chunk.sl 1 v l.length (bs l)).ok w) (hn : n ≤ 8) (hl : l.length ≤ 1000000000000) :
    Calls Try.prog 76 #[v, .int .u64 (I64 x), .int .i64 n] w fun e w' => ∃ p cap, e = .returned (.slice p (l ++ bigB x n).length cap) ∧ Upd w (.sl 1 v l.length (bs l)) w' (.sl 1 (.slice p (l ++ bigB x n).length cap) (l ++ bigB x n).length (bs (l ++ bigB x n))) :=
  (sealPut 0 v l x n w hok (Nat.zero_le _) hn hl).mono fun e w' h => by
    obtain ⟨v', rfl, ho, hg, hf⟩ := h
    obtain ⟨p, cap, rfl⟩ := Own.form0 ho
    refine ⟨p, cap, rfl, Kept.grown hg, ho, fun k hk => ?_⟩
    simp only [Chunk.fp, Option.mem_toList] at hk ⊢
    rcases hf with hf | ⟨g, h1, h2⟩
    · exact .inl (by rw [← hf]; exact hk)
    · rw [h1] at hk; cases hk; exact .inr h2
set_option maxRecDepth 100000 in
set_option maxHeartbeats 4000000 in
theorem add_c (gc : Nat) (s W b : List UInt8) (r : Nat) (rv : Int) (hrv : rv = r) (w : World) (R : (Chunk.row gc (bs (W ++ s))).ok w) (hW : W.length = 240) (hs : s.length = 256) (hb : b.length = 16) (hr : r ≤ 14) :
    Calls Try.prog 79 #[.pointer (some ⟨gc, 0, none⟩), .agg (bs b).toArray, .int .i64 rv] w fun e w' => e = .returned (.agg (bs (addL W b r)).toArray) ∧ Below w.heap.size w w' := by
  subst hrv
  have M := Mem.start [] w
  have hWs : (W ++ s).length = 496 := by rw [List.length_append, hW, hs]
  have NW : ∀ i, i < 240 → (W ++ s).getD i 0 = nth W i := fun i hi => by
    unfold nth; simp only [List.getD_eq_getElem?_getD]; rw [List.getElem?_append_left (by omega)]
  obtain ⟨C, eC⟩ : ∃ C, C = W ++ s := ⟨_, rfl⟩
  rw [← eC] at R hWs NW
  clear eC
  replace NW := Lib.hid NW
  go_enter Try.func79, Try.ntmps79
  go_wp2_with (first | ((with_reducible show wpList _ _ _ (Oper.mk (some 4) (Op.box _ _) _ _ _ _ :: _) _ _); refine w_box M _ _ rfl rfl _ rfl (bs b) rfl ?_; clear M; intro gb w1 M; (try conv => arg 5; simp only [Act.put, List.setIfInBounds_toArray, List.set_cons_succ, List.set_cons_zero])) | ((with_reducible show wpList _ _ _ (Oper.mk (some 6) (Op.alloc 74) _ _ _ _ :: _) _ _); refine w_alloc M _ rfl rfl (.agg (Array.replicate 16 (.int .u8 0))) (bs (List.replicate 16 (0 : UInt8))) (by kernel_rfl) rfl ?_; clear M; intro go w1 M; (try conv => arg 5; simp only [Act.put, List.setIfInBounds_toArray, List.set_cons_succ, List.set_cons_zero])) | ((with_reducible show wpList _ _ _ (Oper.mk _ _ _ _ _ (some _) :: _) _ _); first | refine w_strip rfl (by with_reducible rfl) ?_ | ((fail_if_success (refine w_lit false rfl (by with_reducible rfl) ?_)); (fail_if_success (refine w_lit true rfl (by with_reducible rfl) ?_)); refine w_case rfl ?_ ?_ <;> (intro hgd; rw [hgd]; try (exfalso; simp at hgd; omega)))) | ((with_reducible show wpList _ _ _ (Oper.mk _ (Op.convert 45 9 _) _ _ _ _ :: _) _ _); go_must (first | (refine w_stringW M 0 _ _ _ _ rfl rfl rfl rfl (by first | assumption | exact shaL_len _ | exact macL_len _ _ | exact words_len _ | exact List.length_replicate | (rw [List.length_set]; first | assumption | exact List.length_replicate) | rfl) (by decide) Try.underlying45 Try.underlying5 Try.underlying9 ?_; (try conv => arg 5; simp only [Act.put, List.setIfInBounds_toArray, List.set_cons_succ, List.set_cons_zero])) | (refine w_stringW M 1 _ _ _ _ rfl rfl rfl rfl (by first | assumption | exact shaL_len _ | exact macL_len _ _ | exact words_len _ | exact List.length_replicate | (rw [List.length_set]; first | assumption | exact List.length_replicate) | rfl) (by decide) Try.underlying45 Try.underlying5 Try.underlying9 ?_; (try conv => arg 5; simp only [Act.put, List.setIfInBounds_toArray, List.set_cons_succ, List.set_cons_zero])) | (refine w_string M 0 _ _ _ _ rfl rfl rfl (by first | rfl | (simp; done) | assumption) rfl Try.underlying45 Try.underlying5 Try.underlying9 ?_; (try conv => arg 5; simp only [Act.put, List.setIfInBounds_toArray, List.set_cons_succ, List.set_cons_zero])) | (refine w_string M 1 _ _ _ _ rfl rfl rfl (by first | rfl | (simp; done) | assumption) rfl Try.underlying45 Try.underlying5 Try.underlying9 ?_; (try conv => arg 5; simp only [Act.put, List.setIfInBounds_toArray, List.set_cons_succ, List.set_cons_zero])))) | ((with_reducible show wpList _ _ _ (Oper.mk _ (Op.load _ _) _ _ _ _ :: _) _ _); go_must (refine w_at _ _ rfl (by first | exact ev_tmp rfl | exact ev_const) ?_; intro hx; first | (refine w_load M 0 _ _ rfl rfl hx rfl (by decide +kernel) rfl ?_; clear hx; (try conv => arg 5; simp only [Act.put, List.setIfInBounds_toArray, List.set_cons_succ, List.set_cons_zero])) | (refine w_load M 1 _ _ rfl rfl hx rfl (by decide +kernel) rfl ?_; clear hx; (try conv => arg 5; simp only [Act.put, List.setIfInBounds_toArray, List.set_cons_succ, List.set_cons_zero])) | (refine w_loadB M 0 _ _ rfl rfl hx rfl (by decide +kernel) (by first | assumption | omega | (simp; omega)) ?_; clear hx; (try conv => arg 5; simp only [Act.put, List.setIfInBounds_toArray, List.set_cons_succ, List.set_cons_zero])) | (refine w_loadB M 1 _ _ rfl rfl hx rfl (by decide +kernel) (by first | assumption | omega | (simp; omega)) ?_; clear hx; (try conv => arg 5; simp only [Act.put, List.setIfInBounds_toArray, List.set_cons_succ, List.set_cons_zero])) | (refine w_loadH M 0 _ _ rfl rfl hx rfl (by decide +kernel) (by first | assumption | exact shaL_len _ | exact macL_len _ _ | exact words_len _ | exact List.length_replicate | (rw [List.length_set]; first | assumption | exact List.length_replicate) | rfl) (by decide +kernel) ?_; clear hx; (try conv => arg 5; simp only [Act.put, List.setIfInBounds_toArray, List.set_cons_succ, List.set_cons_zero])) | (refine w_loadH M 1 _ _ rfl rfl hx rfl (by decide +kernel) (by first | assumption | exact shaL_len _ | exact macL_len _ _ | exact words_len _ | exact List.length_replicate | (rw [List.length_set]; first | assumption | exact List.length_replicate) | rfl) (by decide +kernel) ?_; clear hx; (try conv => arg 5; simp only [Act.put, List.setIfInBounds_toArray, List.set_cons_succ, List.set_cons_zero])) | (refine w_loadR M 0 _ _ rfl rfl hx rfl (by decide +kernel) (by kernel_rfl) ?_; clear hx; (try conv => arg 5; simp only [Act.put, List.setIfInBounds_toArray, List.set_cons_succ, List.set_cons_zero])) | (refine w_loadR M 1 _ _ rfl rfl hx rfl (by decide +kernel) (by kernel_rfl) ?_; clear hx; (try conv => arg 5; simp only [Act.put, List.setIfInBounds_toArray, List.set_cons_succ, List.set_cons_zero])))) | ((with_reducible show wpList _ _ _ (Oper.mk _ (Op.store _ _ _) _ _ _ _ :: _) _ _); go_must (refine w_at2 _ _ _ rfl (by first | exact ev_tmp rfl | exact ev_const) (by first | exact ev_tmp rfl | exact ev_const) ?_; intro hx hy; first | (refine w_storeB M 0 _ _ _ rfl rfl hx rfl hy (by decide +kernel) (by first | assumption | omega | (simp; omega)) ?_; clear hx hy M; intro w1 M; (try simp only [List.set_cons_zero] at M); (try conv => arg 5; simp only [Act.put, List.setIfInBounds_toArray, List.set_cons_succ, List.set_cons_zero])) | (refine w_storeB M 1 _ _ _ rfl rfl hx rfl hy (by decide +kernel) (by first | assumption | omega | (simp; omega)) ?_; clear hx hy M; intro w1 M; (try simp only [List.set_cons_succ, List.set_cons_zero] at M); (try conv => arg 5; simp only [Act.put, List.setIfInBounds_toArray, List.set_cons_succ, List.set_cons_zero])) | (refine w_storeH M 0 _ _ _ rfl rfl hx rfl hy (by first | assumption | exact shaL_len _ | exact macL_len _ _ | exact words_len _ | exact List.length_replicate | (rw [List.length_set]; first | assumption | exact List.length_replicate) | rfl) (by decide +kernel) (by first | assumption | exact shaL_len _ | exact macL_len _ _ | exact words_len _ | exact List.length_replicate | (rw [List.length_set]; first | assumption | exact List.length_replicate) | rfl) ?_; clear hx hy M; intro w1 M; (try simp only [List.set_cons_zero] at M); (try conv => arg 5; simp only [Act.put, List.setIfInBounds_toArray, List.set_cons_succ, List.set_cons_zero])) | (refine w_storeH M 1 _ _ _ rfl rfl hx rfl hy (by first | assumption | exact shaL_len _ | exact macL_len _ _ | exact words_len _ | exact List.length_replicate | (rw [List.length_set]; first | assumption | exact List.length_replicate) | rfl) (by decide +kernel) (by first | assumption | exact shaL_len _ | exact macL_len _ _ | exact words_len _ | exact List.length_replicate | (rw [List.length_set]; first | assumption | exact List.length_replicate) | rfl) ?_; clear hx hy M; intro w1 M; (try simp only [List.set_cons_succ, List.set_cons_zero] at M); (try conv => arg 5; simp only [Act.put, List.setIfInBounds_toArray, List.set_cons_succ, List.set_cons_zero])) | (refine w_store M 0 _ _ _ rfl rfl hx rfl hy rfl rfl (by decide +kernel) (by first | decide | simp | (simp; omega)) ?_; clear hx hy M; intro w1 M; (try simp only [List.set_cons_zero] at M); (try conv => arg 5; simp only [Act.put, List.setIfInBounds_toArray, List.set_cons_succ, List.set_cons_zero])) | (refine w_store M 1 _ _ _ rfl rfl hx rfl hy rfl rfl (by decide +kernel) (by first | decide | simp | (simp; omega)) ?_; clear hx hy M; intro w1 M; (try simp only [List.set_cons_succ, List.set_cons_zero] at M); (try conv => arg 5; simp only [Act.put, List.setIfInBounds_toArray, List.set_cons_succ, List.set_cons_zero])) | (refine w_storeR M 0 _ _ _ rfl rfl hx rfl _ hy rfl (by kernel_rfl) (by simp [Value.oneCell']) (by first | rfl | assumption) ?_; clear hx hy M; intro w1 M; (try simp only [List.set_cons_zero] at M); (try conv => arg 5; simp only [Act.put, List.setIfInBounds_toArray, List.set_cons_succ, List.set_cons_zero])) | (refine w_storeR M 1 _ _ _ rfl rfl hx rfl _ hy rfl (by kernel_rfl) (by simp [Value.oneCell']) (by first | rfl | assumption) ?_; clear hx hy M; intro w1 M; (try simp only [List.set_cons_succ, List.set_cons_zero] at M); (try conv => arg 5; simp only [Act.put, List.setIfInBounds_toArray, List.set_cons_succ, List.set_cons_zero])))) | ((with_reducible show wpList _ _ _ (Oper.mk _ (Op.box _ _) _ _ _ _ :: _) _ _); (refine w_box M _ _ rfl rfl _ rfl _ rfl ?_; clear M; intro g w1 M; (try conv => arg 5; simp only [Act.put, List.setIfInBounds_toArray, List.set_cons_succ, List.set_cons_zero]))))
  go_loopw [8] (fun kv wr => ∃ k : Nat, k ≤ 16 ∧ kv = .int .i64 k ∧ Mem [] w wr [.row go (bs (List.replicate 16 0)), .row gb (bs (iterN (addB W r) k b))]) (fun kv _ => 16 - (intOf kv).toNat)
  case atStart => exact ⟨0, by omega, rfl, M⟩
  case round =>
    clear M
    obtain ⟨k, hk, rfl, M⟩ := hrel
    obtain ⟨d, ed⟩ : ∃ d, d = iterN (addB W r) k b := ⟨_, rfl⟩
    have hd : d.length = 16 := by rw [ed, iterN_len _ (addB_len W r)]; exact hb
    rw [← ed] at M
    have ED := Lib.hid ed
    clear ed
    by_cases hlt : k < 16
    · go_wp2_with (first | ((with_reducible show wpList _ _ _ (Oper.mk _ (Op.load _ _) _ _ _ _ :: _) _ _); refine w_at _ _ rfl (by first | exact ev_tmp rfl | exact ev_const) ?_; intro hx; first | (refine w_rowB M R _ _ rfl hx rfl (by decide +kernel) (by first | assumption | omega | (simp; omega)) ?_; clear hx; (try conv => arg 5; simp only [Act.put, List.setIfInBounds_toArray, List.set_cons_succ, List.set_cons_zero]))) | ((with_reducible show Code.wp _ (Code.region 4 _ _) _ _ _); go_must (have MR := M; refine region_lowc [(0, false), (1, false), (3, false), (4, false), (5, false), (6, false), (7, false), (8, false), (9, false), (10, false), (11, false), (12, false), (13, false), (14, false), (2, false), (15, false), (16, false), (17, false), (18, true)] [(15, .int), (17, .int), (16, .int), (18, .int), (20, .int), (14, .ptr), (13, .int), (26, .int)] [(2, _), (15, _)] (IxOk MR [1]) 18 (by kernel_rfl) (by kernel_rfl) rfl (by kernel_rfl) (lows_cons (by first | exact stab_ix MR 1 k rfl rfl (by decide) (by decide +kernel) rfl | exact stab_ixB MR 1 k rfl rfl (by decide) (by decide +kernel) (by first | assumption | omega) | exact stab_ix32 MR 1 k rfl rfl (by decide) (by decide +kernel) (by first | assumption | omega | (simp; omega)) | exact stab_ixH MR 1 rfl rfl (by decide) (by decide +kernel) (by first | assumption | exact shaL_len _ | exact macL_len _ _ | exact words_len _ | exact List.length_replicate | (rw [List.length_set]; first | assumption | exact List.length_replicate) | rfl) (by decide +kernel) | exact stab_ixW32 MR 1 rfl rfl (by decide) (by decide +kernel) (by first | assumption | exact shaL_len _ | exact macL_len _ _ | exact words_len _ | exact List.length_replicate | (rw [List.length_set]; first | assumption | exact List.length_replicate) | rfl) (by decide +kernel) | exact stab_ixR MR 1 rfl rfl (by decide) (by decide +kernel) (by kernel_rfl) | exact stab_ixW MR 1 rfl rfl (by decide) (by first | assumption | exact shaL_len _ | exact macL_len _ _ | exact words_len _ | exact List.length_replicate | (rw [List.length_set]; first | assumption | exact List.length_replicate) | rfl) (by decide) Try.underlying45 Try.underlying5 Try.underlying9 | exact stab_ixS MR 1 rfl rfl (by decide) (by first | rfl | simp | assumption) Try.underlying45 Try.underlying5 Try.underlying9) (lows_cons (stab_rowB MR R ((4*r+k/4)*4+k%4) rfl (by decide +kernel) (by first | assumption | omega | (simp; omega))) lows_nil)) (ixOk_self MR _) ?_; replace M := M.drew; simp only [planC, opAt, List.getElem?_toArray, List.getElem?_cons_zero, List.getElem?_cons_succ, Option.getD_some])) | ((with_reducible show Seg _ _ _ _); go_must (first | refine Seg.intro ⟨fun h => absurd rfl h, ?_⟩ | refine Seg.intro ⟨fun _ => (by repeat' (first | exact ixOk_nil M.kept | refine ixOk_cons rfl (by first | exact M.ok 0 _ rfl | exact M.ok 1 _ rfl | exact M.ok 2 _ rfl | exact M.ok 3 _ rfl) ?_)), ?_⟩ | refine Seg.intro ⟨(by repeat' (first | (with_reducible exact needs_nil) | refine needs_at rfl (by first | (show Shape.ok Shape.nums _ = true; exact nums_bs _) | rfl) ?_)), (by repeat' (first | (with_reducible exact ats_nil) | refine ats_cons (by first | exact ev_tmp rfl | rfl) ?_)), ?_⟩)) | ((with_reducible show OnlyN _ _ _ _ _); refine OnlyN.intro (by kernel_rfl) ?_) | ((with_reducible show wpList _ _ _ (Oper.mk _ _ _ _ _ (some _) :: _) _ _); first | refine w_strip rfl (by with_reducible rfl) ?_ | ((fail_if_success (refine w_lit false rfl (by with_reducible rfl) ?_)); (fail_if_success (refine w_lit true rfl (by with_reducible rfl) ?_)); refine w_case rfl ?_ ?_ <;> (intro hgd; rw [hgd]; try (exfalso; simp at hgd; omega)))) | ((with_reducible show wpList _ _ _ (Oper.mk _ (Op.convert 45 9 _) _ _ _ _ :: _) _ _); go_must (first | (refine w_stringW M 0 _ _ _ _ rfl rfl rfl rfl (by first | assumption | exact shaL_len _ | exact macL_len _ _ | exact words_len _ | exact List.length_replicate | (rw [List.length_set]; first | assumption | exact List.length_replicate) | rfl) (by decide) Try.underlying45 Try.underlying5 Try.underlying9 ?_; (try conv => arg 5; simp only [Act.put, List.setIfInBounds_toArray, List.set_cons_succ, List.set_cons_zero])) | (refine w_stringW M 1 _ _ _ _ rfl rfl rfl rfl (by first | assumption | exact shaL_len _ | exact macL_len _ _ | exact words_len _ | exact List.length_replicate | (rw [List.length_set]; first | assumption | exact List.length_replicate) | rfl) (by decide) Try.underlying45 Try.underlying5 Try.underlying9 ?_; (try conv => arg 5; simp only [Act.put, List.setIfInBounds_toArray, List.set_cons_succ, List.set_cons_zero])) | (refine w_string M 0 _ _ _ _ rfl rfl rfl (by first | rfl | (simp; done) | assumption) rfl Try.underlying45 Try.underlying5 Try.underlying9 ?_; (try conv => arg 5; simp only [Act.put, List.setIfInBounds_toArray, List.set_cons_succ, List.set_cons_zero])) | (refine w_string M 1 _ _ _ _ rfl rfl rfl (by first | rfl | (simp; done) | assumption) rfl Try.underlying45 Try.underlying5 Try.underlying9 ?_; (try conv => arg 5; simp only [Act.put, List.setIfInBounds_toArray, List.set_cons_succ, List.set_cons_zero])))) | ((with_reducible show wpList _ _ _ (Oper.mk _ (Op.load _ _) _ _ _ _ :: _) _ _); go_must (refine w_at _ _ rfl (by first | exact ev_tmp rfl | exact ev_const) ?_; intro hx; first | (refine w_load M 0 _ _ rfl rfl hx rfl (by decide +kernel) rfl ?_; clear hx; (try conv => arg 5; simp only [Act.put, List.setIfInBounds_toArray, List.set_cons_succ, List.set_cons_zero])) | (refine w_load M 1 _ _ rfl rfl hx rfl (by decide +kernel) rfl ?_; clear hx; (try conv => arg 5; simp only [Act.put, List.setIfInBounds_toArray, List.set_cons_succ, List.set_cons_zero])) | (refine w_loadB M 0 _ _ rfl rfl hx rfl (by decide +kernel) (by first | assumption | omega | (simp; omega)) ?_; clear hx; (try conv => arg 5; simp only [Act.put, List.setIfInBounds_toArray, List.set_cons_succ, List.set_cons_zero])) | (refine w_loadB M 1 _ _ rfl rfl hx rfl (by decide +kernel) (by first | assumption | omega | (simp; omega)) ?_; clear hx; (try conv => arg 5; simp only [Act.put, List.setIfInBounds_toArray, List.set_cons_succ, List.set_cons_zero])) | (refine w_loadH M 0 _ _ rfl rfl hx rfl (by decide +kernel) (by first | assumption | exact shaL_len _ | exact macL_len _ _ | exact words_len _ | exact List.length_replicate | (rw [List.length_set]; first | assumption | exact List.length_replicate) | rfl) (by decide +kernel) ?_; clear hx; (try conv => arg 5; simp only [Act.put, List.setIfInBounds_toArray, List.set_cons_succ, List.set_cons_zero])) | (refine w_loadH M 1 _ _ rfl rfl hx rfl (by decide +kernel) (by first | assumption | exact shaL_len _ | exact macL_len _ _ | exact words_len _ | exact List.length_replicate | (rw [List.length_set]; first | assumption | exact List.length_replicate) | rfl) (by decide +kernel) ?_; clear hx; (try conv => arg 5; simp only [Act.put, List.setIfInBounds_toArray, List.set_cons_succ, List.set_cons_zero])) | (refine w_loadR M 0 _ _ rfl rfl hx rfl (by decide +kernel) (by kernel_rfl) ?_; clear hx; (try conv => arg 5; simp only [Act.put, List.setIfInBounds_toArray, List.set_cons_succ, List.set_cons_zero])) | (refine w_loadR M 1 _ _ rfl rfl hx rfl (by decide +kernel) (by kernel_rfl) ?_; clear hx; (try conv => arg 5; simp only [Act.put, List.setIfInBounds_toArray, List.set_cons_succ, List.set_cons_zero])))) | ((with_reducible show wpList _ _ _ (Oper.mk _ (Op.store _ _ _) _ _ _ _ :: _) _ _); go_must (refine w_at2 _ _ _ rfl (by first | exact ev_tmp rfl | exact ev_const) (by first | exact ev_tmp rfl | exact ev_const) ?_; intro hx hy; first | (refine w_storeB M 0 _ _ _ rfl rfl hx rfl hy (by decide +kernel) (by first | assumption | omega | (simp; omega)) ?_; clear hx hy M; intro w1 M; (try simp only [List.set_cons_zero] at M); (try conv => arg 5; simp only [Act.put, List.setIfInBounds_toArray, List.set_cons_succ, List.set_cons_zero])) | (refine w_storeB M 1 _ _ _ rfl rfl hx rfl hy (by decide +kernel) (by first | assumption | omega | (simp; omega)) ?_; clear hx hy M; intro w1 M; (try simp only [List.set_cons_succ, List.set_cons_zero] at M); (try conv => arg 5; simp only [Act.put, List.setIfInBounds_toArray, List.set_cons_succ, List.set_cons_zero])) | (refine w_storeH M 0 _ _ _ rfl rfl hx rfl hy (by first | assumption | exact shaL_len _ | exact macL_len _ _ | exact words_len _ | exact List.length_replicate | (rw [List.length_set]; first | assumption | exact List.length_replicate) | rfl) (by decide +kernel) (by first | assumption | exact shaL_len _ | exact macL_len _ _ | exact words_len _ | exact List.length_replicate | (rw [List.length_set]; first | assumption | exact List.length_replicate) | rfl) ?_; clear hx hy M; intro w1 M; (try simp only [List.set_cons_zero] at M); (try conv => arg 5; simp only [Act.put, List.setIfInBounds_toArray, List.set_cons_succ, List.set_cons_zero])) | (refine w_storeH M 1 _ _ _ rfl rfl hx rfl hy (by first | assumption | exact shaL_len _ | exact macL_len _ _ | exact words_len _ | exact List.length_replicate | (rw [List.length_set]; first | assumption | exact List.length_replicate) | rfl) (by decide +kernel) (by first | assumption | exact shaL_len _ | exact macL_len _ _ | exact words_len _ | exact List.length_replicate | (rw [List.length_set]; first | assumption | exact List.length_replicate) | rfl) ?_; clear hx hy M; intro w1 M; (try simp only [List.set_cons_succ, List.set_cons_zero] at M); (try conv => arg 5; simp only [Act.put, List.setIfInBounds_toArray, List.set_cons_succ, List.set_cons_zero])) | (refine w_store M 0 _ _ _ rfl rfl hx rfl hy rfl rfl (by decide +kernel) (by first | decide | simp | (simp; omega)) ?_; clear hx hy M; intro w1 M; (try simp only [List.set_cons_zero] at M); (try conv => arg 5; simp only [Act.put, List.setIfInBounds_toArray, List.set_cons_succ, List.set_cons_zero])) | (refine w_store M 1 _ _ _ rfl rfl hx rfl hy rfl rfl (by decide +kernel) (by first | decide | simp | (simp; omega)) ?_; clear hx hy M; intro w1 M; (try simp only [List.set_cons_succ, List.set_cons_zero] at M); (try conv => arg 5; simp only [Act.put, List.setIfInBounds_toArray, List.set_cons_succ, List.set_cons_zero])) | (refine w_storeR M 0 _ _ _ rfl rfl hx rfl _ hy rfl (by kernel_rfl) (by simp [Value.oneCell']) (by first | rfl | assumption) ?_; clear hx hy M; intro w1 M; (try simp only [List.set_cons_zero] at M); (try conv => arg 5; simp only [Act.put, List.setIfInBounds_toArray, List.set_cons_succ, List.set_cons_zero])) | (refine w_storeR M 1 _ _ _ rfl rfl hx rfl _ hy rfl (by kernel_rfl) (by simp [Value.oneCell']) (by first | rfl | assumption) ?_; clear hx hy M; intro w1 M; (try simp only [List.set_cons_succ, List.set_cons_zero] at M); (try conv => arg 5; simp only [Act.put, List.setIfInBounds_toArray, List.set_cons_succ, List.set_cons_zero])))) | ((with_reducible show wpList _ _ _ (Oper.mk _ (Op.box _ _) _ _ _ _ :: _) _ _); (refine w_box M _ _ rfl rfl _ rfl _ rfl ?_; clear M; intro g w1 M; (try conv => arg 5; simp only [Act.put, List.setIfInBounds_toArray, List.set_cons_succ, List.set_cons_zero]))))
      have hC : C[(4 * r + k / 4) * 4 + k % 4]?.getD 0 = nth W (16 * r + k) := by
        rw [← NW.out _ (by omega), show 16 * r + k = (4 * r + k / 4) * 4 + k % 4 by omega, List.getD_eq_getElem?_getD]
      have hD : addB W r k d = d.set k (d[k] ^^^ nth W (16 * r + k)) := by
        unfold addB nth; simp [List.getElem?_eq_getElem (show k < d.length by omega)]
      rw [hC, ← hD] at M
      go_roundw
      case rel => exact ⟨k + 1, by omega, by go_num, by rw [iterN_succ, ← ED.out]; exact M⟩
      case measure => simp [intOf]; omega
    · obtain rfl : k = 16 := by omega
      go_wp2_with (first | ((with_reducible show wpList _ _ _ (Oper.mk _ _ _ _ _ (some _) :: _) _ _); first | refine w_strip rfl (by with_reducible rfl) ?_ | ((fail_if_success (refine w_lit false rfl (by with_reducible rfl) ?_)); (fail_if_success (refine w_lit true rfl (by with_reducible rfl) ?_)); refine w_case rfl ?_ ?_ <;> (intro hgd; rw [hgd]; try (exfalso; simp at hgd; omega)))) | ((with_reducible show wpList _ _ _ (Oper.mk _ (Op.convert 45 9 _) _ _ _ _ :: _) _ _); go_must (first | (refine w_stringW M 0 _ _ _ _ rfl rfl rfl rfl (by first | assumption | exact shaL_len _ | exact macL_len _ _ | exact words_len _ | exact List.length_replicate | (rw [List.length_set]; first | assumption | exact List.length_replicate) | rfl) (by decide) Try.underlying45 Try.underlying5 Try.underlying9 ?_; (try conv => arg 5; simp only [Act.put, List.setIfInBounds_toArray, List.set_cons_succ, List.set_cons_zero])) | (refine w_stringW M 1 _ _ _ _ rfl rfl rfl rfl (by first | assumption | exact shaL_len _ | exact macL_len _ _ | exact words_len _ | exact List.length_replicate | (rw [List.length_set]; first | assumption | exact List.length_replicate) | rfl) (by decide) Try.underlying45 Try.underlying5 Try.underlying9 ?_; (try conv => arg 5; simp only [Act.put, List.setIfInBounds_toArray, List.set_cons_succ, List.set_cons_zero])) | (refine w_string M 0 _ _ _ _ rfl rfl rfl (by first | rfl | (simp; done) | assumption) rfl Try.underlying45 Try.underlying5 Try.underlying9 ?_; (try conv => arg 5; simp only [Act.put, List.setIfInBounds_toArray, List.set_cons_succ, List.set_cons_zero])) | (refine w_string M 1 _ _ _ _ rfl rfl rfl (by first | rfl | (simp; done) | assumption) rfl Try.underlying45 Try.underlying5 Try.underlying9 ?_; (try conv => arg 5; simp only [Act.put, List.setIfInBounds_toArray, List.set_cons_succ, List.set_cons_zero])))) | ((with_reducible show wpList _ _ _ (Oper.mk _ (Op.load _ _) _ _ _ _ :: _) _ _); go_must (refine w_at _ _ rfl (by first | exact ev_tmp rfl | exact ev_const) ?_; intro hx; first | (refine w_load M 0 _ _ rfl rfl hx rfl (by decide +kernel) rfl ?_; clear hx; (try conv => arg 5; simp only [Act.put, List.setIfInBounds_toArray, List.set_cons_succ, List.set_cons_zero])) | (refine w_load M 1 _ _ rfl rfl hx rfl (by decide +kernel) rfl ?_; clear hx; (try conv => arg 5; simp only [Act.put, List.setIfInBounds_toArray, List.set_cons_succ, List.set_cons_zero])) | (refine w_loadB M 0 _ _ rfl rfl hx rfl (by decide +kernel) (by first | assumption | omega | (simp; omega)) ?_; clear hx; (try conv => arg 5; simp only [Act.put, List.setIfInBounds_toArray, List.set_cons_succ, List.set_cons_zero])) | (refine w_loadB M 1 _ _ rfl rfl hx rfl (by decide +kernel) (by first | assumption | omega | (simp; omega)) ?_; clear hx; (try conv => arg 5; simp only [Act.put, List.setIfInBounds_toArray, List.set_cons_succ, List.set_cons_zero])) | (refine w_loadH M 0 _ _ rfl rfl hx rfl (by decide +kernel) (by first | assumption | exact shaL_len _ | exact macL_len _ _ | exact words_len _ | exact List.length_replicate | (rw [List.length_set]; first | assumption | exact List.length_replicate) | rfl) (by decide +kernel) ?_; clear hx; (try conv => arg 5; simp only [Act.put, List.setIfInBounds_toArray, List.set_cons_succ, List.set_cons_zero])) | (refine w_loadH M 1 _ _ rfl rfl hx rfl (by decide +kernel) (by first | assumption | exact shaL_len _ | exact macL_len _ _ | exact words_len _ | exact List.length_replicate | (rw [List.length_set]; first | assumption | exact List.length_replicate) | rfl) (by decide +kernel) ?_; clear hx; (try conv => arg 5; simp only [Act.put, List.setIfInBounds_toArray, List.set_cons_succ, List.set_cons_zero])) | (refine w_loadR M 0 _ _ rfl rfl hx rfl (by decide +kernel) (by kernel_rfl) ?_; clear hx; (try conv => arg 5; simp only [Act.put, List.setIfInBounds_toArray, List.set_cons_succ, List.set_cons_zero])) | (refine w_loadR M 1 _ _ rfl rfl hx rfl (by decide +kernel) (by kernel_rfl) ?_; clear hx; (try conv => arg 5; simp only [Act.put, List.setIfInBounds_toArray, List.set_cons_succ, List.set_cons_zero])))) | ((with_reducible show wpList _ _ _ (Oper.mk _ (Op.store _ _ _) _ _ _ _ :: _) _ _); go_must (refine w_at2 _ _ _ rfl (by first | exact ev_tmp rfl | exact ev_const) (by first | exact ev_tmp rfl | exact ev_const) ?_; intro hx hy; first | (refine w_storeB M 0 _ _ _ rfl rfl hx rfl hy (by decide +kernel) (by first | assumption | omega | (simp; omega)) ?_; clear hx hy M; intro w1 M; (try simp only [List.set_cons_zero] at M); (try conv => arg 5; simp only [Act.put, List.setIfInBounds_toArray, List.set_cons_succ, List.set_cons_zero])) | (refine w_storeB M 1 _ _ _ rfl rfl hx rfl hy (by decide +kernel) (by first | assumption | omega | (simp; omega)) ?_; clear hx hy M; intro w1 M; (try simp only [List.set_cons_succ, List.set_cons_zero] at M); (try conv => arg 5; simp only [Act.put, List.setIfInBounds_toArray, List.set_cons_succ, List.set_cons_zero])) | (refine w_storeH M 0 _ _ _ rfl rfl hx rfl hy (by first | assumption | exact shaL_len _ | exact macL_len _ _ | exact words_len _ | exact List.length_replicate | (rw [List.length_set]; first | assumption | exact List.length_replicate) | rfl) (by decide +kernel) (by first | assumption | exact shaL_len _ | exact macL_len _ _ | exact words_len _ | exact List.length_replicate | (rw [List.length_set]; first | assumption | exact List.length_replicate) | rfl) ?_; clear hx hy M; intro w1 M; (try simp only [List.set_cons_zero] at M); (try conv => arg 5; simp only [Act.put, List.setIfInBounds_toArray, List.set_cons_succ, List.set_cons_zero])) | (refine w_storeH M 1 _ _ _ rfl rfl hx rfl hy (by first | assumption | exact shaL_len _ | exact macL_len _ _ | exact words_len _ | exact List.length_replicate | (rw [List.length_set]; first | assumption | exact List.length_replicate) | rfl) (by decide +kernel) (by first | assumption | exact shaL_len _ | exact macL_len _ _ | exact words_len _ | exact List.length_replicate | (rw [List.length_set]; first | assumption | exact List.length_replicate) | rfl) ?_; clear hx hy M; intro w1 M; (try simp only [List.set_cons_succ, List.set_cons_zero] at M); (try conv => arg 5; simp only [Act.put, List.setIfInBounds_toArray, List.set_cons_succ, List.set_cons_zero])) | (refine w_store M 0 _ _ _ rfl rfl hx rfl hy rfl rfl (by decide +kernel) (by first | decide | simp | (simp; omega)) ?_; clear hx hy M; intro w1 M; (try simp only [List.set_cons_zero] at M); (try conv => arg 5; simp only [Act.put, List.setIfInBounds_toArray, List.set_cons_succ, List.set_cons_zero])) | (refine w_store M 1 _ _ _ rfl rfl hx rfl hy rfl rfl (by decide +kernel) (by first | decide | simp | (simp; omega)) ?_; clear hx hy M; intro w1 M; (try simp only [List.set_cons_succ, List.set_cons_zero] at M); (try conv => arg 5; simp only [Act.put, List.setIfInBounds_toArray, List.set_cons_succ, List.set_cons_zero])) | (refine w_storeR M 0 _ _ _ rfl rfl hx rfl _ hy rfl (by kernel_rfl) (by simp [Value.oneCell']) (by first | rfl | assumption) ?_; clear hx hy M; intro w1 M; (try simp only [List.set_cons_zero] at M); (try conv => arg 5; simp only [Act.put, List.setIfInBounds_toArray, List.set_cons_succ, List.set_cons_zero])) | (refine w_storeR M 1 _ _ _ rfl rfl hx rfl _ hy rfl (by kernel_rfl) (by simp [Value.oneCell']) (by first | rfl | assumption) ?_; clear hx hy M; intro w1 M; (try simp only [List.set_cons_succ, List.set_cons_zero] at M); (try conv => arg 5; simp only [Act.put, List.setIfInBounds_toArray, List.set_cons_succ, List.set_cons_zero])))) | ((with_reducible show wpList _ _ _ (Oper.mk _ (Op.box _ _) _ _ _ _ :: _) _ _); (refine w_box M _ _ rfl rfl _ rfl _ rfl ?_; clear M; intro g w1 M; (try conv => arg 5; simp only [Act.put, List.setIfInBounds_toArray, List.set_cons_succ, List.set_cons_zero]))))
      exact bodyPost_ret (results_row rfl _ _ go 0 (bs d) _ rfl (M.ok 0 _ rfl).2.1 Try.underlying74 rfl (by rw [bs_length, hd]; kernel_rfl)) rfl ⟨by rw [show addL W b r = d from ED.out.symm], M.below⟩
set_option maxRecDepth 100000 in
set_option maxHeartbeats 1000000 in
theorem mix1_c (g ga gi : Nat) (b : List UInt8) (at' i k : Nat) (kv : Int) (hkv : kv = k) (w : World) (hb : b.length = 16) (R : (Chunk.row g (bs b)).ok w) (RA : (Chunk.row ga [.int .i64 at']).ok w) (RI : (Chunk.row gi [.int .i64 i]).ok w) (ha : at' + 3 < 16) (hi : i < 16) (hk : k < 4) :
    Calls Try.prog 107 #[.int .i64 kv, .pointer (some ⟨g, 0, none⟩), .pointer (some ⟨ga, 0, none⟩), .pointer (some ⟨gi, 0, none⟩)] w fun e w' => e = .returned (.int .u8 (I8 (nth b (at' + (i + k) % 4)))) ∧ Below w.heap.size w w' := by
  subst hkv
  have M := Mem.start [] w
  go_enter Try.func107, Try.ntmps107
  go_wp2_with (first | ((with_reducible show wpList _ _ _ (Oper.mk _ (Op.load _ _) _ _ _ _ :: _) _ _); refine w_at _ _ rfl (by first | exact ev_tmp rfl | exact ev_const) ?_; intro hx; first | (refine w_rowB M R _ _ rfl hx rfl (by decide +kernel) (by first | assumption | omega | (simp; omega)) ?_; clear hx) | (refine w_rowC M RA _ _ rfl hx rfl (by decide +kernel) rfl ?_; clear hx) | (refine w_rowC M RI _ _ rfl hx rfl (by decide +kernel) rfl ?_; clear hx)))
  go_ret
  exact ⟨by simp [nth], M.below⟩
set_option maxRecDepth 100000 in
set_option maxHeartbeats 4000000 in
theorem mix_c (b : List UInt8) (w : World) (hb : b.length = 16) :
    Calls Try.prog 80 #[.agg (bs b).toArray] w fun e w' => e = .returned (.agg (bs (mixL b)).toArray) ∧ Below w.heap.size w w' := by
  have M := Mem.start [] w
  have hmf : ∀ (fn : Fn) (first cap : Array Value) (w : World), (Instr.makeFunc fn first cap).run Try.prog w = .ok (.func fn first cap) w := fun _ _ _ _ => rfl
  go_enter Try.func80, Try.ntmps80
  go_wp2_with (first | ((with_reducible show wpList _ _ _ (Oper.mk (some 1) (Op.box _ _) _ _ _ _ :: _) _ _); refine w_box M _ _ rfl rfl _ rfl (bs b) rfl ?_; clear M; intro gb w1 M; (try conv => arg 5; simp only [Act.put, List.setIfInBounds_toArray, List.set_cons_succ, List.set_cons_zero])) | ((with_reducible show wpList _ _ _ (Oper.mk (some 2) (Op.alloc 74) _ _ _ _ :: _) _ _); refine w_alloc M _ rfl rfl (.agg (Array.replicate 16 (.int .u8 0))) (bs (List.replicate 16 (0 : UInt8))) (by kernel_rfl) rfl ?_; clear M; intro go w1 M; (try conv => arg 5; simp only [Act.put, List.setIfInBounds_toArray, List.set_cons_succ, List.set_cons_zero])) | ((with_reducible show wpList _ _ _ (Oper.mk _ _ _ _ _ (some _) :: _) _ _); first | refine w_strip rfl (by with_reducible rfl) ?_ | ((fail_if_success (refine w_lit false rfl (by with_reducible rfl) ?_)); (fail_if_success (refine w_lit true rfl (by with_reducible rfl) ?_)); refine w_case rfl ?_ ?_ <;> (intro hgd; rw [hgd]; try (exfalso; simp at hgd; omega)))) | ((with_reducible show wpList _ _ _ (Oper.mk _ (Op.convert 45 9 _) _ _ _ _ :: _) _ _); go_must (first | (refine w_stringW M 0 _ _ _ _ rfl rfl rfl rfl (by first | assumption | exact shaL_len _ | exact macL_len _ _ | exact words_len _ | exact List.length_replicate | (rw [List.length_set]; first | assumption | exact List.length_replicate) | rfl) (by decide) Try.underlying45 Try.underlying5 Try.underlying9 ?_; (try conv => arg 5; simp only [Act.put, List.setIfInBounds_toArray, List.set_cons_succ, List.set_cons_zero])) | (refine w_stringW M 1 _ _ _ _ rfl rfl rfl rfl (by first | assumption | exact shaL_len _ | exact macL_len _ _ | exact words_len _ | exact List.length_replicate | (rw [List.length_set]; first | assumption | exact List.length_replicate) | rfl) (by decide) Try.underlying45 Try.underlying5 Try.underlying9 ?_; (try conv => arg 5; simp only [Act.put, List.setIfInBounds_toArray, List.set_cons_succ, List.set_cons_zero])) | (refine w_string M 0 _ _ _ _ rfl rfl rfl (by first | rfl | (simp; done) | assumption) rfl Try.underlying45 Try.underlying5 Try.underlying9 ?_; (try conv => arg 5; simp only [Act.put, List.setIfInBounds_toArray, List.set_cons_succ, List.set_cons_zero])) | (refine w_string M 1 _ _ _ _ rfl rfl rfl (by first | rfl | (simp; done) | assumption) rfl Try.underlying45 Try.underlying5 Try.underlying9 ?_; (try conv => arg 5; simp only [Act.put, List.setIfInBounds_toArray, List.set_cons_succ, List.set_cons_zero])))) | ((with_reducible show wpList _ _ _ (Oper.mk _ (Op.load _ _) _ _ _ _ :: _) _ _); go_must (refine w_at _ _ rfl (by first | exact ev_tmp rfl | exact ev_const) ?_; intro hx; first | (refine w_load M 0 _ _ rfl rfl hx rfl (by decide +kernel) rfl ?_; clear hx; (try conv => arg 5; simp only [Act.put, List.setIfInBounds_toArray, List.set_cons_succ, List.set_cons_zero])) | (refine w_load M 1 _ _ rfl rfl hx rfl (by decide +kernel) rfl ?_; clear hx; (try conv => arg 5; simp only [Act.put, List.setIfInBounds_toArray, List.set_cons_succ, List.set_cons_zero])) | (refine w_loadB M 0 _ _ rfl rfl hx rfl (by decide +kernel) (by first | assumption | omega | (simp; omega)) ?_; clear hx; (try conv => arg 5; simp only [Act.put, List.setIfInBounds_toArray, List.set_cons_succ, List.set_cons_zero])) | (refine w_loadB M 1 _ _ rfl rfl hx rfl (by decide +kernel) (by first | assumption | omega | (simp; omega)) ?_; clear hx; (try conv => arg 5; simp only [Act.put, List.setIfInBounds_toArray, List.set_cons_succ, List.set_cons_zero])) | (refine w_loadH M 0 _ _ rfl rfl hx rfl (by decide +kernel) (by first | assumption | exact shaL_len _ | exact macL_len _ _ | exact words_len _ | exact List.length_replicate | (rw [List.length_set]; first | assumption | exact List.length_replicate) | rfl) (by decide +kernel) ?_; clear hx; (try conv => arg 5; simp only [Act.put, List.setIfInBounds_toArray, List.set_cons_succ, List.set_cons_zero])) | (refine w_loadH M 1 _ _ rfl rfl hx rfl (by decide +kernel) (by first | assumption | exact shaL_len _ | exact macL_len _ _ | exact words_len _ | exact List.length_replicate | (rw [List.length_set]; first | assumption | exact List.length_replicate) | rfl) (by decide +kernel) ?_; clear hx; (try conv => arg 5; simp only [Act.put, List.setIfInBounds_toArray, List.set_cons_succ, List.set_cons_zero])) | (refine w_loadR M 0 _ _ rfl rfl hx rfl (by decide +kernel) (by kernel_rfl) ?_; clear hx; (try conv => arg 5; simp only [Act.put, List.setIfInBounds_toArray, List.set_cons_succ, List.set_cons_zero])) | (refine w_loadR M 1 _ _ rfl rfl hx rfl (by decide +kernel) (by kernel_rfl) ?_; clear hx; (try conv => arg 5; simp only [Act.put, List.setIfInBounds_toArray, List.set_cons_succ, List.set_cons_zero])))) | ((with_reducible show wpList _ _ _ (Oper.mk _ (Op.store _ _ _) _ _ _ _ :: _) _ _); go_must (refine w_at2 _ _ _ rfl (by first | exact ev_tmp rfl | exact ev_const) (by first | exact ev_tmp rfl | exact ev_const) ?_; intro hx hy; first | (refine w_storeB M 0 _ _ _ rfl rfl hx rfl hy (by decide +kernel) (by first | assumption | omega | (simp; omega)) ?_; clear hx hy M; intro w1 M; (try simp only [List.set_cons_zero] at M); (try conv => arg 5; simp only [Act.put, List.setIfInBounds_toArray, List.set_cons_succ, List.set_cons_zero])) | (refine w_storeB M 1 _ _ _ rfl rfl hx rfl hy (by decide +kernel) (by first | assumption | omega | (simp; omega)) ?_; clear hx hy M; intro w1 M; (try simp only [List.set_cons_succ, List.set_cons_zero] at M); (try conv => arg 5; simp only [Act.put, List.setIfInBounds_toArray, List.set_cons_succ, List.set_cons_zero])) | (refine w_storeH M 0 _ _ _ rfl rfl hx rfl hy (by first | assumption | exact shaL_len _ | exact macL_len _ _ | exact words_len _ | exact List.length_replicate | (rw [List.length_set]; first | assumption | exact List.length_replicate) | rfl) (by decide +kernel) (by first | assumption | exact shaL_len _ | exact macL_len _ _ | exact words_len _ | exact List.length_replicate | (rw [List.length_set]; first | assumption | exact List.length_replicate) | rfl) ?_; clear hx hy M; intro w1 M; (try simp only [List.set_cons_zero] at M); (try conv => arg 5; simp only [Act.put, List.setIfInBounds_toArray, List.set_cons_succ, List.set_cons_zero])) | (refine w_storeH M 1 _ _ _ rfl rfl hx rfl hy (by first | assumption | exact shaL_len _ | exact macL_len _ _ | exact words_len _ | exact List.length_replicate | (rw [List.length_set]; first | assumption | exact List.length_replicate) | rfl) (by decide +kernel) (by first | assumption | exact shaL_len _ | exact macL_len _ _ | exact words_len _ | exact List.length_replicate | (rw [List.length_set]; first | assumption | exact List.length_replicate) | rfl) ?_; clear hx hy M; intro w1 M; (try simp only [List.set_cons_succ, List.set_cons_zero] at M); (try conv => arg 5; simp only [Act.put, List.setIfInBounds_toArray, List.set_cons_succ, List.set_cons_zero])) | (refine w_store M 0 _ _ _ rfl rfl hx rfl hy rfl rfl (by decide +kernel) (by first | decide | simp | (simp; omega)) ?_; clear hx hy M; intro w1 M; (try simp only [List.set_cons_zero] at M); (try conv => arg 5; simp only [Act.put, List.setIfInBounds_toArray, List.set_cons_succ, List.set_cons_zero])) | (refine w_store M 1 _ _ _ rfl rfl hx rfl hy rfl rfl (by decide +kernel) (by first | decide | simp | (simp; omega)) ?_; clear hx hy M; intro w1 M; (try simp only [List.set_cons_succ, List.set_cons_zero] at M); (try conv => arg 5; simp only [Act.put, List.setIfInBounds_toArray, List.set_cons_succ, List.set_cons_zero])) | (refine w_storeR M 0 _ _ _ rfl rfl hx rfl _ hy rfl (by kernel_rfl) (by simp [Value.oneCell']) (by first | rfl | assumption) ?_; clear hx hy M; intro w1 M; (try simp only [List.set_cons_zero] at M); (try conv => arg 5; simp only [Act.put, List.setIfInBounds_toArray, List.set_cons_succ, List.set_cons_zero])) | (refine w_storeR M 1 _ _ _ rfl rfl hx rfl _ hy rfl (by kernel_rfl) (by simp [Value.oneCell']) (by first | rfl | assumption) ?_; clear hx hy M; intro w1 M; (try simp only [List.set_cons_succ, List.set_cons_zero] at M); (try conv => arg 5; simp only [Act.put, List.setIfInBounds_toArray, List.set_cons_succ, List.set_cons_zero])))) | ((with_reducible show wpList _ _ _ (Oper.mk _ (Op.box _ _) _ _ _ _ :: _) _ _); (refine w_box M _ _ rfl rfl _ rfl _ rfl ?_; clear M; intro g w1 M; (try conv => arg 5; simp only [Act.put, List.setIfInBounds_toArray, List.set_cons_succ, List.set_cons_zero]))))
  go_loopw [6] (fun kv wr => ∃ k : Nat, k ≤ 16 ∧ kv = .int .i64 k ∧ Mem [] w wr [.row go (bs (iterN (mixB b) k (List.replicate 16 0))), .row gb (bs b)]) (fun kv _ => 16 - (intOf kv).toNat)
  case atStart => exact ⟨0, by omega, rfl, M⟩
  case round =>
    clear M
    obtain ⟨k, hk, rfl, M⟩ := hrel
    obtain ⟨d, ed⟩ : ∃ d, d = iterN (mixB b) k (List.replicate 16 0) := ⟨_, rfl⟩
    have hd : d.length = 16 := by rw [ed, iterN_len _ (fun n s => by unfold mixB; rw [List.length_set])]; exact List.length_replicate
    rw [← ed] at M
    have ED := Lib.hid ed
    clear ed
    by_cases hlt : k < 16
    · have hk4 : k / 4 * 4 + 3 < 16 := by omega
      go_wp2_with (first | ((with_reducible show wpList _ _ _ (Oper.mk (some 3) (Op.alloc 3) _ _ _ _ :: _) _ _); refine w_alloc M _ rfl rfl (.int .i64 0) ([.int .i64 0]) (by kernel_rfl) rfl ?_; clear M; intro gi w1 M; (try conv => arg 5; simp only [Act.put, List.setIfInBounds_toArray, List.set_cons_succ, List.set_cons_zero])) | ((with_reducible show wpList _ _ _ (Oper.mk (some 4) (Op.alloc 3) _ _ _ _ :: _) _ _); refine w_alloc M _ rfl rfl (.int .i64 0) ([.int .i64 0]) (by kernel_rfl) rfl ?_; clear M; intro ga w1 M; (try conv => arg 5; simp only [Act.put, List.setIfInBounds_toArray, List.set_cons_succ, List.set_cons_zero])) | (go_at_call 78; go_must (refine (twice_c _ _).mono ?_; rintro e w1 ⟨rfl, rfl⟩)) | (go_at_call 107; go_must ((first | (with_reducible refine (mix1_c _ _ _ b _ _ 0 0 (by decide) _ hb (M.ok 3 _ rfl) (M.ok 0 _ rfl) (M.ok 1 _ rfl) hk4 hlt (by decide)).mono ?_) | (with_reducible refine (mix1_c _ _ _ b _ _ 1 1 (by decide) _ hb (M.ok 3 _ rfl) (M.ok 0 _ rfl) (M.ok 1 _ rfl) hk4 hlt (by decide)).mono ?_) | (with_reducible refine (mix1_c _ _ _ b _ _ 2 2 (by decide) _ hb (M.ok 3 _ rfl) (M.ok 0 _ rfl) (M.ok 1 _ rfl) hk4 hlt (by decide)).mono ?_) | (with_reducible refine (mix1_c _ _ _ b _ _ 3 3 (by decide) _ hb (M.ok 3 _ rfl) (M.ok 0 _ rfl) (M.ok 1 _ rfl) hk4 hlt (by decide)).mono ?_)); rintro e w1 ⟨rfl, hbl⟩; replace M := M.call hbl; clear hbl)) | ((with_reducible show Code.wp _ (Code.region 6 _ _) _ _ _); go_must (have MR := M; refine region_lowc [(1, false), (4, false), (8, false), (11, false), (14, false), (0, false), (2, true), (3, true), (5, true), (6, true), (7, false), (9, true), (10, false), (12, true), (13, false), (15, true), (16, false), (17, false), (18, true)] [(16, .int), (19, .int), (20, .int), (22, .int), (23, .int), (25, .int), (26, .int), (28, .int)] [(0, _)] (IxOk MR [1]) 18 (by kernel_rfl) (by kernel_rfl) rfl (by kernel_rfl) (lows_cons (by first | exact stab_ix MR 1 0 rfl rfl (by decide) (by decide +kernel) rfl | exact stab_ixB MR 1 0 rfl rfl (by decide) (by decide +kernel) (by first | assumption | omega) | exact stab_ix32 MR 1 0 rfl rfl (by decide) (by decide +kernel) (by first | assumption | omega | (simp; omega)) | exact stab_ixH MR 1 rfl rfl (by decide) (by decide +kernel) (by first | assumption | exact shaL_len _ | exact macL_len _ _ | exact words_len _ | exact List.length_replicate | (rw [List.length_set]; first | assumption | exact List.length_replicate) | rfl) (by decide +kernel) | exact stab_ixW32 MR 1 rfl rfl (by decide) (by decide +kernel) (by first | assumption | exact shaL_len _ | exact macL_len _ _ | exact words_len _ | exact List.length_replicate | (rw [List.length_set]; first | assumption | exact List.length_replicate) | rfl) (by decide +kernel) | exact stab_ixR MR 1 rfl rfl (by decide) (by decide +kernel) (by kernel_rfl) | exact stab_ixW MR 1 rfl rfl (by decide) (by first | assumption | exact shaL_len _ | exact macL_len _ _ | exact words_len _ | exact List.length_replicate | (rw [List.length_set]; first | assumption | exact List.length_replicate) | rfl) (by decide) Try.underlying45 Try.underlying5 Try.underlying9 | exact stab_ixS MR 1 rfl rfl (by decide) (by first | rfl | simp | assumption) Try.underlying45 Try.underlying5 Try.underlying9) lows_nil) (ixOk_self MR _) ?_; replace M := M.drew; simp only [planC, opAt, List.getElem?_toArray, List.getElem?_cons_zero, List.getElem?_cons_succ, Option.getD_some])) | ((with_reducible show Seg _ _ _ _); go_must (first | refine Seg.intro ⟨fun h => absurd rfl h, ?_⟩ | refine Seg.intro ⟨fun _ => (by repeat' (first | exact ixOk_nil M.kept | refine ixOk_cons rfl (by first | exact M.ok 0 _ rfl | exact M.ok 1 _ rfl | exact M.ok 2 _ rfl | exact M.ok 3 _ rfl | exact M.ok 4 _ rfl | exact M.ok 5 _ rfl) ?_)), ?_⟩ | refine Seg.intro ⟨(by repeat' (first | (with_reducible exact needs_nil) | refine needs_at rfl (by first | (show Shape.ok Shape.nums _ = true; exact nums_bs _) | rfl) ?_)), (by repeat' (first | (with_reducible exact ats_nil) | refine ats_cons (by first | exact ev_tmp rfl | rfl) ?_)), ?_⟩)) | ((with_reducible show OnlyN _ _ _ _ _); refine OnlyN.intro (by kernel_rfl) ?_) | ((with_reducible show wpList _ _ _ (Oper.mk _ _ _ _ _ (some _) :: _) _ _); first | refine w_strip rfl (by with_reducible rfl) ?_ | ((fail_if_success (refine w_lit false rfl (by with_reducible rfl) ?_)); (fail_if_success (refine w_lit true rfl (by with_reducible rfl) ?_)); refine w_case rfl ?_ ?_ <;> (intro hgd; rw [hgd]; try (exfalso; simp at hgd; omega)))) | ((with_reducible show wpList _ _ _ (Oper.mk _ (Op.convert 45 9 _) _ _ _ _ :: _) _ _); go_must (first | (refine w_stringW M 0 _ _ _ _ rfl rfl rfl rfl (by first | assumption | exact shaL_len _ | exact macL_len _ _ | exact words_len _ | exact List.length_replicate | (rw [List.length_set]; first | assumption | exact List.length_replicate) | rfl) (by decide) Try.underlying45 Try.underlying5 Try.underlying9 ?_; (try conv => arg 5; simp only [Act.put, List.setIfInBounds_toArray, List.set_cons_succ, List.set_cons_zero])) | (refine w_stringW M 1 _ _ _ _ rfl rfl rfl rfl (by first | assumption | exact shaL_len _ | exact macL_len _ _ | exact words_len _ | exact List.length_replicate | (rw [List.length_set]; first | assumption | exact List.length_replicate) | rfl) (by decide) Try.underlying45 Try.underlying5 Try.underlying9 ?_; (try conv => arg 5; simp only [Act.put, List.setIfInBounds_toArray, List.set_cons_succ, List.set_cons_zero])) | (refine w_stringW M 2 _ _ _ _ rfl rfl rfl rfl (by first | assumption | exact shaL_len _ | exact macL_len _ _ | exact words_len _ | exact List.length_replicate | (rw [List.length_set]; first | assumption | exact List.length_replicate) | rfl) (by decide) Try.underlying45 Try.underlying5 Try.underlying9 ?_; (try conv => arg 5; simp only [Act.put, List.setIfInBounds_toArray, List.set_cons_succ, List.set_cons_zero])) | (refine w_stringW M 3 _ _ _ _ rfl rfl rfl rfl (by first | assumption | exact shaL_len _ | exact macL_len _ _ | exact words_len _ | exact List.length_replicate | (rw [List.length_set]; first | assumption | exact List.length_replicate) | rfl) (by decide) Try.underlying45 Try.underlying5 Try.underlying9 ?_; (try conv => arg 5; simp only [Act.put, List.setIfInBounds_toArray, List.set_cons_succ, List.set_cons_zero])) | (refine w_string M 0 _ _ _ _ rfl rfl rfl (by first | rfl | (simp; done) | assumption) rfl Try.underlying45 Try.underlying5 Try.underlying9 ?_; (try conv => arg 5; simp only [Act.put, List.setIfInBounds_toArray, List.set_cons_succ, List.set_cons_zero])) | (refine w_string M 1 _ _ _ _ rfl rfl rfl (by first | rfl | (simp; done) | assumption) rfl Try.underlying45 Try.underlying5 Try.underlying9 ?_; (try conv => arg 5; simp only [Act.put, List.setIfInBounds_toArray, List.set_cons_succ, List.set_cons_zero])) | (refine w_string M 2 _ _ _ _ rfl rfl rfl (by first | rfl | (simp; done) | assumption) rfl Try.underlying45 Try.underlying5 Try.underlying9 ?_; (try conv => arg 5; simp only [Act.put, List.setIfInBounds_toArray, List.set_cons_succ, List.set_cons_zero])) | (refine w_string M 3 _ _ _ _ rfl rfl rfl (by first | rfl | (simp; done) | assumption) rfl Try.underlying45 Try.underlying5 Try.underlying9 ?_; (try conv => arg 5; simp only [Act.put, List.setIfInBounds_toArray, List.set_cons_succ, List.set_cons_zero])))) | ((with_reducible show wpList _ _ _ (Oper.mk _ (Op.load _ _) _ _ _ _ :: _) _ _); go_must (refine w_at _ _ rfl (by first | exact ev_tmp rfl | exact ev_const) ?_; intro hx; first | (refine w_load M 0 _ _ rfl rfl hx rfl (by decide +kernel) rfl ?_; clear hx; (try conv => arg 5; simp only [Act.put, List.setIfInBounds_toArray, List.set_cons_succ, List.set_cons_zero])) | (refine w_load M 1 _ _ rfl rfl hx rfl (by decide +kernel) rfl ?_; clear hx; (try conv => arg 5; simp only [Act.put, List.setIfInBounds_toArray, List.set_cons_succ, List.set_cons_zero])) | (refine w_load M 2 _ _ rfl rfl hx rfl (by decide +kernel) rfl ?_; clear hx; (try conv => arg 5; simp only [Act.put, List.setIfInBounds_toArray, List.set_cons_succ, List.set_cons_zero])) | (refine w_load M 3 _ _ rfl rfl hx rfl (by decide +kernel) rfl ?_; clear hx; (try conv => arg 5; simp only [Act.put, List.setIfInBounds_toArray, List.set_cons_succ, List.set_cons_zero])) | (refine w_loadB M 0 _ _ rfl rfl hx rfl (by decide +kernel) (by first | assumption | omega | (simp; omega)) ?_; clear hx; (try conv => arg 5; simp only [Act.put, List.setIfInBounds_toArray, List.set_cons_succ, List.set_cons_zero])) | (refine w_loadB M 1 _ _ rfl rfl hx rfl (by decide +kernel) (by first | assumption | omega | (simp; omega)) ?_; clear hx; (try conv => arg 5; simp only [Act.put, List.setIfInBounds_toArray, List.set_cons_succ, List.set_cons_zero])) | (refine w_loadB M 2 _ _ rfl rfl hx rfl (by decide +kernel) (by first | assumption | omega | (simp; omega)) ?_; clear hx; (try conv => arg 5; simp only [Act.put, List.setIfInBounds_toArray, List.set_cons_succ, List.set_cons_zero])) | (refine w_loadB M 3 _ _ rfl rfl hx rfl (by decide +kernel) (by first | assumption | omega | (simp; omega)) ?_; clear hx; (try conv => arg 5; simp only [Act.put, List.setIfInBounds_toArray, List.set_cons_succ, List.set_cons_zero])) | (refine w_loadH M 0 _ _ rfl rfl hx rfl (by decide +kernel) (by first | assumption | exact shaL_len _ | exact macL_len _ _ | exact words_len _ | exact List.length_replicate | (rw [List.length_set]; first | assumption | exact List.length_replicate) | rfl) (by decide +kernel) ?_; clear hx; (try conv => arg 5; simp only [Act.put, List.setIfInBounds_toArray, List.set_cons_succ, List.set_cons_zero])) | (refine w_loadH M 1 _ _ rfl rfl hx rfl (by decide +kernel) (by first | assumption | exact shaL_len _ | exact macL_len _ _ | exact words_len _ | exact List.length_replicate | (rw [List.length_set]; first | assumption | exact List.length_replicate) | rfl) (by decide +kernel) ?_; clear hx; (try conv => arg 5; simp only [Act.put, List.setIfInBounds_toArray, List.set_cons_succ, List.set_cons_zero])) | (refine w_loadH M 2 _ _ rfl rfl hx rfl (by decide +kernel) (by first | assumption | exact shaL_len _ | exact macL_len _ _ | exact words_len _ | exact List.length_replicate | (rw [List.length_set]; first | assumption | exact List.length_replicate) | rfl) (by decide +kernel) ?_; clear hx; (try conv => arg 5; simp only [Act.put, List.setIfInBounds_toArray, List.set_cons_succ, List.set_cons_zero])) | (refine w_loadH M 3 _ _ rfl rfl hx rfl (by decide +kernel) (by first | assumption | exact shaL_len _ | exact macL_len _ _ | exact words_len _ | exact List.length_replicate | (rw [List.length_set]; first | assumption | exact List.length_replicate) | rfl) (by decide +kernel) ?_; clear hx; (try conv => arg 5; simp only [Act.put, List.setIfInBounds_toArray, List.set_cons_succ, List.set_cons_zero])) | (refine w_loadR M 0 _ _ rfl rfl hx rfl (by decide +kernel) (by kernel_rfl) ?_; clear hx; (try conv => arg 5; simp only [Act.put, List.setIfInBounds_toArray, List.set_cons_succ, List.set_cons_zero])) | (refine w_loadR M 1 _ _ rfl rfl hx rfl (by decide +kernel) (by kernel_rfl) ?_; clear hx; (try conv => arg 5; simp only [Act.put, List.setIfInBounds_toArray, List.set_cons_succ, List.set_cons_zero])) | (refine w_loadR M 2 _ _ rfl rfl hx rfl (by decide +kernel) (by kernel_rfl) ?_; clear hx; (try conv => arg 5; simp only [Act.put, List.setIfInBounds_toArray, List.set_cons_succ, List.set_cons_zero])) | (refine w_loadR M 3 _ _ rfl rfl hx rfl (by decide +kernel) (by kernel_rfl) ?_; clear hx; (try conv => arg 5; simp only [Act.put, List.setIfInBounds_toArray, List.set_cons_succ, List.set_cons_zero])))) | ((with_reducible show wpList _ _ _ (Oper.mk _ (Op.store _ _ _) _ _ _ _ :: _) _ _); go_must (refine w_at2 _ _ _ rfl (by first | exact ev_tmp rfl | exact ev_const) (by first | exact ev_tmp rfl | exact ev_const) ?_; intro hx hy; first | (refine w_storeB M 0 _ _ _ rfl rfl hx rfl hy (by decide +kernel) (by first | assumption | omega | (simp; omega)) ?_; clear hx hy M; intro w1 M; (try simp only [List.set_cons_zero] at M); (try conv => arg 5; simp only [Act.put, List.setIfInBounds_toArray, List.set_cons_succ, List.set_cons_zero])) | (refine w_storeB M 1 _ _ _ rfl rfl hx rfl hy (by decide +kernel) (by first | assumption | omega | (simp; omega)) ?_; clear hx hy M; intro w1 M; (try simp only [List.set_cons_succ, List.set_cons_zero] at M); (try conv => arg 5; simp only [Act.put, List.setIfInBounds_toArray, List.set_cons_succ, List.set_cons_zero])) | (refine w_storeB M 2 _ _ _ rfl rfl hx rfl hy (by decide +kernel) (by first | assumption | omega | (simp; omega)) ?_; clear hx hy M; intro w1 M; (try simp only [List.set_cons_succ, List.set_cons_zero] at M); (try conv => arg 5; simp only [Act.put, List.setIfInBounds_toArray, List.set_cons_succ, List.set_cons_zero])) | (refine w_storeB M 3 _ _ _ rfl rfl hx rfl hy (by decide +kernel) (by first | assumption | omega | (simp; omega)) ?_; clear hx hy M; intro w1 M; (try simp only [List.set_cons_succ, List.set_cons_zero] at M); (try conv => arg 5; simp only [Act.put, List.setIfInBounds_toArray, List.set_cons_succ, List.set_cons_zero])) | (refine w_storeH M 0 _ _ _ rfl rfl hx rfl hy (by first | assumption | exact shaL_len _ | exact macL_len _ _ | exact words_len _ | exact List.length_replicate | (rw [List.length_set]; first | assumption | exact List.length_replicate) | rfl) (by decide +kernel) (by first | assumption | exact shaL_len _ | exact macL_len _ _ | exact words_len _ | exact List.length_replicate | (rw [List.length_set]; first | assumption | exact List.length_replicate) | rfl) ?_; clear hx hy M; intro w1 M; (try simp only [List.set_cons_zero] at M); (try conv => arg 5; simp only [Act.put, List.setIfInBounds_toArray, List.set_cons_succ, List.set_cons_zero])) | (refine w_storeH M 1 _ _ _ rfl rfl hx rfl hy (by first | assumption | exact shaL_len _ | exact macL_len _ _ | exact words_len _ | exact List.length_replicate | (rw [List.length_set]; first | assumption | exact List.length_replicate) | rfl) (by decide +kernel) (by first | assumption | exact shaL_len _ | exact macL_len _ _ | exact words_len _ | exact List.length_replicate | (rw [List.length_set]; first | assumption | exact List.length_replicate) | rfl) ?_; clear hx hy M; intro w1 M; (try simp only [List.set_cons_succ, List.set_cons_zero] at M); (try conv => arg 5; simp only [Act.put, List.setIfInBounds_toArray, List.set_cons_succ, List.set_cons_zero])) | (refine w_storeH M 2 _ _ _ rfl rfl hx rfl hy (by first | assumption | exact shaL_len _ | exact macL_len _ _ | exact words_len _ | exact List.length_replicate | (rw [List.length_set]; first | assumption | exact List.length_replicate) | rfl) (by decide +kernel) (by first | assumption | exact shaL_len _ | exact macL_len _ _ | exact words_len _ | exact List.length_replicate | (rw [List.length_set]; first | assumption | exact List.length_replicate) | rfl) ?_; clear hx hy M; intro w1 M; (try simp only [List.set_cons_succ, List.set_cons_zero] at M); (try conv => arg 5; simp only [Act.put, List.setIfInBounds_toArray, List.set_cons_succ, List.set_cons_zero])) | (refine w_storeH M 3 _ _ _ rfl rfl hx rfl hy (by first | assumption | exact shaL_len _ | exact macL_len _ _ | exact words_len _ | exact List.length_replicate | (rw [List.length_set]; first | assumption | exact List.length_replicate) | rfl) (by decide +kernel) (by first | assumption | exact shaL_len _ | exact macL_len _ _ | exact words_len _ | exact List.length_replicate | (rw [List.length_set]; first | assumption | exact List.length_replicate) | rfl) ?_; clear hx hy M; intro w1 M; (try simp only [List.set_cons_succ, List.set_cons_zero] at M); (try conv => arg 5; simp only [Act.put, List.setIfInBounds_toArray, List.set_cons_succ, List.set_cons_zero])) | (refine w_store M 0 _ _ _ rfl rfl hx rfl hy rfl rfl (by decide +kernel) (by first | decide | simp | (simp; omega)) ?_; clear hx hy M; intro w1 M; (try simp only [List.set_cons_zero] at M); (try conv => arg 5; simp only [Act.put, List.setIfInBounds_toArray, List.set_cons_succ, List.set_cons_zero])) | (refine w_store M 1 _ _ _ rfl rfl hx rfl hy rfl rfl (by decide +kernel) (by first | decide | simp | (simp; omega)) ?_; clear hx hy M; intro w1 M; (try simp only [List.set_cons_succ, List.set_cons_zero] at M); (try conv => arg 5; simp only [Act.put, List.setIfInBounds_toArray, List.set_cons_succ, List.set_cons_zero])) | (refine w_store M 2 _ _ _ rfl rfl hx rfl hy rfl rfl (by decide +kernel) (by first | decide | simp | (simp; omega)) ?_; clear hx hy M; intro w1 M; (try simp only [List.set_cons_succ, List.set_cons_zero] at M); (try conv => arg 5; simp only [Act.put, List.setIfInBounds_toArray, List.set_cons_succ, List.set_cons_zero])) | (refine w_store M 3 _ _ _ rfl rfl hx rfl hy rfl rfl (by decide +kernel) (by first | decide | simp | (simp; omega)) ?_; clear hx hy M; intro w1 M; (try simp only [List.set_cons_succ, List.set_cons_zero] at M); (try conv => arg 5; simp only [Act.put, List.setIfInBounds_toArray, List.set_cons_succ, List.set_cons_zero])) | (refine w_storeR M 0 _ _ _ rfl rfl hx rfl _ hy rfl (by kernel_rfl) (by simp [Value.oneCell']) (by first | rfl | assumption) ?_; clear hx hy M; intro w1 M; (try simp only [List.set_cons_zero] at M); (try conv => arg 5; simp only [Act.put, List.setIfInBounds_toArray, List.set_cons_succ, List.set_cons_zero])) | (refine w_storeR M 1 _ _ _ rfl rfl hx rfl _ hy rfl (by kernel_rfl) (by simp [Value.oneCell']) (by first | rfl | assumption) ?_; clear hx hy M; intro w1 M; (try simp only [List.set_cons_succ, List.set_cons_zero] at M); (try conv => arg 5; simp only [Act.put, List.setIfInBounds_toArray, List.set_cons_succ, List.set_cons_zero])) | (refine w_storeR M 2 _ _ _ rfl rfl hx rfl _ hy rfl (by kernel_rfl) (by simp [Value.oneCell']) (by first | rfl | assumption) ?_; clear hx hy M; intro w1 M; (try simp only [List.set_cons_succ, List.set_cons_zero] at M); (try conv => arg 5; simp only [Act.put, List.setIfInBounds_toArray, List.set_cons_succ, List.set_cons_zero])) | (refine w_storeR M 3 _ _ _ rfl rfl hx rfl _ hy rfl (by kernel_rfl) (by simp [Value.oneCell']) (by first | rfl | assumption) ?_; clear hx hy M; intro w1 M; (try simp only [List.set_cons_succ, List.set_cons_zero] at M); (try conv => arg 5; simp only [Act.put, List.setIfInBounds_toArray, List.set_cons_succ, List.set_cons_zero])))) | ((with_reducible show wpList _ _ _ (Oper.mk _ (Op.box _ _) _ _ _ _ :: _) _ _); (refine w_box M _ _ rfl rfl _ rfl _ rfl ?_; clear M; intro g w1 M; (try conv => arg 5; simp only [Act.put, List.setIfInBounds_toArray, List.set_cons_succ, List.set_cons_zero]))))
      have hD : mixB b k d = d.set k (tw (b[k / 4 * 4 + k % 4]?.getD 0) ^^^ tw (b[k / 4 * 4 + (k + 1) % 4]?.getD 0) ^^^ b[k / 4 * 4 + (k + 1) % 4]?.getD 0 ^^^ b[k / 4 * 4 + (k + 2) % 4]?.getD 0 ^^^ b[k / 4 * 4 + (k + 3) % 4]?.getD 0) := by
        unfold mixB mixN nth; simp only [List.getD_eq_getElem?_getD, Nat.add_zero]
      rw [← hD] at M
      replace M := M.tail.tail
      go_roundw
      case rel => exact ⟨k + 1, by omega, by go_num, by rw [iterN_succ, ← ED.out]; exact M⟩
      case measure => simp [intOf]; omega
    · obtain rfl : k = 16 := by omega
      go_wp2_with (first | ((with_reducible show wpList _ _ _ (Oper.mk _ _ _ _ _ (some _) :: _) _ _); first | refine w_strip rfl (by with_reducible rfl) ?_ | ((fail_if_success (refine w_lit false rfl (by with_reducible rfl) ?_)); (fail_if_success (refine w_lit true rfl (by with_reducible rfl) ?_)); refine w_case rfl ?_ ?_ <;> (intro hgd; rw [hgd]; try (exfalso; simp at hgd; omega)))) | ((with_reducible show wpList _ _ _ (Oper.mk _ (Op.convert 45 9 _) _ _ _ _ :: _) _ _); go_must (first | (refine w_stringW M 0 _ _ _ _ rfl rfl rfl rfl (by first | assumption | exact shaL_len _ | exact macL_len _ _ | exact words_len _ | exact List.length_replicate | (rw [List.length_set]; first | assumption | exact List.length_replicate) | rfl) (by decide) Try.underlying45 Try.underlying5 Try.underlying9 ?_; (try conv => arg 5; simp only [Act.put, List.setIfInBounds_toArray, List.set_cons_succ, List.set_cons_zero])) | (refine w_stringW M 1 _ _ _ _ rfl rfl rfl rfl (by first | assumption | exact shaL_len _ | exact macL_len _ _ | exact words_len _ | exact List.length_replicate | (rw [List.length_set]; first | assumption | exact List.length_replicate) | rfl) (by decide) Try.underlying45 Try.underlying5 Try.underlying9 ?_; (try conv => arg 5; simp only [Act.put, List.setIfInBounds_toArray, List.set_cons_succ, List.set_cons_zero])) | (refine w_string M 0 _ _ _ _ rfl rfl rfl (by first | rfl | (simp; done) | assumption) rfl Try.underlying45 Try.underlying5 Try.underlying9 ?_; (try conv => arg 5; simp only [Act.put, List.setIfInBounds_toArray, List.set_cons_succ, List.set_cons_zero])) | (refine w_string M 1 _ _ _ _ rfl rfl rfl (by first | rfl | (simp; done) | assumption) rfl Try.underlying45 Try.underlying5 Try.underlying9 ?_; (try conv => arg 5; simp only [Act.put, List.setIfInBounds_toArray, List.set_cons_succ, List.set_cons_zero])))) | ((with_reducible show wpList _ _ _ (Oper.mk _ (Op.load _ _) _ _ _ _ :: _) _ _); go_must (refine w_at _ _ rfl (by first | exact ev_tmp rfl | exact ev_const) ?_; intro hx; first | (refine w_load M 0 _ _ rfl rfl hx rfl (by decide +kernel) rfl ?_; clear hx; (try conv => arg 5; simp only [Act.put, List.setIfInBounds_toArray, List.set_cons_succ, List.set_cons_zero])) | (refine w_load M 1 _ _ rfl rfl hx rfl (by decide +kernel) rfl ?_; clear hx; (try conv => arg 5; simp only [Act.put, List.setIfInBounds_toArray, List.set_cons_succ, List.set_cons_zero])) | (refine w_loadB M 0 _ _ rfl rfl hx rfl (by decide +kernel) (by first | assumption | omega | (simp; omega)) ?_; clear hx; (try conv => arg 5; simp only [Act.put, List.setIfInBounds_toArray, List.set_cons_succ, List.set_cons_zero])) | (refine w_loadB M 1 _ _ rfl rfl hx rfl (by decide +kernel) (by first | assumption | omega | (simp; omega)) ?_; clear hx; (try conv => arg 5; simp only [Act.put, List.setIfInBounds_toArray, List.set_cons_succ, List.set_cons_zero])) | (refine w_loadH M 0 _ _ rfl rfl hx rfl (by decide +kernel) (by first | assumption | exact shaL_len _ | exact macL_len _ _ | exact words_len _ | exact List.length_replicate | (rw [List.length_set]; first | assumption | exact List.length_replicate) | rfl) (by decide +kernel) ?_; clear hx; (try conv => arg 5; simp only [Act.put, List.setIfInBounds_toArray, List.set_cons_succ, List.set_cons_zero])) | (refine w_loadH M 1 _ _ rfl rfl hx rfl (by decide +kernel) (by first | assumption | exact shaL_len _ | exact macL_len _ _ | exact words_len _ | exact List.length_replicate | (rw [List.length_set]; first | assumption | exact List.length_replicate) | rfl) (by decide +kernel) ?_; clear hx; (try conv => arg 5; simp only [Act.put, List.setIfInBounds_toArray, List.set_cons_succ, List.set_cons_zero])) | (refine w_loadR M 0 _ _ rfl rfl hx rfl (by decide +kernel) (by kernel_rfl) ?_; clear hx; (try conv => arg 5; simp only [Act.put, List.setIfInBounds_toArray, List.set_cons_succ, List.set_cons_zero])) | (refine w_loadR M 1 _ _ rfl rfl hx rfl (by decide +kernel) (by kernel_rfl) ?_; clear hx; (try conv => arg 5; simp only [Act.put, List.setIfInBounds_toArray, List.set_cons_succ, List.set_cons_zero])))) | ((with_reducible show wpList _ _ _ (Oper.mk _ (Op.store _ _ _) _ _ _ _ :: _) _ _); go_must (refine w_at2 _ _ _ rfl (by first | exact ev_tmp rfl | exact ev_const) (by first | exact ev_tmp rfl | exact ev_const) ?_; intro hx hy; first | (refine w_storeB M 0 _ _ _ rfl rfl hx rfl hy (by decide +kernel) (by first | assumption | omega | (simp; omega)) ?_; clear hx hy M; intro w1 M; (try simp only [List.set_cons_zero] at M); (try conv => arg 5; simp only [Act.put, List.setIfInBounds_toArray, List.set_cons_succ, List.set_cons_zero])) | (refine w_storeB M 1 _ _ _ rfl rfl hx rfl hy (by decide +kernel) (by first | assumption | omega | (simp; omega)) ?_; clear hx hy M; intro w1 M; (try simp only [List.set_cons_succ, List.set_cons_zero] at M); (try conv => arg 5; simp only [Act.put, List.setIfInBounds_toArray, List.set_cons_succ, List.set_cons_zero])) | (refine w_storeH M 0 _ _ _ rfl rfl hx rfl hy (by first | assumption | exact shaL_len _ | exact macL_len _ _ | exact words_len _ | exact List.length_replicate | (rw [List.length_set]; first | assumption | exact List.length_replicate) | rfl) (by decide +kernel) (by first | assumption | exact shaL_len _ | exact macL_len _ _ | exact words_len _ | exact List.length_replicate | (rw [List.length_set]; first | assumption | exact List.length_replicate) | rfl) ?_; clear hx hy M; intro w1 M; (try simp only [List.set_cons_zero] at M); (try conv => arg 5; simp only [Act.put, List.setIfInBounds_toArray, List.set_cons_succ, List.set_cons_zero])) | (refine w_storeH M 1 _ _ _ rfl rfl hx rfl hy (by first | assumption | exact shaL_len _ | exact macL_len _ _ | exact words_len _ | exact List.length_replicate | (rw [List.length_set]; first | assumption | exact List.length_replicate) | rfl) (by decide +kernel) (by first | assumption | exact shaL_len _ | exact macL_len _ _ | exact words_len _ | exact List.length_replicate | (rw [List.length_set]; first | assumption | exact List.length_replicate) | rfl) ?_; clear hx hy M; intro w1 M; (try simp only [List.set_cons_succ, List.set_cons_zero] at M); (try conv => arg 5; simp only [Act.put, List.setIfInBounds_toArray, List.set_cons_succ, List.set_cons_zero])) | (refine w_store M 0 _ _ _ rfl rfl hx rfl hy rfl rfl (by decide +kernel) (by first | decide | simp | (simp; omega)) ?_; clear hx hy M; intro w1 M; (try simp only [List.set_cons_zero] at M); (try conv => arg 5; simp only [Act.put, List.setIfInBounds_toArray, List.set_cons_succ, List.set_cons_zero])) | (refine w_store M 1 _ _ _ rfl rfl hx rfl hy rfl rfl (by decide +kernel) (by first | decide | simp | (simp; omega)) ?_; clear hx hy M; intro w1 M; (try simp only [List.set_cons_succ, List.set_cons_zero] at M); (try conv => arg 5; simp only [Act.put, List.setIfInBounds_toArray, List.set_cons_succ, List.set_cons_zero])) | (refine w_storeR M 0 _ _ _ rfl rfl hx rfl _ hy rfl (by kernel_rfl) (by simp [Value.oneCell']) (by first | rfl | assumption) ?_; clear hx hy M; intro w1 M; (try simp only [List.set_cons_zero] at M); (try conv => arg 5; simp only [Act.put, List.setIfInBounds_toArray, List.set_cons_succ, List.set_cons_zero])) | (refine w_storeR M 1 _ _ _ rfl rfl hx rfl _ hy rfl (by kernel_rfl) (by simp [Value.oneCell']) (by first | rfl | assumption) ?_; clear hx hy M; intro w1 M; (try simp only [List.set_cons_succ, List.set_cons_zero] at M); (try conv => arg 5; simp only [Act.put, List.setIfInBounds_toArray, List.set_cons_succ, List.set_cons_zero])))) | ((with_reducible show wpList _ _ _ (Oper.mk _ (Op.box _ _) _ _ _ _ :: _) _ _); (refine w_box M _ _ rfl rfl _ rfl _ rfl ?_; clear M; intro g w1 M; (try conv => arg 5; simp only [Act.put, List.setIfInBounds_toArray, List.set_cons_succ, List.set_cons_zero]))))
      have e : mixL b = d := ED.out.symm
      exact bodyPost_ret (results_row rfl _ _ go 0 (bs d) _ rfl (M.ok 0 _ rfl).2.1 Try.underlying74 rfl (by rw [bs_length, hd]; kernel_rfl)) rfl ⟨by rw [e], M.below⟩
end Go.Proofs.Ytjlkiopncclomaa
