/- A region that draws its order, walked in one order, beside the walk's memory. No conditions but those each law names. -/
import Derived.Test.YtolmejipggdodaaHeap
import Derived.Test.YtolmejipggdodaaLow
namespace Go
namespace TL
open Go.RowKit
/-! ### The walk of such a region: behind its last operation, c, nothing is asked, if it waits for all that was read -/
section
variable {P : Program} {ops : Array Oper} {Q : Exit → Act → World → Prop} {md : Region.Mode} {I : World → Prop} {c : Nat}
def wpAnyC (P : Program) (md : Region.Mode) (ops : Array Oper) (Q : Exit → Act → World → Prop) (I : World → Prop) (c : Nat) : Nat → Array Bool → Act → World → Prop
  | 0, listed, a, w => Region.ready md ops listed = [] ∧ Q .normal a w
  | fuel + 1, listed, a, w =>
    (Region.ready md ops listed = [] → Q .normal a w) ∧
    ∀ j ∈ Region.ready md ops listed, wpOp P ops Q j (fun a' w' => (j ≠ c → I w') ∧ wpAnyC P md ops Q I c fuel (listed.setIfInBounds j true) a' w') a w
theorem wpAny_of_C : ∀ (fuel : Nat) (listed : Array Bool) (a : Act) (w : World), wpAnyC P md ops Q I c fuel listed a w → wpAny P md ops Q fuel listed a w
  | 0, _, _, _, h => h
  | fuel + 1, _, _, _, h => ⟨h.1, fun j hj => wpOp_mono (fun a' w' h' => wpAny_of_C fuel _ a' w' h'.2) (h.2 j hj)⟩
/-- What yields the same in every world that meets I may be taken first. -/
theorem C_first {i : Nat} {oi : Oper} {v : Value} (hi : ops[i]? = some oi) (hsel : ∀ (j : Nat) (o : Oper) cs b, ops[j]? = some o → o.op ≠ .select cs b)
    (hQ : ∀ c a w, Q (.panic c) (a.put oi.dst v) w → Q (.panic c) a w) (hwait : ∀ oc, ops[c]? = some oc → ∃ e ∈ oc.after, Region.binds md e = true ∧ e.on = i) :
    ∀ (fuel : Nat) (listed : Array Bool) (a : Act) (w : World),
      (∀ j oj, ops[j]? = some oj → j ≠ i → listed.getD j true = false → (∀ e ∈ oj.after, Region.binds md e = true → e.on ≠ i) → oi.apart ops oj = true) →
      i ∈ Region.ready md ops listed → YieldsIf P ops I oi v a → I w →
      wpAnyC P md ops Q I c fuel (listed.setIfInBounds i true) (a.put oi.dst v) w → wpAnyC P md ops Q I c (fuel + 1) listed a w := by
  intro fuel
  induction fuel with
  | zero =>
    intro listed a w _ hr hy hw H
    refine ⟨fun h => (by rw [h] at hr; cases hr), fun j hj => ?_⟩
    by_cases hji : j = i
    · subst hji; exact hy.wpOp hi hw ⟨fun _ => hw, H⟩
    · have := ready_mono hj hji
      rw [H.1] at this
      cases this
  | succ fuel ih =>
    intro listed a w hfree hr hy hw H
    refine ⟨fun h => (by rw [h] at hr; cases hr), fun j hj => ?_⟩
    by_cases hji : j = i
    · subst hji; exact hy.wpOp hi hw ⟨fun _ => hw, H⟩
    · have h1 := H.2 j (ready_mono hj hji)
      obtain ⟨hjun, oj, hoj, hall⟩ := mem_ready.1 hj
      have hnot := not_waits hr hoj hall
      have hjc : j ≠ c := fun e => by
        subst e
        obtain ⟨x, hx, hb, hxi⟩ := hwait oj hoj
        exact hnot x hx hb hxi
      have h2 := wpOp_putIf hoj (hfree j oj hoj hji hjun hnot) (fun cs b => hsel i oi cs b hi) (fun cs b => hsel j oj cs b hoj) hQ hy h1
      have hfree' : ∀ k ok, ops[k]? = some ok → k ≠ i → (listed.setIfInBounds j true).getD k true = false →
          (∀ e ∈ ok.after, Region.binds md e = true → e.on ≠ i) → oi.apart ops ok = true := fun k ok hk hki hun hno => by
        refine hfree k ok hk hki ?_ hno
        by_cases hjk : j = k
        · subst hjk; exact hjun
        · rw [getD_set_ne true hjk] at hun; exact hun
      refine wpOp_mono (fun a' w' h3 => ⟨fun _ => h3.2.1 hjc, ih (listed.setIfInBounds j true) a' w' hfree' (ready_mono hr (Ne.symm hji)) h3.1 (h3.2.1 hjc) ?_⟩) h2
      rw [Array.setIfInBounds_comm _ _ hji]; exact h3.2.2
end
/-! ### The walk -/
/-- The operations up to the first that writes, and what is to hold there. -/
def planC (P : Program) (ops : Array Oper) (fin : Act → World → Prop) (I : World → Prop) (c : Nat) : Plan → List Oper × (Act → World → Prop)
  | [] => ([], fin)
  | (i, false) :: r => (opAt ops i :: (planC P ops fin I c r).1, (planC P ops fin I c r).2)
  | (i, true) :: r => ([opAt ops i], fun a w => (i ≠ c → I w) ∧ wpList P ops (Seg (planC P ops fin I c r).2) (planC P ops fin I c r).1 a w)
def waitsC (ops : Array Oper) (c i : Nat) : Bool := match ops[c]? with | none => true | some oc => oc.after.any fun e => Region.binds .any e && e.on == i
theorem waitsC_spec {ops : Array Oper} {c i : Nat} (h : waitsC ops c i = true) : ∀ oc, ops[c]? = some oc → ∃ e ∈ oc.after, Region.binds .any e = true ∧ e.on = i := fun oc hoc => by
  unfold waitsC at h; rw [hoc] at h
  simp only [Array.any_eq_true'] at h
  obtain ⟨e, he, h⟩ := h
  simp only [Bool.and_eq_true, beq_iff_eq] at h
  exact ⟨e, he, h.1, h.2⟩
def detC (P : Program) (ops : Array Oper) (need : Needs) (idx : List Nat) (c : Nat) : Array Bool → Plan → Bool
  | listed, [] => (Region.ready .any ops listed).isEmpty
  | listed, (i, false) :: r =>
    (Region.ready .any ops listed).contains i && Region.free .any ops listed i &&
      ((stays ops need (opAt ops i) ((i, false) :: r) && pureOp P (needOf need (opAt ops i)) (opAt ops i)) || (idx.contains i && staysLow ops (opAt ops i) ((i, false) :: r))) &&
      (waitsC ops c i && detC P ops need idx c (listed.setIfInBounds i true) r)
  | listed, (i, true) :: r => Region.ready .any ops listed == [i] && ((i != c || r.isEmpty) && detC P ops need idx c (listed.setIfInBounds i true) r)
section
variable {P : Program} {ops : Array Oper} {I : World → Prop} {fin : Act → World → Prop} {c : Nat}
theorem endsC : ∀ (plan : Plan) (a : Act) (w : World), wpList P ops (Seg (planC P ops fin I c plan).2) (planC P ops fin I c plan).1 a w →
    ∃ af wf, fin af wf ∧ ∀ t, (∀ x ∈ plan, (opAt ops x.1).dst ≠ some t) → af.tmps.getD t undef = a.tmps.getD t undef
  | [], a, w, h => ⟨a, w, h, fun _ _ => rfl⟩
  | (i, false) :: r, a, w, h => by
    obtain ⟨a', w', h1, h2⟩ := stepS h
    obtain ⟨af, wf, h3, h4⟩ := endsC r a' w' h1
    exact ⟨af, wf, h3, fun t ht => (h4 t fun x hx => ht x (List.mem_cons_of_mem _ hx)).trans (h2 t (ht (i, false) List.mem_cons_self))⟩
  | (i, true) :: r, a, w, h => by
    obtain ⟨a', w', h1, h2⟩ := stepS h
    obtain ⟨af, wf, h3, h4⟩ := endsC r a' w' h1.2
    exact ⟨af, wf, h3, fun t ht => (h4 t fun x hx => ht x (List.mem_cons_of_mem _ hx)).trans (h2 t (ht (i, true) List.mem_cons_self))⟩
theorem mainC {need : Needs} {low : List (Nat × Value)} {Q : Exit → Act → World → Prop} (hs : Region.noSelect ops = true) (hlow : ∀ x ∈ low, Stab P I (opAt ops x.1) x.2) :
    ∀ (plan : Plan) (listed : Array Bool) (a : Act) (w : World), detC P ops need (low.map (·.1)) c listed plan = true → I w →
      wpList P ops (Seg (planC P ops (finI ops need low Q) I c plan).2) (planC P ops (finI ops need low Q) I c plan).1 a w →
      wpAnyC P .any ops (Seg (finI ops need low Q)) I c plan.length listed a w
  | [], listed, a, w, hd, _, h => by
    have : Region.ready .any ops listed = [] := by simpa [detC] using hd
    exact ⟨this, h⟩
  | (i, false) :: r, listed, a, w, hd, hIw, h => by
    simp only [detC, Bool.and_eq_true] at hd
    obtain ⟨⟨⟨hr, hf⟩, hk⟩, hwt, hrest⟩ := hd
    have hwait := waitsC_spec hwt
    have hr' : i ∈ Region.ready .any ops listed := by simpa using hr
    obtain ⟨_, oi, hoi, _⟩ := mem_ready.1 hr'
    have hat : opAt ops i = oi := by simp [opAt, hoi]
    have hends := endsC ((i, false) :: r) a w h
    have h' : wpList P ops (Seg (planC P ops (finI ops need low Q) I c r).2) (oi :: (planC P ops (finI ops need low Q) I c r).1) a w := by
      rw [← hat]; exact h
    have hQ : ∀ v c a w, Seg (finI ops need low Q) (.panic c) (a.put oi.dst v) w → Seg (finI ops need low Q) (.panic c) a w := fun _ _ _ _ h => h.elim
    have hsel := fun j o cs b ho => Region.noSelect_spec hs j o cs b ho
    -- what it comes to, in every world that meets I
    have key : ∀ (s : Sem Value), execOp a.eval oi = (do Pure.pure (Next.value (← s))) → (∀ v w1, s.run P w = .ok v w1 → w1 = w ∧ ∀ w', I w' → s.run P w' = .ok v w') →
        wpAnyC P .any ops (Seg (finI ops need low Q)) I c (r.length + 1) listed a w := fun s hex hl => by
      cases hw : Region.wanted oi (yielded ops a.tmps) with
      | true =>
        unfold wpList at h'
        rw [if_pos hw] at h'
        rcases h' with h' | h'
        · unfold Oper.wp at h'
          rw [hex, Sem.run_bind] at h'
          cases hrun : s.run P w with
          | ok v w1 =>
            obtain ⟨rfl, hall⟩ := hl _ _ hrun
            rw [hrun] at h'
            have hy : YieldsIf P ops I oi v a := .inl ⟨hw, fun w' hw' => by rw [hex, Sem.run_bind, hall w' hw']; rfl⟩
            exact C_first hoi hsel (hQ v) hwait r.length listed a w1 (Region.free_spec hoi hf) hr' hy hIw (mainC hs hlow r _ _ w1 hrest hIw h')
          | halt x w1 =>
            rw [hrun] at h'
            cases x <;> exact h'.elim
        · exact (Seg.letsOut h'.2).elim
      | false =>
        unfold wpList at h'
        rw [if_neg (by rw [hw]; decide)] at h'
        exact C_first hoi hsel (hQ undef) hwait r.length listed a w (Region.free_spec hoi hf) hr' (.inr ⟨hw, rfl⟩) hIw (mainC hs hlow r _ _ w hrest hIw h')
    obtain ⟨af, wf, ⟨hneed, hlowf, _⟩, hsame⟩ := hends
    rcases (Bool.or_eq_true _ _).mp hk with hp | hp
    · obtain ⟨hst, hp⟩ := (Bool.and_eq_true _ _).mp hp
      have hne : needOk (needOf need (opAt ops i)) a = true := by
        unfold needOk at hneed ⊢
        rw [List.all_eq_true] at hneed ⊢
        intro p hpm
        have hp0 := hpm
        simp only [needOf, List.mem_filter] at hpm
        have h3 := hneed p hpm.1
        rw [hsame p.1 (fun x hx hd => by
          have h5 := List.all_eq_true.1 hst x hx
          simp only [hd] at h5
          have h6 := List.all_eq_true.1 h5 p hp0
          simp at h6)] at h3
        exact h3
      rw [hat] at hp hne
      obtain ⟨s, hex, hloc⟩ := pureOp_local hp hne
      exact key s hex fun v w1 hrun => ⟨(hloc _ _ _ hrun).1, fun w' _ => (hloc _ _ _ hrun).2 w'⟩
    · obtain ⟨hix, hst⟩ := (Bool.and_eq_true _ _).mp hp
      simp only [List.contains_iff_mem, List.mem_map] at hix
      obtain ⟨⟨i', p⟩, hxm, hxi⟩ := hix
      have hxi' : i' = i := hxi
      subst hxi'
      have hev : a.eval (lowOpnd oi) = p := by
        have e := hlowf _ hxm
        simp only [hat] at e
        rw [← e]
        refine (eval_same fun t ht => ?_).symm
        refine hsame t fun x hx hd => ?_
        have h5 := List.all_eq_true.1 hst x hx
        simp only [hd, hat] at h5
        have h6 := lowOpnd_in oi ht
        simp [h6] at h5
      have hstab := hlow _ hxm
      simp only [hat] at hstab
      unfold Stab at hstab
      cases hop : oi.op <;> simp only [hop] at hstab
      case load t x =>
        have hev' : a.eval x = p := by simpa only [lowOpnd, hop] using hev
        obtain ⟨v, hv⟩ := hstab
        refine key (Instr.loadAt t p) (by simp only [execOp, hop, hev']) fun u w1 hrun => ?_
        rw [hv w hIw] at hrun
        cases hrun
        exact ⟨rfl, hv⟩
      case convert src d x =>
        have hev' : a.eval x = p := by simpa only [lowOpnd, hop] using hev
        obtain ⟨v, hv⟩ := hstab
        refine key (Go.convert src d p) (by simp only [execOp, hop, hev']) fun u w1 hrun => ?_
        rw [hv w hIw] at hrun
        cases hrun
        exact ⟨rfl, hv⟩
  | (i, true) :: r, listed, a, w, hd, hIw, h => by
    simp only [detC, Bool.and_eq_true] at hd
    have hr : Region.ready .any ops listed = [i] := by simpa using hd.1
    have hr' : i ∈ Region.ready .any ops listed := by rw [hr]; simp
    obtain ⟨_, oi, hoi, _⟩ := mem_ready.1 hr'
    have hat : opAt ops i = oi := by simp [opAt, hoi]
    refine ⟨fun h0 => (by rw [hr] at h0; cases h0), fun j hj => ?_⟩
    rw [hr] at hj
    obtain rfl : j = i := by simpa using hj
    have h1 : wpList P ops (Seg (planC P ops (finI ops need low Q) I c ((j, true) :: r)).2) [oi] a w := by rw [← hat]; exact h
    have cont : ∀ a' w', (j ≠ c → I w') ∧ wpList P ops (Seg (planC P ops (finI ops need low Q) I c r).2) (planC P ops (finI ops need low Q) I c r).1 a' w' →
        (j ≠ c → I w') ∧ wpAnyC P .any ops (Seg (finI ops need low Q)) I c r.length (listed.setIfInBounds j true) a' w' := fun a' w' ⟨h2, h3⟩ => by
      refine ⟨h2, ?_⟩
      by_cases e : j = c
      · have hre := hd.2.1
        cases r with
        | nil =>
          have : Region.ready .any ops (listed.setIfInBounds j true) = [] := by simpa [detC] using hd.2.2
          exact ⟨this, h3⟩
        | cons x r => simp [e] at hre
      · exact mainC hs hlow r _ a' w' hd.2.2 (h2 e) h3
    unfold wpOp
    rw [hoi]
    unfold wpList at h1
    dsimp only
    split
    · rename_i hw
      rw [if_pos hw] at h1
      rcases h1 with h1 | h1
      · exact .inl (Oper.wp_seg cont h1)
      · exact (Seg.letsOut h1.2).elim
    · rename_i hw
      rw [if_neg hw] at h1
      exact cont _ _ h1
/-- THE REGION. 'low': the loads (and readings of bytes) that may come at any time, each with the place that it reads. -/
theorem region_lowc {Q : Exit → Act → World → Prop} {id : Nat} {l : List Oper} {a : Act} {w : World} (plan : Plan) (need : Needs) (low : List (Nat × Value)) (I : World → Prop) (c : Nat) (hm : P.follows .mixedOrders = true)
    (hs : Region.noSelect l.toArray = true) (hn : plan.length = l.length) (hd : detC P l.toArray need (low.map (·.1)) c (Array.replicate l.length false) plan = true)
    (hlow : ∀ x ∈ low, Stab P I (opAt l.toArray x.1) x.2) (hI : I w.drew)
    (h : wpList P l.toArray (Seg (planC P l.toArray (finI l.toArray need low Q) I c plan).2) (planC P l.toArray (finI l.toArray need low Q) I c plan).1 a w.drew) : (Code.region id l.toArray true).wp P Q a w := by
  refine Code.wp_mono (Q := Seg (finI l.toArray need low Q)) (fun e a w h => ?_) ?_
  · cases e <;> first | exact h.2.2 | exact h.elim
  · refine wp_region_any hm (wpAny_of_C (I := I) (c := c) _ _ _ _ (?_ : wpAnyC P .any l.toArray (Seg (finI l.toArray need low Q)) I c l.toArray.size (Array.replicate l.toArray.size false) a w.drew))
    have := mainC (Q := Q) hs hlow plan (Array.replicate l.length false) a w.drew hd hI h
    rw [hn] at this
    exact this
end
/-- The pieces that a region's loads read stand as they were. -/
def IxOk {F : List Nat} {w0 w : World} {L : List Chunk} (_ : Mem F w0 w L) (is : List Nat) (w' : World) : Prop := ∀ i ∈ is, ∀ c, L[i]? = some c → Chunk.ok w' c
section
variable {P : Program} {o : Oper} {w w0 w' : World} {F : List Nat} {L : List Chunk} {M : Mem F w0 w L} {is : List Nat}
theorem ixOk_self (M : Mem F w0 w L) (is : List Nat) : IxOk M is w.drew := fun i _ c hc => M.drew.ok i c hc
theorem ixOk_nil : IxOk M [] w' := fun _ h => by cases h
theorem ixOk_cons {i : Nat} {c : Chunk} (hi : L[i]? = some c) (h : c.ok w') (r : IxOk M is w') : IxOk M (i :: is) w' := fun j hj d hd => by
  rcases List.mem_cons.1 hj with rfl | hj
  · rw [hi] at hd; cases hd; exact h
  · exact r j hj d hd
theorem rowCell {g : Nat} {cs : List Value} (h : (Chunk.row g cs).ok w') {off : Nat} {v : Value} (hv : cs[off]? = some v) : w'.cell? ⟨g, off, none⟩ = some v := by
  have := h.2.1 off v hv; rwa [Nat.zero_add] at this
theorem stab_ix (M : Mem F w0 w L) (i : Nat) (off : Nat) {t : TypeId} {x : Operand} (ho : o.op = .load t x) {g : Nat} {cs : List Value} (hi : L[i]? = some (.row g cs)) (hin : i ∈ is) (ht : scalarT P t = true) {v : Value} (hv : cs[off]? = some v) : Stab P (IxOk M is) o (.pointer (some ⟨g, off, none⟩)) := by
  unfold Stab; rw [ho]
  refine ⟨v, fun w' hw => ?_⟩
  simp only [Instr.loadAt, Instr.sureAddr, Sem.run_bind, Sem.run_pure, Result.andThen_ok, run_loadVar_scalar ht w' g off v (rowCell (hw i hin _ hi) hv)]
theorem stab_ixB (M : Mem F w0 w L) (i : Nat) (off : Nat) {t : TypeId} {x : Operand} (ho : o.op = .load t x) {g : Nat} {l : List UInt8} (hi : L[i]? = some (.row g (bs l))) (hin : i ∈ is) (ht : scalarT P t = true) (hlt : off < l.length) : Stab P (IxOk M is) o (.pointer (some ⟨g, off, none⟩)) :=
  stab_ix M i off ho hi hin ht (getD_some hlt)
theorem stab_ixA (M : Mem F w0 w L) (i : Nat) (off : Nat) {t : TypeId} {x : Operand} (ho : o.op = .load t x) {g : Nat} {cs : List Value} (hi : L[i]? = some (.row g cs)) (hin : i ∈ is) (ht : rowT P t = true) (pre mid post : List Value) (hcs : cs = pre ++ (mid ++ post)) (hpre : pre.length = off) (hn : (P.info? t).map (·.size) = some mid.length) : Stab P (IxOk M is) o (.pointer (some ⟨g, off, none⟩)) := by
  unfold rowT at ht
  cases hu : P.underlying t with
  | none => simp [hu] at ht
  | some d =>
    simp only [hu] at ht
    refine stab_load ho g off mid d (fun w' hw j v hv => rowCell (hw i hin _ hi) ?_) hu ht hn
    have hj : j < mid.length := (List.getElem?_eq_some_iff.1 hv).1
    rw [hcs, ← hpre, List.getElem?_append_right (by omega), Nat.add_sub_cancel_left, List.getElem?_append_left hj]; exact hv
theorem stab_ixR (M : Mem F w0 w L) (i : Nat) {t : TypeId} {x : Operand} (ho : o.op = .load t x) {g : Nat} {cs : List Value} (hi : L[i]? = some (.row g cs)) (hin : i ∈ is) (ht : rowT P t = true) (hn : (P.info? t).map (·.size) = some cs.length) : Stab P (IxOk M is) o (.pointer (some ⟨g, 0, none⟩)) :=
  stab_ixA M i 0 ho hi hin ht [] cs [] (by simp) rfl hn
theorem stab_ixH (M : Mem F w0 w L) (i : Nat) {t : TypeId} {x : Operand} (ho : o.op = .load t x) {g : Nat} {l : List UInt8} (hi : L[i]? = some (.row g (bs l))) (hin : i ∈ is) (ht : rowT P t = true) {n : Nat} (hl : l.length = n) (hn : (P.info? t).map (·.size) = some n) : Stab P (IxOk M is) o (.pointer (some ⟨g, 0, none⟩)) :=
  stab_ixR M i ho hi hin ht (by rw [bs_length, hl]; exact hn)
/-- string(a[:]), a an array. -/
theorem stab_ixW (M : Mem F w0 w L) (i : Nat) {src dst e : TypeId} {x : Operand} (ho : o.op = .convert src dst x) {g : Nat} {l : List UInt8} (hi : L[i]? = some (.row g (bs l))) (hin : i ∈ is) {n : Nat} (hl : l.length = n) (hm : n ≤ maxLen) (hs : P.underlying src = some (.slice e)) (he : P.underlying e = some (.int .u8)) (hd : P.underlying dst = some .string) : Stab P (IxOk M is) o (.slice (some ⟨g, 0, none⟩) n n) := by
  refine stab_conv ho _ l (fun w' hw => ?_) hs he hd
  have := row_sees (off := 0) (n := n) (cap := n) (hw i hin _ hi) (by omega) (Nat.le_refl _) hm
  rwa [List.drop_zero, List.take_of_length_le (by omega)] at this
/-- string(b), b owned. -/
theorem stab_ixS (M : Mem F w0 w L) (i : Nat) {src dst e : TypeId} {x : Operand} (ho : o.op = .convert src dst x) {v : Value} {n : Nat} {l : List UInt8} (hi : L[i]? = some (.sl 1 v n (bs l))) (hin : i ∈ is) (hl : n = l.length) (hs : P.underlying src = some (.slice e)) (he : P.underlying e = some (.int .u8)) (hd : P.underlying dst = some .string) : Stab P (IxOk M is) o v := by
  subst hl
  exact stab_conv ho v l (fun w' hw => Own.sees (hw i hin _ hi)) hs he hd
end
theorem needs_at {l : List Value} {d : List Deferred} {n : Nat} {s : Shape} {r : Needs} {v : Value} (h : l[n]? = some v) (hs : s.ok v = true) (k : needOk r ⟨l.toArray, d⟩ = true) : needOk ((n, s) :: r) ⟨l.toArray, d⟩ = true :=
  needs_cons (by simpa [h] using hs) k
theorem nums_bs (l : List UInt8) : Shape.ok .nums (.agg (bs l).toArray) = true := nums_vb l
end TL
end Go
