/- Texts of this seat, put together: MsgX, Ref18O, BatO, BatC, MsgA0, MsgG0. Each begins with a remark that says what is proved in it, and under which conditions. -/
import Derived.Test.YtidadhbaomieiaaGreatY
import Derived.Test.YtidadhbaomieiaaGreatZh
import Derived.Test.YtidadhbaomieiaaGreatZl
import Derived.Test.YtidadhbaomieiaaGreatZq
import Derived.Test.YtidadhbaomieiaaGreatZr
import Derived.Test.YtidadhbaomieiaaGreatZs
set_option maxRecDepth 100000
set_option maxHeartbeats 16000000
namespace Go
namespace TL
open Go.RowKit
/-! ### Fields, one beside the other -/
def Fld.eqv (A B : Lm) : Fld → Prop
 | .num q => q.gl A = q.gl B
 | .hash q => q.gl A = q.gl B
 | .bat => A.bi = B.bi ∧ A.be = B.be ∧ A.ops = B.ops
 | .prs => A.prs = B.prs
def Fld.cp (L : Lm) (A : Lm) : Fld → Lm
 | .num q => q.sl A (q.gl L)
 | .hash q => q.sl A (q.gl L)
 | .bat => { A with bi := L.bi, be := L.be, ops := L.ops }
 | .prs => { A with prs := L.prs }
theorem Fld.eqv_refl (A : Lm) (f : Fld) : f.eqv A A := by cases f <;> first | rfl | exact ⟨rfl, rfl, rfl⟩
theorem Fld.eqv_trans {A B C : Lm} {f : Fld} (h : f.eqv A B) (h' : f.eqv B C) : f.eqv A C := by
 cases f with
 | num q => exact Eq.trans h h'
 | hash q => exact Eq.trans h h'
 | bat => exact ⟨h.1.trans h'.1, h.2.1.trans h'.2.1, h.2.2.trans h'.2.2⟩
 | prs => exact Eq.trans h h'
theorem Fld.cp_other {f g : Fld} (h : f ≠ g) (L A : Lm) : f.eqv (g.cp L A) A := by
 cases g with
 | num q' =>
  cases f with
  | num q => cases q <;> cases q' <;> first | rfl | exact absurd rfl h
  | hash q => cases q <;> cases q' <;> rfl
  | bat => cases q' <;> exact ⟨rfl, rfl, rfl⟩
  | prs => cases q' <;> rfl
 | hash q' =>
  cases f with
  | num q => cases q <;> cases q' <;> rfl
  | hash q => cases q <;> cases q' <;> first | rfl | exact absurd rfl h
  | bat => cases q' <;> exact ⟨rfl, rfl, rfl⟩
  | prs => cases q' <;> rfl
 | bat =>
  cases f with
  | num q => cases q <;> rfl
  | hash q => cases q <;> rfl
  | bat => exact absurd rfl h
  | prs => rfl
 | prs =>
  cases f with
  | num q => cases q <;> rfl
  | hash q => cases q <;> rfl
  | bat => exact ⟨rfl, rfl, rfl⟩
  | prs => exact absurd rfl h
def cpAll (l : List Fld) (L A : Lm) : Lm := l.foldl (fun B f => f.cp L B) A
theorem cpAll_cons (f : Fld) (l : List Fld) (L A : Lm) : cpAll (f :: l) L A = cpAll l L (f.cp L A) := rfl
/-! ### Read back -/
theorem byte_at (b : UInt8) (r : List UInt8) (k : Nat) : InS.byte ⟨b :: r, k, 0⟩ = (b.toNat, ⟨r, k + 1, 0⟩) := rfl
theorem hashS_first (h0 : List UInt8) (x : InS) : ∀ n, n ≤ h0.length → x.err = 0 → n ≤ x.rest.length → hashS h0 x n = (⟨x.rest.drop n, x.read + n, 0⟩, x.rest.take n ++ h0.drop n)
 | 0, _, he, _ => by
  obtain ⟨r, k, e⟩ := x
  simp only at he; subst he
  simp [hashS]
 | n + 1, h1, he, h2 => by
  rw [hashS_succ, hashS_first h0 x n yE he yE]
  have hd : x.rest.drop n = x.rest[n] :: x.rest.drop (n + 1) := List.drop_eq_getElem_cons yE
  simp only [hd, byte_at, UInt8.ofNat_toNat, Prod.mk.injEq]
  refine ⟨by rw [Nat.add_assoc], ?_⟩
  rw [List.set_append_right _ _ (by rw [List.length_take]; omega), List.length_take, Nat.min_eq_left yE, Nat.sub_self, List.take_succ_eq_append_getElem yE, List.append_assoc]
  congr 1
  rw [List.drop_eq_getElem_cons (by omega : n < h0.length)]
  rfl
theorem prS_cons (x : InS) : ∀ n, prS x (n + 1) = (((x.text 33).1, ((x.text 33).2.text 32).1) :: (prS ((x.text 33).2.text 32).2 n).1, (prS ((x.text 33).2.text 32).2 n).2)
 | 0 => rfl
 | n + 1 => by rw [prS_succ, prS_cons x n, prS_succ]; rfl
theorem prS_back : ∀ (l : List (List UInt8 × List UInt8)) (r : List UInt8) (k : Nat), l.all okP = true → ∃ k', prS ⟨l.flatMap prBm ++ r, k, 0⟩ l.length = (l, ⟨r, k', 0⟩)
 | [], r, k, _ => ⟨k, by simp [prS]⟩
 | (a, b) :: l, r, k, h => by
  rw [List.all_cons, Bool.and_eq_true] at h
  obtain ⟨h1, h2⟩ := h
  simp only [okP, Bool.and_eq_true, decide_eq_true_eq] at h1
  obtain ⟨ha, hb⟩ := h1
  have e : ((a, b) :: l).flatMap prBm ++ r = textL a ++ (textL b ++ (l.flatMap prBm ++ r)) := by simp only [List.flatMap_cons, prBm, List.append_assoc]
  rw [e, List.length_cons, prS_cons, text_text ha yE]
  simp only
  rw [text_text hb yE]
  simp only
  obtain ⟨k', hk⟩ := prS_back l r (k + (textL a).length + (textL b).length) h2
  rw [hk]
  exact ⟨k', rfl⟩
theorem hash_back {h0 h r : List UInt8} {k : Nat} (hh : h.length = 32) (h0l : h0.length = 32) : hashS h0 ⟨h ++ r, k, 0⟩ 32 = (⟨r, k + 32, 0⟩, h) := by
 rw [hashS_first h0 _ 32 yE rfl (by simp only [List.length_append]; omega)]
 have e1 : (h ++ r).drop 32 = r := by rw [← hh, List.drop_left]
 have e2 : (h ++ r).take 32 = h := by rw [← hh, List.take_left]
 simp only [e1, e2]
 rw [List.drop_of_length_le yE, List.append_nil]
theorem bytes_bat {i e : Int} {ops : List Opr} (h : (bytesB i e ops).2 = 0) : rightB i e ops = 0 ∧ (bytesB i e ops).1 = batB i.toNat e.toNat ops := by
 by_cases hr : rightB i e ops = 0
 ·exact ⟨hr, by rw [bytesB_ok hr]⟩
 ·rw [bytesB_no hr] at h; exact absurd h hr
theorem Fld.bat_get {A : Lm} {x y : InS} {s : List UInt8} (h : x.text 512 = (s, y)) : Fld.bat.get A x = if y.err = 0 then ((readB s).2, { A with bi := (readB s).1.1, be := (readB s).1.2.1, ops := (readB s).1.2.2 }, y) else (y.err, A, y) := by
 simp only [Fld.get, h]
theorem Fld.get_back {L : Lm} (hL : L.fit) (hr : L.rng) (f : Fld) (ho : f.ok L = true) {A : Lm} (hA : A.fit) (hp : f = .prs → A.prs = []) (r : List UInt8) (k : Nat) : ∃ k', f.get A ⟨f.put L ++ r, k, 0⟩ = (0, f.cp L A, ⟨r, k', 0⟩) := by
 cases f with
 | num q =>
  simp only [Fld.ok, decide_eq_true_eq] at ho
  have hn := (hr.num q).2
  simp only [Fld.get, Fld.put, Fld.cp]
  rw [most_num yE yE]
  simp only
  rw [show ((q.gl L).toNat : Int) = q.gl L by omega]
  exact ⟨_, rfl⟩
 | hash q =>
  have h1 := q.gl_len hL
  have h2 := q.gl_len hA
  simp only [Fld.get, Fld.put, Fld.cp]
  rw [hash_back h1 h2]
  exact ⟨_, rfl⟩
 | bat =>
  simp only [Fld.ok, Bool.and_eq_true, beq_iff_eq, decide_eq_true_eq] at ho
  obtain ⟨h1, h2⟩ := ho
  obtain ⟨h3, h4⟩ := bytes_bat h1
  obtain ⟨g1, g2, g3, g4, _⟩ := right_ok h3
  rw [Fld.bat_get (show InS.text ⟨Fld.bat.put L ++ r, k, 0⟩ 512 = _ from text_text h2 yE), if_pos rfl]
  simp only [Fld.cp]
  have hb := hr.be
  have e := read_bat (i := L.bi.toNat) (e := L.be.toNat) (ops := L.ops) (by rw [show ((L.bi.toNat : Nat) : Int) = L.bi by omega, show ((L.be.toNat : Nat) : Int) = L.be by omega]; exact h3) yE []
  rw [List.append_nil, if_pos rfl] at e
  rw [h4, e]
  simp only
  rw [show ((L.bi.toNat : Nat) : Int) = L.bi by omega, show ((L.be.toNat : Nat) : Int) = L.be by omega]
  exact ⟨_, rfl⟩
 | prs =>
  simp only [Fld.ok, Bool.and_eq_true, decide_eq_true_eq] at ho
  obtain ⟨h1, h2⟩ := ho
  simp only [Fld.get, Fld.put, Fld.cp]
  rw [hp rfl, List.append_assoc, most_num h1 yE]
  simp only
  obtain ⟨k', e⟩ := prS_back L.prs r (k + (numL L.prs.length).length) h2
  rw [e]
  exact ⟨_, rfl⟩
theorem Fld.say_ok {f : Fld} {A A' : Lm} {x y : InS} (h : f.get A x = (0, A', y)) (hy : y.err = 0) : Fld.say (f.get A x) = 0 := by rw [h]; unfold Fld.say; rw [if_pos hy]
theorem Fld.cp_fit {L A : Lm} (hL : L.fit) (hA : A.fit) (f : Fld) : (f.cp L A).fit := by
 cases f with
 | num q => exact q.sl_fit hA _
 | hash q => exact q.sl_fit hA (q.gl_len hL)
 | bat => exact hA
 | prs => exact hA
theorem runF_back {L : Lm} (hL : L.fit) (hr : L.rng) (r : List UInt8) : ∀ (l : List Fld), l.Nodup → (∀ f ∈ l, f.ok L = true) → ∀ (A : Lm) (k : Nat), A.fit → (.prs ∈ l → A.prs = []) → ∃ k', runF l A ⟨l.flatMap (fun f => f.put L) ++ r, k, 0⟩ = (0, cpAll l L A, ⟨r, k', 0⟩)
 | [], _, _, A, k, _, _ => ⟨k, by simp [runF, cpAll]⟩
 | f :: l, hd, ho, A, k, hA, hp => by
  obtain ⟨hf, hd⟩ := List.nodup_cons.1 hd
  obtain ⟨k1, e1⟩ := f.get_back hL hr (ho f List.mem_cons_self) hA (fun e => hp (e ▸ List.mem_cons_self)) (l.flatMap (fun f => f.put L) ++ r) k
  rw [List.flatMap_cons, List.append_assoc, runF, if_pos (Fld.say_ok e1 rfl), e1, cpAll_cons]
  refine runF_back hL hr r l hd (fun g hg => ho g (List.mem_cons_of_mem _ hg)) _ _ (f.cp_fit hL hA) fun hm => ?_
  have hne : Fld.prs ≠ f := fun e => hf (e ▸ hm)
  exact (Fld.cp_other hne L A : (f.cp L A).prs = A.prs).trans (hp (List.mem_cons_of_mem _ hm))
theorem fds_nodup (k : UInt8) : (fdsL k).Nodup := by
 unfold fdsL
 repeat' split
 all_goals simp
def onlyL (L : Lm) : Lm := cpAll (fdsL L.k) L (kindL L.k)
def bytesL (L : Lm) : List UInt8 := L.k :: (fdsL L.k).flatMap (fun f => f.put L)
def okL (L : Lm) : Bool := (fdsL L.k).all fun f => f.ok L
theorem okL_of {L : Lm} (h : okL L = true) : ∀ f ∈ fdsL L.k, f.ok L = true := List.all_eq_true.1 h
theorem readM_back {L : Lm} (hL : L.fit) (hr : L.rng) (hk : isK L.k = true) (ho : okL L = true) (r : List UInt8) : readM (bytesL L ++ r) = if r = [] then (onlyL L, 0) else (zeroL, 8) := by
 have hb : (inStart (bytesL L ++ r)).byte = (L.k.toNat, ⟨(fdsL L.k).flatMap (fun f => f.put L) ++ r, 0 + 1, 0⟩) := rfl
 obtain ⟨k', e⟩ := runF_back hL hr r (fdsL L.k) (fds_nodup _) (okL_of ho) (kindL L.k) (0 + 1) (kindL_fit _) (fun _ => rfl)
 rw [readM_run hb rfl hk 0 _ _ e, if_pos rfl]
 by_cases h : r = []
 ·rw [if_pos h, if_pos (by unfold InS.fin; rw [if_pos rfl, h]; rfl)]; rfl
 ·have hf : (InS.mk r k' 0).fin = 8 := by unfold InS.fin; rw [if_pos rfl, if_neg (by simpa using h)]
  rw [if_neg h, if_neg (by rw [hf]; decide), hf]
theorem bytesM_eq {L : Lm} (hL : L.fit) (hr : L.rng) : bytesM L = if isK L.k = true then (if okL L = true ∧ onlyL L = L then (bytesL L, 0) else ([], 1)) else ([], 10) := by
 unfold bytesM
 by_cases hk : isK L.k = true
 ·rw [if_pos hk, if_pos hk]
  by_cases ho : okL L = true
  ·have e := readM_back hL hr hk ho []
   rw [List.append_nil, if_pos rfl] at e
   have hE : readM (L.k :: (fdsL L.k).flatMap (fun f => f.put L)) = (onlyL L, 0) := e
   by_cases hs : onlyL L = L
   ·rw [if_pos ⟨ho, by rw [hE, hs]⟩, if_pos ⟨ho, hs⟩]; rfl
   ·rw [if_neg (fun h => hs (by have := h.2; rw [hE] at this; injection this)), if_neg (fun h => hs h.2)]
  ·rw [if_neg (fun h => ho h.1), if_neg (fun h => ho h.1)]
 ·rw [if_neg hk, if_neg hk]
/-! ### What is read has just its bytes -/
end TL
end Go

namespace Go
namespace TL
open Go.RowKit
theorem Ms.fit_bt {m : Ms} (h : m.fit) (bi be : Int) {ov : Value} (ho : ov.oneCell' = true) : Ms.fit { m with bi := bi, be := be, ov := ov } := ⟨h.1, h.2.1, h.2.2.1, ho, h.2.2.2.2⟩
theorem Ms.fit_pv {m : Ms} (h : m.fit) {pv : Value} (hp : pv.oneCell' = true) : Ms.fit { m with pv := pv } := ⟨h.1, h.2.1, h.2.2.1, h.2.2.2.1, hp⟩
def kindE (k : UInt8) (e : Int) : Ms := ⟨k, e, 0, 0, 0, 0, .slice none 0 0, 0, zeroH, 0, 0, zeroH, zeroH, .slice none 0 0⟩
theorem kindE_fit (k : UInt8) (e : Int) : (kindE k e).fit := ⟨zeroH_len, zeroH_len, zeroH_len, rfl, rfl⟩
theorem cpAll_fit : ∀ (l : List Fld) {L A : Lm}, L.fit → A.fit → (cpAll l L A).fit
 | [], _, _, _, h => h
 | f :: l, L, A, hL, hA => by rw [cpAll_cons]; exact cpAll_fit l hL (f.cp_fit hL hA)
theorem onlyL_fit {L : Lm} (h : L.fit) : (onlyL L).fit := cpAll_fit _ h (kindL_fit _)
theorem cpAll_other : ∀ {l : List Fld} {f : Fld}, f ∉ l → ∀ (L A : Lm), f.eqv (cpAll l L A) A
 | [], f, _, L, A => f.eqv_refl A
 | g :: l, f, h, L, A => by
  have hg : f ≠ g := fun e => h (e ▸ List.mem_cons_self)
  rw [cpAll_cons]
  exact Fld.eqv_trans (cpAll_other (fun hm => h (List.mem_cons_of_mem _ hm)) L _) (Fld.cp_other hg L A)
theorem onlyL_other {L : Lm} (h : onlyL L = L) {f : Fld} (hf : f ∉ fdsL L.k) : f.eqv L (kindL L.k) := by
 have := cpAll_other hf L (kindL L.k)
 rw [show cpAll (fdsL L.k) L (kindL L.k) = onlyL L from rfl, h] at this
 exact this
theorem Fld.cp_ops (f : Fld) (L A : Lm) : (f.cp L A).ops = L.ops ∨ (f.cp L A).ops = A.ops := by
 cases f with
 | num q => exact .inr (by cases q <;> rfl)
 | hash q => exact .inr (by cases q <;> rfl)
 | bat => exact .inl rfl
 | prs => exact .inr rfl
theorem Fld.cp_prs (f : Fld) (L A : Lm) : (f.cp L A).prs = L.prs ∨ (f.cp L A).prs = A.prs := by
 cases f with
 | num q => exact .inr (by cases q <;> rfl)
 | hash q => exact .inr (by cases q <;> rfl)
 | bat => exact .inr rfl
 | prs => exact .inl rfl
theorem cpAll_ops : ∀ (l : List Fld) (L A : Lm), (cpAll l L A).ops = L.ops ∨ (cpAll l L A).ops = A.ops
 | [], _, _ => .inr rfl
 | f :: l, L, A => by
  rw [cpAll_cons]
  rcases cpAll_ops l L (f.cp L A) with h | h
  ·exact .inl h
  ·rw [h]; exact f.cp_ops L A
theorem cpAll_prs : ∀ (l : List Fld) (L A : Lm), (cpAll l L A).prs = L.prs ∨ (cpAll l L A).prs = A.prs
 | [], _, _ => .inr rfl
 | f :: l, L, A => by
  rw [cpAll_cons]
  rcases cpAll_prs l L (f.cp L A) with h | h
  ·exact .inl h
  ·rw [h]; exact f.cp_prs L A
theorem onlyL_ops (L : Lm) : (onlyL L).ops = L.ops ∨ (onlyL L).ops = [] := cpAll_ops _ _ _
theorem onlyL_prs (L : Lm) : (onlyL L).prs = L.prs ∨ (onlyL L).prs = [] := cpAll_prs _ _ _
theorem onlyL_lens {L : Lm} (h : L.rng) : (onlyL L).ops.length ≤ 1000 ∧ (onlyL L).prs.length ≤ 1000 := by
 constructor
 ·rcases onlyL_ops L with e | e <;> rw [e]
  ·exact h.o1
  ·exact Nat.zero_le _
 ·rcases onlyL_prs L with e | e <;> rw [e]
  ·exact h.p1
  ·exact Nat.zero_le _
theorem num_ok {L : Lm} (h : onlyL L = L) (ho : okL L = true) (q : Mf) : 0 ≤ q.gl L ∧ q.gl L ≤ q.most := by
 by_cases hm : Fld.num q ∈ fdsL L.k
 ·have := okL_of ho _ hm
  simp only [Fld.ok, decide_eq_true_eq] at this
  exact this
 ·have hq : q.gl L = q.gl (kindL L.k) := onlyL_other h hm
  have : q.gl (kindL L.k) = 0 := by cases q <;> rfl
  rw [hq, this]
  exact ⟨by omega, by omega⟩
theorem prs_ok {L : Lm} (h : onlyL L = L) (ho : okL L = true) : L.prs.length ≤ 48 ∧ L.prs.all okP = true := by
 by_cases hm : Fld.prs ∈ fdsL L.k
 ·have := okL_of ho _ hm
  simp only [Fld.ok, Bool.and_eq_true, decide_eq_true_eq] at this
  exact this
 ·have hq : L.prs = (kindL L.k).prs := onlyL_other h hm
  rw [hq]; exact ⟨Nat.zero_le 48, rfl⟩
theorem bat_ok {L : Lm} (ho : okL L = true) (hk : L.k = 2) : (bytesB L.bi L.be L.ops).2 = 0 ∧ (bytesB L.bi L.be L.ops).1.length ≤ 512 := by
 have hm : Fld.bat ∈ fdsL L.k := by rw [hk]; exact (show Fld.bat ∈ [Fld.num .e, .num .p, .bat] by simp)
 have := okL_of ho _ hm
 simp only [Fld.ok, Bool.and_eq_true, beq_iff_eq, decide_eq_true_eq] at this
 exact this
end TL
end Go
namespace Go.Proofs.YtidadhbaomieiaaGreat
open Go.RowKit Go.TL
theorem Only18_c (L : Lm) (ov pv : Value) (w : World) (hL : L.fit) (hk : isK L.k = true) (S : SeesL w 3 opV ov L.ops) (T : SeesL w 2 prV pv L.prs) :
  Calls Tryz.prog 142 #[.agg (msgC (L.ms ov pv)).toArray] w fun r w' => ∃ ov' pv', r = .returned (.agg (msgC ((onlyL L).ms ov' pv')).toArray) ∧ Below w.heap.size w w' ∧ (∀ w2 : World, SeesL w2 3 opV ov L.ops → SeesL w2 3 opV ov' (onlyL L).ops) ∧ ∀ w2 : World, SeesL w2 2 prV pv L.prs → SeesL w2 2 prV pv' (onlyL L).prs := by
 have M := Mem.start [] w
 obtain ⟨k, e, a, o, bi, be, ops, p, r, v, i, lf, rt, prs⟩ := L
 dsimp only at S T hk
 obtain ⟨op, oc, rfl, _⟩ := S.form
 obtain ⟨pp, pc, rfl, _⟩ := T.form
 have X := msg_cells (Lm.ms_fit hL (ov := .slice op ops.length oc) (pv := .slice pp prs.length pc) rfl rfl)
 simp only [Lm.ms] at X
 have hr : r.length = 32 := hL.1
 have hl : lf.length = 32 := hL.2.1
 have ht : rt.length = 32 := hL.2.2
 clear hL
 obtain ⟨C, eC⟩ : ∃ C, C = msgC ⟨k, e, a, o, bi, be, .slice op ops.length oc, p, r, v, i, lf, rt, .slice pp prs.length pc⟩ := ⟨_, rfl⟩
 rw [← eC] at X
 have eA : (msgC ((Lm.mk k e a o bi be ops p r v i lf rt prs).ms (.slice op ops.length oc) (.slice pp prs.length pc))).toArray = C.toArray := by rw [eC]; rfl
 rw [eA]
 clear eA eC
 obtain ⟨Nk, Ne, Na, No, Np, Nv, Ni, Npv, ⟨_, _, b1⟩, ⟨_, _, r1⟩, ⟨_, _, l1⟩, ⟨_, _, t1⟩, c1, _⟩ := X
 replace Nk := Lib.hid Nk
 replace Ne := Lib.hid Ne
 replace Na := Lib.hid Na
 replace No := Lib.hid No
 replace Np := Lib.hid Np
 replace Nv := Lib.hid Nv
 replace Ni := Lib.hid Ni
 replace Npv := Lib.hid Npv
 have B := Lib.hid b1
 have Hr := Lib.hid r1
 have Hlf := Lib.hid l1
 have Hrt := Lib.hid t1
 clear b1 r1 l1 t1 c1
 rcases kinds hk with rfl | rfl | rfl | rfl | rfl | rfl | rfl
 all_goals
  clear hk S T
  go_enter Tryz.func142, Tryz.ntmps142
  go_wp2_with ((first | ((with_reducible refine tGuard ?_); first | ((with_reducible refine w_stripE ?_ ?_); exact dcd) | ((with_reducible refine w_skip1 ?_ ?_); exact dcd) | ((with_reducible refine w_skip0 ?_ ?_); exact dcd)) | ((with_reducible refine tBox (some 1) ?_); refine w_box M _ _ rfl rfl _ rfl (C) rfl ?_; clear M; intro gm w1 M) | ((with_reducible refine tLoad ?_); (refine w_at _ _ rfl yI ?_; intro hx; (first | refine w_load M 2 _ _ rfl rfl hx rfl yA yG ?_ | refine w_loadA M 2 _ _ rfl rfl hx rfl yA _ _ _ Hr.out.1 Hr.out.2.1 (by rw [bs_length, Hr.out.2.2]; kernel_rfl) ?_ | refine w_loadA M 2 _ _ rfl rfl hx rfl yA _ _ _ Hlf.out.1 Hlf.out.2.1 (by rw [bs_length, Hlf.out.2.2]; kernel_rfl) ?_ | refine w_loadA M 2 _ _ rfl rfl hx rfl yA _ _ _ Hrt.out.1 Hrt.out.2.1 (by rw [bs_length, Hrt.out.2.2]; kernel_rfl) ?_ | refine w_loadA M 2 _ _ rfl rfl hx rfl yA _ _ _ B.out.1 B.out.2 yC ?_ | refine w_load M 1 _ _ rfl rfl hx rfl yA yG ?_ | refine w_loadA M 1 _ _ rfl rfl hx rfl yA _ _ _ Hr.out.1 Hr.out.2.1 (by rw [bs_length, Hr.out.2.2]; kernel_rfl) ?_ | refine w_loadA M 1 _ _ rfl rfl hx rfl yA _ _ _ Hlf.out.1 Hlf.out.2.1 (by rw [bs_length, Hlf.out.2.2]; kernel_rfl) ?_ | refine w_loadA M 1 _ _ rfl rfl hx rfl yA _ _ _ Hrt.out.1 Hrt.out.2.1 (by rw [bs_length, Hrt.out.2.2]; kernel_rfl) ?_ | refine w_loadA M 1 _ _ rfl rfl hx rfl yA _ _ _ B.out.1 B.out.2 yC ?_ | refine w_loadMs M 0 _ _ rfl rfl hx rfl yA yC yK ?_); clear hx)) | ((with_reducible refine tAlloc (some 2) 67 ?_); refine w_alloc M _ rfl rfl (.agg (msgC zeroM).toArray) (msgC zeroM) yC rfl ?_; clear M; intro gr w1 M) | ((with_reducible refine tAlloc (some 3) 67 ?_); refine w_alloc M _ rfl rfl (.agg (msgC zeroM).toArray) (msgC zeroM) yC rfl ?_; clear M; intro gx w1 M) | ((with_reducible refine tStore ?_); (refine w_at2 _ _ _ rfl yI yF ?_; intro hx hy; (first | refine w_storeMs (m := kindE 1 e) M 0 _ _ _ rfl rfl hx rfl hy rfl yC (kindE_fit _ _) zeroM_fit ?_ | refine w_storeMs (m := kindE 2 e) M 0 _ _ _ rfl rfl hx rfl hy rfl yC (kindE_fit _ _) zeroM_fit ?_ | refine w_storeMs (m := kindE 3 e) M 0 _ _ _ rfl rfl hx rfl hy rfl yC (kindE_fit _ _) zeroM_fit ?_ | refine w_storeMs (m := kindE 4 e) M 0 _ _ _ rfl rfl hx rfl hy rfl yC (kindE_fit _ _) zeroM_fit ?_ | refine w_storeMs (m := kindE 5 e) M 0 _ _ _ rfl rfl hx rfl hy rfl yC (kindE_fit _ _) zeroM_fit ?_ | refine w_storeMs (m := kindE 6 e) M 0 _ _ _ rfl rfl hx rfl hy rfl yC (kindE_fit _ _) zeroM_fit ?_ | refine w_storeMs (m := kindE 7 e) M 0 _ _ _ rfl rfl hx rfl hy rfl yC (kindE_fit _ _) zeroM_fit ?_ | refine w_storeMf M 0 _ _ _ rfl rfl hx rfl hy yA yK .a rfl ?_ | refine w_storeMf M 0 _ _ _ rfl rfl hx rfl hy yA yK .o rfl ?_ | refine w_storeMf M 0 _ _ _ rfl rfl hx rfl hy yA yK .p rfl ?_ | refine w_storeMf M 0 _ _ _ rfl rfl hx rfl hy yA yK .v rfl ?_ | refine w_storeMf M 0 _ _ _ rfl rfl hx rfl hy yA yK .i rfl ?_ | refine w_storeHf M 0 _ _ _ rfl rfl hx rfl hy (by assumption) yC yK .r rfl ?_ | refine w_storeHf M 0 _ _ _ rfl rfl hx rfl hy (by assumption) yC yK .lf rfl ?_ | refine w_storeHf M 0 _ _ _ rfl rfl hx rfl hy (by assumption) yC yK .rt rfl ?_ | refine w_storeBt M 0 _ _ _ rfl rfl hx rfl hy yC rfl ?_ | refine w_storePv M 0 _ _ _ rfl rfl hx rfl hy rfl rfl yA yK ?_ | refine w_storeMs M 1 _ _ _ rfl rfl hx rfl hy rfl yC yK zeroM_fit ?_); clear hx hy M; intro w1 M; (try simp only [setC] at M))) | ((with_reducible refine tM rfl ?_); refine mS ?_; try (clear M; (first | intro g w1 M | intro w1 M); try simp only [setC] at M))) <;> (try conv => arg 5; simp only [apS, setC]))
  first
   | exact bodyPost_ret (results_row rfl _ _ gr 0 _ _ rfl (M.ok 1 _ rfl).2.1 Tryz.underlying67 rfl (by rw [msgC_len yK]; kernel_rfl)) rfl ⟨.slice none 0 0, .slice none 0 0, rfl, M.below, fun w2 _ => seesL_nil _ _ opV_len w2, fun w2 _ => seesL_nil _ _ prV_len w2⟩
   | exact bodyPost_ret (results_row rfl _ _ gr 0 _ _ rfl (M.ok 1 _ rfl).2.1 Tryz.underlying67 rfl (by rw [msgC_len yK]; kernel_rfl)) rfl ⟨.slice op ops.length oc, .slice none 0 0, rfl, M.below, fun _ h => h, fun w2 _ => seesL_nil _ _ prV_len w2⟩
   | exact bodyPost_ret (results_row rfl _ _ gr 0 _ _ rfl (M.ok 1 _ rfl).2.1 Tryz.underlying67 rfl (by rw [msgC_len yK]; kernel_rfl)) rfl ⟨.slice none 0 0, .slice pp prs.length pc, rfl, M.below, fun w2 _ => seesL_nil _ _ opV_len w2, fun _ h => h⟩
end Go.Proofs.YtidadhbaomieiaaGreat

namespace Go.Proofs.YtidadhbaomieiaaGreat
open Go.RowKit Go.TL
theorem rRight_c (i e : Int) (ops : List Opr) (v : Value) (w : World) (S : SeesL w 3 opV v ops) (hl : ops.length ≤ 1000000) (hm : ∀ x ∈ ops, x.2.1.length ≤ 100000000 ∧ x.2.2.length ≤ 100000000) :
  Calls Tryz.prog 141 #[.agg #[.int .i64 i, .int .i64 e, v]] w fun e' w' => e' = .returned (.int .i64 (rightB i e ops)) ∧ Below w.heap.size w w' := by
 have M := Mem.start [] w
 obtain ⟨q, cap, rfl, hc⟩ := S.form
 by_cases h : i < 1 ∨ 4611686018427387904 < i ∨ e < 1
 ·rw [right_n h]
  by_cases h1 : i < 1
  ·clear h
   go_enter Tryz.func141, Tryz.ntmps141
   go_wp2_with ((first | ((with_reducible refine tBox (some 1) ?_); refine w_box M _ _ rfl rfl _ rfl ([.int .i64 i, .int .i64 e, .slice q ops.length cap]) rfl ?_; clear M; intro gb w1 M) | ((with_reducible refine tGuard ?_); first | ((with_reducible refine w_stripE ?_ ?_); exact dcd) | ((with_reducible refine w_skip1 ?_ ?_); exact dcd) | ((with_reducible refine w_skip0 ?_ ?_); exact dcd)) | ((with_reducible refine tM rfl ?_); refine mS ?_; try (clear M; (first | intro g w1 M | intro w1 M); try simp only [setC] at M)) | ((with_reducible refine tGuard ?_); refine gdC ?_ ?_ <;> (intro hgd; rw [hgd]; try (exfalso; simp at hgd; omega)))) <;> (try conv => arg 5; simp only [apS, setC]))
   go_ret
   exact ⟨rfl, M.below⟩
  ·have h1' : 1 ≤ i := by omega
   by_cases h2 : 4611686018427387904 < i
   ·clear h
    go_enter Tryz.func141, Tryz.ntmps141
    go_wp2_with ((first | ((with_reducible refine tBox (some 1) ?_); refine w_box M _ _ rfl rfl _ rfl ([.int .i64 i, .int .i64 e, .slice q ops.length cap]) rfl ?_; clear M; intro gb w1 M) | ((with_reducible refine tGuard ?_); first | ((with_reducible refine w_stripE ?_ ?_); exact dcd) | ((with_reducible refine w_skip1 ?_ ?_); exact dcd) | ((with_reducible refine w_skip0 ?_ ?_); exact dcd)) | ((with_reducible refine tM rfl ?_); refine mS ?_; try (clear M; (first | intro g w1 M | intro w1 M); try simp only [setC] at M)) | ((with_reducible refine tGuard ?_); refine gdC ?_ ?_ <;> (intro hgd; rw [hgd]; try (exfalso; simp at hgd; omega)))) <;> (try conv => arg 5; simp only [apS, setC]))
    go_ret
    exact ⟨rfl, M.below⟩
   ·have h2' : i ≤ 4611686018427387904 := by omega
    have h3' : e < 1 := by omega
    clear h
    go_enter Tryz.func141, Tryz.ntmps141
    go_wp2_with ((first | ((with_reducible refine tBox (some 1) ?_); refine w_box M _ _ rfl rfl _ rfl ([.int .i64 i, .int .i64 e, .slice q ops.length cap]) rfl ?_; clear M; intro gb w1 M) | ((with_reducible refine tGuard ?_); first | ((with_reducible refine w_stripE ?_ ?_); exact dcd) | ((with_reducible refine w_skip1 ?_ ?_); exact dcd) | ((with_reducible refine w_skip0 ?_ ?_); exact dcd)) | ((with_reducible refine tM rfl ?_); refine mS ?_; try (clear M; (first | intro g w1 M | intro w1 M); try simp only [setC] at M)) | ((with_reducible refine tGuard ?_); refine gdC ?_ ?_ <;> (intro hgd; rw [hgd]; try (exfalso; simp at hgd; omega)))) <;> (try conv => arg 5; simp only [apS, setC]))
    go_ret
    exact ⟨rfl, M.below⟩
 obtain ⟨h1, h2, h3⟩ : 1 ≤ i ∧ i ≤ 4611686018427387904 ∧ 1 ≤ e := by omega
 by_cases h4 : 4 < ops.length
 ·rw [right_4 h h4]
  have h4' : (4 : Int) < (ops.length : Int) := by omega
  clear h
  go_enter Tryz.func141, Tryz.ntmps141
  go_wp2_with ((first | ((with_reducible refine tBox (some 1) ?_); refine w_box M _ _ rfl rfl _ rfl ([.int .i64 i, .int .i64 e, .slice q ops.length cap]) rfl ?_; clear M; intro gb w1 M) | ((with_reducible refine tGuard ?_); first | ((with_reducible refine w_stripE ?_ ?_); exact dcd) | ((with_reducible refine w_skip1 ?_ ?_); exact dcd) | ((with_reducible refine w_skip0 ?_ ?_); exact dcd)) | ((with_reducible refine tM rfl ?_); refine mS ?_; try (clear M; (first | intro g w1 M | intro w1 M); try simp only [setC] at M)) | ((with_reducible refine tGuard ?_); refine gdC ?_ ?_ <;> (intro hgd; rw [hgd]; try (exfalso; simp at hgd; omega)))) <;> (try conv => arg 5; simp only [apS, setC]))
  go_ret
  exact ⟨rfl, M.below⟩
 rw [right_e h yE]
 have h4' : (ops.length : Int) ≤ 4 := by omega
 have HB := fun k x r => @each_bad cutE ops k x r
 have HG := @each_all cutE ops
 obtain ⟨R, eR⟩ : ∃ R, R = eachE cutE ops := ⟨_, rfl⟩
 rw [← eR] at HB HG ⊢
 replace HB := Lib.hid HB
 replace HG := Lib.hid HG
 clear eR h
 go_enter Tryz.func141, Tryz.ntmps141
 go_wp2_with ((first | ((with_reducible refine tBox (some 1) ?_); refine w_box M _ _ rfl rfl _ rfl ([.int .i64 i, .int .i64 e, .slice q ops.length cap]) rfl ?_; clear M; intro gb w1 M) | ((with_reducible refine tGuard ?_); first | ((with_reducible refine w_stripE ?_ ?_); exact dcd) | ((with_reducible refine w_skip1 ?_ ?_); exact dcd) | ((with_reducible refine w_skip0 ?_ ?_); exact dcd)) | ((with_reducible refine tM rfl ?_); refine mS ?_; try (clear M; (first | intro g w1 M | intro w1 M); try simp only [setC] at M)) | ((with_reducible refine tGuard ?_); refine gdC ?_ ?_ <;> (intro hgd; rw [hgd]; try (exfalso; simp at hgd; omega)))) <;> (try conv => arg 5; simp only [apS, setC]))
 go_loopw [3] (fun iv wr => ∃ k : Nat, k ≤ ops.length ∧ iv = .int .i64 k ∧ Hid (∀ (j : Nat) (y : Opr), j < k → ops[j]? = some y → opE cutE y = 0) ∧ Mem [] w wr [.row gb [.int .i64 i, .int .i64 e, .slice q ops.length cap]]) (fun iv _ => ops.length - (intOf iv).toNat)
 case atStart => exact ⟨0, by omega, rfl, Lib.hid yE, M⟩
 case round =>
  clear M
  obtain ⟨k, hk, rfl, HK, M⟩ := hrel
  by_cases hlt : k < ops.length
  ·obtain ⟨g, so, rfl⟩ := S.addr yE
   obtain ⟨⟨q, a, b⟩, hx⟩ : ∃ x, ops[k]? = some x := ⟨_, List.getElem?_eq_getElem hlt⟩
   obtain ⟨ha, hb⟩ := hm (q, a, b) (List.mem_of_getElem? hx)
   simp only at ha hb
   have HX := Lib.hid hx
   clear hx
   by_cases hq : q = 1 ∨ q = 2
   ·have HQ := Lib.hid hq
    have HI : I8 q = 1 ∨ I8 q = 2 := by rcases hq with rfl | rfl; exact .inl rfl; exact .inr rfl
    have C := fun w => Cut11_c a w yE
    obtain ⟨⟨c, d, ok⟩, en⟩ : ∃ R, R = cutL a := ⟨_, rfl⟩
    rw [← en] at C
    simp only at C
    replace C := Lib.hid C
    clear hq
    cases ok with
    | true =>
     have EN : Hid (cutE a = 0) := Lib.hid (by unfold cutE; rw [← en]; rfl)
     have V := fun w => value12_c q a b w hb
     have ho := op_val (f := cutE) (b := b) HQ.out EN.out
     obtain ⟨n, en⟩ : ∃ n, n = valE q b := ⟨_, rfl⟩
     rw [← en] at V ho
     have HO := Lib.hid ho
     replace V := Lib.hid V
     clear en ho
     rename_i en0
     clear en0
     by_cases hn : n = 0
     ·subst hn
      rcases HI with HI | HI
      all_goals
       have V2 := V.out
       rw [HI] at V2
       replace V2 := Lib.hid V2
       go_wp2_with ((first | ((with_reducible refine tGuard ?_); first | ((with_reducible refine w_stripE ?_ ?_); exact dcd) | ((with_reducible refine w_skip1 ?_ ?_); exact dcd) | ((with_reducible refine w_skip0 ?_ ?_); exact dcd)) | ((with_reducible refine tLoad ?_); refine w_at _ _ rfl yI ?_; intro hx; first | (refine w_seeA M S HX.out _ _ rfl hx rfl yA yD yC ?_; clear hx; (try conv => arg 5; simp only [Act.put, List.setIfInBounds_toArray, setC, opV_eq])) | (refine w_see M S HX.out _ _ rfl hx rfl yA 0 yD rfl ?_; clear hx) | (refine w_see M S HX.out _ _ rfl hx rfl yA 1 yD rfl ?_; clear hx) | (refine w_see M S HX.out _ _ rfl hx rfl yA 2 yD rfl ?_; clear hx)) | (go_at_call 171; (refine (C.out _).mono ?_; rintro e w1 ⟨rfl, hb⟩; replace M := M.call hb; clear hb)) | (go_at_call 172; (refine (V2.out _).mono ?_; rintro e w1 ⟨rfl, hb⟩; replace M := M.call hb; clear hb)) | ((with_reducible refine tM rfl ?_); refine mS ?_; try (clear M; (first | intro g w1 M | intro w1 M); try simp only [setC] at M))) <;> (try conv => arg 5; simp only [apS, setC]))
       go_roundw
       case rel => exact ⟨k + 1, by omega, by go_num, Lib.hid fun j y hj hy => by
        rcases Nat.lt_succ_iff_lt_or_eq.1 hj with hj | rfl
        ·exact HK.out j y hj hy
        ·have := HX.out; rw [hy] at this; cases this; exact HO.out, M⟩
       case measure => simp [intOf]; omega
     ·have e : R = n := HB.out k _ _ HX.out HK.out HO.out hn
      subst e
      have hz : ((R : Int) == 0) = false := by simp; exact hn
      have hz' : ((R : Int) != 0) = true := by simp; exact hn
      clear hn
      rcases HI with HI | HI
      all_goals
       have V2 := V.out
       rw [HI] at V2
       replace V2 := Lib.hid V2
       go_wp2_with ((first | ((with_reducible refine tGuard ?_); first | ((with_reducible refine w_stripE ?_ ?_); exact dcd) | ((with_reducible refine w_skip1 ?_ ?_); exact dcd) | ((with_reducible refine w_skip0 ?_ ?_); exact dcd)) | ((with_reducible refine tLoad ?_); refine w_at _ _ rfl yI ?_; intro hx; first | (refine w_seeA M S HX.out _ _ rfl hx rfl yA yD yC ?_; clear hx; (try conv => arg 5; simp only [Act.put, List.setIfInBounds_toArray, setC, opV_eq])) | (refine w_see M S HX.out _ _ rfl hx rfl yA 0 yD rfl ?_; clear hx) | (refine w_see M S HX.out _ _ rfl hx rfl yA 1 yD rfl ?_; clear hx) | (refine w_see M S HX.out _ _ rfl hx rfl yA 2 yD rfl ?_; clear hx)) | (go_at_call 171; (refine (C.out _).mono ?_; rintro e w1 ⟨rfl, hb⟩; replace M := M.call hb; clear hb)) | (go_at_call 172; (refine (V2.out _).mono ?_; rintro e w1 ⟨rfl, hb⟩; replace M := M.call hb; clear hb)) | ((with_reducible refine tM rfl ?_); refine mS ?_; try (clear M; (first | intro g w1 M | intro w1 M); try simp only [setC] at M))) <;> (try conv => arg 5; simp only [apS, setC]))
       go_ret
       exact ⟨rfl, M.below⟩
    | false =>
     have e : R = 20 := HB.out k _ _ HX.out HK.out ((op_path HQ.out (by simp only; unfold cutE; rw [← en]; simp)).trans (by simp only; unfold cutE; rw [← en]; rfl)) yN
     subst e
     clear en
     rcases HI with HI | HI
     all_goals
      go_wp2_with ((first | ((with_reducible refine tGuard ?_); first | ((with_reducible refine w_stripE ?_ ?_); exact dcd) | ((with_reducible refine w_skip1 ?_ ?_); exact dcd) | ((with_reducible refine w_skip0 ?_ ?_); exact dcd)) | ((with_reducible refine tLoad ?_); refine w_at _ _ rfl yI ?_; intro hx; first | (refine w_seeA M S HX.out _ _ rfl hx rfl yA yD yC ?_; clear hx; (try conv => arg 5; simp only [Act.put, List.setIfInBounds_toArray, setC, opV_eq])) | (refine w_see M S HX.out _ _ rfl hx rfl yA 0 yD rfl ?_; clear hx) | (refine w_see M S HX.out _ _ rfl hx rfl yA 1 yD rfl ?_; clear hx) | (refine w_see M S HX.out _ _ rfl hx rfl yA 2 yD rfl ?_; clear hx)) | (go_at_call 171; (refine (C.out _).mono ?_; rintro e w1 ⟨rfl, hb⟩; replace M := M.call hb; clear hb)) | ((with_reducible refine tM rfl ?_); refine mS ?_; try (clear M; (first | intro g w1 M | intro w1 M); try simp only [setC] at M))) <;> (try conv => arg 5; simp only [apS, setC]))
      go_ret
      exact ⟨rfl, M.below⟩
   ·have e : R = 10 := HB.out k _ _ HX.out HK.out (op_kind hq) yN
    subst e
    obtain ⟨h1, h1'⟩ := I8_ne (q := q) (c := 1) (fun h => hq (.inl h))
    obtain ⟨h2, h2'⟩ := I8_ne (q := q) (c := 2) (fun h => hq (.inr h))
    rw [show I8 1 = 1 from rfl] at h1 h1'
    rw [show I8 2 = 2 from rfl] at h2 h2'
    clear hq
    go_wp2_with ((first | ((with_reducible refine tGuard ?_); first | ((with_reducible refine w_stripE ?_ ?_); exact dcd) | ((with_reducible refine w_skip1 ?_ ?_); exact dcd) | ((with_reducible refine w_skip0 ?_ ?_); exact dcd)) | ((with_reducible refine tLoad ?_); refine w_at _ _ rfl yI ?_; intro hx; first | (refine w_seeA M S HX.out _ _ rfl hx rfl yA yD yC ?_; clear hx; (try conv => arg 5; simp only [Act.put, List.setIfInBounds_toArray, setC, opV_eq])) | (refine w_see M S HX.out _ _ rfl hx rfl yA 0 yD rfl ?_; clear hx) | (refine w_see M S HX.out _ _ rfl hx rfl yA 1 yD rfl ?_; clear hx) | (refine w_see M S HX.out _ _ rfl hx rfl yA 2 yD rfl ?_; clear hx)) | ((with_reducible refine tM rfl ?_); refine mS ?_; try (clear M; (first | intro g w1 M | intro w1 M); try simp only [setC] at M))) <;> (try conv => arg 5; simp only [apS, setC]))
    go_ret
    exact ⟨rfl, M.below⟩
  ·obtain rfl : k = ops.length := by omega
   obtain rfl : R = 0 := HG.out fun j x hx => HK.out j x (List.getElem?_eq_some_iff.1 hx).1 hx
   go_wp2_with ((first | ((with_reducible refine tM rfl ?_); refine mS ?_; try (clear M; (first | intro g w1 M | intro w1 M); try simp only [setC] at M))) <;> (try conv => arg 5; simp only [apS, setC]))
   go_ret
   exact ⟨rfl, M.below⟩
end Go.Proofs.YtidadhbaomieiaaGreat

namespace Go.Proofs.YtidadhbaomieiaaGreat
open Go.RowKit Go.TL
theorem rBytes_c (i e : Int) (he : e ≤ 9223372036854775807) (ops : List Opr) (v : Value) (w : World) (S : SeesL w 3 opV v ops) (hl : ops.length ≤ 1000) (hm0 : ∀ x ∈ ops, x.2.1.length ≤ 100000000 ∧ x.2.2.length ≤ 100000000) :
  Calls Tryz.prog 104 #[.agg #[.int .i64 i, .int .i64 e, v]] w fun r w' => r = .returned (.tuple #[.string (mkS (bytesB i e ops).1), .int .i64 (bytesB i e ops).2]) ∧ Below w.heap.size w w' := by
 have M := Mem.start [] w
 have Y := fun w (S : SeesL w 3 opV v ops) => rRight_c i e ops v w S yE (fun x hx => by have := hm0 x hx; omega)
 have BN := @bytesB_no i e ops
 have BO := @bytesB_ok i e ops
 have RO := @right_ok i e ops
 have hm : rightB i e ops = 0 → ∀ x ∈ ops, x.2.1.length ≤ 1000 ∧ x.2.2.length ≤ 1000 := fun h x hx => by
  obtain ⟨_, k2, k3, _⟩ := right_fit h x hx
  omega
 obtain ⟨A, eA⟩ : ∃ A, A = bytesB i e ops := ⟨_, rfl⟩
 obtain ⟨R, eR⟩ : ∃ R, R = rightB i e ops := ⟨_, rfl⟩
 rw [← eA, ← eR] at BN
 rw [← eA, ← eR] at BO
 rw [← eR] at RO Y hm
 rw [← eA]
 replace Y := Lib.hid Y
 clear eA eR
 obtain ⟨p, cap, rfl, hc⟩ := S.form
 by_cases hR : R = 0
 ·subst hR
  obtain ⟨h1, h2, h3, h4, _⟩ := RO rfl
  have e0 := BO rfl
  replace hm := hm rfl
  clear BN BO RO
  obtain ⟨i, rfl⟩ : ∃ n : Nat, i = n := ⟨i.toNat, by omega⟩
  obtain ⟨e, rfl⟩ : ∃ n : Nat, e = n := ⟨e.toNat, by omega⟩
  rw [Int.toNat_natCast, Int.toNat_natCast] at e0
  unfold batB at e0
  subst e0
  have hni := numL_length_le i yE
  have hne := numL_length_le e yE
  have hnn := numL_length_le ops.length yE
  have hz : (i : Int) ≤ 4611686018427387904 := by omega
  have hz' : (e : Int) ≤ 9223372036854775807 := by omega
  have hz2 : 0 ≤ (i : Int) := by omega
  have hz3 : 0 ≤ (e : Int) := by omega
  go_enter Tryz.func104, Tryz.ntmps104
  have hmB := fun k => opsB_len (l := ops.take k) (fun x hx => hm x (List.mem_of_mem_take hx))
  go_wp2_with ((first | ((with_reducible refine tBox (some 1) ?_); refine w_box M _ _ rfl rfl _ rfl ([.int .i64 i, .int .i64 e, .slice p ops.length cap]) rfl ?_; clear M; intro gb w1 M) | (go_at_call 141; (refine (Y.out _ (S.now M)).mono ?_; rintro e w1 ⟨rfl, hb⟩; replace M := M.call hb; clear hb)) | ((with_reducible show Code.wp _ (Code.region 4 _ _) _ _ _); (have MR := M; refine region_lowc [(0, false), (4, false), (9, false), (1, false), (2, false), (5, false), (6, false), (10, false), (11, false), (12, false), (3, true), (7, true), (8, false), (13, true), (14, false), (15, false)] [(13, .int), (17, .int), (23, .int), (15, .str), (19, .str), (20, .str), (25, .str)] [(1, _), (5, _), (10, _)] (IxOk MR [0]) 16 yC yC rfl yC (lowA MR 0 0 (lowA MR 0 1 (lowA MR 0 2 lows_nil))) (ixOk_self MR _) ?_; replace M := M.drew; simp only [planC, opAt, List.getElem?_toArray, List.getElem?_cons_zero, List.getElem?_cons_succ, Option.getD_some])) | (go_at_call 143; ((first | (with_reducible refine (Num12_c i _ (I64_nat i yE) _ yE).mono ?_) | (with_reducible refine (Num12_c e _ (I64_nat e yE) _ yE).mono ?_) | (with_reducible refine (Num12_c ops.length _ (I64_nat ops.length yE) _ yE).mono ?_)); rintro e w1 ⟨rfl, hb⟩; replace M := M.call hb; clear hb)) | ((with_reducible refine tM rfl ?_); refine mB ?_; try (clear M; (first | intro g w1 M | intro w1 M); try simp only [setC] at M)) | ((with_reducible first | show Seg _ _ _ _ | show OnlyN _ _ _ _ _); refine rA ?_)) <;> (try conv => arg 5; simp only [apS, setC]))
  go_loopw [5, 6] (fun sv iv wr => ∃ (k : Nat), k ≤ ops.length ∧ iv = .int .i64 k ∧ sv = .string (mkS (numL i ++ (numL e ++ (numL ops.length ++ (ops.take k).flatMap opB)))) ∧ Mem [] w wr [.row gb [.int .i64 i, .int .i64 e, .slice p ops.length cap]]) (fun _ iv _ => ops.length - (intOf iv).toNat)
  case atStart => exact ⟨0, by omega, rfl, by simp, M⟩
  case round =>
   clear M
   obtain ⟨k, hk, rfl, rfl, M⟩ := hrel
   have hB := hmB k
   have hk2 : (ops.take k).length ≤ k := List.length_take_le _ _
   by_cases hlt : k < ops.length
   ·obtain ⟨g, so, rfl⟩ := S.addr yE
    obtain ⟨⟨q, a, b⟩, hx⟩ : ∃ x, ops[k]? = some x := ⟨_, List.getElem?_eq_getElem hlt⟩
    obtain ⟨ha, hb⟩ := hm (q, a, b) (List.mem_of_getElem? hx)
    simp only at ha hb
    have HT := Lib.hid (flatO_take hx)
    obtain ⟨d, ed⟩ : ∃ d, d = numL i ++ (numL e ++ (numL ops.length ++ (ops.take k).flatMap opB)) := ⟨_, rfl⟩
    have hd : d.length ≤ 3000000 := by rw [ed]; simp only [List.length_append]; omega
    rw [← ed]
    have ED := Lib.hid ed
    have HX := Lib.hid hx
    have hta : (textL a).length ≤ 1010 := by unfold textL; have := numL_length_le a.length yE; simp; omega
    have htb : (textL b).length ≤ 1010 := by unfold textL; have := numL_length_le b.length yE; simp; omega
    clear hx ed hmB hB
    by_cases hq : q = 1
    ·have HQ := Lib.hid hq
     have hq1 : (I8 q == 1) = true := by rw [hq]; rfl
     clear hq
     go_wp2_with ((first | ((with_reducible refine tLoad ?_); refine w_at _ _ rfl yI ?_; intro hx; first | (refine w_seeA M S HX.out _ _ rfl hx rfl yA yD yC ?_; clear hx) | (refine w_see M S HX.out _ _ rfl hx rfl yA 0 yD rfl ?_; clear hx) | (refine w_see M S HX.out _ _ rfl hx rfl yA 1 yD rfl ?_; clear hx) | (refine w_see M S HX.out _ _ rfl hx rfl yA 2 yD rfl ?_; clear hx)) | (go_at_call 144; (refine (Text12_c _ _ yE).mono ?_; rintro e w1 ⟨rfl, hb⟩; replace M := M.call hb; clear hb)) | ((with_reducible refine tU 70 ?_); refine mU ?_; clear M; intro g w1 M) | ((with_reducible show Code.wp _ (Code.region 8 _ _) _ _ _); (have MR := M; refine region_fork (.rd 0 (.rd 1 (.rd 3 (.rd 10 (.rd 12 (.rd 2 (.rd 4 (.rd 5 (.rd 6 (.rd 11 (.rd 13 (.rd 14 (.rd 15 (.alt 7 (.alt 8 (.rd 9 (.wr 16 (.rd 17 (.rd 18 .nil)))) (.wr 16 (.wr 8 (.rd 9 (.rd 17 (.rd 18 .nil)))))) (.wr 16 (.wr 7 (.wr 8 (.rd 9 (.rd 17 (.rd 18 .nil)))))))))))))))))))) [(34, .str), (42, .str), (43, .str), (50, .str)] [(2, _), (6, _), (11, _), (15, _)] (IxOk MR [0]) 19 yC yC rfl yC (lowA MR 0 2 (lows_cons (stab_see MR S HX.out 0 rfl yA rfl) (lowA MR 0 2 (lows_cons (stab_see MR S HX.out 1 rfl yA rfl) lows_nil)))) (ixOk_self MR _) ?_; replace M := M.drew; simp only [planT, opAt, List.getElem?_toArray, List.getElem?_cons_zero, List.getElem?_cons_succ, Option.getD_some])) | (with_reducible refine Seg.alt ?_ ?_) | ((with_reducible refine tM rfl ?_); refine mB ?_; try (clear M; (first | intro g w1 M | intro w1 M); try simp only [setC] at M)) | ((with_reducible first | show Seg _ _ _ _ | show OnlyN _ _ _ _ _); refine rA ?_)) <;> (try conv => arg 5; simp only [apS, setC]))
     all_goals
      go_roundw
      case rel => exact ⟨k + 1, by omega, by go_num, by
       rw [HT.out, opB_put HQ.out]
       have e9 : numL i ++ (numL e ++ (numL ops.length ++ ((ops.take k).flatMap opB ++ ([q] ++ textL a ++ textL b)))) = d ++ [q] ++ textL a ++ textL b := by rw [ED.out]; simp only [List.append_assoc]
       rw [e9]; simp only [List.append_assoc, List.cons_append, List.nil_append], M.tail⟩
      case measure => simp [intOf]; omega
    ·have HQ := Lib.hid hq
     obtain ⟨hq1, hq2⟩ := I8_ne (q := q) (c := 1) hq
     rw [show I8 1 = 1 from rfl] at hq1 hq2
     clear hq
     go_wp2_with ((first | ((with_reducible refine tLoad ?_); refine w_at _ _ rfl yI ?_; intro hx; first | (refine w_seeA M S HX.out _ _ rfl hx rfl yA yD yC ?_; clear hx) | (refine w_see M S HX.out _ _ rfl hx rfl yA 0 yD rfl ?_; clear hx) | (refine w_see M S HX.out _ _ rfl hx rfl yA 1 yD rfl ?_; clear hx) | (refine w_see M S HX.out _ _ rfl hx rfl yA 2 yD rfl ?_; clear hx)) | (go_at_call 144; (refine (Text12_c _ _ yE).mono ?_; rintro e w1 ⟨rfl, hb⟩; replace M := M.call hb; clear hb)) | ((with_reducible refine tU 70 ?_); refine mU ?_; clear M; intro g w1 M) | ((with_reducible show Code.wp _ (Code.region 8 _ _) _ _ _); (have MR := M; refine region_fork (.rd 0 (.rd 1 (.rd 3 (.rd 10 (.rd 12 (.rd 2 (.rd 4 (.rd 5 (.rd 6 (.rd 11 (.rd 13 (.rd 14 (.rd 15 (.alt 7 (.alt 8 (.rd 9 (.wr 16 (.rd 17 (.rd 18 .nil)))) (.wr 16 (.wr 8 (.rd 9 (.rd 17 (.rd 18 .nil)))))) (.wr 16 (.wr 7 (.wr 8 (.rd 9 (.rd 17 (.rd 18 .nil)))))))))))))))))))) [(34, .str), (42, .str), (43, .str), (50, .str)] [(2, _), (6, _), (11, _), (15, _)] (IxOk MR [0]) 19 yC yC rfl yC (lowA MR 0 2 (lows_cons (stab_see MR S HX.out 0 rfl yA rfl) (lowA MR 0 2 (lows_cons (stab_see MR S HX.out 1 rfl yA rfl) lows_nil)))) (ixOk_self MR _) ?_; replace M := M.drew; simp only [planT, opAt, List.getElem?_toArray, List.getElem?_cons_zero, List.getElem?_cons_succ, Option.getD_some])) | (with_reducible refine Seg.alt ?_ ?_) | ((with_reducible refine tM rfl ?_); refine mB ?_; try (clear M; (first | intro g w1 M | intro w1 M); try simp only [setC] at M)) | ((with_reducible first | show Seg _ _ _ _ | show OnlyN _ _ _ _ _); refine rA ?_)) <;> (try conv => arg 5; simp only [apS, setC]))
     all_goals
      go_roundw
      case rel => exact ⟨k + 1, by omega, by go_num, by
       rw [HT.out, opB_del HQ.out]
       have e9 : numL i ++ (numL e ++ (numL ops.length ++ ((ops.take k).flatMap opB ++ ([q] ++ textL a)))) = d ++ [q] ++ textL a := by rw [ED.out]; simp only [List.append_assoc]
       rw [e9]; simp only [List.append_assoc, List.cons_append, List.nil_append], M.tail⟩
      case measure => simp [intOf]; omega
   ·obtain rfl : k = ops.length := by omega
    rw [List.take_length]
    go_wp2_with ((first | ((with_reducible refine tM rfl ?_); refine mB ?_; try (clear M; (first | intro g w1 M | intro w1 M); try simp only [setC] at M))) <;> (try conv => arg 5; simp only [apS, setC]))
    go_ret2
    exact ⟨rfl, M.below⟩
 ·have e0 := BN hR
  subst e0
  clear BN BO RO
  have hz : ((R : Int) == 0) = false := by simp; exact hR
  have hz' : ((R : Int) != 0) = true := by simp; exact hR
  clear hR
  go_enter Tryz.func104, Tryz.ntmps104
  go_wp2_with ((first | ((with_reducible refine tBox (some 1) ?_); refine w_box M _ _ rfl rfl _ rfl ([.int .i64 i, .int .i64 e, .slice p ops.length cap]) rfl ?_; clear M; intro gb w1 M) | (go_at_call 141; (refine (Y.out _ (S.now M)).mono ?_; rintro e w1 ⟨rfl, hb⟩; replace M := M.call hb; clear hb)) | ((with_reducible refine tM rfl ?_); refine mB ?_; try (clear M; (first | intro g w1 M | intro w1 M); try simp only [setC] at M))) <;> (try conv => arg 5; simp only [apS, setC]))
  go_ret2
  exact ⟨rfl, M.below⟩
end Go.Proofs.YtidadhbaomieiaaGreat

namespace Go
namespace TL
open Go.RowKit
end TL
end Go
namespace Go.Proofs.YtidadhbaomieiaaGreat
open Go.RowKit Go.TL
end Go.Proofs.YtidadhbaomieiaaGreat

namespace Go
namespace TL
theorem sumP_mem : ∀ {l : List (List UInt8 × List UInt8)}, sumP l ≤ 30000 → ∀ x ∈ l, x.1.length ≤ 30000 ∧ x.2.length ≤ 30000
 | [], _, x, h => by cases h
 | y :: l, h, x, hx => by
  rw [sumP] at h
  rcases List.mem_cons.1 hx with rfl | hx
  ·omega
  ·exact sumP_mem yE x hx
theorem sumO_mem : ∀ {l : List Opr}, sumO l ≤ 30000 → ∀ x ∈ l, x.2.1.length ≤ 30000 ∧ x.2.2.length ≤ 30000
 | [], _, x, h => by cases h
 | y :: l, h, x, hx => by
  rw [sumO] at h
  rcases List.mem_cons.1 hx with rfl | hx
  ·omega
  ·exact sumO_mem yE x hx
theorem prsB_sum : ∀ {l : List (List UInt8 × List UInt8)}, sumP l ≤ 30000 → (l.flatMap prBm).length ≤ l.length * 20 + sumP l
 | [], _ => by simp
 | x :: l, h => by
  rw [sumP] at h
  have h1 := prsB_sum (l := l) yE
  have h2 := numL_length_le x.1.length yE
  have h3 := numL_length_le x.2.length yE
  simp only [List.flatMap_cons, List.length_append, List.length_cons, prBm, textL, sumP]; omega
theorem great_rng {L : Lm} (hn : ∀ q : Mf, -9223372036854775808 ≤ q.gl L ∧ q.gl L ≤ 9223372036854775807) (hb : L.be ≤ 9223372036854775807) (h : greatL L = false) : L.rng := by
 unfold greatL at h
 simp only [Bool.or_eq_false_iff, decide_eq_false_iff_not] at h
 obtain ⟨h1, h2, h3⟩ := h
 rw [List.take_of_length_le yE, List.take_of_length_le yE] at h3
 have hp : sumP L.prs ≤ 30000 := by omega
 have ho : sumO L.ops ≤ 30000 := by omega
 have := prsB_sum hp
 exact ⟨hn, hb, by omega, fun x hx => by have := sumO_mem ho x hx; omega, by omega, fun x hx => by have := sumP_mem hp x hx; omega, by omega⟩
theorem bytesM_cases {L : Lm} (hL : L.fit) (hr : L.rng) : (∃ e, e ≠ 0 ∧ bytesM L = ([], e)) ∨ (isK L.k = true ∧ okL L = true ∧ onlyL L = L ∧ bytesM L = (bytesL L, 0)) := by
 rw [bytesM_eq hL hr]
 by_cases hk : isK L.k = true
 ·rw [if_pos hk]
  by_cases ho : okL L = true ∧ onlyL L = L
  ·rw [if_pos ho]; exact .inr ⟨hk, ho.1, ho.2, rfl⟩
  ·rw [if_neg ho]; exact .inl ⟨1, by decide, rfl⟩
 ·rw [if_neg hk]; exact .inl ⟨10, by decide, rfl⟩
end TL
end Go
