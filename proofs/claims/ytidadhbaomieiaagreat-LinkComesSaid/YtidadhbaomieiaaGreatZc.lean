/- Texts of this seat, put together: Pad, Low, Tag, Equal, Heap. Each begins with a remark that says what is proved in it, and under which conditions. -/
import Derived.Test.YtidadhbaomieiaaGreatY
import Derived.Deep.MidRow
import Derived.Great.BuildSlice
import Derived.Test.YtidadhbaomieiaaGreatZa
import Derived.Test.YtidadhbaomieiaaGreatZb
set_option maxRecDepth 100000
set_option maxHeartbeats 16000000
namespace Go
namespace TL
open Go.RowKit
def keyL (key : List UInt8) : List UInt8 := if 64 < key.length then shaL key else key
def keyB (key : List UInt8) : List UInt8 := keyL key ++ List.replicate (64 - (keyL key).length) 0
def macPad (key : List UInt8) (x : UInt8) : List UInt8 := (keyB key).map (· ^^^ x)
theorem qDk (key : List UInt8) : (keyL key).length ≤ 64 := by
 unfold keyL; split
 ·rw [qBb]; omega
 ·omega
theorem qBe (key : List UInt8) : (keyB key).length = 64 := by
 have := qDk key
 simp [keyB]; omega
def padK (l : List UInt8) (x : UInt8) (k : Nat) : List UInt8 := (l.take k).map (· ^^^ x) ++ l.drop k
theorem qCi (l : List UInt8) (x : UInt8) (k : Nat) : (padK l x k).length = l.length := by
 simp [padK]; omega
theorem padK_get (l : List UInt8) (x : UInt8) (k : Nat) (h : k < l.length) : (padK l x k)[k]? = some l[k] := by
 unfold padK
 rw [List.getElem?_append_right yC1]
 simp [List.length_take, Nat.min_eq_left (Nat.le_of_lt h), h]
theorem padK_set (l : List UInt8) (x : UInt8) (k : Nat) (h : k < l.length) : (padK l x k).set k (l[k] ^^^ x) = padK l x (k + 1) := by
 unfold padK
 rw [List.set_append_right _ _ yC1]
 simp only [List.length_map, List.length_take, Nat.min_eq_left (Nat.le_of_lt h), Nat.sub_self]
 rw [List.drop_eq_getElem_cons h, List.set_cons_zero, List.take_succ_eq_append_getElem h, List.map_append, List.append_assoc]
 rfl
theorem padK_all (key : List UInt8) (x : UInt8) : padK (keyB key) x 64 = macPad key x := by
 unfold padK macPad
 rw [← qBe key, List.take_length, List.drop_length, List.append_nil]
structure MI (w wr : World) (g : Nat) (l : List UInt8) : Prop where
 bel : Below w.heap.size w wr
 lo : w.heap.size ≤ g
 lt : g < wr.heap.size
 got : wr.rangeAt g 0 (l.map vb)
 out : wr.there g 0 64
theorem MI.set {w wr : World} {g : Nat} {l : List UInt8} (h : MI w wr g l) (k : Nat) (hk : k < l.length) (y : UInt8) : MI w (wr.setCell ⟨g, k, none⟩ (vb y)) g (l.set k y) := by
 refine ⟨h.bel.setCell h.lo _, h.lo, by simpa using h.lt, ?_, qAo h.out _ _⟩
 have := qBq h.got k (by simpa using hk) (vb y)
 rw [Nat.zero_add] at this
 rwa [List.map_set]
theorem MI.copied {w wr : World} {g : Nat} (hb : Below w.heap.size w wr) (lo : w.heap.size ≤ g) (lt : g < wr.heap.size) (hr : wr.rangeAt g 0 (List.replicate 64 (Value.int .u8 0))) (ht : wr.there g 0 64) (K : List UInt8) (hK : K.length ≤ 64) :
  MI w (wr.setCells g 0 (K.map vb)) g (K ++ List.replicate (64 - K.length) 0) := by
 refine ⟨below_setCells lo _ _ _ hb, lo, by rw [size_setCells]; exact lt, ?_, World.there_setCells ht _ _ _⟩
 rw [List.map_append]
 refine qAv (World.rangeAt_setCells_same _ _ _ _ (qAr ht (by simpa using hK))) ?_
 rw [Nat.zero_add, List.length_map]
 refine World.rangeAt_setCells_apart ?_ _ _ _ (.inr (.inr yB1))
 have := qBF hr K.length
 rw [Nat.zero_add, List.drop_replicate] at this
 simpa [vb, I8_eq] using this
theorem MI.sees {w wr : World} {g : Nat} {l : List UInt8} (h : MI w wr g l) (hl : l.length = 64) : SeesB wr (.slice (some ⟨g, 0, none⟩) 64 64) l := by
 refine ⟨by simp, .inr ⟨g, 0, 64, by rw [hl], h.lt, by omega, by simp [maxLen], h.got⟩⟩
end TL
end Go
namespace Go.Proofs.YtidadhbaomieiaaGreat
open Go.RowKit Go.TL
theorem pad_any (key : ByteArray) (x : UInt8) (w : World) (hs : key.size ≤ 1000000000000) :
  Calls Tryz.prog 88 #[.string key, .int .u8 (I8 x)] w fun e w' => e = .returned (.string ⟨(macPad (bytesOf key) x).toArray⟩) ∧ Below w.heap.size w w' := by
 by_cases hk : 64 < key.size
 ·have EK : Hid (bytesOf ⟨(shaL (bytesOf key)).toArray⟩ = keyL (bytesOf key)) := Lib.hid (by rw [keyL, if_pos (by rw [bytesOf_length]; exact hk)]; rfl)
  have HK : Hid (ByteArray.size ⟨(shaL (bytesOf key)).toArray⟩ ≤ 64) := Lib.hid (by show (shaL (bytesOf key)).toArray.size ≤ 64; simp [qBb])
  go_enter Tryz.func88, Tryz.ntmps88
  go_wp2_with (first | (go_at_call 87; (refine (qEV key w hs).mono ?_; rintro e w1 ⟨rfl, hb1⟩; have Hb1 := Lib.hid hb1; clear hb1)) | ((with_reducible show wpList _ _ _ (Oper.mk _ (Op.alloc 64) _ _ _ _ :: _) _ _); (refine qAz rfl _ rfl (Array.replicate 32 (.int .u8 0)) yD ?_; intro w2 hb2 hs2 hr2 ht2; have Hb2 := Lib.hid hb2; clear hb2 hr2; have Hs2 := Lib.hid hs2; clear hs2; have Ht2 := Lib.hid ht2; clear ht2)) | ((with_reducible show wpList _ _ _ (Oper.mk none (Op.store 64 _ _) _ _ _ _ :: _) _ _); (refine qAn rfl 64 _ _ rfl w1.heap.size 0 ((shaL (bytesOf key)).map vb) rfl rfl (by exact Ht2.out) yD (qDp _) ?_; have hrs2 : (convert 70 9 (.slice (some ⟨w1.heap.size, 0, none⟩) 32 32)).run Tryz.prog (w2.setCells w1.heap.size 0 ((shaL (bytesOf key)).map vb)) = .ok (.string ⟨(shaL (bytesOf key)).toArray⟩) (w2.setCells w1.heap.size 0 ((shaL (bytesOf key)).map vb)) := SeesB.run_string (l := shaL (bytesOf key)) ⟨by simp, .inr ⟨w1.heap.size, 0, 32, by rw [qBb], by rw [size_setCells]; have := Hs2.out; omega, by simp [qBb], by simp [maxLen], World.rangeAt_setCells_same _ _ _ _ (by exact Ht2.out)⟩⟩ 70 9 5 Tryz.underlying70 Tryz.underlying5 Tryz.underlying9 _ (grownBy_refl _ _); obtain ⟨wS, eS⟩ : ∃ wS, wS = w2.setCells w1.heap.size 0 ((shaL (bytesOf key)).map vb) := ⟨_, rfl⟩; have HbS : Hid (Below w.heap.size w wS) := Lib.hid (by rw [eS]; exact below_setCells Hb1.out.size _ _ _ (Hb1.out.trans (Hb2.out.mono Hb1.out.size))); rw [← eS] at hrs2; rw [← eS]; clear eS)) | ((with_reducible show wpList _ _ _ (Oper.mk _ (Op.alloc 209) _ _ _ _ :: _) _ _); (refine qAz rfl _ rfl (Array.replicate 64 (.int .u8 0)) yD ?_; intro w3 hb3 hs3 hr3 ht3; have Hb3 := Lib.hid hb3; clear hb3; have Hs3 := Lib.hid hs3; clear hs3; have Hr3 := Lib.hid hr3; clear hr3; have Ht3 := Lib.hid ht3; clear ht3)) | ((with_reducible show wpList _ _ _ (Oper.mk _ (Op.call ⟨Callee.builtin Builtin.copy, _, _⟩) _ _ _ _ :: _) _ _); (refine qDa bytesT rfl _ _ 9 rfl wS.heap.size 0 64 64 rfl (.string (ByteArray.mk (shaL (bytesOf key)).toArray)) (ByteArray.mk (shaL (bytesOf key)).toArray).size _ rfl (qEf _ _) (ByteArray.mk (shaL (bytesOf key)).toArray).size (by exact (Nat.min_eq_left HK.out).symm) (by rw [Nat.mul_one]; exact qAr (by simpa using Ht3.out) HK.out) ?_)))
  have BW : Hid (Below w.heap.size w w3) := Lib.hid (HbS.out.trans (Hb3.out.mono HbS.out.size))
  have LO : Hid (w.heap.size ≤ wS.heap.size) := Lib.hid HbS.out.size
  have M0 : Hid (MI w (w3.setCells wS.heap.size 0 ((((ByteArray.mk (shaL (bytesOf key)).toArray)).data.toList.map vb).take (((ByteArray.mk (shaL (bytesOf key)).toArray)).size * 1))) wS.heap.size (padK (keyB (bytesOf key)) x 0)) := Lib.hid (by
   have := MI.copied BW.out (LO.out) (by have := Hs3.out; omega) (by simpa using Hr3.out) (by simpa using Ht3.out) (bytesOf (ByteArray.mk (shaL (bytesOf key)).toArray)) (by rw [bytesOf_length]; exact HK.out)
   rw [show padK (keyB (bytesOf key)) x 0 = keyB (bytesOf key) from rfl, keyB, ← EK.out, show (((ByteArray.mk (shaL (bytesOf key)).toArray)).data.toList.map vb).take (((ByteArray.mk (shaL (bytesOf key)).toArray)).size * 1) = (bytesOf (ByteArray.mk (shaL (bytesOf key)).toArray)).map vb from by rw [Nat.mul_one, ← bytesOf_length, ← List.length_map (f := vb)]; exact List.take_length]
   exact this)
  clear Hb3 Hs3 Hr3 Ht3
  go_simp
  go_loopw [18] (fun iv wr => ∃ k : Nat, k ≤ 64 ∧ iv = .int .i64 k ∧ MI w wr wS.heap.size (padK (keyB (bytesOf key)) x k)) (fun iv _ => 64 - (intOf iv).toNat)
  case atStart => exact ⟨0, by omega, rfl, by first | exact M0.out | (have := M0.out; rw [Nat.mul_one] at this; exact this)⟩
  case round =>
   clear M0
   obtain ⟨k, hk64, rfl, M⟩ := hrel
   have M' := Lib.hid M; clear M
   by_cases hlt : k < 64
   ·have hkl : k < (keyB (bytesOf key)).length := by rw [qBe]; exact hlt
    obtain ⟨y, hy⟩ : ∃ y, y = (keyB (bytesOf key))[k] := ⟨_, rfl⟩
    have c1 : wr.cell? ⟨wS.heap.size, k, none⟩ = some (.int .u8 (I8 y)) := by
     have := M'.out.got k (vb y) (by rw [List.getElem?_map, padK_get _ _ _ hkl, hy]; rfl)
     rwa [Nat.zero_add] at this
    have c2 : wr.frozen? ⟨wS.heap.size, k, none⟩ = false := by
     have := (M'.out.out k hlt).2
     rwa [Nat.zero_add] at this
    have M1 := Lib.hid (M'.out.set k (by rw [qCi]; exact hkl) (y ^^^ x))
    rw [hy, padK_set _ _ _ hkl, ← hy] at M1
    clear hy hkl
    go_wp2_with fail
    go_roundw
    case rel => exact ⟨k + 1, by omega, by go_num, M1.out⟩
    case measure => simp [intOf]; omega
   ·have hk' : k = 64 := by omega
    subst hk'
    have hrs := SeesB.run_string (M'.out.sees (by rw [qCi, qBe])) 70 9 5 Tryz.underlying70 Tryz.underlying5 Tryz.underlying9 _ (grownBy_refl _ _)
    rw [padK_all] at hrs
    go_wp2_with fail
    go_ret
    exact ⟨rfl, M'.out.bel⟩
 ·have EK : Hid (bytesOf key = keyL (bytesOf key)) := Lib.hid (by rw [keyL, if_neg (by rw [bytesOf_length]; exact hk)])
  have HK : Hid (key.size ≤ 64) := Lib.hid yF
  go_enter Tryz.func88, Tryz.ntmps88
  go_wp2_with (first | ((with_reducible show wpList _ _ _ (Oper.mk _ (Op.alloc 209) _ _ _ _ :: _) _ _); (refine qAz rfl _ rfl (Array.replicate 64 (.int .u8 0)) yD ?_; intro w3 hb3 hs3 hr3 ht3; have Hb3 := Lib.hid hb3; clear hb3; have Hs3 := Lib.hid hs3; clear hs3; have Hr3 := Lib.hid hr3; clear hr3; have Ht3 := Lib.hid ht3; clear ht3)) | ((with_reducible show wpList _ _ _ (Oper.mk _ (Op.call ⟨Callee.builtin Builtin.copy, _, _⟩) _ _ _ _ :: _) _ _); (refine qDa bytesT rfl _ _ 9 rfl w.heap.size 0 64 64 rfl (.string (key)) (key).size _ rfl (qEf _ _) (key).size (by exact (Nat.min_eq_left HK.out).symm) (by rw [Nat.mul_one]; exact qAr (by simpa using Ht3.out) HK.out) ?_)))
  have BW : Hid (Below w.heap.size w w3) := Lib.hid Hb3.out
  have LO : Hid (w.heap.size ≤ w.heap.size) := Lib.hid (Nat.le_refl _)
  have M0 : Hid (MI w (w3.setCells w.heap.size 0 (((key).data.toList.map vb).take ((key).size * 1))) w.heap.size (padK (keyB (bytesOf key)) x 0)) := Lib.hid (by
   have := MI.copied BW.out (LO.out) (by have := Hs3.out; omega) (by simpa using Hr3.out) (by simpa using Ht3.out) (bytesOf key) (by rw [bytesOf_length]; exact HK.out)
   rw [show padK (keyB (bytesOf key)) x 0 = keyB (bytesOf key) from rfl, keyB, ← EK.out, show ((key).data.toList.map vb).take ((key).size * 1) = (bytesOf key).map vb from by rw [Nat.mul_one, ← bytesOf_length, ← List.length_map (f := vb)]; exact List.take_length]
   exact this)
  clear Hb3 Hs3 Hr3 Ht3
  go_simp
  go_loopw [18] (fun iv wr => ∃ k : Nat, k ≤ 64 ∧ iv = .int .i64 k ∧ MI w wr w.heap.size (padK (keyB (bytesOf key)) x k)) (fun iv _ => 64 - (intOf iv).toNat)
  case atStart => exact ⟨0, by omega, rfl, by first | exact M0.out | (have := M0.out; rw [Nat.mul_one] at this; exact this)⟩
  case round =>
   clear M0
   obtain ⟨k, hk64, rfl, M⟩ := hrel
   have M' := Lib.hid M; clear M
   by_cases hlt : k < 64
   ·have hkl : k < (keyB (bytesOf key)).length := by rw [qBe]; exact hlt
    obtain ⟨y, hy⟩ : ∃ y, y = (keyB (bytesOf key))[k] := ⟨_, rfl⟩
    have c1 : wr.cell? ⟨w.heap.size, k, none⟩ = some (.int .u8 (I8 y)) := by
     have := M'.out.got k (vb y) (by rw [List.getElem?_map, padK_get _ _ _ hkl, hy]; rfl)
     rwa [Nat.zero_add] at this
    have c2 : wr.frozen? ⟨w.heap.size, k, none⟩ = false := by
     have := (M'.out.out k hlt).2
     rwa [Nat.zero_add] at this
    have M1 := Lib.hid (M'.out.set k (by rw [qCi]; exact hkl) (y ^^^ x))
    rw [hy, padK_set _ _ _ hkl, ← hy] at M1
    clear hy hkl
    go_wp2_with fail
    go_roundw
    case rel => exact ⟨k + 1, by omega, by go_num, M1.out⟩
    case measure => simp [intOf]; omega
   ·have hk' : k = 64 := by omega
    subst hk'
    have hrs := SeesB.run_string (M'.out.sees (by rw [qCi, qBe])) 70 9 5 Tryz.underlying70 Tryz.underlying5 Tryz.underlying9 _ (grownBy_refl _ _)
    rw [padK_all] at hrs
    go_wp2_with fail
    go_ret
    exact ⟨rfl, M'.out.bel⟩
end Go.Proofs.YtidadhbaomieiaaGreat

namespace Go
namespace TL
def Seg (F : Act → World → Prop) : Exit → Act → World → Prop
 | .normal, a, w => F a w
 | _, _, _ => False
theorem Seg.intro {F : Act → World → Prop} {a : Act} {w : World} (h : F a w) : Seg F .normal a w := h
theorem Seg.letsOut {F : Act → World → Prop} (h : LetsOut (Seg F)) : False := by
 obtain ⟨a, w, h⟩ := h; exact h
theorem Oper.wp_seg {P : Program} {o : Oper} {a : Act} {w : World} {K K' : Act → World → Prop} {F F' : Act → World → Prop} (h : ∀ a w, K a w → K' a w) (hh : o.wp P a w K (Seg F)) : o.wp P a w K' (Seg F') := by
 unfold Oper.wp at *
 generalize (execOp a.eval o).run P w = r at *
 cases r with
 | ok n w1 =>
  cases n <;> simp only [Oper.upon] at hh ⊢
  case value v => exact h _ _ hh
  case skip => exact h _ _ hh
  case defer d => exact h _ _ hh
  case enter f args =>
   refine Calls.mono hh fun e w2 h2 => ?_
   cases e with
   | returned v => exact h _ _ h2
   | panicked c => exact h2.elim
   | outgrown => exact (Seg.letsOut h2).elim
  case row row args => exact fun b k => let ⟨v, w2, h1, h2⟩ := hh b k; ⟨v, w2, h _ _ h1, h2⟩
 | halt x w1 => cases x <;> simp only [Oper.upon] at hh <;> exact hh.elim
section
variable {P : Program} {ops : Array Oper} {Q : Exit → Act → World → Prop} {md : Region.Mode} {I : World → Prop}
def wpAnyI (P : Program) (md : Region.Mode) (ops : Array Oper) (Q : Exit → Act → World → Prop) (I : World → Prop) : Nat → Array Bool → Act → World → Prop
 | 0, listed, a, w => Region.ready md ops listed = [] ∧ Q .normal a w
 | fuel + 1, listed, a, w =>
  (Region.ready md ops listed = [] → Q .normal a w) ∧
  ∀ j ∈ Region.ready md ops listed, wpOp P ops Q j (fun a' w' => I w' ∧ wpAnyI P md ops Q I fuel (listed.setIfInBounds j true) a' w') a w
theorem qGF : ∀ (fuel : Nat) (listed : Array Bool) (a : Act) (w : World), wpAnyI P md ops Q I fuel listed a w → wpAny P md ops Q fuel listed a w
 | 0, _, _, _, h => h
 | fuel + 1, _, _, _, h => ⟨h.1, fun j hj => wpOp_mono (fun a' w' h' => qGF fuel _ a' w' h'.2) (h.2 j hj)⟩
theorem I_first {i : Nat} {oi : Oper} {v : Value} (hi : ops[i]? = some oi) (hsel : ∀ (j : Nat) (o : Oper) cs b, ops[j]? = some o → o.op ≠ .select cs b)
  (hQ : ∀ c a w, Q (.panic c) (a.put oi.dst v) w → Q (.panic c) a w) :
  ∀ (fuel : Nat) (listed : Array Bool) (a : Act) (w : World),
   (∀ j oj, ops[j]? = some oj → j ≠ i → listed.getD j true = false → (∀ e ∈ oj.after, Region.binds md e = true → e.on ≠ i) → oi.apart ops oj = true) →
   i ∈ Region.ready md ops listed → YieldsIf P ops I oi v a → I w →
   wpAnyI P md ops Q I fuel (listed.setIfInBounds i true) (a.put oi.dst v) w → wpAnyI P md ops Q I (fuel + 1) listed a w := by
 intro fuel
 induction fuel with
 | zero =>
  intro listed a w _ hr hy hw H
  refine ⟨fun h => (by rw [h] at hr; cases hr), fun j hj => ?_⟩
  by_cases hji : j = i
  ·subst hji; exact hy.wpOp hi hw ⟨hw, H⟩
  ·have := ready_mono hj hji
   rw [H.1] at this
   cases this
 | succ fuel ih =>
  intro listed a w hfree hr hy hw H
  refine ⟨fun h => (by rw [h] at hr; cases hr), fun j hj => ?_⟩
  by_cases hji : j = i
  ·subst hji; exact hy.wpOp hi hw ⟨hw, H⟩
  ·have h1 := H.2 j (ready_mono hj hji)
   obtain ⟨hjun, oj, hoj, hall⟩ := mem_ready.1 hj
   have hnot := qEF hr hoj hall
   have h2 := wpOp_putIf hoj (hfree j oj hoj hji hjun hnot) (fun cs b => hsel i oi cs b hi) (fun cs b => hsel j oj cs b hoj) hQ hy h1
   have hfree' : ∀ k ok, ops[k]? = some ok → k ≠ i → (listed.setIfInBounds j true).getD k true = false →
     (∀ e ∈ ok.after, Region.binds md e = true → e.on ≠ i) → oi.apart ops ok = true := fun k ok hk hki hun hno => by
    refine hfree k ok hk hki ?_ hno
    by_cases hjk : j = k
    ·subst hjk; exact hjun
    ·rw [getD_set_ne true hjk] at hun; exact hun
   refine wpOp_mono (fun a' w' h3 => ⟨h3.2.1, ih (listed.setIfInBounds j true) a' w' hfree' (ready_mono hr (Ne.symm hji)) h3.1 h3.2.1 ?_⟩) h2
   rw [Array.setIfInBounds_comm _ _ hji]; exact h3.2.2
end
/-! ### The walk -/
def planW (P : Program) (ops : Array Oper) (fin : Act → World → Prop) (I : World → Prop) : Plan → List Oper × (Act → World → Prop)
 | [] => ([], fin)
 | (i, false) :: r => (opAt ops i :: (planW P ops fin I r).1, (planW P ops fin I r).2)
 | (i, true) :: r => ([opAt ops i], fun a w => I w ∧ wpList P ops (Seg (planW P ops fin I r).2) (planW P ops fin I r).1 a w)
def lowOpnd (o : Oper) : Operand := match o.op with | .load _ x => x | .convert _ _ x => x | _ => .const undef
def Stab (P : Program) (I : World → Prop) (o : Oper) (p : Value) : Prop :=
 match o.op with
 | .load t _ => ∃ v, ∀ w, I w → (Instr.loadAt t p).run P w = .ok v w
 | .convert src dst _ => ∃ v, ∀ w, I w → (convert src dst p).run P w = .ok v w
 | _ => False
def finI (ops : Array Oper) (need : Needs) (low : List (Nat × Value)) (Q : Exit → Act → World → Prop) : Act → World → Prop := fun a w =>
 needOk need a = true ∧ (∀ x ∈ low, a.eval (lowOpnd (opAt ops x.1)) = x.2) ∧ Q .normal a w
def staysLow (ops : Array Oper) (o : Oper) (r : Plan) : Bool := r.all fun x => match (opAt ops x.1).dst with | some d => !(tmpsIn o).contains d | none => true
def detI (P : Program) (ops : Array Oper) (need : Needs) (idx : List Nat) : Array Bool → Plan → Bool
 | listed, [] => (Region.ready .any ops listed).isEmpty
 | listed, (i, false) :: r =>
  (Region.ready .any ops listed).contains i && Region.free .any ops listed i &&
   ((stays ops need (opAt ops i) ((i, false) :: r) && pureOp P (needOf need (opAt ops i)) (opAt ops i)) || (idx.contains i && staysLow ops (opAt ops i) ((i, false) :: r))) &&
   detI P ops need idx (listed.setIfInBounds i true) r
 | listed, (i, true) :: r => Region.ready .any ops listed == [i] && detI P ops need idx (listed.setIfInBounds i true) r
section
variable {P : Program} {ops : Array Oper} {I : World → Prop} {fin : Act → World → Prop}
theorem stepS {F : Act → World → Prop} {o : Oper} {l : List Oper} {a : Act} {w : World} (h : wpList P ops (Seg F) (o :: l) a w) :
  ∃ a' w', wpList P ops (Seg F) l a' w' ∧ ∀ t, o.dst ≠ some t → a'.tmps.getD t undef = a.tmps.getD t undef := by
 unfold wpList at h
 split at h
 ·rcases h with h | h
  ·unfold Oper.wp at h
   generalize (execOp a.eval o).run P w = r at h
   cases r with
   | ok n w1 =>
    cases n <;> simp only [Oper.upon] at h
    case value v => exact ⟨_, _, h, fun t ht => qCo ht⟩
    case skip => exact ⟨_, _, h, fun t ht => qCo ht⟩
    case defer d => exact ⟨_, _, h, fun t ht => qCo (a := { a with defers := d :: a.defers }) ht⟩
    case enter f args =>
     obtain ⟨e, w2, fr, hR, _⟩ := h []
     cases e with
     | returned v => exact ⟨_, _, hR, fun t ht => qCo ht⟩
     | panicked c => exact hR.elim
     | outgrown => exact (Seg.letsOut hR).elim
    case row row args =>
     obtain ⟨v, w2, hR, _⟩ := h default []
     exact ⟨_, _, hR, fun t ht => qCo ht⟩
   | halt x w1 => cases x <;> simp only [Oper.upon] at h <;> exact h.elim
  ·exact (Seg.letsOut h.2).elim
 ·exact ⟨_, _, h, fun t ht => qCo ht⟩
theorem endsP : ∀ (plan : Plan) (a : Act) (w : World), wpList P ops (Seg (planW P ops fin I plan).2) (planW P ops fin I plan).1 a w →
  ∃ af wf, fin af wf ∧ ∀ t, (∀ x ∈ plan, (opAt ops x.1).dst ≠ some t) → af.tmps.getD t undef = a.tmps.getD t undef
 | [], a, w, h => ⟨a, w, h, fun _ _ => rfl⟩
 | (i, false) :: r, a, w, h => by
  obtain ⟨a', w', h1, h2⟩ := stepS h
  obtain ⟨af, wf, h3, h4⟩ := endsP r a' w' h1
  exact ⟨af, wf, h3, fun t ht => (h4 t fun x hx => ht x (List.mem_cons_of_mem _ hx)).trans (h2 t (ht (i, false) List.mem_cons_self))⟩
 | (i, true) :: r, a, w, h => by
  obtain ⟨a', w', h1, h2⟩ := stepS h
  obtain ⟨af, wf, h3, h4⟩ := endsP r a' w' h1.2
  exact ⟨af, wf, h3, fun t ht => (h4 t fun x hx => ht x (List.mem_cons_of_mem _ hx)).trans (h2 t (ht (i, true) List.mem_cons_self))⟩
theorem qFt {a a' : Act} {x : Operand} (h : ∀ t, x = .tmp t → a'.tmps.getD t undef = a.tmps.getD t undef) : a'.eval x = a.eval x := by
 cases x <;> simp only [Act.eval]
 exact h _ rfl
theorem qEc (o : Oper) {t : Tmp} (h : lowOpnd o = .tmp t) : t ∈ tmpsIn o := by
 obtain ⟨dst, op, type, pos, after, guard⟩ := o
 cases op <;> simp only [lowOpnd, reduceCtorEq] at h
 all_goals (subst h; simp [tmpsIn, Op.operands])
theorem mainI {need : Needs} {low : List (Nat × Value)} {Q : Exit → Act → World → Prop} (hs : Region.noSelect ops = true) (hlow : ∀ x ∈ low, Stab P I (opAt ops x.1) x.2) :
  ∀ (plan : Plan) (listed : Array Bool) (a : Act) (w : World), detI P ops need (low.map (·.1)) listed plan = true → I w →
   wpList P ops (Seg (planW P ops (finI ops need low Q) I plan).2) (planW P ops (finI ops need low Q) I plan).1 a w →
   wpAnyI P .any ops (Seg (finI ops need low Q)) I plan.length listed a w
 | [], listed, a, w, hd, _, h => by
  have : Region.ready .any ops listed = [] := by simpa [detI] using hd
  exact ⟨this, h⟩
 | (i, false) :: r, listed, a, w, hd, hIw, h => by
  simp only [detI, Bool.and_eq_true] at hd
  obtain ⟨⟨⟨hr, hf⟩, hk⟩, hrest⟩ := hd
  have hr' : i ∈ Region.ready .any ops listed := by simpa using hr
  obtain ⟨_, oi, hoi, _⟩ := mem_ready.1 hr'
  have hat : opAt ops i = oi := by simp [opAt, hoi]
  have hends := endsP ((i, false) :: r) a w h
  have h' : wpList P ops (Seg (planW P ops (finI ops need low Q) I r).2) (oi :: (planW P ops (finI ops need low Q) I r).1) a w := by
   rw [← hat]; exact h
  have hQ : ∀ v c a w, Seg (finI ops need low Q) (.panic c) (a.put oi.dst v) w → Seg (finI ops need low Q) (.panic c) a w := fun _ _ _ _ h => h.elim
  have hsel := fun j o cs b ho => Region.noSelect_spec hs j o cs b ho
  -- what it comes to, in every world that meets I
  have key : ∀ (s : Sem Value), execOp a.eval oi = (do Pure.pure (Next.value (← s))) → (∀ v w1, s.run P w = .ok v w1 → w1 = w ∧ ∀ w', I w' → s.run P w' = .ok v w') →
    wpAnyI P .any ops (Seg (finI ops need low Q)) I (r.length + 1) listed a w := fun s hex hl => by
   cases hw : Region.wanted oi (yielded ops a.tmps) with
   | true =>
    unfold wpList at h'
    rw [if_pos hw] at h'
    rcases h' with h' | h'
    ·unfold Oper.wp at h'
     rw [hex, Sem.run_bind] at h'
     cases hrun : s.run P w with
     | ok v w1 =>
      obtain ⟨rfl, hall⟩ := hl _ _ hrun
      rw [hrun] at h'
      have hy : YieldsIf P ops I oi v a := .inl ⟨hw, fun w' hw' => by rw [hex, Sem.run_bind, hall w' hw']; rfl⟩
      exact I_first hoi hsel (hQ v) r.length listed a w1 (Region.free_spec hoi hf) hr' hy hIw (mainI hs hlow r _ _ w1 hrest hIw h')
     | halt x w1 =>
      rw [hrun] at h'
      cases x <;> exact h'.elim
    ·exact (Seg.letsOut h'.2).elim
   | false =>
    unfold wpList at h'
    rw [if_neg (by rw [hw]; decide)] at h'
    exact I_first hoi hsel (hQ undef) r.length listed a w (Region.free_spec hoi hf) hr' (.inr ⟨hw, rfl⟩) hIw (mainI hs hlow r _ _ w hrest hIw h')
  obtain ⟨af, wf, ⟨hneed, hlowf, _⟩, hsame⟩ := hends
  rcases (Bool.or_eq_true _ _).mp hk with hp | hp
  ·obtain ⟨hst, hp⟩ := (Bool.and_eq_true _ _).mp hp
   have hne : needOk (needOf need (opAt ops i)) a = true := by
    unfold needOk at hneed ⊢
    rw [List.all_eq_true] at hneed ⊢
    intro p hpm
    have hp0 := hpm
    simp only [needOf, List.mem_filter] at hpm
    have h3 := hneed p hpm.1
    rw [hsame p.1 (fun x hx hd => by
     have h5 := List.all_eq_true.1 hst x hx
     simp only [hd] at h5
     have h6 := List.all_eq_true.1 h5 p hp0
     simp at h6)] at h3
    exact h3
   rw [hat] at hp hne
   obtain ⟨s, hex, hloc⟩ := qBm hp hne
   exact key s hex fun v w1 hrun => ⟨(hloc _ _ _ hrun).1, fun w' _ => (hloc _ _ _ hrun).2 w'⟩
  ·obtain ⟨hix, hst⟩ := (Bool.and_eq_true _ _).mp hp
   simp only [List.contains_iff_mem, List.mem_map] at hix
   obtain ⟨⟨i', p⟩, hxm, hxi⟩ := hix
   have hxi' : i' = i := hxi
   subst hxi'
   have hev : a.eval (lowOpnd oi) = p := by
    have e := hlowf _ hxm
    simp only [hat] at e
    rw [← e]
    refine (qFt fun t ht => ?_).symm
    refine hsame t fun x hx hd => ?_
    have h5 := List.all_eq_true.1 hst x hx
    simp only [hd, hat] at h5
    have h6 := qEc oi ht
    simp [h6] at h5
   have hstab := hlow _ hxm
   simp only [hat] at hstab
   unfold Stab at hstab
   cases hop : oi.op <;> simp only [hop] at hstab
   case load t x =>
    have hev' : a.eval x = p := by simpa only [lowOpnd, hop] using hev
    obtain ⟨v, hv⟩ := hstab
    refine key (Instr.loadAt t p) (by simp only [execOp, hop, hev']) fun u w1 hrun => ?_
    rw [hv w hIw] at hrun
    cases hrun
    exact ⟨rfl, hv⟩
   case convert src d x =>
    have hev' : a.eval x = p := by simpa only [lowOpnd, hop] using hev
    obtain ⟨v, hv⟩ := hstab
    refine key (Go.convert src d p) (by simp only [execOp, hop, hev']) fun u w1 hrun => ?_
    rw [hv w hIw] at hrun
    cases hrun
    exact ⟨rfl, hv⟩
 | (i, true) :: r, listed, a, w, hd, hIw, h => by
  simp only [detI, Bool.and_eq_true] at hd
  have hr : Region.ready .any ops listed = [i] := by simpa using hd.1
  have hr' : i ∈ Region.ready .any ops listed := by rw [hr]; simp
  obtain ⟨_, oi, hoi, _⟩ := mem_ready.1 hr'
  have hat : opAt ops i = oi := by simp [opAt, hoi]
  refine ⟨fun h0 => (by rw [hr] at h0; cases h0), fun j hj => ?_⟩
  rw [hr] at hj
  obtain rfl : j = i := by simpa using hj
  have h1 : wpList P ops (Seg (planW P ops (finI ops need low Q) I ((j, true) :: r)).2) [oi] a w := by rw [← hat]; exact h
  have cont : ∀ a' w', I w' ∧ wpList P ops (Seg (planW P ops (finI ops need low Q) I r).2) (planW P ops (finI ops need low Q) I r).1 a' w' →
    I w' ∧ wpAnyI P .any ops (Seg (finI ops need low Q)) I r.length (listed.setIfInBounds j true) a' w' := fun a' w' ⟨h2, h3⟩ => ⟨h2, mainI hs hlow r _ a' w' hd.2 h2 h3⟩
  unfold wpOp
  rw [hoi]
  unfold wpList at h1
  dsimp only
  split
  ·rename_i hw
   rw [if_pos hw] at h1
   rcases h1 with h1 | h1
   ·exact .inl (Oper.wp_seg cont h1)
   ·exact (Seg.letsOut h1.2).elim
  ·rename_i hw
   rw [if_neg hw] at h1
   exact cont _ _ h1
theorem region_low {Q : Exit → Act → World → Prop} {id : Nat} {l : List Oper} {a : Act} {w : World} (plan : Plan) (need : Needs) (low : List (Nat × Value)) (I : World → Prop) (hm : P.follows .mixedOrders = true)
  (hs : Region.noSelect l.toArray = true) (hn : plan.length = l.length) (hd : detI P l.toArray need (low.map (·.1)) (Array.replicate l.length false) plan = true)
  (hlow : ∀ x ∈ low, Stab P I (opAt l.toArray x.1) x.2) (hI : I w.drew)
  (h : wpList P l.toArray (Seg (planW P l.toArray (finI l.toArray need low Q) I plan).2) (planW P l.toArray (finI l.toArray need low Q) I plan).1 a w.drew) : (Code.region id l.toArray true).wp P Q a w := by
 refine Code.wp_mono (Q := Seg (finI l.toArray need low Q)) (fun e a w h => ?_) ?_
 ·cases e <;> first | exact h.2.2 | exact h.elim
 ·refine wp_region_any hm (qGF (I := I) _ _ _ _ (?_ : wpAnyI P .any l.toArray (Seg (finI l.toArray need low Q)) I l.toArray.size (Array.replicate l.toArray.size false) a w.drew))
  have := mainI (Q := Q) hs hlow plan (Array.replicate l.length false) a w.drew hd hI h
  rw [hn] at this
  exact this
end
/-! ### What is told to it -/
theorem stab_load {P : Program} {I : World → Prop} {o : Oper} {t : TypeId} {x : Operand} (ho : o.op = .load t x) (b off : Nat) (cs : List Value) (d : TypeDesc) (hI : ∀ w', I w' → w'.rangeAt b off cs)
  (hu : P.underlying t = some d) (hd : d.isRow = true) (hi : (P.info? t).map (·.size) = some cs.length) : Stab P I o (.pointer (some ⟨b, off, none⟩)) := by
 unfold Stab; rw [ho]
 exact ⟨_, fun w' hw => run_loadAt_mid w' b off t cs d (hI w' hw) hu hd hi⟩
theorem qDt {P : Program} {I : World → Prop} {o : Oper} {src dst e : TypeId} {x : Operand} (ho : o.op = .convert src dst x) (v : Value) (l : List UInt8) (hI : ∀ w', I w' → SeesB w' v l)
  (hs : P.underlying src = some (.slice e)) (he : P.underlying e = some (.int .u8)) (hd : P.underlying dst = some .string) : Stab P I o v := by
 unfold Stab; rw [ho]
 exact ⟨_, fun w' hw => SeesB.run_string (hI w' hw) src dst e hs he hd w' (grownBy_refl _ _)⟩
theorem qAa {P : Program} {I : World → Prop} {ops : Array Oper} {x : Nat × Value} {low : List (Nat × Value)} (h : Stab P I (opAt ops x.1) x.2) (r : ∀ x ∈ low, Stab P I (opAt ops x.1) x.2) : ∀ y ∈ x :: low, Stab P I (opAt ops y.1) y.2 :=
 List.forall_mem_cons.2 ⟨h, r⟩
theorem qAN {P : Program} {I : World → Prop} {ops : Array Oper} : ∀ y ∈ ([] : List (Nat × Value)), Stab P I (opAt ops y.1) y.2 := fun _ h => by cases h
theorem ats_cons {ops : Array Oper} {a : Act} {x : Nat × Value} {low : List (Nat × Value)} (h : a.eval (lowOpnd (opAt ops x.1)) = x.2) (r : ∀ x ∈ low, a.eval (lowOpnd (opAt ops x.1)) = x.2) : ∀ y ∈ x :: low, a.eval (lowOpnd (opAt ops y.1)) = y.2 :=
 List.forall_mem_cons.2 ⟨h, r⟩
theorem ats_nil {ops : Array Oper} {a : Act} : ∀ y ∈ ([] : List (Nat × Value)), a.eval (lowOpnd (opAt ops y.1)) = y.2 := fun _ h => by cases h
theorem qFf {a : Act} : needOk [] a = true := rfl
theorem qEa {a : Act} {x : Tmp × Shape} {r : Needs} (h : x.2.ok (a.tmps.getD x.1 undef) = true) (k : needOk r a = true) : needOk (x :: r) a = true := by
 unfold needOk at *; rw [List.all_cons, h, k]; rfl
end TL
end Go

namespace Go
namespace TL
open Go.RowKit
def macL (key text : List UInt8) : List UInt8 := shaL (macPad key 92 ++ shaL (macPad key 54 ++ text))
theorem qCj (key text : List UInt8) : (macL key text).length = 32 := rfl
theorem qBN (key : List UInt8) (x : UInt8) : (macPad key x).length = 64 := by rw [macPad, List.length_map, qBe]
theorem qDY (a b : ByteArray) : bytesOf (a ++ b) = bytesOf a ++ bytesOf b := by simp [bytesOf]
theorem size_mk (l : List UInt8) : (⟨l.toArray⟩ : ByteArray).size = l.length := by simp [ByteArray.size]
theorem seesB_row {w : World} {g : Nat} {l : List UInt8} {n : Nat} (hn : l.length = n) (hm : n ≤ 1000) (hg : g < w.heap.size) (hr : w.rangeAt g 0 (l.map vb)) : SeesB w (.slice (some ⟨g, 0, none⟩) n n) l := by
 refine ⟨by simp, .inr ⟨g, 0, n, by rw [hn], hg, by omega, by simp only [maxLen]; omega, hr⟩⟩
end TL
end Go
namespace Go.Proofs.YtidadhbaomieiaaGreat
open Go.RowKit Go.TL
theorem Tag_any (key text : ByteArray) (w : World) (hk : key.size ≤ 100000000000) (ht : text.size ≤ 100000000000) :
  Calls Tryz.prog 47 #[.string key, .string text] w fun e w' => e = .returned (.agg ((macL (bytesOf key) (bytesOf text)).map vb).toArray) ∧ Below w.heap.size w w' := by
 have z1 : (⟨(macPad (bytesOf key) 54).toArray⟩ : ByteArray).size = 64 := by rw [size_mk, qBN]
 have z2 : (⟨(macPad (bytesOf key) 92).toArray⟩ : ByteArray).size = 64 := by rw [size_mk, qBN]
 obtain ⟨s1, e1⟩ : ∃ s, s = (⟨(macPad (bytesOf key) 54).toArray⟩ : ByteArray) ++ text := ⟨_, rfl⟩
 have E1 := Lib.hid e1
 have e1' := e1.symm
 clear e1
 go_enter Tryz.func47, Tryz.ntmps47
 go_wp2_with (first | ((with_reducible show wpList _ _ _ (Oper.mk (some 4) (Op.alloc 64) _ _ _ _ :: _) _ _); (refine qAz rfl _ rfl (Array.replicate 32 (.int .u8 0)) yD ?_; intro w1 hb1 hs1 hr1 ht1; have Hb1 := Lib.hid hb1; clear hb1 hr1; have Hs1 := Lib.hid hs1; clear hs1; have Ht1 := Lib.hid ht1; clear ht1)) | (go_at_call 88; (refine (pad_any key 54 w1 yF).mono ?_; rintro e w2 ⟨rfl, hb2⟩; have Hb2 := Lib.hid hb2; clear hb2)) | (go_at_call 87; (refine (qEV s1 w2 (by rw [E1.out, ByteArray.size_append, z1]; omega)).mono ?_; rintro e w3 ⟨rfl, hb3⟩; have Hb3 := Lib.hid hb3; clear hb3)) | ((with_reducible show wpList _ _ _ (Oper.mk (some 5) (Op.alloc 64) _ _ _ _ :: _) _ _); (refine qAz rfl _ rfl (Array.replicate 32 (.int .u8 0)) yD ?_; intro w4 hb4 hs4 hr4 ht4; have Hb4 := Lib.hid hb4; clear hb4 hr4; have Hs4 := Lib.hid hs4; clear hs4; have Ht4 := Lib.hid ht4; clear ht4)) | ((with_reducible show wpList _ _ _ (Oper.mk none (Op.store 64 (.tmp 5) _) _ _ _ _ :: _) _ _); (refine qAn rfl 64 _ _ rfl w3.heap.size 0 ((shaL (bytesOf s1)).map vb) rfl rfl (by exact Ht4.out) yD (qDp _) ?_)))
 go_simp
 obtain ⟨lH, elH⟩ : ∃ l, l = shaL (bytesOf s1) := ⟨_, rfl⟩
 obtain ⟨w5, e5⟩ : ∃ w5, w5 = w4.setCells w3.heap.size 0 ((shaL (bytesOf s1)).map vb) := ⟨_, rfl⟩
 have h3 : Hid (w.heap.size + 1 ≤ w3.heap.size) := Lib.hid (by have := Hs1.out; have := Hb2.out.size; have := Hb3.out.size; omega)
 have S5 : Hid (SeesB w5 (.slice (some ⟨w3.heap.size, 0, none⟩) 32 32) lH) := Lib.hid (by rw [e5, elH]; exact seesB_row (qBb _) yF (by rw [size_setCells]; have := Hs4.out; omega) (World.rangeAt_setCells_same _ _ _ _ (by exact Ht4.out)))
 have B5 : Hid (Below w.heap.size w w5) := Lib.hid (by
  have b2 := Hb1.out.trans (Hb2.out.mono Hb1.out.size)
  have b3 := b2.trans (Hb3.out.mono b2.size)
  rw [e5]; exact below_setCells b3.size _ _ _ (b3.trans (Hb4.out.mono b3.size)))
 have T5 : Hid (w5.there w.heap.size 0 32) := Lib.hid (by
  have b3 := Hb2.out.trans (Hb3.out.mono Hb2.out.size)
  have b4 := b3.trans (Hb4.out.mono b3.size)
  have l1 := Hs1.out
  rw [e5]
  refine World.there_setCells (qAZ (by simpa using Ht1.out) (b4.block _ yF)) _ _ _)
 rw [← e5]
 have hlen : lH.length = 32 := by rw [elH]; rfl
 have z3 : (⟨lH.toArray⟩ : ByteArray).size = 32 := by rw [size_mk, hlen]
 have ElH := Lib.hid elH; clear elH
 clear e5 Hb1 Hb2 Hb3 Hb4 Hs1 Hs4 Ht1 Ht4 e1'
 obtain ⟨s2, e2⟩ : ∃ s, s = (⟨(macPad (bytesOf key) 92).toArray⟩ : ByteArray) ++ ⟨lH.toArray⟩ := ⟨_, rfl⟩
 have E2 := Lib.hid e2
 have e2' := e2.symm
 clear e2
 refine region_low [(0, false), (2, false), (3, false), (1, true), (4, false), (5, true), (6, true)] [(12, .str), (14, .str)] [(3, .slice (some ⟨w3.heap.size, 0, none⟩) 32 32)] (fun w' => SeesB w' (.slice (some ⟨w3.heap.size, 0, none⟩) 32 32) lH) yD yD rfl yD
  (qAa (qDt rfl _ lH (fun _ h => h) Tryz.underlying70 Tryz.underlying5 Tryz.underlying9) qAN) S5.out ?_
 simp only [planW, opAt, gE]
 have hrs := SeesB.run_string S5.out 70 9 5 Tryz.underlying70 Tryz.underlying5 Tryz.underlying9 w5.drew (grownBy_drew _ _)
 go_wp2_with (go_at_call 88; (refine (pad_any key 92 w5.drew yF).mono ?_; rintro e w6 ⟨rfl, hb6⟩; have B6 : Hid (Below w5.heap.size w5 w6) := Lib.hid ((Below.refl _ w5).drew.trans hb6); clear hb6))
 refine Seg.intro ⟨Sees.below S5.out B6.out, ?_⟩
 clear hrs
 go_wp2_with (go_at_call 87; (refine (qEV s2 w6 (by rw [E2.out, ByteArray.size_append, z2, z3]; omega)).mono ?_; rintro e w7 ⟨rfl, hb7⟩; have B7 : Hid (Below w5.heap.size w5 w7) := Lib.hid (B6.out.trans (hb7.mono B6.out.size)); clear hb7))
 refine Seg.intro ⟨Sees.below S5.out B7.out, ?_⟩
 have l0 : w.heap.size < w5.heap.size := by
  have h1 := h3.out
  obtain ⟨g, o, c, e, hg, _⟩ := (S5.out.2.resolve_left yB1)
  injection e with e1 e2
  injection e1 with e1
  injection e1 with e1
  omega
 have T7 : Hid (w7.there w.heap.size 0 32) := Lib.hid (qAZ T5.out (B7.out.block _ l0))
 go_wp2_with ((with_reducible show wpList _ _ _ (Oper.mk none (Op.store 64 (.tmp 4) _) _ _ _ _ :: _) _ _); (refine qAn rfl 64 _ _ rfl w.heap.size 0 ((shaL (bytesOf s2)).map vb) rfl rfl (by exact T7.out) yD (qDp _) ?_))
 refine Seg.intro ⟨Sees.kept (Sees.below S5.out B7.out) (qBH _ _ _ _) (.inr (by simp only [Value.ownBlock]; intro e; injection e with e; have := h3.out; omega)), ?_⟩
 refine Seg.intro ⟨qEa rfl (qEa rfl qFf), ats_cons rfl ats_nil, ?_⟩
 go_wp2_with fail
 refine bodyPost_ret (qAS rfl _ _ w.heap.size 0 ((shaL (bytesOf s2)).map vb) _ rfl (World.rangeAt_setCells_same _ _ _ _ (by exact T7.out)) Tryz.underlying64 rfl yD) rfl ⟨?_, below_setCells (Nat.le_refl _) _ _ _ (B5.out.trans (B7.out.mono (Nat.le_of_lt l0)))⟩
 have e1 : bytesOf s1 = macPad (bytesOf key) 54 ++ bytesOf text := by rw [E1.out, qDY]; rfl
 have e2 : bytesOf s2 = macPad (bytesOf key) 92 ++ lH := by rw [E2.out, qDY]; rfl
 rw [macL, e2, ElH.out, e1]
end Go.Proofs.YtidadhbaomieiaaGreat

namespace Go
namespace TL
open Go.RowKit
def diffB (a b : List UInt8) : Nat → UInt8
 | 0 => 0
 | k + 1 => diffB a b k ||| (a.getD k 0 ^^^ b.getD k 0)
theorem or_zero8 (x y : UInt8) : (x ||| y = 0) ↔ x = 0 ∧ y = 0 := by
 rw [← UInt8.toNat_inj, ← UInt8.toNat_inj, ← UInt8.toNat_inj, UInt8.toNat_or]
 simp [Nat.or_eq_zero_iff]
theorem xor_zero8 (x y : UInt8) : (x ^^^ y = 0) ↔ x = y := by
 constructor
 ·intro h
  have : x ^^^ y ^^^ y = 0 ^^^ y := by rw [h]
  simpa [UInt8.xor_assoc] using this
 ·rintro rfl; simp
theorem qGT (a b : List UInt8) : ∀ k, diffB a b k = 0 ↔ ∀ i, i < k → a.getD i 0 = b.getD i 0
 | 0 => by simp [diffB]
 | k + 1 => by
  rw [diffB, or_zero8, qGT a b k, xor_zero8]
  constructor
  ·rintro ⟨h1, h2⟩ i hi
   by_cases e : i = k
   ·subst e; exact h2
   ·exact h1 i yF
  ·intro h; exact ⟨fun i hi => h i yF, h k yF⟩
theorem diffB_eq (a b : List UInt8) (h : a.length = b.length) : (diffB a b a.length = 0) ↔ a = b := by
 rw [qGT]
 constructor
 ·intro k
  refine List.ext_getElem h fun i h1 h2 => ?_
  have := k i h1
  simpa [h1, h2] using this
 ·rintro rfl i _; rfl
end TL
end Go
namespace Go.Proofs.YtidadhbaomieiaaGreat
open Go.RowKit Go.TL
theorem Equal_any (a b : List UInt8) (ha : a.length = 32) (hb : b.length = 32) (w : World) :
  Calls Tryz.prog 83 #[.agg (a.map vb).toArray, .agg (b.map vb).toArray] w fun e w' => e = .returned (.bool (a == b)) ∧ Below w.heap.size w w' := by
 have hA0 : Hid (((w.alloc (.cells (a.map vb).toArray 64)).alloc (.cells (b.map vb).toArray 64)).rangeAt w.heap.size 0 (a.map vb)) := Lib.hid (rangeAt_of_block (qBC w (a.map vb).toArray 64 (0, 0)) (((Below.refl (w.heap.size + 1) _).alloc yB1 (.cells (b.map vb).toArray 64)).block _ yF))
 have hB0 : Hid (((w.alloc (.cells (a.map vb).toArray 64)).alloc (.cells (b.map vb).toArray 64)).rangeAt (w.heap.size + 1) 0 (b.map vb)) := Lib.hid (by have := qBC (w.alloc (.cells (a.map vb).toArray 64)) (b.map vb).toArray 64 (0, 0); simpa using this)
 go_enter Tryz.func83, Tryz.ntmps83
 go_wp2_with fail
 go_loopw [5, 7] (fun v iv wr => ∃ k : Nat, k ≤ 32 ∧ iv = .int .i64 k ∧ v = .int .u8 (I8 (diffB a b k)) ∧ Below (w.heap.size + 2) ((w.alloc (.cells (a.map vb).toArray 64)).alloc (.cells (b.map vb).toArray 64)) wr) (fun _ iv _ => 32 - (intOf iv).toNat)
 case atStart => exact ⟨0, by omega, rfl, rfl, Below.refl _ _⟩
 case round =>
  obtain ⟨k, hk, rfl, rfl, hbel⟩ := hrel
  have Hb := Lib.hid hbel; clear hbel
  by_cases hlt : k < 32
  ·obtain ⟨x, hx⟩ : ∃ x, x = a.getD k 0 := ⟨_, rfl⟩
   obtain ⟨y, hy⟩ : ∃ y, y = b.getD k 0 := ⟨_, rfl⟩
   obtain ⟨dk, hd⟩ : ∃ d, d = diffB a b k := ⟨_, rfl⟩
   have c1 : wr.cell? ⟨w.heap.size, k, none⟩ = some (.int .u8 (I8 x)) := by
    have := rangeAt_of_block hA0.out (Hb.out.block _ yF) k (vb x) (by rw [hx]; simp [ha, hlt])
    rwa [Nat.zero_add] at this
   have c2 : wr.cell? ⟨w.heap.size + 1, k, none⟩ = some (.int .u8 (I8 y)) := by
    have := rangeAt_of_block hB0.out (Hb.out.block _ yF) k (vb y) (by rw [hy]; simp [hb, hlt])
    rwa [Nat.zero_add] at this
   have e : diffB a b (k + 1) = dk ||| (x ^^^ y) := by rw [diffB, hx, hy, hd]
   rw [← hd]
   have E := Lib.hid e
   clear e hx hy hd
   go_wp2_with fail
   refine qAF [(0, false), (1, false), (2, false), (4, false), (5, false), (3, false), (6, false), (7, false), (8, false), (9, false)] [(13, .int), (16, .int), (10, .int), (17, .int)] yD yD rfl yD ?_
   simp only [reord, opAt, List.map_cons, List.map_nil, gE]
   go_wp2_with fail
   refine OnlyN.intro yD ?_
   go_wp2_with fail
   go_roundw
   case rel => exact ⟨k + 1, by omega, by go_num, by rw [E.out], Hb.out.drew⟩
   case measure => simp [intOf]; omega
  ·have hk' : k = 32 := by omega
   subst hk'
   have hq : (I8 (diffB a b 32) == 0) = (a == b) := by
    rw [Bool.eq_iff_iff, beq_iff_eq, beq_iff_eq, ← diffB_eq a b yF, ha, I8_eq]
    constructor
    ·intro h; exact UInt8.toNat_inj.1 yE1
    ·intro h; rw [h]; rfl
   go_wp2_with fail
   go_ret
   refine ⟨rfl, ?_⟩
   have B0 : Below w.heap.size w ((w.alloc (.cells (a.map vb).toArray 64)).alloc (.cells (b.map vb).toArray 64)) := ((Below.refl _ w).alloc (Nat.le_refl _) _).alloc yB1 _
   exact B0.trans (Hb.out.mono yF)
end Go.Proofs.YtidadhbaomieiaaGreat

namespace Go
namespace TL
open Go.RowKit
theorem setC {α : Type _} (a : α) (l : List α) (b : α) : (a :: l).set 0 b = b :: l ∧ ∀ n, (a :: l).set (n + 1) b = a :: l.set n b := ⟨rfl, fun _ => rfl⟩
theorem at0 {α : Type _} {c : α} {L : List α} : (c :: L)[0]? = some c := rfl
theorem at1 {α : Type _} {a0 c : α} {L : List α} : (a0 :: c :: L)[1]? = some c := rfl
theorem at2 {α : Type _} {a0 a1 c : α} {L : List α} : (a0 :: a1 :: c :: L)[2]? = some c := rfl
theorem at3 {α : Type _} {a0 a1 a2 c : α} {L : List α} : (a0 :: a1 :: a2 :: c :: L)[3]? = some c := rfl
theorem at4 {α : Type _} {a0 a1 a2 a3 c : α} {L : List α} : (a0 :: a1 :: a2 :: a3 :: c :: L)[4]? = some c := rfl
theorem at5 {α : Type _} {a0 a1 a2 a3 a4 c : α} {L : List α} : (a0 :: a1 :: a2 :: a3 :: a4 :: c :: L)[5]? = some c := rfl
theorem at6 {α : Type _} {a0 a1 a2 a3 a4 a5 c : α} {L : List α} : (a0 :: a1 :: a2 :: a3 :: a4 :: a5 :: c :: L)[6]? = some c := rfl
theorem at7 {α : Type _} {a0 a1 a2 a3 a4 a5 a6 c : α} {L : List α} : (a0 :: a1 :: a2 :: a3 :: a4 :: a5 :: a6 :: c :: L)[7]? = some c := rfl
theorem at8 {α : Type _} {a0 a1 a2 a3 a4 a5 a6 a7 c : α} {L : List α} : (a0 :: a1 :: a2 :: a3 :: a4 :: a5 :: a6 :: a7 :: c :: L)[8]? = some c := rfl
def bs (l : List UInt8) : List Value := l.map vb
def mkS (l : List UInt8) : ByteArray := ⟨l.toArray⟩
theorem lenI {α : Type} {l : List α} {n : Nat} [h : HXor (PLift (l = l)) Unit (PLift (l.length = n))] : l.length = n := (h.hXor ⟨rfl⟩ ()).down
theorem lenS {α : Type} {l : List α} {n i : Nat} {x : α} (h : l.length = n) : (l.set i x).length = n := by rw [List.length_set, h]
instance lenReplicate {α : Type} {x : α} {n : Nat} : HXor (PLift (List.replicate n x = List.replicate n x)) Unit (PLift ((List.replicate n x).length = n)) := ⟨fun _ _ => ⟨List.length_replicate⟩⟩
instance lenSet {α : Type} {l : List α} {x : α} {n i : Nat} [h : HXor (PLift (l = l)) Unit (PLift (l.length = n))] : HXor (PLift (l.set i x = l.set i x)) Unit (PLift ((l.set i x).length = n)) := ⟨fun _ _ => ⟨lenS (h.hXor ⟨rfl⟩ ()).down⟩⟩
theorem qAP (l : List UInt8) : (bs l).length = l.length := by simp [bs]
theorem qEL (l : List UInt8) : ∀ q ∈ bs l, q.oneCell' = true := qDp l
theorem bs_set (l : List UInt8) (i : Nat) (b : UInt8) : bs (l.set i b) = (bs l).set i (vb b) := by simp [bs, List.map_set]
theorem qBa (l m : List UInt8) : bs (l ++ m) = bs l ++ bs m := by simp [bs]
theorem qBu (l : List UInt8) : (mkS l).size = l.length := by simp [mkS, ByteArray.size]
theorem mkS_data (l : List UInt8) : (mkS l).data.toList = l := by simp [mkS]
theorem mkS_toList (l : List UInt8) : (mkS l).toList = l := by simp [mkS, Lib.toList_data]
theorem mkS_append (l m : List UInt8) : mkS l ++ mkS m = mkS (l ++ m) := by
 apply ByteArray.ext; apply Array.ext'; simp [mkS]
theorem mkS_of (s : ByteArray) : ∃ l, s = mkS l := ⟨s.data.toList, by simp [mkS]⟩
structure Kept (F : List Nat) (w0 w : World) : Prop where
 os : w.os = w0.os
 tape : w.tape = w0.tape
 output : w.output = w0.output
 size : w0.heap.size ≤ w.heap.size
 block : ∀ k, k < w0.heap.size → k ∉ F → w.heap[k]? = w0.heap[k]?
theorem Kept.refl (F : List Nat) (w : World) : Kept F w w := ⟨rfl, rfl, rfl, Nat.le_refl _, fun _ _ _ => rfl⟩
theorem Kept.below {w0 w : World} (h : Kept [] w0 w) : Below w0.heap.size w0 w := ⟨h.os, h.tape, h.output, h.size, fun k hk => h.block k hk yB1⟩
theorem Kept.of_below {w0 w : World} (h : Below w0.heap.size w0 w) (F : List Nat) : Kept F w0 w := ⟨h.os, h.tape, h.output, h.size, fun k hk _ => h.block k hk⟩
theorem Kept.trans {F G : List Nat} {a b c : World} (h : Kept F a b) (k : Kept G b c) (hG : ∀ x ∈ G, x ∈ F ∨ a.heap.size ≤ x) : Kept F a c :=
 ⟨k.os.trans h.os, k.tape.trans h.tape, k.output.trans h.output, Nat.le_trans h.size k.size, fun i hi hF => (k.block i (Nat.lt_of_lt_of_le hi h.size) fun hx => by
  rcases hG i hx with h1 | h1
  ·exact hF h1
  ·omega).trans (h.block i hi hF)⟩
theorem Kept.mono {F G : List Nat} {a b : World} (h : Kept F a b) (hG : ∀ x ∈ F, x ∈ G) : Kept G a b := ⟨h.os, h.tape, h.output, h.size, fun k hk hn => h.block k hk fun hx => hn (hG k hx)⟩
theorem Kept.grown {w w' : World} {row : Option Nat} (h : w.grownBy w' row) : Kept row.toList w w' :=
 ⟨h.os, h.tape, h.output, h.size, fun k hk hn => h.block k hk fun e => hn (by rw [← e]; simp)⟩
theorem Kept.drew {F : List Nat} {a w : World} (h : Kept F a w) : Kept F a w.drew := ⟨h.os, h.tape, h.output, h.size, h.block⟩
theorem Kept.alloc (w : World) (o : Obj) : Kept [] w (w.alloc o) := Kept.of_below ((Below.refl _ _).alloc (Nat.le_refl _) o) _
inductive Chunk where
 | row (g : Nat) (cs : List Value)
 | sl (size : Nat) (v : Value) (n : Nat) (xs : List Value)
 | blk (g : Nat) (o : Obj)
 | obj (fp : List Nat) (p : World → Prop)
def Chunk.fp : Chunk → List Nat
 | .row g _ => [g]
 | .sl _ v _ _ => v.ownBlock.toList
 | .blk g _ => [g]
 | .obj f _ => f
def Chunk.ok (w : World) : Chunk → Prop
 | .row g cs => g < w.heap.size ∧ w.rangeAt g 0 cs ∧ w.there g 0 cs.length
 | .sl size v n xs => Own w 0 size v n xs
 | .blk g o => w.heap[g]? = some o
 | .obj f p => (∀ k ∈ f, k < w.heap.size) ∧ p w ∧ ∀ w' : World, w.heap.size ≤ w'.heap.size → (∀ k ∈ f, w'.heap[k]? = w.heap[k]?) → p w'
theorem Chunk.ok.lt {w : World} {c : Chunk} (h : c.ok w) : ∀ k ∈ c.fp, k < w.heap.size := by
 intro k hk
 cases c with
 | row g cs => simp [Chunk.fp] at hk; subst hk; exact h.1
 | sl size v n xs =>
  simp only [Chunk.fp, Option.mem_toList] at hk
  exact (Own.base_le h hk).2
 | blk g o => simp [Chunk.fp] at hk; subst hk; exact (Array.getElem?_eq_some_iff.1 h).1
 | obj f p => exact h.1 k hk
theorem Chunk.ok.stay {w w' : World} {c : Chunk} (h : c.ok w) (hs : w.heap.size ≤ w'.heap.size) (hb : ∀ k ∈ c.fp, w'.heap[k]? = w.heap[k]?) : c.ok w' := by
 cases c with
 | row g cs =>
  have e := hb g yG1
  exact ⟨Nat.lt_of_lt_of_le h.1 hs, rangeAt_of_block h.2.1 e, qAZ h.2.2 e⟩
 | sl size v n xs =>
  refine ⟨h.1, h.2.imp id ?_⟩
  rintro ⟨g, o, cap, rfl, hb', hlt, hn, hc, hr, ht⟩
  have e := hb g (by simp [Chunk.fp, Value.ownBlock])
  exact ⟨g, o, cap, rfl, hb', Nat.lt_of_lt_of_le hlt hs, hn, hc, rangeAt_of_block hr e, qAZ ht e⟩
 | blk g o => exact (hb g yG1).trans h
 | obj f p =>
  refine ⟨fun k hk => Nat.lt_of_lt_of_le (h.1 k hk) hs, h.2.2 w' hs hb, fun w'' hs' hb' => h.2.2 w'' (Nat.le_trans hs hs') fun k hk => (hb' k hk).trans (hb k hk)⟩
structure Upd (w : World) (c : Chunk) (w' : World) (c' : Chunk) : Prop where
 kept : Kept c.fp w w'
 ok : c'.ok w'
 fp : ∀ k ∈ c'.fp, k ∈ c.fp ∨ w.heap.size ≤ k
structure Mem (F : List Nat) (w0 w : World) (L : List Chunk) : Prop where
 kept : Kept F w0 w
 ok : ∀ (i : Nat) (c : Chunk), L[i]? = some c → c.ok w
 own : ∀ (i : Nat) (c : Chunk), L[i]? = some c → ∀ k ∈ c.fp, k ∈ F ∨ w0.heap.size ≤ k
 nd : ∀ (i j : Nat) (c d : Chunk), i ≠ j → L[i]? = some c → L[j]? = some d → ∀ k ∈ c.fp, k ∉ d.fp
theorem Mem.start (F : List Nat) (w : World) : Mem F w w [] := ⟨Kept.refl _ _, by simp, by simp, by simp⟩
theorem Mem.start1 {w : World} {c : Chunk} (h : c.ok w) : Mem c.fp w w [c] := by
 refine ⟨Kept.refl _ _, ?_, ?_, ?_⟩
 ·intro i d hd; cases i <;> simp at hd; subst hd; exact h
 ·intro i d hd; cases i <;> simp at hd; subst hd; exact fun k hk => .inl hk
 ·intro i j c d hij hi hj; cases i <;> cases j <;> simp at hi hj hij
theorem Mem.upd {F : List Nat} {w0 w w' : World} {L : List Chunk} (M : Mem F w0 w L) (i : Nat) {c c' : Chunk} (hi : L[i]? = some c) (U : Upd w c w' c') : Mem F w0 w' (L.set i c') := by
 have hil : i < L.length := (List.getElem?_eq_some_iff.1 hi).1
 have key : ∀ (j : Nat) (d : Chunk), j ≠ i → L[j]? = some d → d.ok w' := fun j d hj hd => by
  refine (M.ok j d hd).stay U.kept.size fun k hk => U.kept.block k ((M.ok j d hd).lt k hk) fun hx => M.nd j i d c hj hd hi k hk hx
 refine ⟨M.kept.trans U.kept fun x hx => M.own i c hi x hx, ?_, ?_, ?_⟩
 ·intro j d hd
  by_cases e : j = i
  ·subst e; rw [List.getElem?_set_self hil] at hd; cases hd; exact U.ok
  ·rw [List.getElem?_set_ne (Ne.symm e)] at hd; exact key j d e hd
 ·intro j d hd k hk
  by_cases e : j = i
  ·subst e; rw [List.getElem?_set_self hil] at hd; cases hd
   rcases U.fp k hk with h | h
   ·exact M.own j c hi k h
   ·exact .inr (Nat.le_trans M.kept.size h)
  ·rw [List.getElem?_set_ne (Ne.symm e)] at hd; exact M.own j d hd k hk
 ·intro a b x y hab ha hb k hk hk2
  by_cases e : a = i
  ·subst e; rw [List.getElem?_set_self hil] at ha; cases ha
   rw [List.getElem?_set_ne hab] at hb
   rcases U.fp k hk with h | h
   ·exact M.nd a b c y hab hi hb k h hk2
   ·have := (M.ok b y hb).lt k hk2; omega
  ·rw [List.getElem?_set_ne (Ne.symm e)] at ha
   by_cases e2 : b = i
   ·subst e2; rw [List.getElem?_set_self hil] at hb; cases hb
    rcases U.fp k hk2 with h | h
    ·exact M.nd a b x c hab ha hi k hk h
    ·have := (M.ok a x ha).lt k hk; omega
   ·rw [List.getElem?_set_ne (Ne.symm e2)] at hb
    exact M.nd a b x y hab ha hb k hk hk2
theorem Mem.add {F : List Nat} {w0 w w' : World} {L : List Chunk} (M : Mem F w0 w L) (c : Chunk) (hk : Kept [] w w') (hok : c.ok w') (hfp : ∀ k ∈ c.fp, w.heap.size ≤ k) : Mem F w0 w' (c :: L) := by
 have key : ∀ (j : Nat) (d : Chunk), L[j]? = some d → d.ok w' := fun j d hd => (M.ok j d hd).stay hk.size fun k hk' => hk.block k ((M.ok j d hd).lt k hk') yB1
 refine ⟨M.kept.trans hk yB1, ?_, ?_, ?_⟩
 ·intro j d hd
  cases j with
  | zero => simp at hd; subst hd; exact hok
  | succ j => simp at hd; exact key j d hd
 ·intro j d hd k hk'
  cases j with
  | zero => simp at hd; subst hd; exact .inr (Nat.le_trans M.kept.size (hfp k hk'))
  | succ j => simp at hd; exact M.own j d hd k hk'
 ·intro a b x y hab ha hb k hk1 hk2
  cases a with
  | zero =>
   simp at ha; subst ha
   cases b with
   | zero => exact hab rfl
   | succ b => simp at hb; have := (M.ok b y hb).lt k hk2; have := hfp k hk1; omega
  | succ a =>
   simp at ha
   cases b with
   | zero => simp at hb; subst hb; have := (M.ok a x ha).lt k hk1; have := hfp k hk2; omega
   | succ b => simp at hb; exact M.nd a b x y yF ha hb k hk1 hk2
theorem Mem.call {F : List Nat} {w0 w w' : World} {L : List Chunk} (M : Mem F w0 w L) (h : Below w.heap.size w w') : Mem F w0 w' L := by
 have hk := Kept.of_below h []
 exact ⟨M.kept.trans hk yB1, fun j d hd => (M.ok j d hd).stay hk.size fun k hk' => hk.block k ((M.ok j d hd).lt k hk') yB1, M.own, M.nd⟩
theorem Mem.drew {F : List Nat} {w0 w : World} {L : List Chunk} (M : Mem F w0 w L) : Mem F w0 w.drew L := ⟨M.kept.drew, fun i c h => (M.ok i c h).stay (Nat.le_refl _) (fun _ _ => rfl), M.own, M.nd⟩
theorem Mem.pick {F : List Nat} {w0 w : World} {L : List Chunk} (M : Mem F w0 w L) (L' : List Chunk) (f : Nat → Nat) (hf : ∀ i j, i < L'.length → j < L'.length → f i = f j → i = j) (h : ∀ (i : Nat) (c : Chunk), L'[i]? = some c → L[f i]? = some c) : Mem F w0 w L' :=
 ⟨M.kept, fun i c hc => M.ok (f i) c (h i c hc), fun i c hc => M.own (f i) c (h i c hc), fun i j c d hij hi hj => M.nd (f i) (f j) c d (fun e => hij (hf i j (List.getElem?_eq_some_iff.1 hi).1 (List.getElem?_eq_some_iff.1 hj).1 e)) (h i c hi) (h j d hj)⟩
theorem Mem.tail {F : List Nat} {w0 w : World} {c : Chunk} {L : List Chunk} (M : Mem F w0 w (c :: L)) : Mem F w0 w L := M.pick L (· + 1) (fun _ _ _ _ h => by simpa using h) (fun i c h => by simpa using h)
theorem Mem.below {w0 w : World} {L : List Chunk} (M : Mem [] w0 w L) : Below w0.heap.size w0 w := M.kept.below
theorem Mem.nil {F : List Nat} {w0 w : World} {L : List Chunk} (M : Mem F w0 w L) (size : Nat) : Mem F w0 w (.sl size (.slice none 0 0) 0 [] :: L) :=
 M.add _ (Kept.refl _ _) (Own_nil _ _ _) (by simp [Chunk.fp, Value.ownBlock])
theorem Mem.sees {F : List Nat} {w0 w : World} {L : List Chunk} (M : Mem F w0 w L) {size : Nat} {v : Value} {n : Nat} {xs : List Value} (S : Sees w0 size v n xs) (hF : ∀ k, v.ownBlock = some k → k ∉ F) : Sees w size v n xs := by
 refine ⟨S.1, S.2.imp id ?_⟩
 rintro ⟨g, o, cap, rfl, hlt, hn, hc, hr⟩
 have e := M.kept.block g hlt (hF g rfl)
 exact ⟨g, o, cap, rfl, Nat.lt_of_lt_of_le hlt M.kept.size, hn, hc, rangeAt_of_block hr e⟩
theorem Mem.upd1 {w0 w : World} {c c' : Chunk} {L : List Chunk} (M : Mem c.fp w0 w L) (i : Nat) (hi : L[i]? = some c') : Upd w0 c w c' :=
 ⟨M.kept, M.ok i c' hi, M.own i c' hi⟩
/-! ### The operations -/
def scalarT (P : Program) (t : TypeId) : Bool := match P.underlying t with | some d => !d.isRow | none => false
def rowT (P : Program) (t : TypeId) : Bool := match P.underlying t with | some d => d.isRow | none => false
theorem qAX {P : Program} {t : TypeId} (h : scalarT P t = true) (w : World) (b o : Nat) (v : Value) (hv : w.cell? ⟨b, o, none⟩ = some v) : (loadVar t ⟨b, o, none⟩).run P w = .ok v w := by
 unfold scalarT at h
 cases hu : P.underlying t with
 | none => simp [hu] at h
 | some d =>
  have hagg : (isAgg t).run P w = .ok false w := by
   unfold isAgg
   rw [Sem.run_bind, run_underlying hu w]
   cases d <;> simp_all [TypeDesc.isRow]
  simp [loadVar, Sem.run_bind, hagg, Go.load, Sem.run, hv]
theorem wpW {P : Program} {ops : Array Oper} {rest : List Oper} {o : Oper} {a : Act} {w : World} {Q : Exit → Act → World → Prop} (hw : Region.wanted o (yielded ops a.tmps) = true)
  (h : ∀ K : Act → World → Prop, (∀ a w, wpList P ops Q rest a w → K a w) → o.wp P a w K Q) : wpList P ops Q (o :: rest) a w :=
 wpList_want hw (h _ fun _ _ h => h)
section
variable {P : Program} {ops : Array Oper} {rest : List Oper} {o : Oper} {a : Act} {w w0 : World} {Q : Exit → Act → World → Prop} {F : List Nat} {L : List Chunk}
theorem Mem.cellAt (M : Mem F w0 w L) (i : Nat) {g : Nat} {cs : List Value} (hi : L[i]? = some (.row g cs)) {off : Nat} {v : Value} (hv : cs[off]? = some v) : w.cell? ⟨g, off, none⟩ = some v := by
 have := (M.ok i _ hi).2.1 off v hv
 rwa [Nat.zero_add] at this
theorem qAM (M : Mem F w0 w L) (i : Nat) (t : TypeId) (x : Operand) (ho : o.op = .load t x) {g off : Nat} {cs : List Value} (hi : L[i]? = some (.row g cs)) (hx : a.eval x = .pointer (some ⟨g, off, none⟩)) (hw : Region.wanted o (yielded ops a.tmps) = true)
  (ht : scalarT P t = true) {v : Value} (hv : cs[off]? = some v) (h : wpList P ops Q rest (a.put o.dst v) w) : wpList P ops Q (o :: rest) a w :=
 wpW hw fun _ hK => by
  unfold Oper.wp execOp
  simp only [ho, hx, Instr.loadAt, Instr.sureAddr, Sem.run_bind, Sem.run_pure, Result.andThen_ok, qAX ht w g off v (M.cellAt i hi hv)]
  exact hK _ _ h
theorem qAR (M : Mem F w0 w L) (i : Nat) (t : TypeId) (x : Operand) (ho : o.op = .load t x) {g off : Nat} {cs : List Value} (hi : L[i]? = some (.row g cs)) (hx : a.eval x = .pointer (some ⟨g, off, none⟩)) (hw : Region.wanted o (yielded ops a.tmps) = true)
  (ht : rowT P t = true) (pre mid post : List Value) (hcs : cs = pre ++ (mid ++ post)) (hpre : pre.length = off) (hn : (P.info? t).map (·.size) = some mid.length) (h : wpList P ops Q rest (a.put o.dst (.agg mid.toArray)) w) : wpList P ops Q (o :: rest) a w :=
 wpW hw fun _ hK => by
  unfold rowT at ht
  cases hu : P.underlying t with
  | none => simp [hu] at ht
  | some d =>
   simp only [hu] at ht
   refine wp_load_mid t x ho g off hx mid d ?_ hu ht hn (hK _ _ h)
   intro j v hv
   refine M.cellAt i hi ?_
   have hj : j < mid.length := (List.getElem?_eq_some_iff.1 hv).1
   rw [hcs, ← hpre, List.getElem?_append_right yF, Nat.add_sub_cancel_left, List.getElem?_append_left hj]; exact hv
theorem qAm (M : Mem F w0 w L) (i : Nat) (t : TypeId) (x : Operand) (ho : o.op = .load t x) {g : Nat} {cs : List Value} (hi : L[i]? = some (.row g cs)) (hx : a.eval x = .pointer (some ⟨g, 0, none⟩)) (hw : Region.wanted o (yielded ops a.tmps) = true)
  (ht : rowT P t = true) (hn : (P.info? t).map (·.size) = some cs.length) (h : wpList P ops Q rest (a.put o.dst (.agg cs.toArray)) w) : wpList P ops Q (o :: rest) a w :=
 qAR M i t x ho hi hx hw ht [] cs [] yB1 rfl hn h
theorem qCu {g : Nat} {cs : List Value} (h : (Chunk.row g cs).ok w) (pre mid post new : List Value) (hcs : cs = pre ++ (mid ++ post)) (hnew : new.length = mid.length) :
  Upd w (.row g cs) (w.setCells g pre.length new) (.row g (pre ++ (new ++ post))) := by
 refine ⟨Kept.grown (qBH w g pre.length new), ⟨by rw [size_setCells]; exact h.1, ?_, ?_⟩, fun k hk => .inl hk⟩
 ·have hth := h.2.2
  rw [hcs] at hth
  have hr := h.2.1
  rw [hcs] at hr
  refine qAv ?_ (qAv ?_ ?_)
  ·refine World.rangeAt_setCells_apart ?_ _ _ _ (.inr (.inl yF))
   have := qBA hr pre.length
   rwa [List.take_left'  rfl] at this
  ·rw [Nat.zero_add]
   refine World.rangeAt_setCells_same _ _ _ _ ?_
   have := qBI hth pre.length
   rw [Nat.zero_add] at this
   exact qAr this yC1
  ·refine World.rangeAt_setCells_apart ?_ _ _ _ (.inr (.inr yF))
   have := qBF hr (pre.length + mid.length)
   rw [← List.append_assoc, List.drop_left' yB1] at this
   rw [hnew, Nat.add_assoc]; exact this
 ·have := h.2.2
  rw [hcs] at this
  refine World.there_setCells (qAr this ?_) _ _ _
  simp; omega
theorem setCells_one (w : World) (g o : Nat) (v : Value) : w.setCells g o [v] = w.setCell ⟨g, o, none⟩ v := by simp [World.setCells]
theorem qDb {g off : Nat} {cs : List Value} (h : (Chunk.row g cs).ok w) (hlt : off < cs.length) (v : Value) : Upd w (.row g cs) (w.setCell ⟨g, off, none⟩ v) (.row g (cs.set off v)) := by
 have := qCu h (cs.take off) [cs[off]] (cs.drop (off + 1)) [v] yB1 rfl
 rw [List.length_take, Nat.min_eq_left yF, setCells_one] at this
 rwa [List.set_eq_take_append_cons_drop, if_pos hlt]
theorem qBn (M : Mem F w0 w L) (i : Nat) (t : TypeId) (x y : Operand) (ho : o.op = .store t x y) {g off : Nat} {cs : List Value} (hi : L[i]? = some (.row g cs)) (hx : a.eval x = .pointer (some ⟨g, off, none⟩)) (hw : Region.wanted o (yielded ops a.tmps) = true)
  {v : Value} (hy : a.eval y = v) (h1 : v.oneCell' = true) (hc : v.cells = #[v]) (hn : (P.info? t).map (·.size) = some 1) (hlt : off < cs.length)
  (h : ∀ w' : World, Mem F w0 w' (L.set i (.row g (cs.set off v))) → wpList P ops Q rest (a.put o.dst undef) w') : wpList P ops Q (o :: rest) a w :=
 wpW hw fun _ hK => by
  have hok := M.ok i _ hi
  have hst := qBL (P := P) (w := w) (g := g) (o := off) [v] (by have := qBI hok.2.2 off; rw [Nat.zero_add] at this; exact qAr this yC1) (by simpa using h1)
  cases hq : P.info? t with
  | none => simp [hq] at hn
  | some inf =>
   have hs : inf.size = 1 := by simpa [hq] using hn
   unfold Oper.wp execOp
   simp only [ho, hx, hy, Instr.storeAt, Instr.sureAddr, storeVar, Sem.run_bind, Sem.run_pure, Result.andThen_ok, sizeOf, typeInfo, run_program, hq, hs, hc]
   simp only [List.size_toArray, List.length_cons, List.length_nil, Nat.zero_add, ne_eq, not_true_eq_false, if_false, hst, Result.andThen_ok]
   rw [setCells_one]
   exact hK _ _ (h _ (M.upd i hi (qDb hok hlt v)))
theorem qDo (M : Mem F w0 w L) (i : Nat) (t : TypeId) (x y : Operand) (ho : o.op = .store t x y) {g off : Nat} {cs : List Value} (hi : L[i]? = some (.row g cs)) (hx : a.eval x = .pointer (some ⟨g, off, none⟩)) (hw : Region.wanted o (yielded ops a.tmps) = true)
  {C : Array Value} (new : List Value) (hy : a.eval y = .agg C) (hC : C = new.toArray) (hn : (P.info? t).map (·.size) = some new.length) (h1 : ∀ v ∈ new, v.oneCell' = true) (pre mid post : List Value) (hcs : cs = pre ++ (mid ++ post)) (hpre : pre.length = off) (hmid : new.length = mid.length)
  (h : ∀ w' : World, Mem F w0 w' (L.set i (.row g (pre ++ (new ++ post)))) → wpList P ops Q rest (a.put o.dst undef) w') : wpList P ops Q (o :: rest) a w :=
 wpW hw fun _ hK => by
  subst hC
  have hok := M.ok i _ hi
  have hth := hok.2.2
  rw [hcs] at hth
  refine wp_store_mid t x y ho g off new.toArray hx hy ?_ (by simpa using hn) (all_oneCell_toArray h1) (hK _ _ (h _ ?_))
  ·have := qBI hth off
   rw [Nat.zero_add] at this
   exact qAr this yC1
  ·have := M.upd i hi (qCu hok pre mid post new hcs hmid)
   rw [hpre] at this
   simpa using this
theorem qBK (M : Mem F w0 w L) (i : Nat) (t : TypeId) (x y : Operand) (ho : o.op = .store t x y) {g : Nat} {cs : List Value} (hi : L[i]? = some (.row g cs)) (hx : a.eval x = .pointer (some ⟨g, 0, none⟩)) (hw : Region.wanted o (yielded ops a.tmps) = true)
  {C : Array Value} (new : List Value) (hy : a.eval y = .agg C) (hC : C = new.toArray) (hn : (P.info? t).map (·.size) = some new.length) (h1 : ∀ v ∈ new, v.oneCell' = true) (hl : new.length = cs.length)
  (h : ∀ w' : World, Mem F w0 w' (L.set i (.row g new)) → wpList P ops Q rest (a.put o.dst undef) w') : wpList P ops Q (o :: rest) a w :=
 qDo M i t x y ho hi hx hw new hy hC hn h1 [] cs [] yB1 rfl hl (fun w' M' => h w' (by simpa using M'))
theorem new_row (w : World) (C : Array Value) (t : TypeId) : (Chunk.row w.heap.size C.toList).ok (w.alloc (.cells C t)) :=
 ⟨by simp, qBC w C t (0, 0), qBP w C t _ yB1⟩
theorem Mem.alloc (M : Mem F w0 w L) (C : Array Value) (t : TypeId) : Mem F w0 (w.alloc (.cells C t)) (.row w.heap.size C.toList :: L) :=
 M.add _ (Kept.alloc _ _) (new_row w C t) yG1
theorem qFH (M : Mem F w0 w L) (t : TypeId) (ho : o.op = .alloc t) (hw : Region.wanted o (yielded ops a.tmps) = true) (z : Value) (cs : List Value) (hz : (P.info? t).bind (·.zero) = some z) (hc : z.cells = cs.toArray)
  (h : ∀ (g : Nat) (w' : World), Mem F w0 w' (.row g cs :: L) → wpList P ops Q rest (a.put o.dst (.pointer (some ⟨g, 0, none⟩))) w') : wpList P ops Q (o :: rest) a w :=
 wpW hw fun _ hK => by
  cases hq : P.info? t with
  | none => simp [hq] at hz
  | some inf =>
   have hzz : inf.zero = some z := by simpa [hq] using hz
   have hr : (Instr.alloc t true (.tuple #[])).run P w = .ok (.pointer (some ⟨w.heap.size, 0, none⟩)) (w.alloc (.cells z.cells t)) := by
    simp only [Instr.alloc, zeroValue, typeInfo, Sem.run_bind, run_program, hq, Sem.run_pure, Result.andThen_ok, hzz]; rfl
   unfold Oper.wp execOp
   simp only [ho, Sem.run_bind, hr, Result.andThen_ok]
   exact hK _ _ (h _ _ (by have := M.alloc z.cells t; rw [hc] at this ⊢; exact this))
theorem wal (M : Mem F w0 w L) (t : TypeId) (ho : o.op = .alloc t) (hw : Region.wanted o (yielded ops a.tmps) = true) (cs : List Value) (hz : (P.info? t).bind (·.zero) = some (.agg cs.toArray))
  (h : ∀ (g : Nat) (w' : World), Mem F w0 w' (.row g cs :: L) → wpList P ops Q rest (a.put o.dst (.pointer (some ⟨g, 0, none⟩))) w') : wpList P ops Q (o :: rest) a w := qFH M t ho hw _ cs hz rfl h
theorem w_box (M : Mem F w0 w L) (t : TypeId) (x : Operand) (ho : o.op = .box t x) (hw : Region.wanted o (yielded ops a.tmps) = true) (v : Value) (hx : a.eval x = v) (cs : List Value) (hc : v.cells = cs.toArray)
  (h : ∀ (g : Nat) (w' : World), Mem F w0 w' (.row g cs :: L) → wpList P ops Q rest (a.put o.dst (.pointer (some ⟨g, 0, none⟩))) w') : wpList P ops Q (o :: rest) a w :=
 wpW hw fun _ hK => by
  have hr : (Instr.box t v).run P w = .ok (.pointer (some ⟨w.heap.size, 0, none⟩)) (w.alloc (.cells v.cells t)) := rfl
  unfold Oper.wp execOp
  simp only [ho, hx, Sem.run_bind, hr, Result.andThen_ok]
  exact hK _ _ (h _ _ (by have := M.alloc v.cells t; rw [hc] at this ⊢; exact this))
theorem qCI (M : Mem F w0 w L) {t e : TypeId} {size bytes : Nat} (T : SliceT P t e size bytes) (len : Nat) (parts : Array (Nat × Operand)) (ho : o.op = .buildSlice t len parts) (hw : Region.wanted o (yielded ops a.tmps) = true) (hlen : 0 < len ∧ len * size ≤ 16777216) (z : Value) (hz : (P.info? e).bind (·.zero) = some z) (cs : List Value)
  (hf : Instr.fill (fun i => some (i * size, size)) ((Array.range (len * size)).map (z.cells[· % z.cells.size]!)) (parts.map fun (i, x) => (i, a.eval x)).toList = some cs.toArray)
  (h : ∀ (g : Nat) (w' : World), Mem F w0 w' (.row g cs :: L) → wpList P ops Q rest (a.put o.dst (.slice (some ⟨g, 0, none⟩) len len)) w') : wpList P ops Q (o :: rest) a w :=
 wpW hw fun _ hK => by
  obtain ⟨ht, ⟨i, z', hi, hz', hsize, hby, hzs⟩, hsz⟩ := T
  have ez : z' = z := by simpa [hi, hz'] using hz
  subst ez hsize
  have hr := run_buildSlice (P := P) w t e len _ cs.toArray i z' ht hi hz' yF (by have := Nat.mul_pos hlen.1 hsz; omega) hf
  unfold Oper.wp execOp
  simp only [ho, Sem.run_bind, hr, Result.andThen_ok]
  exact hK _ _ (h _ _ (M.alloc cs.toArray e))
theorem foldl_set (l : List Value) : ∀ (k : Nat) (C : Array Value), k + l.length ≤ C.size → ((l.zipIdx k).foldl (fun cs x => cs.setIfInBounds x.2 x.1) C).toList = C.toList.take k ++ l ++ C.toList.drop (k + l.length) := by
 induction l with
 | nil => intro k C h; simp
 | cons v r ih =>
  intro k C h
  simp only [List.length_cons] at h
  rw [List.zipIdx_cons, List.foldl_cons, ih (k + 1) _ yC1]
  have hk : k < C.toList.length := by simpa using (by omega : k < C.size)
  rw [Array.toList_setIfInBounds, List.take_set, List.take_succ_eq_append_getElem hk, List.drop_set_of_lt yF, List.set_append_right _ _ yC1]
  simp only [List.length_take, Nat.min_eq_left (Nat.le_of_lt hk), Nat.sub_self, List.set_cons_zero, List.length_cons]
  rw [show k + 1 + r.length = k + (r.length + 1) by omega]
  simp
theorem fill_one (size : Nat) (C : Array Value) (hC : C.size = size) (v : Value) (hv : v.cells.size = size) : Instr.fill (fun i => some (i * size, size)) C [(0, v)] = some v.cells := by
 have e := foldl_set v.cells.toList 0 C (by simp [hC, hv])
 have e2 : (v.cells.zipIdx.foldl (fun cs x => cs.setIfInBounds (0 * size + x.2) x.1) C) = v.cells := by
  apply Array.ext'
  rw [← Array.foldl_toList]
  simp only [Nat.zero_mul, Nat.zero_add, Array.toList_zipIdx]
  rw [e]
  simp [hv, hC]
 simp only [Instr.fill, Nat.zero_mul, Nat.zero_add, hv, hC]
 simp only [Nat.zero_mul, Nat.zero_add] at e2
 have hz : v.cells.size = v.cells.zipIdx.size := by simp
 simp
 rw [hz]
 exact e2
theorem qAV (M : Mem F w0 w L) {t e : TypeId} {size bytes : Nat} (T : SliceT P t e size bytes) (hsm : size ≤ 1000) (x : Operand) (ho : o.op = .buildSlice t 1 #[(0, x)]) (hw : Region.wanted o (yielded ops a.tmps) = true) {v : Value} (hx : a.eval x = v) (cs : List Value) (hc : v.cells = cs.toArray) (hcs : cs.length = size)
  (h : ∀ (g : Nat) (w' : World), Mem F w0 w' (.row g cs :: L) → wpList P ops Q rest (a.put o.dst (.slice (some ⟨g, 0, none⟩) 1 1)) w') : wpList P ops Q (o :: rest) a w := by
 have T' := T
 obtain ⟨ht, ⟨i, z', hi, hz', hsize, hby, hzs⟩, hsz⟩ := T'
 refine qCI M T 1 _ ho hw ⟨by omega, by omega⟩ z' (by simp [hi, hz']) cs ?_ h
 have := fill_one size ((Array.range (1 * size)).map (z'.cells[· % z'.cells.size]!)) yB1 v (by rw [hc]; simpa using hcs)
 rw [hc] at this
 subst hx
 simpa using this
theorem Own.form0 {base size : Nat} {v : Value} {n : Nat} {xs : List Value} (h : Own w base size v n xs) : ∃ a cap, v = .slice a n cap := by
 obtain ⟨a, c, e, _⟩ := h.sees.form; exact ⟨a, c, e⟩
theorem qCb (M : Mem F w0 w L) (i : Nat) {t e : TypeId} {size bytes : Nat} (T : SliceT P t e size bytes) (s x : Operand) (u : TypeId) (ho : o.op = .call { callee := .builtin .append, args := #[s, x], argTypes := #[t, u] }) (hu : P.underlying u = some .string ∨ ∃ e', P.underlying u = some (.slice e'))
  (hw : Region.wanted o (yielded ops a.tmps) = true) {v : Value} {n : Nat} {xs : List Value} (hi : L[i]? = some (.sl size v n xs)) (hs : a.eval s = v) {xv : Value} (hx : a.eval x = xv) (m : Nat) (news : List Value) (hsrc : Src P w size xv m news)
  (h63 : n + m ≤ maxLen) (hbytes : (n + m) * bytes ≤ 140737488355328)
  (h : ∀ (p : Option Addr) (cap : Nat) (w' : World), Mem F w0 w' (L.set i (.sl size (.slice p (n + m) cap) (n + m) (xs ++ news))) → wpList P ops Q rest (a.put o.dst (.slice p (n + m) cap)) w') : wpList P ops Q (o :: rest) a w :=
 wpW hw fun _ hK => by
  refine qFC T s x u ho hu 0 v n xs hs (M.ok i _ hi) xv m news hx hsrc h63 hbytes (Nat.zero_le _) ?_
  intro v' w' hown hg hb _
  obtain ⟨p, cap, rfl⟩ := hown.form0
  refine hK _ _ (h p cap w' (M.upd i hi ⟨Kept.grown hg, hown, fun k hk => ?_⟩))
  simp only [Chunk.fp, Option.mem_toList] at hk ⊢
  rcases hb with hb | hb
  ·exact .inl (hb ▸ hk)
  ·rw [hb] at hk; cases hk; exact .inr (Nat.le_refl _)
theorem qAg {g : Nat} {news : List Value} (M : Mem F w0 w (.row g news :: L)) (i : Nat) {t e : TypeId} {size bytes : Nat} (T : SliceT P t e size bytes) (s x : Operand) (ho : o.op = .call { callee := .builtin .append, args := #[s, x], argTypes := #[t, t] })
  (hw : Region.wanted o (yielded ops a.tmps) = true) {v : Value} {n : Nat} {xs : List Value} (hi : L[i]? = some (.sl size v n xs)) (hs : a.eval s = v) {m : Nat} (hx : a.eval x = .slice (some ⟨g, 0, none⟩) m m) (hm : news.length = m * size) (h1 : ∀ q ∈ news, q.oneCell' = true)
  (hmm : m ≤ 1000000) (h63 : n + m ≤ maxLen) (hbytes : (n + m) * bytes ≤ 140737488355328)
  (h : ∀ (p : Option Addr) (cap : Nat) (w' : World), Mem F w0 w' (L.set i (.sl size (.slice p (n + m) cap) (n + m) (xs ++ news))) → wpList P ops Q rest (a.put o.dst (.slice p (n + m) cap)) w') : wpList P ops Q (o :: rest) a w := by
 have hok := M.ok 0 _ rfl
 refine qCb M.tail i T s x t ho (.inr ⟨e, T.ht⟩) hw hi hs hx m news (qBg ⟨hm, .inr ⟨g, 0, m, rfl, hok.1, Nat.le_refl _, by simp only [maxLen]; omega, hok.2.1⟩⟩ h1) h63 hbytes h
theorem w_string (M : Mem F w0 w L) (i : Nat) (src dst e : TypeId) (x : Operand) (ho : o.op = .convert src dst x) (hw : Region.wanted o (yielded ops a.tmps) = true) {v : Value} {l : List UInt8} {n : Nat} (hi : L[i]? = some (.sl 1 v n (bs l))) (hn : n = l.length) (hx : a.eval x = v)
  (hs : P.underlying src = some (.slice e)) (he : P.underlying e = some (.int .u8)) (hd : P.underlying dst = some .string)
  (h : wpList P ops Q rest (a.put o.dst (.string (mkS l))) w) : wpList P ops Q (o :: rest) a w :=
 wpW hw fun _ hK => by
  subst hn
  have hr := SeesB.run_string (P := P) (l := l) (Own.sees (M.ok i _ hi)) src dst e hs he hd w (grownBy_refl _ _)
  unfold Oper.wp execOp
  simp only [ho, hx, Sem.run_bind, hr, Result.andThen_ok]
  exact hK _ _ h
theorem qDH {g off n cap : Nat} {l : List UInt8} (h : (Chunk.row g (bs l)).ok w) (ho : off + n ≤ l.length) (hc : n ≤ cap) (hm : cap ≤ maxLen) : SeesB w (.slice (some ⟨g, off, none⟩) n cap) ((l.drop off).take n) := by
 have hl : ((l.drop off).take n).length = n := by simp; omega
 refine ⟨by simp, .inr ⟨g, off, cap, by rw [hl], h.1, by omega, hm, ?_⟩⟩
 have := qBA (qBF h.2.1 off) n
 rw [Nat.zero_add] at this
 rwa [List.map_take, List.map_drop]
theorem w_stringR (M : Mem F w0 w L) (i : Nat) (src dst e : TypeId) (x : Operand) (ho : o.op = .convert src dst x) (hw : Region.wanted o (yielded ops a.tmps) = true) {g : Nat} {l : List UInt8} (hi : L[i]? = some (.row g (bs l))) {off n cap : Nat} (hx : a.eval x = .slice (some ⟨g, off, none⟩) n cap)
  (hb : off + n ≤ l.length) (hc : n ≤ cap) (hm : cap ≤ maxLen) (hs : P.underlying src = some (.slice e)) (he : P.underlying e = some (.int .u8)) (hd : P.underlying dst = some .string)
  (h : wpList P ops Q rest (a.put o.dst (.string (mkS ((l.drop off).take n)))) w) : wpList P ops Q (o :: rest) a w :=
 wpW hw fun _ hK => by
  have hr := SeesB.run_string (P := P) (qDH (M.ok i _ hi) hb hc hm) src dst e hs he hd w (grownBy_refl _ _)
  unfold Oper.wp execOp
  simp only [ho, hx, Sem.run_bind, hr, Result.andThen_ok]
  exact hK _ _ h
theorem w_stringW (M : Mem F w0 w L) (i : Nat) (src dst e : TypeId) (x : Operand) (ho : o.op = .convert src dst x) (hw : Region.wanted o (yielded ops a.tmps) = true) {g : Nat} {l : List UInt8} (hi : L[i]? = some (.row g (bs l))) {n : Nat} (hx : a.eval x = .slice (some ⟨g, 0, none⟩) n n)
  (hb : l.length = n) (hm : n ≤ maxLen) (hs : P.underlying src = some (.slice e)) (he : P.underlying e = some (.int .u8)) (hd : P.underlying dst = some .string)
  (h : wpList P ops Q rest (a.put o.dst (.string (mkS l))) w) : wpList P ops Q (o :: rest) a w :=
 w_stringR M i src dst e x ho hw hi hx yF (Nat.le_refl _) hm hs he hd (by rw [List.drop_zero, List.take_of_length_le yF]; exact h)
theorem w_copy (M : Mem F w0 w L) (i : Nat) {t e : TypeId} {size bytes : Nat} (T : SliceT P t e size bytes) (d x : Operand) (u : TypeId) (ho : o.op = .call { callee := .builtin .copy, args := #[d, x], argTypes := #[t, u] }) (hw : Region.wanted o (yielded ops a.tmps) = true)
  {g off dl dc : Nat} {cs : List Value} (hi : L[i]? = some (.row g cs)) (hd : a.eval d = .slice (some ⟨g, off, none⟩) dl dc) {xv : Value} (hx : a.eval x = xv) (m : Nat) (news : List Value) (hsrc : Src P w size xv m news)
  (k : Nat) (hk : k = Nat.min m dl) (hlen : off + k * size ≤ cs.length)
  (h : ∀ w' : World, Mem F w0 w' (L.set i (.row g (cs.take off ++ (news.take (k * size) ++ cs.drop (off + k * size))))) → wpList P ops Q rest (a.put o.dst (.int .i64 k)) w') : wpList P ops Q (o :: rest) a w :=
 wpW hw fun _ hK => by
  have hok := M.ok i _ hi
  have hth := qBI hok.2.2 off
  rw [Nat.zero_add] at hth
  have hr := qEm (P := P) (w := w) T u o.type g off dl dc xv m news hsrc k hk (qAr hth yF)
  unfold Oper.wp execOp
  simp only [ho, resolve, invoke, builtin, Sem.run_bind, Sem.run_pure, Result.andThen_ok, List.map_toArray, List.map_cons, List.map_nil, hd, hx, hr]
  have hkm : k ≤ m := by rw [hk]; exact Nat.min_le_left _ _
  have hl : (news.take (k * size)).length = k * size := by
   rw [List.length_take, hsrc.1]; exact Nat.min_eq_left (Nat.mul_le_mul_right _ hkm)
  have U := qCu hok (cs.take off) ((cs.drop off).take (k * size)) (cs.drop (off + k * size)) (news.take (k * size)) (by rw [← List.drop_drop, List.take_append_drop, List.take_append_drop]) (by rw [hl, List.length_take, List.length_drop, Nat.min_eq_left yF])
  rw [List.length_take, Nat.min_eq_left yF] at U
  exact hK _ _ (h _ (M.upd i hi U))
theorem w_guard {dst : Option Tmp} {op : Op} {ty : TypeId} {pos : String} {after : Array Edge} {j : Nat} {want b : Bool} (hb : yielded ops a.tmps j = some b)
  (h1 : b = want → wpList P ops Q (Oper.mk dst op ty pos after none :: rest) a w) (h2 : b = (!want) → wpList P ops Q rest (a.put dst undef) w) : wpList P ops Q (Oper.mk dst op ty pos after (some (j, want)) :: rest) a w := by
 by_cases e : b = want
 ·have h := h1 e
  unfold wpList at h ⊢
  rw [if_pos (by simp [Region.wanted])] at h
  rw [if_pos (by simp [Region.wanted, hb, e])]
  exact h
 ·have h := h2 (by cases b <;> cases want <;> simp_all)
  unfold wpList
  rw [if_neg (by simp [Region.wanted, hb, e])]
  exact h
end
end TL
end Go
namespace Go
namespace TL
open Go.RowKit
section
variable {P : Program} {ops : Array Oper} {rest : List Oper} {o : Oper} {a : Act} {w w0 : World} {Q : Exit → Act → World → Prop} {F : List Nat} {L : List Chunk}
theorem getD_some {l : List UInt8} {i : Nat} (h : i < l.length) : (bs l)[i]? = some (.int .u8 (I8 (l.getD i 0))) := by
 rw [bs, List.getElem?_map, List.getD_eq_getElem?_getD, List.getElem?_eq_getElem h]; rfl
theorem qEU (M : Mem F w0 w L) (i : Nat) (t : TypeId) (x : Operand) (ho : o.op = .load t x) {g off : Nat} {l : List UInt8} (hi : L[i]? = some (.row g (bs l))) (hx : a.eval x = .pointer (some ⟨g, off, none⟩)) (hw : Region.wanted o (yielded ops a.tmps) = true)
  (ht : scalarT P t = true) (hlt : off < l.length) (h : wpList P ops Q rest (a.put o.dst (.int .u8 (I8 (l.getD off 0)))) w) : wpList P ops Q (o :: rest) a w :=
 qAM M i t x ho hi hx hw ht (getD_some hlt) h
theorem qET (M : Mem F w0 w L) (i : Nat) (t : TypeId) (x : Operand) (ho : o.op = .load t x) {g : Nat} {l : List UInt8} (hi : L[i]? = some (.row g (bs l))) (hx : a.eval x = .pointer (some ⟨g, 0, none⟩)) (hw : Region.wanted o (yielded ops a.tmps) = true)
  (ht : rowT P t = true) {n : Nat} (hl : l.length = n) (hn : (P.info? t).map (·.size) = some n) (h : wpList P ops Q rest (a.put o.dst (.agg (bs l).toArray)) w) : wpList P ops Q (o :: rest) a w :=
 qAm M i t x ho hi hx hw ht (by rw [qAP, hl]; exact hn) h
theorem w_storeB (M : Mem F w0 w L) (i : Nat) (t : TypeId) (x y : Operand) (ho : o.op = .store t x y) {g off : Nat} {l : List UInt8} (hi : L[i]? = some (.row g (bs l))) (hx : a.eval x = .pointer (some ⟨g, off, none⟩)) (hw : Region.wanted o (yielded ops a.tmps) = true)
  {b : UInt8} (hy : a.eval y = .int .u8 (I8 b)) (hn : (P.info? t).map (·.size) = some 1) (hlt : off < l.length)
  (h : ∀ w' : World, Mem F w0 w' (L.set i (.row g (bs (l.set off b)))) → wpList P ops Q rest (a.put o.dst undef) w') : wpList P ops Q (o :: rest) a w :=
 qBn M i t x y ho hi hx hw hy rfl rfl hn (by rw [qAP]; exact hlt) (fun w' M' => h w' (by rw [bs_set]; exact M'))
theorem w_storeH (M : Mem F w0 w L) (i : Nat) (t : TypeId) (x y : Operand) (ho : o.op = .store t x y) {g : Nat} {l : List UInt8} (hi : L[i]? = some (.row g (bs l))) (hx : a.eval x = .pointer (some ⟨g, 0, none⟩)) (hw : Region.wanted o (yielded ops a.tmps) = true)
  {m : List UInt8} (hy : a.eval y = .agg (m.map vb).toArray) {n : Nat} (hm : m.length = n) (hn : (P.info? t).map (·.size) = some n) (hl : l.length = n)
  (h : ∀ w' : World, Mem F w0 w' (L.set i (.row g (bs m))) → wpList P ops Q rest (a.put o.dst undef) w') : wpList P ops Q (o :: rest) a w :=
 qBK M i t x y ho hi hx hw (bs m) hy rfl (by rw [qAP, hm]; exact hn) (qEL _) (by simp [qAP, hm, hl]) h
theorem w_strip {dst : Option Tmp} {op : Op} {ty : TypeId} {pos : String} {after : Array Edge} {j : Nat} {want b : Bool} (hb : yielded ops a.tmps j = some b) (hl : b = want)
  (h : wpList P ops Q (Oper.mk dst op ty pos after none :: rest) a w) : wpList P ops Q (Oper.mk dst op ty pos after (some (j, want)) :: rest) a w := by
 subst hl
 unfold wpList at h ⊢
 rw [if_pos (by simp [Region.wanted])] at h
 rw [if_pos (by simp [Region.wanted, hb])]
 exact h
theorem w_case {dst : Option Tmp} {op : Op} {ty : TypeId} {pos : String} {after : Array Edge} {j : Nat} {want b : Bool} (_hb : yielded ops a.tmps j = some b)
  (h1 : b = true → wpList P ops Q (Oper.mk dst op ty pos after (some (j, want)) :: rest) a w) (h0 : b = false → wpList P ops Q (Oper.mk dst op ty pos after (some (j, want)) :: rest) a w) : wpList P ops Q (Oper.mk dst op ty pos after (some (j, want)) :: rest) a w := by
 cases b
 ·exact h0 rfl
 ·exact h1 rfl
end
end TL
end Go
namespace Go
namespace TL
/-! ### The next operation's shape: a law that fits it alone -/
section
variable {P : Program} {ops : Array Oper} {rest : List Oper} {a : Act} {w : World} {Q : Exit → Act → World → Prop} {dst : Option Tmp} {ty : TypeId} {pos : String} {after : Array Edge} {g : Option (Nat × Bool)}
theorem tLoad {t : TypeId} {x : Operand} (h : wpList P ops Q (Oper.mk dst (.load t x) ty pos after g :: rest) a w) : wpList P ops Q (Oper.mk dst (.load t x) ty pos after g :: rest) a w := h
theorem tStore {t : TypeId} {x y : Operand} (h : wpList P ops Q (Oper.mk dst (.store t x y) ty pos after g :: rest) a w) : wpList P ops Q (Oper.mk dst (.store t x y) ty pos after g :: rest) a w := h
theorem tApp {x : Array Operand} {t : Array TypeId} (h : wpList P ops Q (Oper.mk dst (.call ⟨.builtin .append, x, t⟩) ty pos after g :: rest) a w) : wpList P ops Q (Oper.mk dst (.call ⟨.builtin .append, x, t⟩) ty pos after g :: rest) a w := h
theorem tBox (dst : Option Tmp) {t : TypeId} {x : Operand} (h : wpList P ops Q (Oper.mk dst (.box t x) ty pos after g :: rest) a w) : wpList P ops Q (Oper.mk dst (.box t x) ty pos after g :: rest) a w := h
theorem tAlloc (dst : Option Tmp) (t : TypeId) (h : wpList P ops Q (Oper.mk dst (.alloc t) ty pos after g :: rest) a w) : wpList P ops Q (Oper.mk dst (.alloc t) ty pos after g :: rest) a w := h
theorem tConv (dst : Option Tmp) (s t : TypeId) {x : Operand} (h : wpList P ops Q (Oper.mk dst (.convert s t x) ty pos after g :: rest) a w) : wpList P ops Q (Oper.mk dst (.convert s t x) ty pos after g :: rest) a w := h
theorem tGuard {op : Op} {q : Nat × Bool} (h : wpList P ops Q (Oper.mk dst op ty pos after (some q) :: rest) a w) : wpList P ops Q (Oper.mk dst op ty pos after (some q) :: rest) a w := h
theorem apS {l : List Value} {d : List Deferred} {k : Nat} {v : Value} : Act.put ⟨l.toArray, d⟩ (some k) v = ⟨(l.set k v).toArray, d⟩ ∧ ∀ a : Act, Act.put a none v = a := ⟨by simp [Act.put], fun _ => rfl⟩
end
theorem qBr {l : List Value} {d : List Deferred} {n : Nat} {v : Value} (h : l[n]? = some v) : Act.eval ⟨l.toArray, d⟩ (.tmp n) = v := by
 simp [Act.eval, h]
theorem qCm {a : Act} {v : Value} : a.eval (.const v) = v := rfl
theorem w_at {P : Program} {ops : Array Oper} {rest : List Oper} {o : Oper} {a : Act} {w : World} {Q : Exit → Act → World → Prop} (t : TypeId) (x : Operand) (_ho : o.op = .load t x) {v : Value} (hx : a.eval x = v)
  (h : a.eval x = v → wpList P ops Q (o :: rest) a w) : wpList P ops Q (o :: rest) a w := h hx
theorem w_at2 {P : Program} {ops : Array Oper} {rest : List Oper} {o : Oper} {a : Act} {w : World} {Q : Exit → Act → World → Prop} (t : TypeId) (x y : Operand) (_ho : o.op = .store t x y) {v u : Value} (hx : a.eval x = v) (hy : a.eval y = u)
  (h : a.eval x = v → a.eval y = u → wpList P ops Q (o :: rest) a w) : wpList P ops Q (o :: rest) a w := h hx hy
end TL
end Go
namespace Go
namespace TL
open Go.RowKit
/-! ### The same laws, for a walk's arms: what stands at their sides is found by a tactic that each law names -/
section
variable {P : Program} {a : Act} {w w0 : World} {F : List Nat} {L : List Chunk} {t : TypeId} {g off : Nat} {cs : List Value} {l : List UInt8} {i : Nat}
def LdA (P : Program) (w : World) (t : TypeId) (va v : Value) : Prop := ∀ (ops : Array Oper) (Q : Exit → Act → World → Prop) (o : Oper) (x : Operand) (rest : List Oper) (a : Act), o.op = .load t x → a.eval x = va → Region.wanted o (yielded ops a.tmps) = true → wpList P ops Q rest (a.put o.dst v) w → wpList P ops Q (o :: rest) a w
theorem LdA.cell (M : Mem F w0 w L) (hi : L[i]? = some (.row g cs)) (ht : scalarT P t = true) {v : Value} (hv : cs[off]? = some v) : LdA P w t (.pointer (some ⟨g, off, none⟩)) v := fun _ _ _ x _ _ ho hx hw h => qAM M i t x ho hi hx hw ht hv h
theorem LdA.byte (M : Mem F w0 w L) (hi : L[i]? = some (.row g (bs l))) (ht : scalarT P t = true) (hlt : off < l.length) : LdA P w t (.pointer (some ⟨g, off, none⟩)) (.int .u8 (I8 (l.getD off 0))) := fun _ _ _ x _ _ ho hx hw h => qEU M i t x ho hi hx hw ht hlt h
theorem LdA.arr (M : Mem F w0 w L) (hi : L[i]? = some (.row g (bs l))) (ht : rowT P t = true) {n : Nat} (hl : l.length = n) (hn : (P.info? t).map (·.size) = some n) : LdA P w t (.pointer (some ⟨g, 0, none⟩)) (.agg (bs l).toArray) := fun _ _ _ x _ _ ho hx hw h => qET M i t x ho hi hx hw ht hl hn h
theorem LdA.row (M : Mem F w0 w L) (hi : L[i]? = some (.row g cs)) (ht : rowT P t = true) (hn : (P.info? t).map (·.size) = some cs.length) : LdA P w t (.pointer (some ⟨g, 0, none⟩)) (.agg cs.toArray) := fun _ _ _ x _ _ ho hx hw h => qAm M i t x ho hi hx hw ht hn h
def StA (P : Program) (w : World) (t : TypeId) (va vy : Value) (R : World → Prop) : Prop := ∀ (ops : Array Oper) (Q : Exit → Act → World → Prop) (o : Oper) (x y : Operand) (rest : List Oper) (a : Act), o.op = .store t x y → a.eval x = va → a.eval y = vy → Region.wanted o (yielded ops a.tmps) = true → (∀ w' : World, R w' → wpList P ops Q rest (a.put o.dst undef) w') → wpList P ops Q (o :: rest) a w
theorem StA.cell (M : Mem F w0 w L) (hi : L[i]? = some (.row g cs)) {v : Value} (h1 : v.oneCell' = true) (hc : v.cells = #[v]) (hn : (P.info? t).map (·.size) = some 1) (hlt : off < cs.length) : StA P w t (.pointer (some ⟨g, off, none⟩)) v fun w' => Mem F w0 w' (L.set i (.row g (cs.set off v))) := fun _ _ _ x y _ _ ho hx hy hw h => qBn M i t x y ho hi hx hw hy h1 hc hn hlt h
theorem StA.byte (M : Mem F w0 w L) (hi : L[i]? = some (.row g (bs l))) {b : UInt8} (hn : (P.info? t).map (·.size) = some 1) (hlt : off < l.length) : StA P w t (.pointer (some ⟨g, off, none⟩)) (.int .u8 (I8 b)) fun w' => Mem F w0 w' (L.set i (.row g (bs (l.set off b)))) := fun _ _ _ x y _ _ ho hx hy hw h => w_storeB M i t x y ho hi hx hw hy hn hlt h
theorem StA.arr (M : Mem F w0 w L) (hi : L[i]? = some (.row g (bs l))) {m : List UInt8} {n : Nat} (hm : m.length = n) (hn : (P.info? t).map (·.size) = some n) (hl : l.length = n) : StA P w t (.pointer (some ⟨g, 0, none⟩)) (.agg (bs m).toArray) fun w' => Mem F w0 w' (L.set i (.row g (bs m))) := fun _ _ _ x y _ _ ho hx hy hw h => w_storeH M i t x y ho hi hx hw hy hm hn hl h
theorem StA.row (M : Mem F w0 w L) (hi : L[i]? = some (.row g cs)) {C : Array Value} {new : List Value} (hC : C = new.toArray) (hn : (P.info? t).map (·.size) = some new.length) (h1 : ∀ v ∈ new, v.oneCell' = true) (hl : new.length = cs.length) : StA P w t (.pointer (some ⟨g, 0, none⟩)) (.agg C) fun w' => Mem F w0 w' (L.set i (.row g new)) := fun _ _ _ x y _ _ ho hx hy hw h => qBK M i t x y ho hi hx hw new hy hC hn h1 hl h
def CvA (P : Program) (w : World) (src dst : TypeId) (vx v : Value) : Prop := ∀ (ops : Array Oper) (Q : Exit → Act → World → Prop) (o : Oper) (x : Operand) (rest : List Oper) (a : Act), o.op = .convert src dst x → a.eval x = vx → Region.wanted o (yielded ops a.tmps) = true → wpList P ops Q rest (a.put o.dst v) w → wpList P ops Q (o :: rest) a w
theorem CvA.arr {src dst e : TypeId} (M : Mem F w0 w L) (hi : L[i]? = some (.row g (bs l))) {n : Nat} (hb : l.length = n) (hm : n ≤ maxLen) (hs : P.underlying src = some (.slice e)) (he : P.underlying e = some (.int .u8)) (hd : P.underlying dst = some .string) : CvA P w src dst (.slice (some ⟨g, 0, none⟩) n n) (.string (mkS l)) := fun _ _ _ x _ _ ho hx hw h => w_stringW M i src dst e x ho hw hi hx hb hm hs he hd h
theorem CvA.sl {src dst e : TypeId} {v : Value} {n : Nat} (M : Mem F w0 w L) (hi : L[i]? = some (.sl 1 v n (bs l))) (hn : n = l.length) (hs : P.underlying src = some (.slice e)) (he : P.underlying e = some (.int .u8)) (hd : P.underlying dst = some .string) : CvA P w src dst v (.string (mkS l)) := fun _ _ _ x _ _ ho hx hw h => w_string M i src dst e x ho hw hi hn hx hs he hd h
end
section
variable {P : Program} {ops : Array Oper} {rest : List Oper} {a : Act} {w w0 : World} {Q : Exit → Act → World → Prop} {F : List Nat} {L : List Chunk} {dst : Option Tmp} {ty : TypeId} {pos : String} {after : Array Edge} {gd : Option (Nat × Bool)} {t : TypeId} {x y : Operand} {va v vy : Value} {R : World → Prop}
theorem ldS (hx : a.eval x = va := by exact qBr rfl) (hw : Region.wanted (Oper.mk dst (.load t x) ty pos after gd) (yielded ops a.tmps) = true := by exact rfl)
  (hv : LdA P w t va v := by first | exact LdA.cell M yH yB (by exact rfl) | exact LdA.row M yH yB yD) : (wpList P ops Q rest (a.put dst v) w) → wpList P ops Q (Oper.mk dst (.load t x) ty pos after gd :: rest) a w := fun h => hv _ _ _ x _ _ rfl hx hw h
theorem ldB (hx : a.eval x = va := by exact qBr rfl) (hw : Region.wanted (Oper.mk dst (.load t x) ty pos after gd) (yielded ops a.tmps) = true := by exact rfl)
  (hv : LdA P w t va v := by first | exact LdA.cell M yH yB (by exact rfl) | exact LdA.byte M yH yB yK | exact LdA.arr M yH yB yO yB | exact LdA.row M yH yB yD) : (wpList P ops Q rest (a.put dst v) w) → wpList P ops Q (Oper.mk dst (.load t x) ty pos after gd :: rest) a w := fun h => hv _ _ _ x _ _ rfl hx hw h
theorem ldW (hx : a.eval x = va := by exact qBr rfl) (hw : Region.wanted (Oper.mk dst (.load t x) ty pos after gd) (yielded ops a.tmps) = true := by exact rfl)
  (hv : LdA P w t va v := by first | exact LdA.cell M yH yB (by exact rfl) | exact LdA.byte M yH yB yK | exact LdA.w32 M yH yB yK | exact LdA.arr32 M yH yB yO yB | exact LdA.arr M yH yB yO yB | exact LdA.row M yH yB yD) : (wpList P ops Q rest (a.put dst v) w) → wpList P ops Q (Oper.mk dst (.load t x) ty pos after gd :: rest) a w := fun h => hv _ _ _ x _ _ rfl hx hw h
theorem stS (hx : a.eval x = va := by exact qBr rfl) (hy : a.eval y = vy := by first | exact qBr rfl | exact qCm) (hw : Region.wanted (Oper.mk dst (.store t x y) ty pos after gd) (yielded ops a.tmps) = true := by exact rfl)
  (hv : StA P w t va vy R := by first | exact StA.cell M yH rfl rfl yB (by first | decide | simp | (simp; omega)) | exact StA.row M yH rfl yD yD1 (by first | rfl | assumption | exact Eq.symm yN1)) : (∀ w' : World, R w' → wpList P ops Q rest (a.put dst undef) w') → wpList P ops Q (Oper.mk dst (.store t x y) ty pos after gd :: rest) a w := fun h => hv _ _ _ x y _ _ rfl hx hy hw h
theorem stB (hx : a.eval x = va := by exact qBr rfl) (hy : a.eval y = vy := by first | exact qBr rfl | exact qCm) (hw : Region.wanted (Oper.mk dst (.store t x y) ty pos after gd) (yielded ops a.tmps) = true := by exact rfl)
  (hv : StA P w t va vy R := by first | exact StA.byte M yH yB yK | exact StA.arr M yH yO yB yO | exact StA.cell M yH rfl rfl yB (by first | decide | simp | (simp; omega)) | exact StA.row M yH rfl yD yD1 (by first | rfl | assumption | exact Eq.symm yN1)) : (∀ w' : World, R w' → wpList P ops Q rest (a.put dst undef) w') → wpList P ops Q (Oper.mk dst (.store t x y) ty pos after gd :: rest) a w := fun h => hv _ _ _ x y _ _ rfl hx hy hw h
theorem stBc (hx : a.eval x = va := by exact qBr rfl) (hy : a.eval y = vy := by first | exact qBr rfl | exact qCm) (hw : Region.wanted (Oper.mk dst (.store t x y) ty pos after gd) (yielded ops a.tmps) = true := by exact rfl)
  (hv : StA P w t va vy R := by first | exact StA.byte M yH yB yK | exact StA.arr M yH yO yB yO | exact StA.byteC M yH yN yB yK | exact StA.cell M yH rfl rfl yB (by first | decide | simp | (simp; omega)) | exact StA.row M yH rfl yD yD1 (by first | rfl | assumption | exact Eq.symm yN1)) : (∀ w' : World, R w' → wpList P ops Q rest (a.put dst undef) w') → wpList P ops Q (Oper.mk dst (.store t x y) ty pos after gd :: rest) a w := fun h => hv _ _ _ x y _ _ rfl hx hy hw h
theorem stW (hx : a.eval x = va := by exact qBr rfl) (hy : a.eval y = vy := by first | exact qBr rfl | exact qCm) (hw : Region.wanted (Oper.mk dst (.store t x y) ty pos after gd) (yielded ops a.tmps) = true := by exact rfl)
  (hv : StA P w t va vy R := by first | exact StA.w32 M yH yB yK | exact StA.arr32 M yH yO yB yO | exact StA.byte M yH yB yK | exact StA.arr M yH yO yB yO | exact StA.cell M yH rfl rfl yB (by first | decide | simp | (simp; omega)) | exact StA.row M yH rfl yD yD1 (by first | rfl | assumption | exact Eq.symm yN1)) : (∀ w' : World, R w' → wpList P ops Q rest (a.put dst undef) w') → wpList P ops Q (Oper.mk dst (.store t x y) ty pos after gd :: rest) a w := fun h => hv _ _ _ x y _ _ rfl hx hy hw h
theorem cvB {src des : TypeId} (hx : a.eval x = va := by first | exact qBr rfl | exact qCm) (hw : Region.wanted (Oper.mk dst (.convert src des x) ty pos after gd) (yielded ops a.tmps) = true := by exact rfl)
  (hv : CvA P w src des va v := by first | exact CvA.arr M yH yO yN Tryz.underlying70 Tryz.underlying5 Tryz.underlying9 | exact CvA.sl M yH (by first | rfl | (simp; done) | assumption) Tryz.underlying70 Tryz.underlying5 Tryz.underlying9) : (wpList P ops Q rest (a.put dst v) w) → wpList P ops Q (Oper.mk dst (.convert src des x) ty pos after gd :: rest) a w := fun h => hv _ _ _ x _ _ rfl hx hw h
theorem bxA {cs : List Value} (M : Mem F w0 w L) (hx : a.eval x = v := by first | exact qBr rfl | exact qCm) (hw : Region.wanted (Oper.mk dst (.box t x) ty pos after gd) (yielded ops a.tmps) = true := by exact rfl)  (hc : v.cells = cs.toArray := by exact rfl) : (∀ (g : Nat) (w' : World), Mem F w0 w' (.row g cs :: L) → wpList P ops Q rest (a.put dst (.pointer (some ⟨g, 0, none⟩))) w') → wpList P ops Q (Oper.mk dst (.box t x) ty pos after gd :: rest) a w := fun h => w_box M t x rfl hw v hx cs hc h
end
def Open2 (_ : Bool) : Prop := True
theorem Open2.f {b : Bool} (_ : b = false) : Open2 b := trivial
theorem Open2.t {b : Bool} (_ : b = true) : Open2 b := trivial
section
variable {P : Program} {ops : Array Oper} {rest : List Oper} {a : Act} {w : World} {Q : Exit → Act → World → Prop}
theorem gdS {dst : Option Tmp} {op : Op} {ty : TypeId} {pos : String} {after : Array Edge} {j : Nat} {want b : Bool} (hb : yielded ops a.tmps j = some b := by exact rfl) (hl : b = want := by with_reducible rfl) : (wpList P ops Q (Oper.mk dst op ty pos after none :: rest) a w) → wpList P ops Q (Oper.mk dst op ty pos after (some (j, want)) :: rest) a w := fun h => w_strip hb hl h
theorem gdC {dst : Option Tmp} {op : Op} {ty : TypeId} {pos : String} {after : Array Edge} {j : Nat} {want b : Bool} (h1 : b = true → wpList P ops Q (Oper.mk dst op ty pos after (some (j, want)) :: rest) a w) (h0 : b = false → wpList P ops Q (Oper.mk dst op ty pos after (some (j, want)) :: rest) a w) (hb : yielded ops a.tmps j = some b := by exact rfl) (_hu : Open2 b := by (fail_if_success (exact Open2.f (by with_reducible rfl))); (fail_if_success (exact Open2.t (by with_reducible rfl))); exact trivial) : wpList P ops Q (Oper.mk dst op ty pos after (some (j, want)) :: rest) a w := w_case hb h1 h0
end
end TL
end Go
namespace Go
namespace TL
/-! ### One law for an arm: what is left (R) leads to what is asked (G); which law serves is found by the operation's shape -/
section
variable {P : Program} {ops : Array Oper} {rest : List Oper} {a a' : Act} {w : World} {Q : Exit → Act → World → Prop} {dst : Option Tmp} {ty : TypeId} {pos : String} {after : Array Edge} {g : Option (Nat × Bool)} {G R : Prop}
theorem aL {t : TypeId} {x : Operand} (h : R → wpList P ops Q (Oper.mk dst (.load t x) ty pos after g :: rest) a w) : R → wpList P ops Q (Oper.mk dst (.load t x) ty pos after g :: rest) a w := h
theorem aS {t : TypeId} {x y : Operand} (h : R → wpList P ops Q (Oper.mk dst (.store t x y) ty pos after g :: rest) a w) : R → wpList P ops Q (Oper.mk dst (.store t x y) ty pos after g :: rest) a w := h
theorem aX {t : TypeId} {x : Operand} (h : R → wpList P ops Q (Oper.mk dst (.box t x) ty pos after g :: rest) a w) : R → wpList P ops Q (Oper.mk dst (.box t x) ty pos after g :: rest) a w := h
theorem aC (s t : TypeId) {x : Operand} (h : R → wpList P ops Q (Oper.mk dst (.convert s t x) ty pos after g :: rest) a w) : R → wpList P ops Q (Oper.mk dst (.convert s t x) ty pos after g :: rest) a w := h
theorem aG {op : Op} {q : Nat × Bool} (h : R → wpList P ops Q (Oper.mk dst op ty pos after (some q) :: rest) a w) : R → wpList P ops Q (Oper.mk dst op ty pos after (some q) :: rest) a w := h
theorem mS (h : R) (hv : R → G := by first | ((with_reducible apply aG); exact gdS) | ((with_reducible apply aL); exact ldS) | ((with_reducible apply aS); exact stS) | ((with_reducible apply aX); exact bxA M)) : G := hv h
theorem mB (h : R) (hv : R → G := by first | ((with_reducible apply aG); exact gdS) | ((with_reducible apply aC 70 9); exact cvB) | ((with_reducible apply aL); exact ldB) | ((with_reducible apply aS); exact stB) | ((with_reducible apply aX); exact bxA M)) : G := hv h
theorem mW (h : R) (hv : R → G := by first | ((with_reducible apply aG); exact gdS) | ((with_reducible apply aC 70 9); exact cvB) | ((with_reducible apply aL); exact ldW) | ((with_reducible apply aS); exact stW) | ((with_reducible apply aX); exact bxA M)) : G := hv h
theorem mC (h : R) (hv : R → G := by first | ((with_reducible apply aG); exact gdS) | ((with_reducible apply aC 70 9); exact cvB) | ((with_reducible apply aL); exact ldB) | ((with_reducible apply aS); exact stBc) | ((with_reducible apply aX); exact bxA M)) : G := hv h
theorem tU (t : TypeId) {x : Array (Nat × Operand)} (h : wpList P ops Q (Oper.mk dst (.buildSlice t 1 x) ty pos after g :: rest) a w) : wpList P ops Q (Oper.mk dst (.buildSlice t 1 x) ty pos after g :: rest) a w := h
theorem mU (h : R) (hv : R → G := by exact w_buildSliceB M bytesT _ rfl rfl yE) : G := hv h
@[reducible] def memOp (op : Op) (g : Option (Nat × Bool)) : Bool := match g, op with
 | some _, _ => true
 | none, .load _ _ => true
 | none, .store _ _ _ => true
 | none, .box _ _ => true
 | none, .convert _ _ _ => true
 | _, _ => false
theorem tM {op : Op} (_ : memOp op g = true) (h : wpList P ops Q (Oper.mk dst op ty pos after g :: rest) a w) : wpList P ops Q (Oper.mk dst op ty pos after g :: rest) a w := h
theorem dcd {b1 : Option Bool} {c : Bool} (h : ∃ b, b1 = some b ∧ b = c := by (refine ⟨_, rfl, ?_⟩; first | (with_reducible rfl) | exact decide_eq_false yF | exact decide_eq_true yF)) : ∃ b, b1 = some b ∧ b = c := h
end
end TL
end Go
