/- Texts of this seat, put together: Pad, Low, Tag, Equal, Heap, Str, HashE, ShaO, MacC, Frame, Reg, Sees, FrameS, PathL, PackL, InL, RefInL. Each begins with a remark that says what is proved in it, and under which conditions. -/
import Derived.Deep.MidRow
import Derived.Great.BuildSlice
import Derived.Lib.ConvBytes
import Derived.ProofKit
import Derived.OpenShut
import Derived.ShutString
import Derived.ChangeOld
import Derived.Below
import Derived.Deep.Slices
import Derived.ChangeArms
import Derived.Lib.Bytealg
import Derived.Lib.IndexLaws
import Derived.Lib.BitFns
import Derived.Test.YtidadhbaomieiaaGreatZa
/- The walk of mac.pad: a key's block, each byte xored. Conditions: the key is shorter than 10^12 bytes. -/
namespace Go
namespace TL
open Go.RowKit
def keyL (key : List UInt8) : List UInt8 := if 64 < key.length then shaL key else key
def keyB (key : List UInt8) : List UInt8 := keyL key ++ List.replicate (64 - (keyL key).length) 0
def macPad (key : List UInt8) (x : UInt8) : List UInt8 := (keyB key).map (· ^^^ x)
theorem keyL_length (key : List UInt8) : (keyL key).length ≤ 64 := by
  unfold keyL; split
  · rw [shaL_length]; omega
  · omega
theorem keyB_length (key : List UInt8) : (keyB key).length = 64 := by
  have := keyL_length key
  simp [keyB]; omega
def padK (l : List UInt8) (x : UInt8) (k : Nat) : List UInt8 := (l.take k).map (· ^^^ x) ++ l.drop k
theorem padK_length (l : List UInt8) (x : UInt8) (k : Nat) : (padK l x k).length = l.length := by
  simp [padK]; omega
theorem padK_get (l : List UInt8) (x : UInt8) (k : Nat) (h : k < l.length) : (padK l x k)[k]? = some l[k] := by
  unfold padK
  rw [List.getElem?_append_right (by simp; omega)]
  simp [List.length_take, Nat.min_eq_left (Nat.le_of_lt h), h]
theorem padK_set (l : List UInt8) (x : UInt8) (k : Nat) (h : k < l.length) : (padK l x k).set k (l[k] ^^^ x) = padK l x (k + 1) := by
  unfold padK
  rw [List.set_append_right _ _ (by simp; omega)]
  simp only [List.length_map, List.length_take, Nat.min_eq_left (Nat.le_of_lt h), Nat.sub_self]
  rw [List.drop_eq_getElem_cons h, List.set_cons_zero, List.take_succ_eq_append_getElem h, List.map_append, List.append_assoc]
  rfl
theorem padK_all (key : List UInt8) (x : UInt8) : padK (keyB key) x 64 = macPad key x := by
  unfold padK macPad
  rw [← keyB_length key, List.take_length, List.drop_length, List.append_nil]
structure MI (w wr : World) (g : Nat) (l : List UInt8) : Prop where
  bel : Below w.heap.size w wr
  lo : w.heap.size ≤ g
  lt : g < wr.heap.size
  got : wr.rangeAt g 0 (l.map vb)
  out : wr.there g 0 64
theorem MI.set {w wr : World} {g : Nat} {l : List UInt8} (h : MI w wr g l) (k : Nat) (hk : k < l.length) (y : UInt8) : MI w (wr.setCell ⟨g, k, none⟩ (vb y)) g (l.set k y) := by
  refine ⟨h.bel.setCell h.lo _, h.lo, by simpa using h.lt, ?_, there_setCell h.out _ _⟩
  have := rangeAt_setCell_same h.got k (by simpa using hk) (vb y)
  rw [Nat.zero_add] at this
  rwa [List.map_set]
theorem MI.copied {w wr : World} {g : Nat} (hb : Below w.heap.size w wr) (lo : w.heap.size ≤ g) (lt : g < wr.heap.size) (hr : wr.rangeAt g 0 (List.replicate 64 (Value.int .u8 0))) (ht : wr.there g 0 64) (K : List UInt8) (hK : K.length ≤ 64) :
    MI w (wr.setCells g 0 (K.map vb)) g (K ++ List.replicate (64 - K.length) 0) := by
  refine ⟨below_setCells lo _ _ _ hb, lo, by rw [size_setCells]; exact lt, ?_, World.there_setCells ht _ _ _⟩
  rw [List.map_append]
  refine rangeAt_append (World.rangeAt_setCells_same _ _ _ _ (there_mono ht (by simpa using hK))) ?_
  rw [Nat.zero_add, List.length_map]
  refine World.rangeAt_setCells_apart ?_ _ _ _ (.inr (.inr (by simp)))
  have := rangeAt_drop hr K.length
  rw [Nat.zero_add, List.drop_replicate] at this
  simpa [vb, I8_eq] using this
theorem MI.sees {w wr : World} {g : Nat} {l : List UInt8} (h : MI w wr g l) (hl : l.length = 64) : SeesB wr (.slice (some ⟨g, 0, none⟩) 64 64) l := by
  refine ⟨by simp, .inr ⟨g, 0, 64, by rw [hl], h.lt, by omega, by simp [maxLen], h.got⟩⟩
end TL
end Go
namespace Go.Proofs.YtidadhbaomieiaaGreat
open Go.RowKit Go.TL
set_option maxRecDepth 100000 in
set_option maxHeartbeats 2000000 in
theorem pad_any (key : ByteArray) (x : UInt8) (w : World) (hs : key.size ≤ 1000000000000) :
    Calls Tryz.prog 88 #[.string key, .int .u8 (I8 x)] w fun e w' => e = .returned (.string ⟨(macPad (bytesOf key) x).toArray⟩) ∧ Below w.heap.size w w' := by
  by_cases hk : 64 < key.size
  · have EK : Hid (bytesOf ⟨(shaL (bytesOf key)).toArray⟩ = keyL (bytesOf key)) := Lib.hid (by rw [keyL, if_pos (by rw [bytesOf_length]; exact hk)]; rfl)
    have HK : Hid (ByteArray.size ⟨(shaL (bytesOf key)).toArray⟩ ≤ 64) := Lib.hid (by show (shaL (bytesOf key)).toArray.size ≤ 64; simp [shaL_length])
    go_enter Tryz.func88, Tryz.ntmps88
    go_wp2_with (first | (go_at_call 87; go_must (refine (shaSum_any key w hs).mono ?_; rintro e w1 ⟨rfl, hb1⟩; have Hb1 := Lib.hid hb1; clear hb1)) | ((with_reducible show wpList _ _ _ (Oper.mk _ (Op.alloc 64) _ _ _ _ :: _) _ _); go_must (refine wpList_newRow rfl _ rfl (Array.replicate 32 (.int .u8 0)) (by kernel_rfl) ?_; intro w2 hb2 hs2 hr2 ht2; have Hb2 := Lib.hid hb2; clear hb2 hr2; have Hs2 := Lib.hid hs2; clear hs2; have Ht2 := Lib.hid ht2; clear ht2)) | ((with_reducible show wpList _ _ _ (Oper.mk none (Op.store 64 _ _) _ _ _ _ :: _) _ _); go_must (refine wpList_putRow rfl 64 _ _ rfl w1.heap.size 0 ((shaL (bytesOf key)).map vb) rfl rfl (by exact Ht2.out) (by kernel_rfl) (vb_one _) ?_; have hrs2 : (convert 70 9 (.slice (some ⟨w1.heap.size, 0, none⟩) 32 32)).run Tryz.prog (w2.setCells w1.heap.size 0 ((shaL (bytesOf key)).map vb)) = .ok (.string ⟨(shaL (bytesOf key)).toArray⟩) (w2.setCells w1.heap.size 0 ((shaL (bytesOf key)).map vb)) := SeesB.run_string (l := shaL (bytesOf key)) ⟨by simp, .inr ⟨w1.heap.size, 0, 32, by rw [shaL_length], by rw [size_setCells]; have := Hs2.out; omega, by simp [shaL_length], by simp [maxLen], World.rangeAt_setCells_same _ _ _ _ (by exact Ht2.out)⟩⟩ 70 9 5 Tryz.underlying70 Tryz.underlying5 Tryz.underlying9 _ (grownBy_refl _ _); obtain ⟨wS, eS⟩ : ∃ wS, wS = w2.setCells w1.heap.size 0 ((shaL (bytesOf key)).map vb) := ⟨_, rfl⟩; have HbS : Hid (Below w.heap.size w wS) := Lib.hid (by rw [eS]; exact below_setCells Hb1.out.size _ _ _ (Hb1.out.trans (Hb2.out.mono Hb1.out.size))); rw [← eS] at hrs2; rw [← eS]; clear eS)) | ((with_reducible show wpList _ _ _ (Oper.mk _ (Op.alloc 209) _ _ _ _ :: _) _ _); go_must (refine wpList_newRow rfl _ rfl (Array.replicate 64 (.int .u8 0)) (by kernel_rfl) ?_; intro w3 hb3 hs3 hr3 ht3; have Hb3 := Lib.hid hb3; clear hb3; have Hs3 := Lib.hid hs3; clear hs3; have Hr3 := Lib.hid hr3; clear hr3; have Ht3 := Lib.hid ht3; clear ht3)) | ((with_reducible show wpList _ _ _ (Oper.mk _ (Op.call ⟨Callee.builtin Builtin.copy, _, _⟩) _ _ _ _ :: _) _ _); go_must (refine wpList_copy bytesT rfl _ _ 9 rfl wS.heap.size 0 64 64 rfl (.string (ByteArray.mk (shaL (bytesOf key)).toArray)) (ByteArray.mk (shaL (bytesOf key)).toArray).size _ rfl (Src_string _ _) (ByteArray.mk (shaL (bytesOf key)).toArray).size (by exact (Nat.min_eq_left HK.out).symm) (by rw [Nat.mul_one]; exact there_mono (by simpa using Ht3.out) HK.out) ?_)))
    have BW : Hid (Below w.heap.size w w3) := Lib.hid (HbS.out.trans (Hb3.out.mono HbS.out.size))
    have LO : Hid (w.heap.size ≤ wS.heap.size) := Lib.hid HbS.out.size
    have M0 : Hid (MI w (w3.setCells wS.heap.size 0 ((((ByteArray.mk (shaL (bytesOf key)).toArray)).data.toList.map vb).take (((ByteArray.mk (shaL (bytesOf key)).toArray)).size * 1))) wS.heap.size (padK (keyB (bytesOf key)) x 0)) := Lib.hid (by
      have := MI.copied BW.out (LO.out) (by have := Hs3.out; omega) (by simpa using Hr3.out) (by simpa using Ht3.out) (bytesOf (ByteArray.mk (shaL (bytesOf key)).toArray)) (by rw [bytesOf_length]; exact HK.out)
      rw [show padK (keyB (bytesOf key)) x 0 = keyB (bytesOf key) from rfl, keyB, ← EK.out, show (((ByteArray.mk (shaL (bytesOf key)).toArray)).data.toList.map vb).take (((ByteArray.mk (shaL (bytesOf key)).toArray)).size * 1) = (bytesOf (ByteArray.mk (shaL (bytesOf key)).toArray)).map vb from by rw [Nat.mul_one, ← bytesOf_length, ← List.length_map (f := vb)]; exact List.take_length]
      exact this)
    clear Hb3 Hs3 Hr3 Ht3
    go_simp
    go_loopw [18] (fun iv wr => ∃ k : Nat, k ≤ 64 ∧ iv = .int .i64 k ∧ MI w wr wS.heap.size (padK (keyB (bytesOf key)) x k)) (fun iv _ => 64 - (intOf iv).toNat)
    case atStart => exact ⟨0, by omega, rfl, by first | exact M0.out | (have := M0.out; rw [Nat.mul_one] at this; exact this)⟩
    case round =>
      clear M0
      obtain ⟨k, hk64, rfl, M⟩ := hrel
      have M' := Lib.hid M; clear M
      by_cases hlt : k < 64
      · have hkl : k < (keyB (bytesOf key)).length := by rw [keyB_length]; exact hlt
        obtain ⟨y, hy⟩ : ∃ y, y = (keyB (bytesOf key))[k] := ⟨_, rfl⟩
        have c1 : wr.cell? ⟨wS.heap.size, k, none⟩ = some (.int .u8 (I8 y)) := by
          have := M'.out.got k (vb y) (by rw [List.getElem?_map, padK_get _ _ _ hkl, hy]; rfl)
          rwa [Nat.zero_add] at this
        have c2 : wr.frozen? ⟨wS.heap.size, k, none⟩ = false := by
          have := (M'.out.out k hlt).2
          rwa [Nat.zero_add] at this
        have M1 := Lib.hid (M'.out.set k (by rw [padK_length]; exact hkl) (y ^^^ x))
        rw [hy, padK_set _ _ _ hkl, ← hy] at M1
        clear hy hkl
        go_wp2_with fail
        go_roundw
        case rel => exact ⟨k + 1, by omega, by go_num, M1.out⟩
        case measure => simp [intOf]; omega
      · have hk' : k = 64 := by omega
        subst hk'
        have hrs := SeesB.run_string (M'.out.sees (by rw [padK_length, keyB_length])) 70 9 5 Tryz.underlying70 Tryz.underlying5 Tryz.underlying9 _ (grownBy_refl _ _)
        rw [padK_all] at hrs
        go_wp2_with fail
        go_ret
        exact ⟨rfl, M'.out.bel⟩
  · have EK : Hid (bytesOf key = keyL (bytesOf key)) := Lib.hid (by rw [keyL, if_neg (by rw [bytesOf_length]; exact hk)])
    have HK : Hid (key.size ≤ 64) := Lib.hid (by omega)
    go_enter Tryz.func88, Tryz.ntmps88
    go_wp2_with (first | ((with_reducible show wpList _ _ _ (Oper.mk _ (Op.alloc 209) _ _ _ _ :: _) _ _); go_must (refine wpList_newRow rfl _ rfl (Array.replicate 64 (.int .u8 0)) (by kernel_rfl) ?_; intro w3 hb3 hs3 hr3 ht3; have Hb3 := Lib.hid hb3; clear hb3; have Hs3 := Lib.hid hs3; clear hs3; have Hr3 := Lib.hid hr3; clear hr3; have Ht3 := Lib.hid ht3; clear ht3)) | ((with_reducible show wpList _ _ _ (Oper.mk _ (Op.call ⟨Callee.builtin Builtin.copy, _, _⟩) _ _ _ _ :: _) _ _); go_must (refine wpList_copy bytesT rfl _ _ 9 rfl w.heap.size 0 64 64 rfl (.string (key)) (key).size _ rfl (Src_string _ _) (key).size (by exact (Nat.min_eq_left HK.out).symm) (by rw [Nat.mul_one]; exact there_mono (by simpa using Ht3.out) HK.out) ?_)))
    have BW : Hid (Below w.heap.size w w3) := Lib.hid Hb3.out
    have LO : Hid (w.heap.size ≤ w.heap.size) := Lib.hid (Nat.le_refl _)
    have M0 : Hid (MI w (w3.setCells w.heap.size 0 (((key).data.toList.map vb).take ((key).size * 1))) w.heap.size (padK (keyB (bytesOf key)) x 0)) := Lib.hid (by
      have := MI.copied BW.out (LO.out) (by have := Hs3.out; omega) (by simpa using Hr3.out) (by simpa using Ht3.out) (bytesOf key) (by rw [bytesOf_length]; exact HK.out)
      rw [show padK (keyB (bytesOf key)) x 0 = keyB (bytesOf key) from rfl, keyB, ← EK.out, show ((key).data.toList.map vb).take ((key).size * 1) = (bytesOf key).map vb from by rw [Nat.mul_one, ← bytesOf_length, ← List.length_map (f := vb)]; exact List.take_length]
      exact this)
    clear Hb3 Hs3 Hr3 Ht3
    go_simp
    go_loopw [18] (fun iv wr => ∃ k : Nat, k ≤ 64 ∧ iv = .int .i64 k ∧ MI w wr w.heap.size (padK (keyB (bytesOf key)) x k)) (fun iv _ => 64 - (intOf iv).toNat)
    case atStart => exact ⟨0, by omega, rfl, by first | exact M0.out | (have := M0.out; rw [Nat.mul_one] at this; exact this)⟩
    case round =>
      clear M0
      obtain ⟨k, hk64, rfl, M⟩ := hrel
      have M' := Lib.hid M; clear M
      by_cases hlt : k < 64
      · have hkl : k < (keyB (bytesOf key)).length := by rw [keyB_length]; exact hlt
        obtain ⟨y, hy⟩ : ∃ y, y = (keyB (bytesOf key))[k] := ⟨_, rfl⟩
        have c1 : wr.cell? ⟨w.heap.size, k, none⟩ = some (.int .u8 (I8 y)) := by
          have := M'.out.got k (vb y) (by rw [List.getElem?_map, padK_get _ _ _ hkl, hy]; rfl)
          rwa [Nat.zero_add] at this
        have c2 : wr.frozen? ⟨w.heap.size, k, none⟩ = false := by
          have := (M'.out.out k hlt).2
          rwa [Nat.zero_add] at this
        have M1 := Lib.hid (M'.out.set k (by rw [padK_length]; exact hkl) (y ^^^ x))
        rw [hy, padK_set _ _ _ hkl, ← hy] at M1
        clear hy hkl
        go_wp2_with fail
        go_roundw
        case rel => exact ⟨k + 1, by omega, by go_num, M1.out⟩
        case measure => simp [intOf]; omega
      · have hk' : k = 64 := by omega
        subst hk'
        have hrs := SeesB.run_string (M'.out.sees (by rw [padK_length, keyB_length])) 70 9 5 Tryz.underlying70 Tryz.underlying5 Tryz.underlying9 _ (grownBy_refl _ _)
        rw [padK_all] at hrs
        go_wp2_with fail
        go_ret
        exact ⟨rfl, M'.out.bel⟩
end Go.Proofs.YtidadhbaomieiaaGreat

/- A region that draws its order and holds calls that leave alone what was there: what is loaded there is loaded at any time. Walked in one order. Conditions: the check 'detI', by computation; what is loaded is the same in every world that meets I; behind each operation that writes I holds. -/
namespace Go
namespace TL
def Seg (F : Act → World → Prop) : Exit → Act → World → Prop
  | .normal, a, w => F a w
  | _, _, _ => False
theorem Seg.intro {F : Act → World → Prop} {a : Act} {w : World} (h : F a w) : Seg F .normal a w := h
theorem Seg.letsOut {F : Act → World → Prop} (h : LetsOut (Seg F)) : False := by
  obtain ⟨a, w, h⟩ := h; exact h
theorem Oper.wp_seg {P : Program} {o : Oper} {a : Act} {w : World} {K K' : Act → World → Prop} {F F' : Act → World → Prop} (h : ∀ a w, K a w → K' a w) (hh : o.wp P a w K (Seg F)) : o.wp P a w K' (Seg F') := by
  unfold Oper.wp at *
  generalize (execOp a.eval o).run P w = r at *
  cases r with
  | ok n w1 =>
    cases n <;> simp only [Oper.upon] at hh ⊢
    case value v => exact h _ _ hh
    case skip => exact h _ _ hh
    case defer d => exact h _ _ hh
    case enter f args =>
      refine Calls.mono hh fun e w2 h2 => ?_
      cases e with
      | returned v => exact h _ _ h2
      | panicked c => exact h2.elim
      | outgrown => exact (Seg.letsOut h2).elim
    case row row args => exact fun b k => let ⟨v, w2, h1, h2⟩ := hh b k; ⟨v, w2, h _ _ h1, h2⟩
  | halt x w1 => cases x <;> simp only [Oper.upon] at hh <;> exact hh.elim
section
variable {P : Program} {ops : Array Oper} {Q : Exit → Act → World → Prop} {md : Region.Mode} {I : World → Prop}
def wpAnyI (P : Program) (md : Region.Mode) (ops : Array Oper) (Q : Exit → Act → World → Prop) (I : World → Prop) : Nat → Array Bool → Act → World → Prop
  | 0, listed, a, w => Region.ready md ops listed = [] ∧ Q .normal a w
  | fuel + 1, listed, a, w =>
    (Region.ready md ops listed = [] → Q .normal a w) ∧
    ∀ j ∈ Region.ready md ops listed, wpOp P ops Q j (fun a' w' => I w' ∧ wpAnyI P md ops Q I fuel (listed.setIfInBounds j true) a' w') a w
theorem wpAny_of_I : ∀ (fuel : Nat) (listed : Array Bool) (a : Act) (w : World), wpAnyI P md ops Q I fuel listed a w → wpAny P md ops Q fuel listed a w
  | 0, _, _, _, h => h
  | fuel + 1, _, _, _, h => ⟨h.1, fun j hj => wpOp_mono (fun a' w' h' => wpAny_of_I fuel _ a' w' h'.2) (h.2 j hj)⟩
theorem I_first {i : Nat} {oi : Oper} {v : Value} (hi : ops[i]? = some oi) (hsel : ∀ (j : Nat) (o : Oper) cs b, ops[j]? = some o → o.op ≠ .select cs b)
    (hQ : ∀ c a w, Q (.panic c) (a.put oi.dst v) w → Q (.panic c) a w) :
    ∀ (fuel : Nat) (listed : Array Bool) (a : Act) (w : World),
      (∀ j oj, ops[j]? = some oj → j ≠ i → listed.getD j true = false → (∀ e ∈ oj.after, Region.binds md e = true → e.on ≠ i) → oi.apart ops oj = true) →
      i ∈ Region.ready md ops listed → YieldsIf P ops I oi v a → I w →
      wpAnyI P md ops Q I fuel (listed.setIfInBounds i true) (a.put oi.dst v) w → wpAnyI P md ops Q I (fuel + 1) listed a w := by
  intro fuel
  induction fuel with
  | zero =>
    intro listed a w _ hr hy hw H
    refine ⟨fun h => (by rw [h] at hr; cases hr), fun j hj => ?_⟩
    by_cases hji : j = i
    · subst hji; exact hy.wpOp hi hw ⟨hw, H⟩
    · have := ready_mono hj hji
      rw [H.1] at this
      cases this
  | succ fuel ih =>
    intro listed a w hfree hr hy hw H
    refine ⟨fun h => (by rw [h] at hr; cases hr), fun j hj => ?_⟩
    by_cases hji : j = i
    · subst hji; exact hy.wpOp hi hw ⟨hw, H⟩
    · have h1 := H.2 j (ready_mono hj hji)
      obtain ⟨hjun, oj, hoj, hall⟩ := mem_ready.1 hj
      have hnot := not_waits hr hoj hall
      have h2 := wpOp_putIf hoj (hfree j oj hoj hji hjun hnot) (fun cs b => hsel i oi cs b hi) (fun cs b => hsel j oj cs b hoj) hQ hy h1
      have hfree' : ∀ k ok, ops[k]? = some ok → k ≠ i → (listed.setIfInBounds j true).getD k true = false →
          (∀ e ∈ ok.after, Region.binds md e = true → e.on ≠ i) → oi.apart ops ok = true := fun k ok hk hki hun hno => by
        refine hfree k ok hk hki ?_ hno
        by_cases hjk : j = k
        · subst hjk; exact hjun
        · rw [getD_set_ne true hjk] at hun; exact hun
      refine wpOp_mono (fun a' w' h3 => ⟨h3.2.1, ih (listed.setIfInBounds j true) a' w' hfree' (ready_mono hr (Ne.symm hji)) h3.1 h3.2.1 ?_⟩) h2
      rw [Array.setIfInBounds_comm _ _ hji]; exact h3.2.2
end
/-! ### The walk -/
def planW (P : Program) (ops : Array Oper) (fin : Act → World → Prop) (I : World → Prop) : Plan → List Oper × (Act → World → Prop)
  | [] => ([], fin)
  | (i, false) :: r => (opAt ops i :: (planW P ops fin I r).1, (planW P ops fin I r).2)
  | (i, true) :: r => ([opAt ops i], fun a w => I w ∧ wpList P ops (Seg (planW P ops fin I r).2) (planW P ops fin I r).1 a w)
def lowOpnd (o : Oper) : Operand := match o.op with | .load _ x => x | .convert _ _ x => x | _ => .const undef
def Stab (P : Program) (I : World → Prop) (o : Oper) (p : Value) : Prop :=
  match o.op with
  | .load t _ => ∃ v, ∀ w, I w → (Instr.loadAt t p).run P w = .ok v w
  | .convert src dst _ => ∃ v, ∀ w, I w → (convert src dst p).run P w = .ok v w
  | _ => False
def finI (ops : Array Oper) (need : Needs) (low : List (Nat × Value)) (Q : Exit → Act → World → Prop) : Act → World → Prop := fun a w =>
  needOk need a = true ∧ (∀ x ∈ low, a.eval (lowOpnd (opAt ops x.1)) = x.2) ∧ Q .normal a w
def staysLow (ops : Array Oper) (o : Oper) (r : Plan) : Bool := r.all fun x => match (opAt ops x.1).dst with | some d => !(tmpsIn o).contains d | none => true
def detI (P : Program) (ops : Array Oper) (need : Needs) (idx : List Nat) : Array Bool → Plan → Bool
  | listed, [] => (Region.ready .any ops listed).isEmpty
  | listed, (i, false) :: r =>
    (Region.ready .any ops listed).contains i && Region.free .any ops listed i &&
      ((stays ops need (opAt ops i) ((i, false) :: r) && pureOp P (needOf need (opAt ops i)) (opAt ops i)) || (idx.contains i && staysLow ops (opAt ops i) ((i, false) :: r))) &&
      detI P ops need idx (listed.setIfInBounds i true) r
  | listed, (i, true) :: r => Region.ready .any ops listed == [i] && detI P ops need idx (listed.setIfInBounds i true) r
section
variable {P : Program} {ops : Array Oper} {I : World → Prop} {fin : Act → World → Prop}
theorem stepS {F : Act → World → Prop} {o : Oper} {l : List Oper} {a : Act} {w : World} (h : wpList P ops (Seg F) (o :: l) a w) :
    ∃ a' w', wpList P ops (Seg F) l a' w' ∧ ∀ t, o.dst ≠ some t → a'.tmps.getD t undef = a.tmps.getD t undef := by
  unfold wpList at h
  split at h
  · rcases h with h | h
    · unfold Oper.wp at h
      generalize (execOp a.eval o).run P w = r at h
      cases r with
      | ok n w1 =>
        cases n <;> simp only [Oper.upon] at h
        case value v => exact ⟨_, _, h, fun t ht => put_ne ht⟩
        case skip => exact ⟨_, _, h, fun t ht => put_ne ht⟩
        case defer d => exact ⟨_, _, h, fun t ht => put_ne (a := { a with defers := d :: a.defers }) ht⟩
        case enter f args =>
          obtain ⟨e, w2, fr, hR, _⟩ := h []
          cases e with
          | returned v => exact ⟨_, _, hR, fun t ht => put_ne ht⟩
          | panicked c => exact hR.elim
          | outgrown => exact (Seg.letsOut hR).elim
        case row row args =>
          obtain ⟨v, w2, hR, _⟩ := h default []
          exact ⟨_, _, hR, fun t ht => put_ne ht⟩
      | halt x w1 => cases x <;> simp only [Oper.upon] at h <;> exact h.elim
    · exact (Seg.letsOut h.2).elim
  · exact ⟨_, _, h, fun t ht => put_ne ht⟩
theorem endsP : ∀ (plan : Plan) (a : Act) (w : World), wpList P ops (Seg (planW P ops fin I plan).2) (planW P ops fin I plan).1 a w →
    ∃ af wf, fin af wf ∧ ∀ t, (∀ x ∈ plan, (opAt ops x.1).dst ≠ some t) → af.tmps.getD t undef = a.tmps.getD t undef
  | [], a, w, h => ⟨a, w, h, fun _ _ => rfl⟩
  | (i, false) :: r, a, w, h => by
    obtain ⟨a', w', h1, h2⟩ := stepS h
    obtain ⟨af, wf, h3, h4⟩ := endsP r a' w' h1
    exact ⟨af, wf, h3, fun t ht => (h4 t fun x hx => ht x (List.mem_cons_of_mem _ hx)).trans (h2 t (ht (i, false) List.mem_cons_self))⟩
  | (i, true) :: r, a, w, h => by
    obtain ⟨a', w', h1, h2⟩ := stepS h
    obtain ⟨af, wf, h3, h4⟩ := endsP r a' w' h1.2
    exact ⟨af, wf, h3, fun t ht => (h4 t fun x hx => ht x (List.mem_cons_of_mem _ hx)).trans (h2 t (ht (i, true) List.mem_cons_self))⟩
theorem eval_same {a a' : Act} {x : Operand} (h : ∀ t, x = .tmp t → a'.tmps.getD t undef = a.tmps.getD t undef) : a'.eval x = a.eval x := by
  cases x <;> simp only [Act.eval]
  exact h _ rfl
theorem lowOpnd_in (o : Oper) {t : Tmp} (h : lowOpnd o = .tmp t) : t ∈ tmpsIn o := by
  obtain ⟨dst, op, type, pos, after, guard⟩ := o
  cases op <;> simp only [lowOpnd, reduceCtorEq] at h
  all_goals (subst h; simp [tmpsIn, Op.operands])
theorem mainI {need : Needs} {low : List (Nat × Value)} {Q : Exit → Act → World → Prop} (hs : Region.noSelect ops = true) (hlow : ∀ x ∈ low, Stab P I (opAt ops x.1) x.2) :
    ∀ (plan : Plan) (listed : Array Bool) (a : Act) (w : World), detI P ops need (low.map (·.1)) listed plan = true → I w →
      wpList P ops (Seg (planW P ops (finI ops need low Q) I plan).2) (planW P ops (finI ops need low Q) I plan).1 a w →
      wpAnyI P .any ops (Seg (finI ops need low Q)) I plan.length listed a w
  | [], listed, a, w, hd, _, h => by
    have : Region.ready .any ops listed = [] := by simpa [detI] using hd
    exact ⟨this, h⟩
  | (i, false) :: r, listed, a, w, hd, hIw, h => by
    simp only [detI, Bool.and_eq_true] at hd
    obtain ⟨⟨⟨hr, hf⟩, hk⟩, hrest⟩ := hd
    have hr' : i ∈ Region.ready .any ops listed := by simpa using hr
    obtain ⟨_, oi, hoi, _⟩ := mem_ready.1 hr'
    have hat : opAt ops i = oi := by simp [opAt, hoi]
    have hends := endsP ((i, false) :: r) a w h
    have h' : wpList P ops (Seg (planW P ops (finI ops need low Q) I r).2) (oi :: (planW P ops (finI ops need low Q) I r).1) a w := by
      rw [← hat]; exact h
    have hQ : ∀ v c a w, Seg (finI ops need low Q) (.panic c) (a.put oi.dst v) w → Seg (finI ops need low Q) (.panic c) a w := fun _ _ _ _ h => h.elim
    have hsel := fun j o cs b ho => Region.noSelect_spec hs j o cs b ho
    -- what it comes to, in every world that meets I
    have key : ∀ (s : Sem Value), execOp a.eval oi = (do Pure.pure (Next.value (← s))) → (∀ v w1, s.run P w = .ok v w1 → w1 = w ∧ ∀ w', I w' → s.run P w' = .ok v w') →
        wpAnyI P .any ops (Seg (finI ops need low Q)) I (r.length + 1) listed a w := fun s hex hl => by
      cases hw : Region.wanted oi (yielded ops a.tmps) with
      | true =>
        unfold wpList at h'
        rw [if_pos hw] at h'
        rcases h' with h' | h'
        · unfold Oper.wp at h'
          rw [hex, Sem.run_bind] at h'
          cases hrun : s.run P w with
          | ok v w1 =>
            obtain ⟨rfl, hall⟩ := hl _ _ hrun
            rw [hrun] at h'
            have hy : YieldsIf P ops I oi v a := .inl ⟨hw, fun w' hw' => by rw [hex, Sem.run_bind, hall w' hw']; rfl⟩
            exact I_first hoi hsel (hQ v) r.length listed a w1 (Region.free_spec hoi hf) hr' hy hIw (mainI hs hlow r _ _ w1 hrest hIw h')
          | halt x w1 =>
            rw [hrun] at h'
            cases x <;> exact h'.elim
        · exact (Seg.letsOut h'.2).elim
      | false =>
        unfold wpList at h'
        rw [if_neg (by rw [hw]; decide)] at h'
        exact I_first hoi hsel (hQ undef) r.length listed a w (Region.free_spec hoi hf) hr' (.inr ⟨hw, rfl⟩) hIw (mainI hs hlow r _ _ w hrest hIw h')
    obtain ⟨af, wf, ⟨hneed, hlowf, _⟩, hsame⟩ := hends
    rcases (Bool.or_eq_true _ _).mp hk with hp | hp
    · obtain ⟨hst, hp⟩ := (Bool.and_eq_true _ _).mp hp
      have hne : needOk (needOf need (opAt ops i)) a = true := by
        unfold needOk at hneed ⊢
        rw [List.all_eq_true] at hneed ⊢
        intro p hpm
        have hp0 := hpm
        simp only [needOf, List.mem_filter] at hpm
        have h3 := hneed p hpm.1
        rw [hsame p.1 (fun x hx hd => by
          have h5 := List.all_eq_true.1 hst x hx
          simp only [hd] at h5
          have h6 := List.all_eq_true.1 h5 p hp0
          simp at h6)] at h3
        exact h3
      rw [hat] at hp hne
      obtain ⟨s, hex, hloc⟩ := pureOp_local hp hne
      exact key s hex fun v w1 hrun => ⟨(hloc _ _ _ hrun).1, fun w' _ => (hloc _ _ _ hrun).2 w'⟩
    · obtain ⟨hix, hst⟩ := (Bool.and_eq_true _ _).mp hp
      simp only [List.contains_iff_mem, List.mem_map] at hix
      obtain ⟨⟨i', p⟩, hxm, hxi⟩ := hix
      have hxi' : i' = i := hxi
      subst hxi'
      have hev : a.eval (lowOpnd oi) = p := by
        have e := hlowf _ hxm
        simp only [hat] at e
        rw [← e]
        refine (eval_same fun t ht => ?_).symm
        refine hsame t fun x hx hd => ?_
        have h5 := List.all_eq_true.1 hst x hx
        simp only [hd, hat] at h5
        have h6 := lowOpnd_in oi ht
        simp [h6] at h5
      have hstab := hlow _ hxm
      simp only [hat] at hstab
      unfold Stab at hstab
      cases hop : oi.op <;> simp only [hop] at hstab
      case load t x =>
        have hev' : a.eval x = p := by simpa only [lowOpnd, hop] using hev
        obtain ⟨v, hv⟩ := hstab
        refine key (Instr.loadAt t p) (by simp only [execOp, hop, hev']) fun u w1 hrun => ?_
        rw [hv w hIw] at hrun
        cases hrun
        exact ⟨rfl, hv⟩
      case convert src d x =>
        have hev' : a.eval x = p := by simpa only [lowOpnd, hop] using hev
        obtain ⟨v, hv⟩ := hstab
        refine key (Go.convert src d p) (by simp only [execOp, hop, hev']) fun u w1 hrun => ?_
        rw [hv w hIw] at hrun
        cases hrun
        exact ⟨rfl, hv⟩
  | (i, true) :: r, listed, a, w, hd, hIw, h => by
    simp only [detI, Bool.and_eq_true] at hd
    have hr : Region.ready .any ops listed = [i] := by simpa using hd.1
    have hr' : i ∈ Region.ready .any ops listed := by rw [hr]; simp
    obtain ⟨_, oi, hoi, _⟩ := mem_ready.1 hr'
    have hat : opAt ops i = oi := by simp [opAt, hoi]
    refine ⟨fun h0 => (by rw [hr] at h0; cases h0), fun j hj => ?_⟩
    rw [hr] at hj
    obtain rfl : j = i := by simpa using hj
    have h1 : wpList P ops (Seg (planW P ops (finI ops need low Q) I ((j, true) :: r)).2) [oi] a w := by rw [← hat]; exact h
    have cont : ∀ a' w', I w' ∧ wpList P ops (Seg (planW P ops (finI ops need low Q) I r).2) (planW P ops (finI ops need low Q) I r).1 a' w' →
        I w' ∧ wpAnyI P .any ops (Seg (finI ops need low Q)) I r.length (listed.setIfInBounds j true) a' w' := fun a' w' ⟨h2, h3⟩ => ⟨h2, mainI hs hlow r _ a' w' hd.2 h2 h3⟩
    unfold wpOp
    rw [hoi]
    unfold wpList at h1
    dsimp only
    split
    · rename_i hw
      rw [if_pos hw] at h1
      rcases h1 with h1 | h1
      · exact .inl (Oper.wp_seg cont h1)
      · exact (Seg.letsOut h1.2).elim
    · rename_i hw
      rw [if_neg hw] at h1
      exact cont _ _ h1
theorem region_low {Q : Exit → Act → World → Prop} {id : Nat} {l : List Oper} {a : Act} {w : World} (plan : Plan) (need : Needs) (low : List (Nat × Value)) (I : World → Prop) (hm : P.follows .mixedOrders = true)
    (hs : Region.noSelect l.toArray = true) (hn : plan.length = l.length) (hd : detI P l.toArray need (low.map (·.1)) (Array.replicate l.length false) plan = true)
    (hlow : ∀ x ∈ low, Stab P I (opAt l.toArray x.1) x.2) (hI : I w.drew)
    (h : wpList P l.toArray (Seg (planW P l.toArray (finI l.toArray need low Q) I plan).2) (planW P l.toArray (finI l.toArray need low Q) I plan).1 a w.drew) : (Code.region id l.toArray true).wp P Q a w := by
  refine Code.wp_mono (Q := Seg (finI l.toArray need low Q)) (fun e a w h => ?_) ?_
  · cases e <;> first | exact h.2.2 | exact h.elim
  · refine wp_region_any hm (wpAny_of_I (I := I) _ _ _ _ (?_ : wpAnyI P .any l.toArray (Seg (finI l.toArray need low Q)) I l.toArray.size (Array.replicate l.toArray.size false) a w.drew))
    have := mainI (Q := Q) hs hlow plan (Array.replicate l.length false) a w.drew hd hI h
    rw [hn] at this
    exact this
end
/-! ### What is told to it -/
theorem stab_load {P : Program} {I : World → Prop} {o : Oper} {t : TypeId} {x : Operand} (ho : o.op = .load t x) (b off : Nat) (cs : List Value) (d : TypeDesc) (hI : ∀ w', I w' → w'.rangeAt b off cs)
    (hu : P.underlying t = some d) (hd : d.isRow = true) (hi : (P.info? t).map (·.size) = some cs.length) : Stab P I o (.pointer (some ⟨b, off, none⟩)) := by
  unfold Stab; rw [ho]
  exact ⟨_, fun w' hw => run_loadAt_mid w' b off t cs d (hI w' hw) hu hd hi⟩
theorem stab_conv {P : Program} {I : World → Prop} {o : Oper} {src dst e : TypeId} {x : Operand} (ho : o.op = .convert src dst x) (v : Value) (l : List UInt8) (hI : ∀ w', I w' → SeesB w' v l)
    (hs : P.underlying src = some (.slice e)) (he : P.underlying e = some (.int .u8)) (hd : P.underlying dst = some .string) : Stab P I o v := by
  unfold Stab; rw [ho]
  exact ⟨_, fun w' hw => SeesB.run_string (hI w' hw) src dst e hs he hd w' (grownBy_refl _ _)⟩
theorem lows_cons {P : Program} {I : World → Prop} {ops : Array Oper} {x : Nat × Value} {low : List (Nat × Value)} (h : Stab P I (opAt ops x.1) x.2) (r : ∀ x ∈ low, Stab P I (opAt ops x.1) x.2) : ∀ y ∈ x :: low, Stab P I (opAt ops y.1) y.2 :=
  List.forall_mem_cons.2 ⟨h, r⟩
theorem lows_nil {P : Program} {I : World → Prop} {ops : Array Oper} : ∀ y ∈ ([] : List (Nat × Value)), Stab P I (opAt ops y.1) y.2 := fun _ h => by cases h
theorem ats_cons {ops : Array Oper} {a : Act} {x : Nat × Value} {low : List (Nat × Value)} (h : a.eval (lowOpnd (opAt ops x.1)) = x.2) (r : ∀ x ∈ low, a.eval (lowOpnd (opAt ops x.1)) = x.2) : ∀ y ∈ x :: low, a.eval (lowOpnd (opAt ops y.1)) = y.2 :=
  List.forall_mem_cons.2 ⟨h, r⟩
theorem ats_nil {ops : Array Oper} {a : Act} : ∀ y ∈ ([] : List (Nat × Value)), a.eval (lowOpnd (opAt ops y.1)) = y.2 := fun _ h => by cases h
theorem needs_nil {a : Act} : needOk [] a = true := rfl
theorem needs_cons {a : Act} {x : Tmp × Shape} {r : Needs} (h : x.2.ok (a.tmps.getD x.1 undef) = true) (k : needOk r a = true) : needOk (x :: r) a = true := by
  unfold needOk at *; rw [List.all_cons, h, k]; rfl
end TL
end Go

/- The walk of mac.Tag: a hash of a hash. Conditions: key and text are shorter than 10^11 bytes. -/
namespace Go
namespace TL
open Go.RowKit
def macL (key text : List UInt8) : List UInt8 := shaL (macPad key 92 ++ shaL (macPad key 54 ++ text))
theorem macL_length (key text : List UInt8) : (macL key text).length = 32 := rfl
theorem macPad_length (key : List UInt8) (x : UInt8) : (macPad key x).length = 64 := by rw [macPad, List.length_map, keyB_length]
theorem bytesOf_append (a b : ByteArray) : bytesOf (a ++ b) = bytesOf a ++ bytesOf b := by simp [bytesOf]
theorem size_mk (l : List UInt8) : (⟨l.toArray⟩ : ByteArray).size = l.length := by simp [ByteArray.size]
theorem seesB_row {w : World} {g : Nat} {l : List UInt8} {n : Nat} (hn : l.length = n) (hm : n ≤ 1000) (hg : g < w.heap.size) (hr : w.rangeAt g 0 (l.map vb)) : SeesB w (.slice (some ⟨g, 0, none⟩) n n) l := by
  refine ⟨by simp, .inr ⟨g, 0, n, by rw [hn], hg, by omega, by simp only [maxLen]; omega, hr⟩⟩
end TL
end Go
namespace Go.Proofs.YtidadhbaomieiaaGreat
open Go.RowKit Go.TL
set_option maxRecDepth 100000 in
set_option maxHeartbeats 2000000 in
theorem Tag_any (key text : ByteArray) (w : World) (hk : key.size ≤ 100000000000) (ht : text.size ≤ 100000000000) :
    Calls Tryz.prog 47 #[.string key, .string text] w fun e w' => e = .returned (.agg ((macL (bytesOf key) (bytesOf text)).map vb).toArray) ∧ Below w.heap.size w w' := by
  have z1 : (⟨(macPad (bytesOf key) 54).toArray⟩ : ByteArray).size = 64 := by rw [size_mk, macPad_length]
  have z2 : (⟨(macPad (bytesOf key) 92).toArray⟩ : ByteArray).size = 64 := by rw [size_mk, macPad_length]
  obtain ⟨s1, e1⟩ : ∃ s, s = (⟨(macPad (bytesOf key) 54).toArray⟩ : ByteArray) ++ text := ⟨_, rfl⟩
  have E1 := Lib.hid e1
  have e1' := e1.symm
  clear e1
  go_enter Tryz.func47, Tryz.ntmps47
  go_wp2_with (first | ((with_reducible show wpList _ _ _ (Oper.mk (some 4) (Op.alloc 64) _ _ _ _ :: _) _ _); go_must (refine wpList_newRow rfl _ rfl (Array.replicate 32 (.int .u8 0)) (by kernel_rfl) ?_; intro w1 hb1 hs1 hr1 ht1; have Hb1 := Lib.hid hb1; clear hb1 hr1; have Hs1 := Lib.hid hs1; clear hs1; have Ht1 := Lib.hid ht1; clear ht1)) | (go_at_call 88; go_must (refine (pad_any key 54 w1 (by omega)).mono ?_; rintro e w2 ⟨rfl, hb2⟩; have Hb2 := Lib.hid hb2; clear hb2)) | (go_at_call 87; go_must (refine (shaSum_any s1 w2 (by rw [E1.out, ByteArray.size_append, z1]; omega)).mono ?_; rintro e w3 ⟨rfl, hb3⟩; have Hb3 := Lib.hid hb3; clear hb3)) | ((with_reducible show wpList _ _ _ (Oper.mk (some 5) (Op.alloc 64) _ _ _ _ :: _) _ _); go_must (refine wpList_newRow rfl _ rfl (Array.replicate 32 (.int .u8 0)) (by kernel_rfl) ?_; intro w4 hb4 hs4 hr4 ht4; have Hb4 := Lib.hid hb4; clear hb4 hr4; have Hs4 := Lib.hid hs4; clear hs4; have Ht4 := Lib.hid ht4; clear ht4)) | ((with_reducible show wpList _ _ _ (Oper.mk none (Op.store 64 (.tmp 5) _) _ _ _ _ :: _) _ _); go_must (refine wpList_putRow rfl 64 _ _ rfl w3.heap.size 0 ((shaL (bytesOf s1)).map vb) rfl rfl (by exact Ht4.out) (by kernel_rfl) (vb_one _) ?_)))
  go_simp
  obtain ⟨lH, elH⟩ : ∃ l, l = shaL (bytesOf s1) := ⟨_, rfl⟩
  obtain ⟨w5, e5⟩ : ∃ w5, w5 = w4.setCells w3.heap.size 0 ((shaL (bytesOf s1)).map vb) := ⟨_, rfl⟩
  have h3 : Hid (w.heap.size + 1 ≤ w3.heap.size) := Lib.hid (by have := Hs1.out; have := Hb2.out.size; have := Hb3.out.size; omega)
  have S5 : Hid (SeesB w5 (.slice (some ⟨w3.heap.size, 0, none⟩) 32 32) lH) := Lib.hid (by rw [e5, elH]; exact seesB_row (shaL_length _) (by omega) (by rw [size_setCells]; have := Hs4.out; omega) (World.rangeAt_setCells_same _ _ _ _ (by exact Ht4.out)))
  have B5 : Hid (Below w.heap.size w w5) := Lib.hid (by
    have b2 := Hb1.out.trans (Hb2.out.mono Hb1.out.size)
    have b3 := b2.trans (Hb3.out.mono b2.size)
    rw [e5]; exact below_setCells b3.size _ _ _ (b3.trans (Hb4.out.mono b3.size)))
  have T5 : Hid (w5.there w.heap.size 0 32) := Lib.hid (by
    have b3 := Hb2.out.trans (Hb3.out.mono Hb2.out.size)
    have b4 := b3.trans (Hb4.out.mono b3.size)
    have l1 := Hs1.out
    rw [e5]
    refine World.there_setCells (there_of_block (by simpa using Ht1.out) (b4.block _ (by omega))) _ _ _)
  rw [← e5]
  have hlen : lH.length = 32 := by rw [elH]; rfl
  have z3 : (⟨lH.toArray⟩ : ByteArray).size = 32 := by rw [size_mk, hlen]
  have ElH := Lib.hid elH; clear elH
  clear e5 Hb1 Hb2 Hb3 Hb4 Hs1 Hs4 Ht1 Ht4 e1'
  obtain ⟨s2, e2⟩ : ∃ s, s = (⟨(macPad (bytesOf key) 92).toArray⟩ : ByteArray) ++ ⟨lH.toArray⟩ := ⟨_, rfl⟩
  have E2 := Lib.hid e2
  have e2' := e2.symm
  clear e2
  refine region_low [(0, false), (2, false), (3, false), (1, true), (4, false), (5, true), (6, true)] [(12, .str), (14, .str)] [(3, .slice (some ⟨w3.heap.size, 0, none⟩) 32 32)] (fun w' => SeesB w' (.slice (some ⟨w3.heap.size, 0, none⟩) 32 32) lH) (by kernel_rfl) (by kernel_rfl) rfl (by kernel_rfl)
    (lows_cons (stab_conv rfl _ lH (fun _ h => h) Tryz.underlying70 Tryz.underlying5 Tryz.underlying9) lows_nil) S5.out ?_
  simp only [planW, opAt, List.getElem?_toArray, List.getElem?_cons_zero, List.getElem?_cons_succ, Option.getD_some]
  have hrs := SeesB.run_string S5.out 70 9 5 Tryz.underlying70 Tryz.underlying5 Tryz.underlying9 w5.drew (grownBy_drew _ _)
  go_wp2_with (go_at_call 88; go_must (refine (pad_any key 92 w5.drew (by omega)).mono ?_; rintro e w6 ⟨rfl, hb6⟩; have B6 : Hid (Below w5.heap.size w5 w6) := Lib.hid ((Below.refl _ w5).drew.trans hb6); clear hb6))
  refine Seg.intro ⟨Sees.below S5.out B6.out, ?_⟩
  clear hrs
  go_wp2_with (go_at_call 87; go_must (refine (shaSum_any s2 w6 (by rw [E2.out, ByteArray.size_append, z2, z3]; omega)).mono ?_; rintro e w7 ⟨rfl, hb7⟩; have B7 : Hid (Below w5.heap.size w5 w7) := Lib.hid (B6.out.trans (hb7.mono B6.out.size)); clear hb7))
  refine Seg.intro ⟨Sees.below S5.out B7.out, ?_⟩
  have l0 : w.heap.size < w5.heap.size := by
    have h1 := h3.out
    obtain ⟨g, o, c, e, hg, _⟩ := (S5.out.2.resolve_left (by simp))
    injection e with e1 e2
    injection e1 with e1
    injection e1 with e1
    omega
  have T7 : Hid (w7.there w.heap.size 0 32) := Lib.hid (there_of_block T5.out (B7.out.block _ l0))
  go_wp2_with ((with_reducible show wpList _ _ _ (Oper.mk none (Op.store 64 (.tmp 4) _) _ _ _ _ :: _) _ _); go_must (refine wpList_putRow rfl 64 _ _ rfl w.heap.size 0 ((shaL (bytesOf s2)).map vb) rfl rfl (by exact T7.out) (by kernel_rfl) (vb_one _) ?_))
  refine Seg.intro ⟨Sees.kept (Sees.below S5.out B7.out) (grownBy_setCells _ _ _ _) (.inr (by simp only [Value.ownBlock]; intro e; injection e with e; have := h3.out; omega)), ?_⟩
  refine Seg.intro ⟨needs_cons rfl (needs_cons rfl needs_nil), ats_cons rfl ats_nil, ?_⟩
  go_wp2_with fail
  refine bodyPost_ret (results_row rfl _ _ w.heap.size 0 ((shaL (bytesOf s2)).map vb) _ rfl (World.rangeAt_setCells_same _ _ _ _ (by exact T7.out)) Tryz.underlying64 rfl (by kernel_rfl)) rfl ⟨?_, below_setCells (Nat.le_refl _) _ _ _ (B5.out.trans (B7.out.mono (Nat.le_of_lt l0)))⟩
  have e1 : bytesOf s1 = macPad (bytesOf key) 54 ++ bytesOf text := by rw [E1.out, bytesOf_append]; rfl
  have e2 : bytesOf s2 = macPad (bytesOf key) 92 ++ lH := by rw [E2.out, bytesOf_append]; rfl
  rw [macL, e2, ElH.out, e1]
end Go.Proofs.YtidadhbaomieiaaGreat

/- The walk of mac.Equal: it tells whether two arrays of 32 bytes are the same. No other conditions. -/
namespace Go
namespace TL
open Go.RowKit
def diffB (a b : List UInt8) : Nat → UInt8
  | 0 => 0
  | k + 1 => diffB a b k ||| (a.getD k 0 ^^^ b.getD k 0)
theorem or_zero8 (x y : UInt8) : (x ||| y = 0) ↔ x = 0 ∧ y = 0 := by
  rw [← UInt8.toNat_inj, ← UInt8.toNat_inj, ← UInt8.toNat_inj, UInt8.toNat_or]
  simp [Nat.or_eq_zero_iff]
theorem xor_zero8 (x y : UInt8) : (x ^^^ y = 0) ↔ x = y := by
  constructor
  · intro h
    have : x ^^^ y ^^^ y = 0 ^^^ y := by rw [h]
    simpa [UInt8.xor_assoc] using this
  · rintro rfl; simp
theorem diffB_zero (a b : List UInt8) : ∀ k, diffB a b k = 0 ↔ ∀ i, i < k → a.getD i 0 = b.getD i 0
  | 0 => by simp [diffB]
  | k + 1 => by
    rw [diffB, or_zero8, diffB_zero a b k, xor_zero8]
    constructor
    · rintro ⟨h1, h2⟩ i hi
      by_cases e : i = k
      · subst e; exact h2
      · exact h1 i (by omega)
    · intro h; exact ⟨fun i hi => h i (by omega), h k (by omega)⟩
theorem diffB_eq (a b : List UInt8) (h : a.length = b.length) : (diffB a b a.length = 0) ↔ a = b := by
  rw [diffB_zero]
  constructor
  · intro k
    refine List.ext_getElem h fun i h1 h2 => ?_
    have := k i h1
    simpa [h1, h2] using this
  · rintro rfl i _; rfl
end TL
end Go
namespace Go.Proofs.YtidadhbaomieiaaGreat
open Go.RowKit Go.TL
set_option maxRecDepth 100000 in
set_option maxHeartbeats 1000000 in
theorem Equal_any (a b : List UInt8) (ha : a.length = 32) (hb : b.length = 32) (w : World) :
    Calls Tryz.prog 83 #[.agg (a.map vb).toArray, .agg (b.map vb).toArray] w fun e w' => e = .returned (.bool (a == b)) ∧ Below w.heap.size w w' := by
  have hA0 : Hid (((w.alloc (.cells (a.map vb).toArray 64)).alloc (.cells (b.map vb).toArray 64)).rangeAt w.heap.size 0 (a.map vb)) := Lib.hid (rangeAt_of_block (rangeAt_new w (a.map vb).toArray 64 (0, 0)) (((Below.refl (w.heap.size + 1) _).alloc (by simp) (.cells (b.map vb).toArray 64)).block _ (by omega)))
  have hB0 : Hid (((w.alloc (.cells (a.map vb).toArray 64)).alloc (.cells (b.map vb).toArray 64)).rangeAt (w.heap.size + 1) 0 (b.map vb)) := Lib.hid (by have := rangeAt_new (w.alloc (.cells (a.map vb).toArray 64)) (b.map vb).toArray 64 (0, 0); simpa using this)
  go_enter Tryz.func83, Tryz.ntmps83
  go_wp2_with fail
  go_loopw [5, 7] (fun v iv wr => ∃ k : Nat, k ≤ 32 ∧ iv = .int .i64 k ∧ v = .int .u8 (I8 (diffB a b k)) ∧ Below (w.heap.size + 2) ((w.alloc (.cells (a.map vb).toArray 64)).alloc (.cells (b.map vb).toArray 64)) wr) (fun _ iv _ => 32 - (intOf iv).toNat)
  case atStart => exact ⟨0, by omega, rfl, rfl, Below.refl _ _⟩
  case round =>
    obtain ⟨k, hk, rfl, rfl, hbel⟩ := hrel
    have Hb := Lib.hid hbel; clear hbel
    by_cases hlt : k < 32
    · obtain ⟨x, hx⟩ : ∃ x, x = a.getD k 0 := ⟨_, rfl⟩
      obtain ⟨y, hy⟩ : ∃ y, y = b.getD k 0 := ⟨_, rfl⟩
      obtain ⟨dk, hd⟩ : ∃ d, d = diffB a b k := ⟨_, rfl⟩
      have c1 : wr.cell? ⟨w.heap.size, k, none⟩ = some (.int .u8 (I8 x)) := by
        have := rangeAt_of_block hA0.out (Hb.out.block _ (by omega)) k (vb x) (by rw [hx]; simp [ha, hlt])
        rwa [Nat.zero_add] at this
      have c2 : wr.cell? ⟨w.heap.size + 1, k, none⟩ = some (.int .u8 (I8 y)) := by
        have := rangeAt_of_block hB0.out (Hb.out.block _ (by omega)) k (vb y) (by rw [hy]; simp [hb, hlt])
        rwa [Nat.zero_add] at this
      have e : diffB a b (k + 1) = dk ||| (x ^^^ y) := by rw [diffB, hx, hy, hd]
      rw [← hd]
      have E := Lib.hid e
      clear e hx hy hd
      go_wp2_with fail
      refine region_det [(0, false), (1, false), (2, false), (4, false), (5, false), (3, false), (6, false), (7, false), (8, false), (9, false)] [(13, .int), (16, .int), (10, .int), (17, .int)] (by kernel_rfl) (by kernel_rfl) rfl (by kernel_rfl) ?_
      simp only [reord, opAt, List.map_cons, List.map_nil, List.getElem?_toArray, List.getElem?_cons_zero, List.getElem?_cons_succ, Option.getD_some]
      go_wp2_with fail
      refine OnlyN.intro (by kernel_rfl) ?_
      go_wp2_with fail
      go_roundw
      case rel => exact ⟨k + 1, by omega, by go_num, by rw [E.out], Hb.out.drew⟩
      case measure => simp [intOf]; omega
    · have hk' : k = 32 := by omega
      subst hk'
      have hq : (I8 (diffB a b 32) == 0) = (a == b) := by
        rw [Bool.eq_iff_iff, beq_iff_eq, beq_iff_eq, ← diffB_eq a b (by omega), ha, I8_eq]
        constructor
        · intro h; exact UInt8.toNat_inj.1 (by simpa using h)
        · intro h; rw [h]; rfl
      go_wp2_with fail
      go_ret
      refine ⟨rfl, ?_⟩
      have B0 : Below w.heap.size w ((w.alloc (.cells (a.map vb).toArray 64)).alloc (.cells (b.map vb).toArray 64)) := ((Below.refl _ w).alloc (Nat.le_refl _) _).alloc (by simp) _
      exact B0.trans (Hb.out.mono (by omega))
end Go.Proofs.YtidadhbaomieiaaGreat

/- The walk's memory: what is known of it, piece by piece, and what each operation does to it. No conditions but those each law names. -/
namespace Go
namespace TL
open Go.RowKit
theorem setC {α : Type _} (a : α) (l : List α) (b : α) : (a :: l).set 0 b = b :: l ∧ ∀ n, (a :: l).set (n + 1) b = a :: l.set n b := ⟨rfl, fun _ => rfl⟩
theorem at0 {α : Type _} {c : α} {L : List α} : (c :: L)[0]? = some c := rfl
theorem at1 {α : Type _} {a0 c : α} {L : List α} : (a0 :: c :: L)[1]? = some c := rfl
theorem at2 {α : Type _} {a0 a1 c : α} {L : List α} : (a0 :: a1 :: c :: L)[2]? = some c := rfl
theorem at3 {α : Type _} {a0 a1 a2 c : α} {L : List α} : (a0 :: a1 :: a2 :: c :: L)[3]? = some c := rfl
theorem at4 {α : Type _} {a0 a1 a2 a3 c : α} {L : List α} : (a0 :: a1 :: a2 :: a3 :: c :: L)[4]? = some c := rfl
theorem at5 {α : Type _} {a0 a1 a2 a3 a4 c : α} {L : List α} : (a0 :: a1 :: a2 :: a3 :: a4 :: c :: L)[5]? = some c := rfl
theorem at6 {α : Type _} {a0 a1 a2 a3 a4 a5 c : α} {L : List α} : (a0 :: a1 :: a2 :: a3 :: a4 :: a5 :: c :: L)[6]? = some c := rfl
theorem at7 {α : Type _} {a0 a1 a2 a3 a4 a5 a6 c : α} {L : List α} : (a0 :: a1 :: a2 :: a3 :: a4 :: a5 :: a6 :: c :: L)[7]? = some c := rfl
theorem at8 {α : Type _} {a0 a1 a2 a3 a4 a5 a6 a7 c : α} {L : List α} : (a0 :: a1 :: a2 :: a3 :: a4 :: a5 :: a6 :: a7 :: c :: L)[8]? = some c := rfl
def bs (l : List UInt8) : List Value := l.map vb
def mkS (l : List UInt8) : ByteArray := ⟨l.toArray⟩
theorem lenI {α : Type} {l : List α} {n : Nat} [h : HXor (PLift (l = l)) Unit (PLift (l.length = n))] : l.length = n := (h.hXor ⟨rfl⟩ ()).down
theorem lenS {α : Type} {l : List α} {n i : Nat} {x : α} (h : l.length = n) : (l.set i x).length = n := by rw [List.length_set, h]
instance lenReplicate {α : Type} {x : α} {n : Nat} : HXor (PLift (List.replicate n x = List.replicate n x)) Unit (PLift ((List.replicate n x).length = n)) := ⟨fun _ _ => ⟨List.length_replicate⟩⟩
instance lenSet {α : Type} {l : List α} {x : α} {n i : Nat} [h : HXor (PLift (l = l)) Unit (PLift (l.length = n))] : HXor (PLift (l.set i x = l.set i x)) Unit (PLift ((l.set i x).length = n)) := ⟨fun _ _ => ⟨lenS (h.hXor ⟨rfl⟩ ()).down⟩⟩
theorem bs_length (l : List UInt8) : (bs l).length = l.length := by simp [bs]
theorem bs_one (l : List UInt8) : ∀ q ∈ bs l, q.oneCell' = true := vb_one l
theorem bs_set (l : List UInt8) (i : Nat) (b : UInt8) : bs (l.set i b) = (bs l).set i (vb b) := by simp [bs, List.map_set]
theorem bs_append (l m : List UInt8) : bs (l ++ m) = bs l ++ bs m := by simp [bs]
theorem mkS_size (l : List UInt8) : (mkS l).size = l.length := by simp [mkS, ByteArray.size]
theorem mkS_data (l : List UInt8) : (mkS l).data.toList = l := by simp [mkS]
theorem mkS_toList (l : List UInt8) : (mkS l).toList = l := by simp [mkS, Lib.toList_data]
theorem mkS_append (l m : List UInt8) : mkS l ++ mkS m = mkS (l ++ m) := by
  apply ByteArray.ext; apply Array.ext'; simp [mkS]
theorem mkS_of (s : ByteArray) : ∃ l, s = mkS l := ⟨s.data.toList, by simp [mkS]⟩
structure Kept (F : List Nat) (w0 w : World) : Prop where
  os : w.os = w0.os
  tape : w.tape = w0.tape
  output : w.output = w0.output
  size : w0.heap.size ≤ w.heap.size
  block : ∀ k, k < w0.heap.size → k ∉ F → w.heap[k]? = w0.heap[k]?
theorem Kept.refl (F : List Nat) (w : World) : Kept F w w := ⟨rfl, rfl, rfl, Nat.le_refl _, fun _ _ _ => rfl⟩
theorem Kept.below {w0 w : World} (h : Kept [] w0 w) : Below w0.heap.size w0 w := ⟨h.os, h.tape, h.output, h.size, fun k hk => h.block k hk (by simp)⟩
theorem Kept.of_below {w0 w : World} (h : Below w0.heap.size w0 w) (F : List Nat) : Kept F w0 w := ⟨h.os, h.tape, h.output, h.size, fun k hk _ => h.block k hk⟩
theorem Kept.trans {F G : List Nat} {a b c : World} (h : Kept F a b) (k : Kept G b c) (hG : ∀ x ∈ G, x ∈ F ∨ a.heap.size ≤ x) : Kept F a c :=
  ⟨k.os.trans h.os, k.tape.trans h.tape, k.output.trans h.output, Nat.le_trans h.size k.size, fun i hi hF => (k.block i (Nat.lt_of_lt_of_le hi h.size) fun hx => by
    rcases hG i hx with h1 | h1
    · exact hF h1
    · omega).trans (h.block i hi hF)⟩
theorem Kept.mono {F G : List Nat} {a b : World} (h : Kept F a b) (hG : ∀ x ∈ F, x ∈ G) : Kept G a b := ⟨h.os, h.tape, h.output, h.size, fun k hk hn => h.block k hk fun hx => hn (hG k hx)⟩
theorem Kept.grown {w w' : World} {row : Option Nat} (h : w.grownBy w' row) : Kept row.toList w w' :=
  ⟨h.os, h.tape, h.output, h.size, fun k hk hn => h.block k hk fun e => hn (by rw [← e]; simp)⟩
theorem Kept.drew {F : List Nat} {a w : World} (h : Kept F a w) : Kept F a w.drew := ⟨h.os, h.tape, h.output, h.size, h.block⟩
theorem Kept.alloc (w : World) (o : Obj) : Kept [] w (w.alloc o) := Kept.of_below ((Below.refl _ _).alloc (Nat.le_refl _) o) _
inductive Chunk where
  | row (g : Nat) (cs : List Value)
  | sl (size : Nat) (v : Value) (n : Nat) (xs : List Value)
  | blk (g : Nat) (o : Obj)
  | obj (fp : List Nat) (p : World → Prop)
def Chunk.fp : Chunk → List Nat
  | .row g _ => [g]
  | .sl _ v _ _ => v.ownBlock.toList
  | .blk g _ => [g]
  | .obj f _ => f
def Chunk.ok (w : World) : Chunk → Prop
  | .row g cs => g < w.heap.size ∧ w.rangeAt g 0 cs ∧ w.there g 0 cs.length
  | .sl size v n xs => Own w 0 size v n xs
  | .blk g o => w.heap[g]? = some o
  | .obj f p => (∀ k ∈ f, k < w.heap.size) ∧ p w ∧ ∀ w' : World, w.heap.size ≤ w'.heap.size → (∀ k ∈ f, w'.heap[k]? = w.heap[k]?) → p w'
theorem Chunk.ok.lt {w : World} {c : Chunk} (h : c.ok w) : ∀ k ∈ c.fp, k < w.heap.size := by
  intro k hk
  cases c with
  | row g cs => simp [Chunk.fp] at hk; subst hk; exact h.1
  | sl size v n xs =>
    simp only [Chunk.fp, Option.mem_toList] at hk
    exact (Own.base_le h hk).2
  | blk g o => simp [Chunk.fp] at hk; subst hk; exact (Array.getElem?_eq_some_iff.1 h).1
  | obj f p => exact h.1 k hk
theorem Chunk.ok.stay {w w' : World} {c : Chunk} (h : c.ok w) (hs : w.heap.size ≤ w'.heap.size) (hb : ∀ k ∈ c.fp, w'.heap[k]? = w.heap[k]?) : c.ok w' := by
  cases c with
  | row g cs =>
    have e := hb g (by simp [Chunk.fp])
    exact ⟨Nat.lt_of_lt_of_le h.1 hs, rangeAt_of_block h.2.1 e, there_of_block h.2.2 e⟩
  | sl size v n xs =>
    refine ⟨h.1, h.2.imp id ?_⟩
    rintro ⟨g, o, cap, rfl, hb', hlt, hn, hc, hr, ht⟩
    have e := hb g (by simp [Chunk.fp, Value.ownBlock])
    exact ⟨g, o, cap, rfl, hb', Nat.lt_of_lt_of_le hlt hs, hn, hc, rangeAt_of_block hr e, there_of_block ht e⟩
  | blk g o => exact (hb g (by simp [Chunk.fp])).trans h
  | obj f p =>
    refine ⟨fun k hk => Nat.lt_of_lt_of_le (h.1 k hk) hs, h.2.2 w' hs hb, fun w'' hs' hb' => h.2.2 w'' (Nat.le_trans hs hs') fun k hk => (hb' k hk).trans (hb k hk)⟩
structure Upd (w : World) (c : Chunk) (w' : World) (c' : Chunk) : Prop where
  kept : Kept c.fp w w'
  ok : c'.ok w'
  fp : ∀ k ∈ c'.fp, k ∈ c.fp ∨ w.heap.size ≤ k
structure Mem (F : List Nat) (w0 w : World) (L : List Chunk) : Prop where
  kept : Kept F w0 w
  ok : ∀ (i : Nat) (c : Chunk), L[i]? = some c → c.ok w
  own : ∀ (i : Nat) (c : Chunk), L[i]? = some c → ∀ k ∈ c.fp, k ∈ F ∨ w0.heap.size ≤ k
  nd : ∀ (i j : Nat) (c d : Chunk), i ≠ j → L[i]? = some c → L[j]? = some d → ∀ k ∈ c.fp, k ∉ d.fp
theorem Mem.start (F : List Nat) (w : World) : Mem F w w [] := ⟨Kept.refl _ _, by simp, by simp, by simp⟩
theorem Mem.start1 {w : World} {c : Chunk} (h : c.ok w) : Mem c.fp w w [c] := by
  refine ⟨Kept.refl _ _, ?_, ?_, ?_⟩
  · intro i d hd; cases i <;> simp at hd; subst hd; exact h
  · intro i d hd; cases i <;> simp at hd; subst hd; exact fun k hk => .inl hk
  · intro i j c d hij hi hj; cases i <;> cases j <;> simp at hi hj hij
theorem Mem.upd {F : List Nat} {w0 w w' : World} {L : List Chunk} (M : Mem F w0 w L) (i : Nat) {c c' : Chunk} (hi : L[i]? = some c) (U : Upd w c w' c') : Mem F w0 w' (L.set i c') := by
  have hil : i < L.length := (List.getElem?_eq_some_iff.1 hi).1
  have key : ∀ (j : Nat) (d : Chunk), j ≠ i → L[j]? = some d → d.ok w' := fun j d hj hd => by
    refine (M.ok j d hd).stay U.kept.size fun k hk => U.kept.block k ((M.ok j d hd).lt k hk) fun hx => M.nd j i d c hj hd hi k hk hx
  refine ⟨M.kept.trans U.kept fun x hx => M.own i c hi x hx, ?_, ?_, ?_⟩
  · intro j d hd
    by_cases e : j = i
    · subst e; rw [List.getElem?_set_self hil] at hd; cases hd; exact U.ok
    · rw [List.getElem?_set_ne (Ne.symm e)] at hd; exact key j d e hd
  · intro j d hd k hk
    by_cases e : j = i
    · subst e; rw [List.getElem?_set_self hil] at hd; cases hd
      rcases U.fp k hk with h | h
      · exact M.own j c hi k h
      · exact .inr (Nat.le_trans M.kept.size h)
    · rw [List.getElem?_set_ne (Ne.symm e)] at hd; exact M.own j d hd k hk
  · intro a b x y hab ha hb k hk hk2
    by_cases e : a = i
    · subst e; rw [List.getElem?_set_self hil] at ha; cases ha
      rw [List.getElem?_set_ne hab] at hb
      rcases U.fp k hk with h | h
      · exact M.nd a b c y hab hi hb k h hk2
      · have := (M.ok b y hb).lt k hk2; omega
    · rw [List.getElem?_set_ne (Ne.symm e)] at ha
      by_cases e2 : b = i
      · subst e2; rw [List.getElem?_set_self hil] at hb; cases hb
        rcases U.fp k hk2 with h | h
        · exact M.nd a b x c hab ha hi k hk h
        · have := (M.ok a x ha).lt k hk; omega
      · rw [List.getElem?_set_ne (Ne.symm e2)] at hb
        exact M.nd a b x y hab ha hb k hk hk2
theorem Mem.add {F : List Nat} {w0 w w' : World} {L : List Chunk} (M : Mem F w0 w L) (c : Chunk) (hk : Kept [] w w') (hok : c.ok w') (hfp : ∀ k ∈ c.fp, w.heap.size ≤ k) : Mem F w0 w' (c :: L) := by
  have key : ∀ (j : Nat) (d : Chunk), L[j]? = some d → d.ok w' := fun j d hd => (M.ok j d hd).stay hk.size fun k hk' => hk.block k ((M.ok j d hd).lt k hk') (by simp)
  refine ⟨M.kept.trans hk (by simp), ?_, ?_, ?_⟩
  · intro j d hd
    cases j with
    | zero => simp at hd; subst hd; exact hok
    | succ j => simp at hd; exact key j d hd
  · intro j d hd k hk'
    cases j with
    | zero => simp at hd; subst hd; exact .inr (Nat.le_trans M.kept.size (hfp k hk'))
    | succ j => simp at hd; exact M.own j d hd k hk'
  · intro a b x y hab ha hb k hk1 hk2
    cases a with
    | zero =>
      simp at ha; subst ha
      cases b with
      | zero => exact hab rfl
      | succ b => simp at hb; have := (M.ok b y hb).lt k hk2; have := hfp k hk1; omega
    | succ a =>
      simp at ha
      cases b with
      | zero => simp at hb; subst hb; have := (M.ok a x ha).lt k hk1; have := hfp k hk2; omega
      | succ b => simp at hb; exact M.nd a b x y (by omega) ha hb k hk1 hk2
theorem Mem.call {F : List Nat} {w0 w w' : World} {L : List Chunk} (M : Mem F w0 w L) (h : Below w.heap.size w w') : Mem F w0 w' L := by
  have hk := Kept.of_below h []
  exact ⟨M.kept.trans hk (by simp), fun j d hd => (M.ok j d hd).stay hk.size fun k hk' => hk.block k ((M.ok j d hd).lt k hk') (by simp), M.own, M.nd⟩
theorem Mem.drew {F : List Nat} {w0 w : World} {L : List Chunk} (M : Mem F w0 w L) : Mem F w0 w.drew L := ⟨M.kept.drew, fun i c h => (M.ok i c h).stay (Nat.le_refl _) (fun _ _ => rfl), M.own, M.nd⟩
theorem Mem.pick {F : List Nat} {w0 w : World} {L : List Chunk} (M : Mem F w0 w L) (L' : List Chunk) (f : Nat → Nat) (hf : ∀ i j, i < L'.length → j < L'.length → f i = f j → i = j) (h : ∀ (i : Nat) (c : Chunk), L'[i]? = some c → L[f i]? = some c) : Mem F w0 w L' :=
  ⟨M.kept, fun i c hc => M.ok (f i) c (h i c hc), fun i c hc => M.own (f i) c (h i c hc), fun i j c d hij hi hj => M.nd (f i) (f j) c d (fun e => hij (hf i j (List.getElem?_eq_some_iff.1 hi).1 (List.getElem?_eq_some_iff.1 hj).1 e)) (h i c hi) (h j d hj)⟩
theorem Mem.tail {F : List Nat} {w0 w : World} {c : Chunk} {L : List Chunk} (M : Mem F w0 w (c :: L)) : Mem F w0 w L := M.pick L (· + 1) (fun _ _ _ _ h => by simpa using h) (fun i c h => by simpa using h)
theorem Mem.below {w0 w : World} {L : List Chunk} (M : Mem [] w0 w L) : Below w0.heap.size w0 w := M.kept.below
theorem Mem.nil {F : List Nat} {w0 w : World} {L : List Chunk} (M : Mem F w0 w L) (size : Nat) : Mem F w0 w (.sl size (.slice none 0 0) 0 [] :: L) :=
  M.add _ (Kept.refl _ _) (Own_nil _ _ _) (by simp [Chunk.fp, Value.ownBlock])
theorem Mem.sees {F : List Nat} {w0 w : World} {L : List Chunk} (M : Mem F w0 w L) {size : Nat} {v : Value} {n : Nat} {xs : List Value} (S : Sees w0 size v n xs) (hF : ∀ k, v.ownBlock = some k → k ∉ F) : Sees w size v n xs := by
  refine ⟨S.1, S.2.imp id ?_⟩
  rintro ⟨g, o, cap, rfl, hlt, hn, hc, hr⟩
  have e := M.kept.block g hlt (hF g rfl)
  exact ⟨g, o, cap, rfl, Nat.lt_of_lt_of_le hlt M.kept.size, hn, hc, rangeAt_of_block hr e⟩
theorem Mem.upd1 {w0 w : World} {c c' : Chunk} {L : List Chunk} (M : Mem c.fp w0 w L) (i : Nat) (hi : L[i]? = some c') : Upd w0 c w c' :=
  ⟨M.kept, M.ok i c' hi, M.own i c' hi⟩
/-! ### The operations -/
def scalarT (P : Program) (t : TypeId) : Bool := match P.underlying t with | some d => !d.isRow | none => false
def rowT (P : Program) (t : TypeId) : Bool := match P.underlying t with | some d => d.isRow | none => false
theorem run_loadVar_scalar {P : Program} {t : TypeId} (h : scalarT P t = true) (w : World) (b o : Nat) (v : Value) (hv : w.cell? ⟨b, o, none⟩ = some v) : (loadVar t ⟨b, o, none⟩).run P w = .ok v w := by
  unfold scalarT at h
  cases hu : P.underlying t with
  | none => simp [hu] at h
  | some d =>
    have hagg : (isAgg t).run P w = .ok false w := by
      unfold isAgg
      rw [Sem.run_bind, run_underlying hu w]
      cases d <;> simp_all [TypeDesc.isRow]
    simp [loadVar, Sem.run_bind, hagg, Go.load, Sem.run, hv]
theorem wpW {P : Program} {ops : Array Oper} {rest : List Oper} {o : Oper} {a : Act} {w : World} {Q : Exit → Act → World → Prop} (hw : Region.wanted o (yielded ops a.tmps) = true)
    (h : ∀ K : Act → World → Prop, (∀ a w, wpList P ops Q rest a w → K a w) → o.wp P a w K Q) : wpList P ops Q (o :: rest) a w :=
  wpList_want hw (h _ fun _ _ h => h)
section
variable {P : Program} {ops : Array Oper} {rest : List Oper} {o : Oper} {a : Act} {w w0 : World} {Q : Exit → Act → World → Prop} {F : List Nat} {L : List Chunk}
theorem Mem.cellAt (M : Mem F w0 w L) (i : Nat) {g : Nat} {cs : List Value} (hi : L[i]? = some (.row g cs)) {off : Nat} {v : Value} (hv : cs[off]? = some v) : w.cell? ⟨g, off, none⟩ = some v := by
  have := (M.ok i _ hi).2.1 off v hv
  rwa [Nat.zero_add] at this
theorem w_load (M : Mem F w0 w L) (i : Nat) (t : TypeId) (x : Operand) (ho : o.op = .load t x) {g off : Nat} {cs : List Value} (hi : L[i]? = some (.row g cs)) (hx : a.eval x = .pointer (some ⟨g, off, none⟩)) (hw : Region.wanted o (yielded ops a.tmps) = true)
    (ht : scalarT P t = true) {v : Value} (hv : cs[off]? = some v) (h : wpList P ops Q rest (a.put o.dst v) w) : wpList P ops Q (o :: rest) a w :=
  wpW hw fun _ hK => by
    unfold Oper.wp execOp
    simp only [ho, hx, Instr.loadAt, Instr.sureAddr, Sem.run_bind, Sem.run_pure, Result.andThen_ok, run_loadVar_scalar ht w g off v (M.cellAt i hi hv)]
    exact hK _ _ h
theorem w_loadA (M : Mem F w0 w L) (i : Nat) (t : TypeId) (x : Operand) (ho : o.op = .load t x) {g off : Nat} {cs : List Value} (hi : L[i]? = some (.row g cs)) (hx : a.eval x = .pointer (some ⟨g, off, none⟩)) (hw : Region.wanted o (yielded ops a.tmps) = true)
    (ht : rowT P t = true) (pre mid post : List Value) (hcs : cs = pre ++ (mid ++ post)) (hpre : pre.length = off) (hn : (P.info? t).map (·.size) = some mid.length) (h : wpList P ops Q rest (a.put o.dst (.agg mid.toArray)) w) : wpList P ops Q (o :: rest) a w :=
  wpW hw fun _ hK => by
    unfold rowT at ht
    cases hu : P.underlying t with
    | none => simp [hu] at ht
    | some d =>
      simp only [hu] at ht
      refine wp_load_mid t x ho g off hx mid d ?_ hu ht hn (hK _ _ h)
      intro j v hv
      refine M.cellAt i hi ?_
      have hj : j < mid.length := (List.getElem?_eq_some_iff.1 hv).1
      rw [hcs, ← hpre, List.getElem?_append_right (by omega), Nat.add_sub_cancel_left, List.getElem?_append_left hj]; exact hv
theorem w_loadR (M : Mem F w0 w L) (i : Nat) (t : TypeId) (x : Operand) (ho : o.op = .load t x) {g : Nat} {cs : List Value} (hi : L[i]? = some (.row g cs)) (hx : a.eval x = .pointer (some ⟨g, 0, none⟩)) (hw : Region.wanted o (yielded ops a.tmps) = true)
    (ht : rowT P t = true) (hn : (P.info? t).map (·.size) = some cs.length) (h : wpList P ops Q rest (a.put o.dst (.agg cs.toArray)) w) : wpList P ops Q (o :: rest) a w :=
  w_loadA M i t x ho hi hx hw ht [] cs [] (by simp) rfl hn h
theorem upd_setCells {g : Nat} {cs : List Value} (h : (Chunk.row g cs).ok w) (pre mid post new : List Value) (hcs : cs = pre ++ (mid ++ post)) (hnew : new.length = mid.length) :
    Upd w (.row g cs) (w.setCells g pre.length new) (.row g (pre ++ (new ++ post))) := by
  refine ⟨Kept.grown (grownBy_setCells w g pre.length new), ⟨by rw [size_setCells]; exact h.1, ?_, ?_⟩, fun k hk => .inl hk⟩
  · have hth := h.2.2
    rw [hcs] at hth
    have hr := h.2.1
    rw [hcs] at hr
    refine rangeAt_append ?_ (rangeAt_append ?_ ?_)
    · refine World.rangeAt_setCells_apart ?_ _ _ _ (.inr (.inl (by omega)))
      have := rangeAt_take hr pre.length
      rwa [List.take_left'  rfl] at this
    · rw [Nat.zero_add]
      refine World.rangeAt_setCells_same _ _ _ _ ?_
      have := there_drop hth pre.length
      rw [Nat.zero_add] at this
      exact there_mono this (by simp; omega)
    · refine World.rangeAt_setCells_apart ?_ _ _ _ (.inr (.inr (by omega)))
      have := rangeAt_drop hr (pre.length + mid.length)
      rw [← List.append_assoc, List.drop_left' (by simp)] at this
      rw [hnew, Nat.add_assoc]; exact this
  · have := h.2.2
    rw [hcs] at this
    refine World.there_setCells (there_mono this ?_) _ _ _
    simp; omega
theorem setCells_one (w : World) (g o : Nat) (v : Value) : w.setCells g o [v] = w.setCell ⟨g, o, none⟩ v := by simp [World.setCells]
theorem upd_setCell {g off : Nat} {cs : List Value} (h : (Chunk.row g cs).ok w) (hlt : off < cs.length) (v : Value) : Upd w (.row g cs) (w.setCell ⟨g, off, none⟩ v) (.row g (cs.set off v)) := by
  have := upd_setCells h (cs.take off) [cs[off]] (cs.drop (off + 1)) [v] (by simp) rfl
  rw [List.length_take, Nat.min_eq_left (by omega), setCells_one] at this
  rwa [List.set_eq_take_append_cons_drop, if_pos hlt]
theorem w_store (M : Mem F w0 w L) (i : Nat) (t : TypeId) (x y : Operand) (ho : o.op = .store t x y) {g off : Nat} {cs : List Value} (hi : L[i]? = some (.row g cs)) (hx : a.eval x = .pointer (some ⟨g, off, none⟩)) (hw : Region.wanted o (yielded ops a.tmps) = true)
    {v : Value} (hy : a.eval y = v) (h1 : v.oneCell' = true) (hc : v.cells = #[v]) (hn : (P.info? t).map (·.size) = some 1) (hlt : off < cs.length)
    (h : ∀ w' : World, Mem F w0 w' (L.set i (.row g (cs.set off v))) → wpList P ops Q rest (a.put o.dst undef) w') : wpList P ops Q (o :: rest) a w :=
  wpW hw fun _ hK => by
    have hok := M.ok i _ hi
    have hst := run_storeCells_mid (P := P) (w := w) (g := g) (o := off) [v] (by have := there_drop hok.2.2 off; rw [Nat.zero_add] at this; exact there_mono this (by simp; omega)) (by simpa using h1)
    cases hq : P.info? t with
    | none => simp [hq] at hn
    | some inf =>
      have hs : inf.size = 1 := by simpa [hq] using hn
      unfold Oper.wp execOp
      simp only [ho, hx, hy, Instr.storeAt, Instr.sureAddr, storeVar, Sem.run_bind, Sem.run_pure, Result.andThen_ok, sizeOf, typeInfo, run_program, hq, hs, hc]
      simp only [List.size_toArray, List.length_cons, List.length_nil, Nat.zero_add, ne_eq, not_true_eq_false, if_false, hst, Result.andThen_ok]
      rw [setCells_one]
      exact hK _ _ (h _ (M.upd i hi (upd_setCell hok hlt v)))
theorem w_storeA (M : Mem F w0 w L) (i : Nat) (t : TypeId) (x y : Operand) (ho : o.op = .store t x y) {g off : Nat} {cs : List Value} (hi : L[i]? = some (.row g cs)) (hx : a.eval x = .pointer (some ⟨g, off, none⟩)) (hw : Region.wanted o (yielded ops a.tmps) = true)
    {C : Array Value} (new : List Value) (hy : a.eval y = .agg C) (hC : C = new.toArray) (hn : (P.info? t).map (·.size) = some new.length) (h1 : ∀ v ∈ new, v.oneCell' = true) (pre mid post : List Value) (hcs : cs = pre ++ (mid ++ post)) (hpre : pre.length = off) (hmid : new.length = mid.length)
    (h : ∀ w' : World, Mem F w0 w' (L.set i (.row g (pre ++ (new ++ post)))) → wpList P ops Q rest (a.put o.dst undef) w') : wpList P ops Q (o :: rest) a w :=
  wpW hw fun _ hK => by
    subst hC
    have hok := M.ok i _ hi
    have hth := hok.2.2
    rw [hcs] at hth
    refine wp_store_mid t x y ho g off new.toArray hx hy ?_ (by simpa using hn) (all_oneCell_toArray h1) (hK _ _ (h _ ?_))
    · have := there_drop hth off
      rw [Nat.zero_add] at this
      exact there_mono this (by simp; omega)
    · have := M.upd i hi (upd_setCells hok pre mid post new hcs hmid)
      rw [hpre] at this
      simpa using this
theorem w_storeR (M : Mem F w0 w L) (i : Nat) (t : TypeId) (x y : Operand) (ho : o.op = .store t x y) {g : Nat} {cs : List Value} (hi : L[i]? = some (.row g cs)) (hx : a.eval x = .pointer (some ⟨g, 0, none⟩)) (hw : Region.wanted o (yielded ops a.tmps) = true)
    {C : Array Value} (new : List Value) (hy : a.eval y = .agg C) (hC : C = new.toArray) (hn : (P.info? t).map (·.size) = some new.length) (h1 : ∀ v ∈ new, v.oneCell' = true) (hl : new.length = cs.length)
    (h : ∀ w' : World, Mem F w0 w' (L.set i (.row g new)) → wpList P ops Q rest (a.put o.dst undef) w') : wpList P ops Q (o :: rest) a w :=
  w_storeA M i t x y ho hi hx hw new hy hC hn h1 [] cs [] (by simp) rfl hl (fun w' M' => h w' (by simpa using M'))
theorem new_row (w : World) (C : Array Value) (t : TypeId) : (Chunk.row w.heap.size C.toList).ok (w.alloc (.cells C t)) :=
  ⟨by simp, rangeAt_new w C t (0, 0), there_new w C t _ (by simp)⟩
theorem Mem.alloc (M : Mem F w0 w L) (C : Array Value) (t : TypeId) : Mem F w0 (w.alloc (.cells C t)) (.row w.heap.size C.toList :: L) :=
  M.add _ (Kept.alloc _ _) (new_row w C t) (by simp [Chunk.fp])
theorem w_alloc (M : Mem F w0 w L) (t : TypeId) (ho : o.op = .alloc t) (hw : Region.wanted o (yielded ops a.tmps) = true) (z : Value) (cs : List Value) (hz : (P.info? t).bind (·.zero) = some z) (hc : z.cells = cs.toArray)
    (h : ∀ (g : Nat) (w' : World), Mem F w0 w' (.row g cs :: L) → wpList P ops Q rest (a.put o.dst (.pointer (some ⟨g, 0, none⟩))) w') : wpList P ops Q (o :: rest) a w :=
  wpW hw fun _ hK => by
    cases hq : P.info? t with
    | none => simp [hq] at hz
    | some inf =>
      have hzz : inf.zero = some z := by simpa [hq] using hz
      have hr : (Instr.alloc t true (.tuple #[])).run P w = .ok (.pointer (some ⟨w.heap.size, 0, none⟩)) (w.alloc (.cells z.cells t)) := by
        simp only [Instr.alloc, zeroValue, typeInfo, Sem.run_bind, run_program, hq, Sem.run_pure, Result.andThen_ok, hzz]; rfl
      unfold Oper.wp execOp
      simp only [ho, Sem.run_bind, hr, Result.andThen_ok]
      exact hK _ _ (h _ _ (by have := M.alloc z.cells t; rw [hc] at this ⊢; exact this))
theorem w_box (M : Mem F w0 w L) (t : TypeId) (x : Operand) (ho : o.op = .box t x) (hw : Region.wanted o (yielded ops a.tmps) = true) (v : Value) (hx : a.eval x = v) (cs : List Value) (hc : v.cells = cs.toArray)
    (h : ∀ (g : Nat) (w' : World), Mem F w0 w' (.row g cs :: L) → wpList P ops Q rest (a.put o.dst (.pointer (some ⟨g, 0, none⟩))) w') : wpList P ops Q (o :: rest) a w :=
  wpW hw fun _ hK => by
    have hr : (Instr.box t v).run P w = .ok (.pointer (some ⟨w.heap.size, 0, none⟩)) (w.alloc (.cells v.cells t)) := rfl
    unfold Oper.wp execOp
    simp only [ho, hx, Sem.run_bind, hr, Result.andThen_ok]
    exact hK _ _ (h _ _ (by have := M.alloc v.cells t; rw [hc] at this ⊢; exact this))
theorem w_buildSlice (M : Mem F w0 w L) {t e : TypeId} {size bytes : Nat} (T : SliceT P t e size bytes) (len : Nat) (parts : Array (Nat × Operand)) (ho : o.op = .buildSlice t len parts) (hw : Region.wanted o (yielded ops a.tmps) = true) (hlen : 0 < len ∧ len * size ≤ 16777216) (z : Value) (hz : (P.info? e).bind (·.zero) = some z) (cs : List Value)
    (hf : Instr.fill (fun i => some (i * size, size)) ((Array.range (len * size)).map (z.cells[· % z.cells.size]!)) (parts.map fun (i, x) => (i, a.eval x)).toList = some cs.toArray)
    (h : ∀ (g : Nat) (w' : World), Mem F w0 w' (.row g cs :: L) → wpList P ops Q rest (a.put o.dst (.slice (some ⟨g, 0, none⟩) len len)) w') : wpList P ops Q (o :: rest) a w :=
  wpW hw fun _ hK => by
    obtain ⟨ht, ⟨i, z', hi, hz', hsize, hby, hzs⟩, hsz⟩ := T
    have ez : z' = z := by simpa [hi, hz'] using hz
    subst ez hsize
    have hr := run_buildSlice (P := P) w t e len _ cs.toArray i z' ht hi hz' (by omega) (by have := Nat.mul_pos hlen.1 hsz; omega) hf
    unfold Oper.wp execOp
    simp only [ho, Sem.run_bind, hr, Result.andThen_ok]
    exact hK _ _ (h _ _ (M.alloc cs.toArray e))
theorem foldl_set (l : List Value) : ∀ (k : Nat) (C : Array Value), k + l.length ≤ C.size → ((l.zipIdx k).foldl (fun cs x => cs.setIfInBounds x.2 x.1) C).toList = C.toList.take k ++ l ++ C.toList.drop (k + l.length) := by
  induction l with
  | nil => intro k C h; simp
  | cons v r ih =>
    intro k C h
    simp only [List.length_cons] at h
    rw [List.zipIdx_cons, List.foldl_cons, ih (k + 1) _ (by simp; omega)]
    have hk : k < C.toList.length := by simpa using (by omega : k < C.size)
    rw [Array.toList_setIfInBounds, List.take_set, List.take_succ_eq_append_getElem hk, List.drop_set_of_lt (by omega), List.set_append_right _ _ (by simp; omega)]
    simp only [List.length_take, Nat.min_eq_left (Nat.le_of_lt hk), Nat.sub_self, List.set_cons_zero, List.length_cons]
    rw [show k + 1 + r.length = k + (r.length + 1) by omega]
    simp
theorem fill_one (size : Nat) (C : Array Value) (hC : C.size = size) (v : Value) (hv : v.cells.size = size) : Instr.fill (fun i => some (i * size, size)) C [(0, v)] = some v.cells := by
  have e := foldl_set v.cells.toList 0 C (by simp [hC, hv])
  have e2 : (v.cells.zipIdx.foldl (fun cs x => cs.setIfInBounds (0 * size + x.2) x.1) C) = v.cells := by
    apply Array.ext'
    rw [← Array.foldl_toList]
    simp only [Nat.zero_mul, Nat.zero_add, Array.toList_zipIdx]
    rw [e]
    simp [hv, hC]
  simp only [Instr.fill, Nat.zero_mul, Nat.zero_add, hv, hC]
  simp only [Nat.zero_mul, Nat.zero_add] at e2
  have hz : v.cells.size = v.cells.zipIdx.size := by simp
  simp
  rw [hz]
  exact e2
theorem w_buildSlice1 (M : Mem F w0 w L) {t e : TypeId} {size bytes : Nat} (T : SliceT P t e size bytes) (hsm : size ≤ 1000) (x : Operand) (ho : o.op = .buildSlice t 1 #[(0, x)]) (hw : Region.wanted o (yielded ops a.tmps) = true) {v : Value} (hx : a.eval x = v) (cs : List Value) (hc : v.cells = cs.toArray) (hcs : cs.length = size)
    (h : ∀ (g : Nat) (w' : World), Mem F w0 w' (.row g cs :: L) → wpList P ops Q rest (a.put o.dst (.slice (some ⟨g, 0, none⟩) 1 1)) w') : wpList P ops Q (o :: rest) a w := by
  have T' := T
  obtain ⟨ht, ⟨i, z', hi, hz', hsize, hby, hzs⟩, hsz⟩ := T'
  refine w_buildSlice M T 1 _ ho hw ⟨by omega, by omega⟩ z' (by simp [hi, hz']) cs ?_ h
  have := fill_one size ((Array.range (1 * size)).map (z'.cells[· % z'.cells.size]!)) (by simp) v (by rw [hc]; simpa using hcs)
  rw [hc] at this
  subst hx
  simpa using this
theorem Own.form0 {base size : Nat} {v : Value} {n : Nat} {xs : List Value} (h : Own w base size v n xs) : ∃ a cap, v = .slice a n cap := by
  obtain ⟨a, c, e, _⟩ := h.sees.form; exact ⟨a, c, e⟩
theorem w_append (M : Mem F w0 w L) (i : Nat) {t e : TypeId} {size bytes : Nat} (T : SliceT P t e size bytes) (s x : Operand) (u : TypeId) (ho : o.op = .call { callee := .builtin .append, args := #[s, x], argTypes := #[t, u] }) (hu : P.underlying u = some .string ∨ ∃ e', P.underlying u = some (.slice e'))
    (hw : Region.wanted o (yielded ops a.tmps) = true) {v : Value} {n : Nat} {xs : List Value} (hi : L[i]? = some (.sl size v n xs)) (hs : a.eval s = v) {xv : Value} (hx : a.eval x = xv) (m : Nat) (news : List Value) (hsrc : Src P w size xv m news)
    (h63 : n + m ≤ maxLen) (hbytes : (n + m) * bytes ≤ 140737488355328)
    (h : ∀ (p : Option Addr) (cap : Nat) (w' : World), Mem F w0 w' (L.set i (.sl size (.slice p (n + m) cap) (n + m) (xs ++ news))) → wpList P ops Q rest (a.put o.dst (.slice p (n + m) cap)) w') : wpList P ops Q (o :: rest) a w :=
  wpW hw fun _ hK => by
    refine wp_append T s x u ho hu 0 v n xs hs (M.ok i _ hi) xv m news hx hsrc h63 hbytes (Nat.zero_le _) ?_
    intro v' w' hown hg hb _
    obtain ⟨p, cap, rfl⟩ := hown.form0
    refine hK _ _ (h p cap w' (M.upd i hi ⟨Kept.grown hg, hown, fun k hk => ?_⟩))
    simp only [Chunk.fp, Option.mem_toList] at hk ⊢
    rcases hb with hb | hb
    · exact .inl (hb ▸ hk)
    · rw [hb] at hk; cases hk; exact .inr (Nat.le_refl _)
theorem w_append_new {g : Nat} {news : List Value} (M : Mem F w0 w (.row g news :: L)) (i : Nat) {t e : TypeId} {size bytes : Nat} (T : SliceT P t e size bytes) (s x : Operand) (ho : o.op = .call { callee := .builtin .append, args := #[s, x], argTypes := #[t, t] })
    (hw : Region.wanted o (yielded ops a.tmps) = true) {v : Value} {n : Nat} {xs : List Value} (hi : L[i]? = some (.sl size v n xs)) (hs : a.eval s = v) {m : Nat} (hx : a.eval x = .slice (some ⟨g, 0, none⟩) m m) (hm : news.length = m * size) (h1 : ∀ q ∈ news, q.oneCell' = true)
    (hmm : m ≤ 1000000) (h63 : n + m ≤ maxLen) (hbytes : (n + m) * bytes ≤ 140737488355328)
    (h : ∀ (p : Option Addr) (cap : Nat) (w' : World), Mem F w0 w' (L.set i (.sl size (.slice p (n + m) cap) (n + m) (xs ++ news))) → wpList P ops Q rest (a.put o.dst (.slice p (n + m) cap)) w') : wpList P ops Q (o :: rest) a w := by
  have hok := M.ok 0 _ rfl
  refine w_append M.tail i T s x t ho (.inr ⟨e, T.ht⟩) hw hi hs hx m news (Src_of_sees ⟨hm, .inr ⟨g, 0, m, rfl, hok.1, Nat.le_refl _, by simp only [maxLen]; omega, hok.2.1⟩⟩ h1) h63 hbytes h
theorem w_string (M : Mem F w0 w L) (i : Nat) (src dst e : TypeId) (x : Operand) (ho : o.op = .convert src dst x) (hw : Region.wanted o (yielded ops a.tmps) = true) {v : Value} {l : List UInt8} {n : Nat} (hi : L[i]? = some (.sl 1 v n (bs l))) (hn : n = l.length) (hx : a.eval x = v)
    (hs : P.underlying src = some (.slice e)) (he : P.underlying e = some (.int .u8)) (hd : P.underlying dst = some .string)
    (h : wpList P ops Q rest (a.put o.dst (.string (mkS l))) w) : wpList P ops Q (o :: rest) a w :=
  wpW hw fun _ hK => by
    subst hn
    have hr := SeesB.run_string (P := P) (l := l) (Own.sees (M.ok i _ hi)) src dst e hs he hd w (grownBy_refl _ _)
    unfold Oper.wp execOp
    simp only [ho, hx, Sem.run_bind, hr, Result.andThen_ok]
    exact hK _ _ h
theorem row_sees {g off n cap : Nat} {l : List UInt8} (h : (Chunk.row g (bs l)).ok w) (ho : off + n ≤ l.length) (hc : n ≤ cap) (hm : cap ≤ maxLen) : SeesB w (.slice (some ⟨g, off, none⟩) n cap) ((l.drop off).take n) := by
  have hl : ((l.drop off).take n).length = n := by simp; omega
  refine ⟨by simp, .inr ⟨g, off, cap, by rw [hl], h.1, by omega, hm, ?_⟩⟩
  have := rangeAt_take (rangeAt_drop h.2.1 off) n
  rw [Nat.zero_add] at this
  rwa [List.map_take, List.map_drop]
theorem w_stringR (M : Mem F w0 w L) (i : Nat) (src dst e : TypeId) (x : Operand) (ho : o.op = .convert src dst x) (hw : Region.wanted o (yielded ops a.tmps) = true) {g : Nat} {l : List UInt8} (hi : L[i]? = some (.row g (bs l))) {off n cap : Nat} (hx : a.eval x = .slice (some ⟨g, off, none⟩) n cap)
    (hb : off + n ≤ l.length) (hc : n ≤ cap) (hm : cap ≤ maxLen) (hs : P.underlying src = some (.slice e)) (he : P.underlying e = some (.int .u8)) (hd : P.underlying dst = some .string)
    (h : wpList P ops Q rest (a.put o.dst (.string (mkS ((l.drop off).take n)))) w) : wpList P ops Q (o :: rest) a w :=
  wpW hw fun _ hK => by
    have hr := SeesB.run_string (P := P) (row_sees (M.ok i _ hi) hb hc hm) src dst e hs he hd w (grownBy_refl _ _)
    unfold Oper.wp execOp
    simp only [ho, hx, Sem.run_bind, hr, Result.andThen_ok]
    exact hK _ _ h
theorem w_stringW (M : Mem F w0 w L) (i : Nat) (src dst e : TypeId) (x : Operand) (ho : o.op = .convert src dst x) (hw : Region.wanted o (yielded ops a.tmps) = true) {g : Nat} {l : List UInt8} (hi : L[i]? = some (.row g (bs l))) {n : Nat} (hx : a.eval x = .slice (some ⟨g, 0, none⟩) n n)
    (hb : l.length = n) (hm : n ≤ maxLen) (hs : P.underlying src = some (.slice e)) (he : P.underlying e = some (.int .u8)) (hd : P.underlying dst = some .string)
    (h : wpList P ops Q rest (a.put o.dst (.string (mkS l))) w) : wpList P ops Q (o :: rest) a w :=
  w_stringR M i src dst e x ho hw hi hx (by omega) (Nat.le_refl _) hm hs he hd (by rw [List.drop_zero, List.take_of_length_le (by omega)]; exact h)
theorem w_copy (M : Mem F w0 w L) (i : Nat) {t e : TypeId} {size bytes : Nat} (T : SliceT P t e size bytes) (d x : Operand) (u : TypeId) (ho : o.op = .call { callee := .builtin .copy, args := #[d, x], argTypes := #[t, u] }) (hw : Region.wanted o (yielded ops a.tmps) = true)
    {g off dl dc : Nat} {cs : List Value} (hi : L[i]? = some (.row g cs)) (hd : a.eval d = .slice (some ⟨g, off, none⟩) dl dc) {xv : Value} (hx : a.eval x = xv) (m : Nat) (news : List Value) (hsrc : Src P w size xv m news)
    (k : Nat) (hk : k = Nat.min m dl) (hlen : off + k * size ≤ cs.length)
    (h : ∀ w' : World, Mem F w0 w' (L.set i (.row g (cs.take off ++ (news.take (k * size) ++ cs.drop (off + k * size))))) → wpList P ops Q rest (a.put o.dst (.int .i64 k)) w') : wpList P ops Q (o :: rest) a w :=
  wpW hw fun _ hK => by
    have hok := M.ok i _ hi
    have hth := there_drop hok.2.2 off
    rw [Nat.zero_add] at hth
    have hr := run_copy_any (P := P) (w := w) T u o.type g off dl dc xv m news hsrc k hk (there_mono hth (by omega))
    unfold Oper.wp execOp
    simp only [ho, resolve, invoke, builtin, Sem.run_bind, Sem.run_pure, Result.andThen_ok, List.map_toArray, List.map_cons, List.map_nil, hd, hx, hr]
    have hkm : k ≤ m := by rw [hk]; exact Nat.min_le_left _ _
    have hl : (news.take (k * size)).length = k * size := by
      rw [List.length_take, hsrc.1]; exact Nat.min_eq_left (Nat.mul_le_mul_right _ hkm)
    have U := upd_setCells hok (cs.take off) ((cs.drop off).take (k * size)) (cs.drop (off + k * size)) (news.take (k * size)) (by rw [← List.drop_drop, List.take_append_drop, List.take_append_drop]) (by rw [hl, List.length_take, List.length_drop, Nat.min_eq_left (by omega)])
    rw [List.length_take, Nat.min_eq_left (by omega)] at U
    exact hK _ _ (h _ (M.upd i hi U))
theorem w_guard {dst : Option Tmp} {op : Op} {ty : TypeId} {pos : String} {after : Array Edge} {j : Nat} {want b : Bool} (hb : yielded ops a.tmps j = some b)
    (h1 : b = want → wpList P ops Q (Oper.mk dst op ty pos after none :: rest) a w) (h2 : b = (!want) → wpList P ops Q rest (a.put dst undef) w) : wpList P ops Q (Oper.mk dst op ty pos after (some (j, want)) :: rest) a w := by
  by_cases e : b = want
  · have h := h1 e
    unfold wpList at h ⊢
    rw [if_pos (by simp [Region.wanted])] at h
    rw [if_pos (by simp [Region.wanted, hb, e])]
    exact h
  · have h := h2 (by cases b <;> cases want <;> simp_all)
    unfold wpList
    rw [if_neg (by simp [Region.wanted, hb, e])]
    exact h
end
end TL
end Go
namespace Go
namespace TL
open Go.RowKit
section
variable {P : Program} {ops : Array Oper} {rest : List Oper} {o : Oper} {a : Act} {w w0 : World} {Q : Exit → Act → World → Prop} {F : List Nat} {L : List Chunk}
theorem getD_some {l : List UInt8} {i : Nat} (h : i < l.length) : (bs l)[i]? = some (.int .u8 (I8 (l.getD i 0))) := by
  rw [bs, List.getElem?_map, List.getD_eq_getElem?_getD, List.getElem?_eq_getElem h]; rfl
theorem w_loadB (M : Mem F w0 w L) (i : Nat) (t : TypeId) (x : Operand) (ho : o.op = .load t x) {g off : Nat} {l : List UInt8} (hi : L[i]? = some (.row g (bs l))) (hx : a.eval x = .pointer (some ⟨g, off, none⟩)) (hw : Region.wanted o (yielded ops a.tmps) = true)
    (ht : scalarT P t = true) (hlt : off < l.length) (h : wpList P ops Q rest (a.put o.dst (.int .u8 (I8 (l.getD off 0)))) w) : wpList P ops Q (o :: rest) a w :=
  w_load M i t x ho hi hx hw ht (getD_some hlt) h
theorem w_loadH (M : Mem F w0 w L) (i : Nat) (t : TypeId) (x : Operand) (ho : o.op = .load t x) {g : Nat} {l : List UInt8} (hi : L[i]? = some (.row g (bs l))) (hx : a.eval x = .pointer (some ⟨g, 0, none⟩)) (hw : Region.wanted o (yielded ops a.tmps) = true)
    (ht : rowT P t = true) {n : Nat} (hl : l.length = n) (hn : (P.info? t).map (·.size) = some n) (h : wpList P ops Q rest (a.put o.dst (.agg (bs l).toArray)) w) : wpList P ops Q (o :: rest) a w :=
  w_loadR M i t x ho hi hx hw ht (by rw [bs_length, hl]; exact hn) h
theorem w_storeB (M : Mem F w0 w L) (i : Nat) (t : TypeId) (x y : Operand) (ho : o.op = .store t x y) {g off : Nat} {l : List UInt8} (hi : L[i]? = some (.row g (bs l))) (hx : a.eval x = .pointer (some ⟨g, off, none⟩)) (hw : Region.wanted o (yielded ops a.tmps) = true)
    {b : UInt8} (hy : a.eval y = .int .u8 (I8 b)) (hn : (P.info? t).map (·.size) = some 1) (hlt : off < l.length)
    (h : ∀ w' : World, Mem F w0 w' (L.set i (.row g (bs (l.set off b)))) → wpList P ops Q rest (a.put o.dst undef) w') : wpList P ops Q (o :: rest) a w :=
  w_store M i t x y ho hi hx hw hy rfl rfl hn (by rw [bs_length]; exact hlt) (fun w' M' => h w' (by rw [bs_set]; exact M'))
theorem w_storeH (M : Mem F w0 w L) (i : Nat) (t : TypeId) (x y : Operand) (ho : o.op = .store t x y) {g : Nat} {l : List UInt8} (hi : L[i]? = some (.row g (bs l))) (hx : a.eval x = .pointer (some ⟨g, 0, none⟩)) (hw : Region.wanted o (yielded ops a.tmps) = true)
    {m : List UInt8} (hy : a.eval y = .agg (m.map vb).toArray) {n : Nat} (hm : m.length = n) (hn : (P.info? t).map (·.size) = some n) (hl : l.length = n)
    (h : ∀ w' : World, Mem F w0 w' (L.set i (.row g (bs m))) → wpList P ops Q rest (a.put o.dst undef) w') : wpList P ops Q (o :: rest) a w :=
  w_storeR M i t x y ho hi hx hw (bs m) hy rfl (by rw [bs_length, hm]; exact hn) (bs_one _) (by simp [bs_length, hm, hl]) h
theorem w_strip {dst : Option Tmp} {op : Op} {ty : TypeId} {pos : String} {after : Array Edge} {j : Nat} {want b : Bool} (hb : yielded ops a.tmps j = some b) (hl : b = want)
    (h : wpList P ops Q (Oper.mk dst op ty pos after none :: rest) a w) : wpList P ops Q (Oper.mk dst op ty pos after (some (j, want)) :: rest) a w := by
  subst hl
  unfold wpList at h ⊢
  rw [if_pos (by simp [Region.wanted])] at h
  rw [if_pos (by simp [Region.wanted, hb])]
  exact h
theorem w_case {dst : Option Tmp} {op : Op} {ty : TypeId} {pos : String} {after : Array Edge} {j : Nat} {want b : Bool} (_hb : yielded ops a.tmps j = some b)
    (h1 : b = true → wpList P ops Q (Oper.mk dst op ty pos after (some (j, want)) :: rest) a w) (h0 : b = false → wpList P ops Q (Oper.mk dst op ty pos after (some (j, want)) :: rest) a w) : wpList P ops Q (Oper.mk dst op ty pos after (some (j, want)) :: rest) a w := by
  cases b
  · exact h0 rfl
  · exact h1 rfl
end
end TL
end Go
namespace Go
namespace TL
/-! ### The next operation's shape: a law that fits it alone -/
section
variable {P : Program} {ops : Array Oper} {rest : List Oper} {a : Act} {w : World} {Q : Exit → Act → World → Prop} {dst : Option Tmp} {ty : TypeId} {pos : String} {after : Array Edge} {g : Option (Nat × Bool)}
theorem tLoad {t : TypeId} {x : Operand} (h : wpList P ops Q (Oper.mk dst (.load t x) ty pos after g :: rest) a w) : wpList P ops Q (Oper.mk dst (.load t x) ty pos after g :: rest) a w := h
theorem tStore {t : TypeId} {x y : Operand} (h : wpList P ops Q (Oper.mk dst (.store t x y) ty pos after g :: rest) a w) : wpList P ops Q (Oper.mk dst (.store t x y) ty pos after g :: rest) a w := h
theorem tApp {x : Array Operand} {t : Array TypeId} (h : wpList P ops Q (Oper.mk dst (.call ⟨.builtin .append, x, t⟩) ty pos after g :: rest) a w) : wpList P ops Q (Oper.mk dst (.call ⟨.builtin .append, x, t⟩) ty pos after g :: rest) a w := h
theorem tBox (dst : Option Tmp) {t : TypeId} {x : Operand} (h : wpList P ops Q (Oper.mk dst (.box t x) ty pos after g :: rest) a w) : wpList P ops Q (Oper.mk dst (.box t x) ty pos after g :: rest) a w := h
theorem tAlloc (dst : Option Tmp) (t : TypeId) (h : wpList P ops Q (Oper.mk dst (.alloc t) ty pos after g :: rest) a w) : wpList P ops Q (Oper.mk dst (.alloc t) ty pos after g :: rest) a w := h
theorem tConv (dst : Option Tmp) (s t : TypeId) {x : Operand} (h : wpList P ops Q (Oper.mk dst (.convert s t x) ty pos after g :: rest) a w) : wpList P ops Q (Oper.mk dst (.convert s t x) ty pos after g :: rest) a w := h
theorem tGuard {op : Op} {q : Nat × Bool} (h : wpList P ops Q (Oper.mk dst op ty pos after (some q) :: rest) a w) : wpList P ops Q (Oper.mk dst op ty pos after (some q) :: rest) a w := h
end
theorem ev_tmp {l : List Value} {d : List Deferred} {n : Nat} {v : Value} (h : l[n]? = some v) : Act.eval ⟨l.toArray, d⟩ (.tmp n) = v := by
  simp [Act.eval, h]
theorem ev_const {a : Act} {v : Value} : a.eval (.const v) = v := rfl
theorem w_at {P : Program} {ops : Array Oper} {rest : List Oper} {o : Oper} {a : Act} {w : World} {Q : Exit → Act → World → Prop} (t : TypeId) (x : Operand) (_ho : o.op = .load t x) {v : Value} (hx : a.eval x = v)
    (h : a.eval x = v → wpList P ops Q (o :: rest) a w) : wpList P ops Q (o :: rest) a w := h hx
theorem w_at2 {P : Program} {ops : Array Oper} {rest : List Oper} {o : Oper} {a : Act} {w : World} {Q : Exit → Act → World → Prop} (t : TypeId) (x y : Operand) (_ho : o.op = .store t x y) {v u : Value} (hx : a.eval x = v) (hy : a.eval y = u)
    (h : a.eval x = v → a.eval y = u → wpList P ops Q (o :: rest) a w) : wpList P ops Q (o :: rest) a w := h hx hy
end TL
end Go
namespace Go
namespace TL
open Go.RowKit
/-! ### The same laws, for a walk's arms: what stands at their sides is found by a tactic that each law names -/
section
variable {P : Program} {a : Act} {w w0 : World} {F : List Nat} {L : List Chunk} {t : TypeId} {g off : Nat} {cs : List Value} {l : List UInt8} {i : Nat}
def LdA (P : Program) (w : World) (t : TypeId) (va v : Value) : Prop := ∀ (ops : Array Oper) (Q : Exit → Act → World → Prop) (o : Oper) (x : Operand) (rest : List Oper) (a : Act), o.op = .load t x → a.eval x = va → Region.wanted o (yielded ops a.tmps) = true → wpList P ops Q rest (a.put o.dst v) w → wpList P ops Q (o :: rest) a w
theorem LdA.cell (M : Mem F w0 w L) (hi : L[i]? = some (.row g cs)) (ht : scalarT P t = true) {v : Value} (hv : cs[off]? = some v) : LdA P w t (.pointer (some ⟨g, off, none⟩)) v := fun _ _ _ x _ _ ho hx hw h => w_load M i t x ho hi hx hw ht hv h
theorem LdA.byte (M : Mem F w0 w L) (hi : L[i]? = some (.row g (bs l))) (ht : scalarT P t = true) (hlt : off < l.length) : LdA P w t (.pointer (some ⟨g, off, none⟩)) (.int .u8 (I8 (l.getD off 0))) := fun _ _ _ x _ _ ho hx hw h => w_loadB M i t x ho hi hx hw ht hlt h
theorem LdA.arr (M : Mem F w0 w L) (hi : L[i]? = some (.row g (bs l))) (ht : rowT P t = true) {n : Nat} (hl : l.length = n) (hn : (P.info? t).map (·.size) = some n) : LdA P w t (.pointer (some ⟨g, 0, none⟩)) (.agg (bs l).toArray) := fun _ _ _ x _ _ ho hx hw h => w_loadH M i t x ho hi hx hw ht hl hn h
theorem LdA.row (M : Mem F w0 w L) (hi : L[i]? = some (.row g cs)) (ht : rowT P t = true) (hn : (P.info? t).map (·.size) = some cs.length) : LdA P w t (.pointer (some ⟨g, 0, none⟩)) (.agg cs.toArray) := fun _ _ _ x _ _ ho hx hw h => w_loadR M i t x ho hi hx hw ht hn h
def StA (P : Program) (w : World) (t : TypeId) (va vy : Value) (R : World → Prop) : Prop := ∀ (ops : Array Oper) (Q : Exit → Act → World → Prop) (o : Oper) (x y : Operand) (rest : List Oper) (a : Act), o.op = .store t x y → a.eval x = va → a.eval y = vy → Region.wanted o (yielded ops a.tmps) = true → (∀ w' : World, R w' → wpList P ops Q rest (a.put o.dst undef) w') → wpList P ops Q (o :: rest) a w
theorem StA.cell (M : Mem F w0 w L) (hi : L[i]? = some (.row g cs)) {v : Value} (h1 : v.oneCell' = true) (hc : v.cells = #[v]) (hn : (P.info? t).map (·.size) = some 1) (hlt : off < cs.length) : StA P w t (.pointer (some ⟨g, off, none⟩)) v fun w' => Mem F w0 w' (L.set i (.row g (cs.set off v))) := fun _ _ _ x y _ _ ho hx hy hw h => w_store M i t x y ho hi hx hw hy h1 hc hn hlt h
theorem StA.byte (M : Mem F w0 w L) (hi : L[i]? = some (.row g (bs l))) {b : UInt8} (hn : (P.info? t).map (·.size) = some 1) (hlt : off < l.length) : StA P w t (.pointer (some ⟨g, off, none⟩)) (.int .u8 (I8 b)) fun w' => Mem F w0 w' (L.set i (.row g (bs (l.set off b)))) := fun _ _ _ x y _ _ ho hx hy hw h => w_storeB M i t x y ho hi hx hw hy hn hlt h
theorem StA.arr (M : Mem F w0 w L) (hi : L[i]? = some (.row g (bs l))) {m : List UInt8} {n : Nat} (hm : m.length = n) (hn : (P.info? t).map (·.size) = some n) (hl : l.length = n) : StA P w t (.pointer (some ⟨g, 0, none⟩)) (.agg (bs m).toArray) fun w' => Mem F w0 w' (L.set i (.row g (bs m))) := fun _ _ _ x y _ _ ho hx hy hw h => w_storeH M i t x y ho hi hx hw hy hm hn hl h
theorem StA.row (M : Mem F w0 w L) (hi : L[i]? = some (.row g cs)) {C : Array Value} {new : List Value} (hC : C = new.toArray) (hn : (P.info? t).map (·.size) = some new.length) (h1 : ∀ v ∈ new, v.oneCell' = true) (hl : new.length = cs.length) : StA P w t (.pointer (some ⟨g, 0, none⟩)) (.agg C) fun w' => Mem F w0 w' (L.set i (.row g new)) := fun _ _ _ x y _ _ ho hx hy hw h => w_storeR M i t x y ho hi hx hw new hy hC hn h1 hl h
def CvA (P : Program) (w : World) (src dst : TypeId) (vx v : Value) : Prop := ∀ (ops : Array Oper) (Q : Exit → Act → World → Prop) (o : Oper) (x : Operand) (rest : List Oper) (a : Act), o.op = .convert src dst x → a.eval x = vx → Region.wanted o (yielded ops a.tmps) = true → wpList P ops Q rest (a.put o.dst v) w → wpList P ops Q (o :: rest) a w
theorem CvA.arr {src dst e : TypeId} (M : Mem F w0 w L) (hi : L[i]? = some (.row g (bs l))) {n : Nat} (hb : l.length = n) (hm : n ≤ maxLen) (hs : P.underlying src = some (.slice e)) (he : P.underlying e = some (.int .u8)) (hd : P.underlying dst = some .string) : CvA P w src dst (.slice (some ⟨g, 0, none⟩) n n) (.string (mkS l)) := fun _ _ _ x _ _ ho hx hw h => w_stringW M i src dst e x ho hw hi hx hb hm hs he hd h
theorem CvA.sl {src dst e : TypeId} {v : Value} {n : Nat} (M : Mem F w0 w L) (hi : L[i]? = some (.sl 1 v n (bs l))) (hn : n = l.length) (hs : P.underlying src = some (.slice e)) (he : P.underlying e = some (.int .u8)) (hd : P.underlying dst = some .string) : CvA P w src dst v (.string (mkS l)) := fun _ _ _ x _ _ ho hx hw h => w_string M i src dst e x ho hw hi hn hx hs he hd h
end
section
variable {P : Program} {ops : Array Oper} {rest : List Oper} {a : Act} {w w0 : World} {Q : Exit → Act → World → Prop} {F : List Nat} {L : List Chunk} {dst : Option Tmp} {ty : TypeId} {pos : String} {after : Array Edge} {gd : Option (Nat × Bool)} {t : TypeId} {x y : Operand} {va v vy : Value} {R : World → Prop}
theorem ldS (h : wpList P ops Q rest (a.put dst v) w) (hx : a.eval x = va := by exact ev_tmp rfl) (hw : Region.wanted (Oper.mk dst (.load t x) ty pos after gd) (yielded ops a.tmps) = true := by exact rfl)
    (hv : LdA P w t va v := by first | exact LdA.cell M (by first | exact at0 | exact at1 | exact at2 | exact at3 | exact at4 | exact at5 | exact at6 | exact at7 | exact at8) (by decide +kernel) (by exact rfl) | exact LdA.row M (by first | exact at0 | exact at1 | exact at2 | exact at3 | exact at4 | exact at5 | exact at6 | exact at7 | exact at8) (by decide +kernel) (by kernel_rfl)) : wpList P ops Q (Oper.mk dst (.load t x) ty pos after gd :: rest) a w := hv _ _ _ x _ _ rfl hx hw h
theorem ldB (h : wpList P ops Q rest (a.put dst v) w) (hx : a.eval x = va := by exact ev_tmp rfl) (hw : Region.wanted (Oper.mk dst (.load t x) ty pos after gd) (yielded ops a.tmps) = true := by exact rfl)
    (hv : LdA P w t va v := by first | exact LdA.cell M (by first | exact at0 | exact at1 | exact at2 | exact at3 | exact at4 | exact at5 | exact at6 | exact at7 | exact at8) (by decide +kernel) (by exact rfl) | exact LdA.byte M (by first | exact at0 | exact at1 | exact at2 | exact at3 | exact at4 | exact at5 | exact at6 | exact at7 | exact at8) (by decide +kernel) (by first | assumption | omega | (simp; omega)) | exact LdA.arr M (by first | exact at0 | exact at1 | exact at2 | exact at3 | exact at4 | exact at5 | exact at6 | exact at7 | exact at8) (by decide +kernel) (by first | assumption | exact lenI | exact lenS ‹_› | rfl) (by decide +kernel) | exact LdA.row M (by first | exact at0 | exact at1 | exact at2 | exact at3 | exact at4 | exact at5 | exact at6 | exact at7 | exact at8) (by decide +kernel) (by kernel_rfl)) : wpList P ops Q (Oper.mk dst (.load t x) ty pos after gd :: rest) a w := hv _ _ _ x _ _ rfl hx hw h
theorem stS (h : ∀ w' : World, R w' → wpList P ops Q rest (a.put dst undef) w') (hx : a.eval x = va := by exact ev_tmp rfl) (hy : a.eval y = vy := by first | exact ev_tmp rfl | exact ev_const) (hw : Region.wanted (Oper.mk dst (.store t x y) ty pos after gd) (yielded ops a.tmps) = true := by exact rfl)
    (hv : StA P w t va vy R := by first | exact StA.cell M (by first | exact at0 | exact at1 | exact at2 | exact at3 | exact at4 | exact at5 | exact at6 | exact at7 | exact at8) rfl rfl (by decide +kernel) (by first | decide | simp | (simp; omega)) | exact StA.row M (by first | exact at0 | exact at1 | exact at2 | exact at3 | exact at4 | exact at5 | exact at6 | exact at7 | exact at8) rfl (by kernel_rfl) (by simp [Value.oneCell']) (by first | rfl | assumption | exact Eq.symm (by assumption))) : wpList P ops Q (Oper.mk dst (.store t x y) ty pos after gd :: rest) a w := hv _ _ _ x y _ _ rfl hx hy hw h
theorem stB (h : ∀ w' : World, R w' → wpList P ops Q rest (a.put dst undef) w') (hx : a.eval x = va := by exact ev_tmp rfl) (hy : a.eval y = vy := by first | exact ev_tmp rfl | exact ev_const) (hw : Region.wanted (Oper.mk dst (.store t x y) ty pos after gd) (yielded ops a.tmps) = true := by exact rfl)
    (hv : StA P w t va vy R := by first | exact StA.byte M (by first | exact at0 | exact at1 | exact at2 | exact at3 | exact at4 | exact at5 | exact at6 | exact at7 | exact at8) (by decide +kernel) (by first | assumption | omega | (simp; omega)) | exact StA.arr M (by first | exact at0 | exact at1 | exact at2 | exact at3 | exact at4 | exact at5 | exact at6 | exact at7 | exact at8) (by first | assumption | exact lenI | exact lenS ‹_› | rfl) (by decide +kernel) (by first | assumption | exact lenI | exact lenS ‹_› | rfl) | exact StA.cell M (by first | exact at0 | exact at1 | exact at2 | exact at3 | exact at4 | exact at5 | exact at6 | exact at7 | exact at8) rfl rfl (by decide +kernel) (by first | decide | simp | (simp; omega)) | exact StA.row M (by first | exact at0 | exact at1 | exact at2 | exact at3 | exact at4 | exact at5 | exact at6 | exact at7 | exact at8) rfl (by kernel_rfl) (by simp [Value.oneCell']) (by first | rfl | assumption | exact Eq.symm (by assumption))) : wpList P ops Q (Oper.mk dst (.store t x y) ty pos after gd :: rest) a w := hv _ _ _ x y _ _ rfl hx hy hw h
theorem stBc (h : ∀ w' : World, R w' → wpList P ops Q rest (a.put dst undef) w') (hx : a.eval x = va := by exact ev_tmp rfl) (hy : a.eval y = vy := by first | exact ev_tmp rfl | exact ev_const) (hw : Region.wanted (Oper.mk dst (.store t x y) ty pos after gd) (yielded ops a.tmps) = true := by exact rfl)
    (hv : StA P w t va vy R := by first | exact StA.byte M (by first | exact at0 | exact at1 | exact at2 | exact at3 | exact at4 | exact at5 | exact at6 | exact at7 | exact at8) (by decide +kernel) (by first | assumption | omega | (simp; omega)) | exact StA.arr M (by first | exact at0 | exact at1 | exact at2 | exact at3 | exact at4 | exact at5 | exact at6 | exact at7 | exact at8) (by first | assumption | exact lenI | exact lenS ‹_› | rfl) (by decide +kernel) (by first | assumption | exact lenI | exact lenS ‹_› | rfl) | exact StA.byteC M (by first | exact at0 | exact at1 | exact at2 | exact at3 | exact at4 | exact at5 | exact at6 | exact at7 | exact at8) (by decide) (by decide +kernel) (by first | assumption | omega | (simp; omega)) | exact StA.cell M (by first | exact at0 | exact at1 | exact at2 | exact at3 | exact at4 | exact at5 | exact at6 | exact at7 | exact at8) rfl rfl (by decide +kernel) (by first | decide | simp | (simp; omega)) | exact StA.row M (by first | exact at0 | exact at1 | exact at2 | exact at3 | exact at4 | exact at5 | exact at6 | exact at7 | exact at8) rfl (by kernel_rfl) (by simp [Value.oneCell']) (by first | rfl | assumption | exact Eq.symm (by assumption))) : wpList P ops Q (Oper.mk dst (.store t x y) ty pos after gd :: rest) a w := hv _ _ _ x y _ _ rfl hx hy hw h
theorem cvB {src des : TypeId} (h : wpList P ops Q rest (a.put dst v) w) (hx : a.eval x = va := by first | exact ev_tmp rfl | exact ev_const) (hw : Region.wanted (Oper.mk dst (.convert src des x) ty pos after gd) (yielded ops a.tmps) = true := by exact rfl)
    (hv : CvA P w src des va v := by first | exact CvA.arr M (by first | exact at0 | exact at1 | exact at2 | exact at3 | exact at4 | exact at5 | exact at6 | exact at7 | exact at8) (by first | assumption | exact lenI | exact lenS ‹_› | rfl) (by decide) Tryz.underlying70 Tryz.underlying5 Tryz.underlying9 | exact CvA.sl M (by first | exact at0 | exact at1 | exact at2 | exact at3 | exact at4 | exact at5 | exact at6 | exact at7 | exact at8) (by first | rfl | (simp; done) | assumption) Tryz.underlying70 Tryz.underlying5 Tryz.underlying9) : wpList P ops Q (Oper.mk dst (.convert src des x) ty pos after gd :: rest) a w := hv _ _ _ x _ _ rfl hx hw h
theorem bxA {cs : List Value} (M : Mem F w0 w L) (h : ∀ (g : Nat) (w' : World), Mem F w0 w' (.row g cs :: L) → wpList P ops Q rest (a.put dst (.pointer (some ⟨g, 0, none⟩))) w') (hx : a.eval x = v := by first | exact ev_tmp rfl | exact ev_const) (hw : Region.wanted (Oper.mk dst (.box t x) ty pos after gd) (yielded ops a.tmps) = true := by exact rfl)  (hc : v.cells = cs.toArray := by exact rfl) : wpList P ops Q (Oper.mk dst (.box t x) ty pos after gd :: rest) a w := w_box M t x rfl hw v hx cs hc h
end
def Open2 (_ : Bool) : Prop := True
theorem Open2.f {b : Bool} (_ : b = false) : Open2 b := trivial
theorem Open2.t {b : Bool} (_ : b = true) : Open2 b := trivial
section
variable {P : Program} {ops : Array Oper} {rest : List Oper} {a : Act} {w : World} {Q : Exit → Act → World → Prop}
theorem gdS {dst : Option Tmp} {op : Op} {ty : TypeId} {pos : String} {after : Array Edge} {j : Nat} {want b : Bool} (h : wpList P ops Q (Oper.mk dst op ty pos after none :: rest) a w) (hb : yielded ops a.tmps j = some b := by exact rfl) (hl : b = want := by with_reducible rfl) : wpList P ops Q (Oper.mk dst op ty pos after (some (j, want)) :: rest) a w := w_strip hb hl h
theorem gdC {dst : Option Tmp} {op : Op} {ty : TypeId} {pos : String} {after : Array Edge} {j : Nat} {want b : Bool} (h1 : b = true → wpList P ops Q (Oper.mk dst op ty pos after (some (j, want)) :: rest) a w) (h0 : b = false → wpList P ops Q (Oper.mk dst op ty pos after (some (j, want)) :: rest) a w) (hb : yielded ops a.tmps j = some b := by exact rfl) (_hu : Open2 b := by (fail_if_success (exact Open2.f (by with_reducible rfl))); (fail_if_success (exact Open2.t (by with_reducible rfl))); exact trivial) : wpList P ops Q (Oper.mk dst op ty pos after (some (j, want)) :: rest) a w := w_case hb h1 h0
end
end TL
end Go

/- Texts as lists of bytes, in the walk. No conditions but those each law names. -/
namespace Go
namespace TL
open Go.RowKit
attribute [go_sem] mkS_size mkS_toList mkS_append
@[go_sem] theorem mkS_fold (l : List UInt8) : ByteArray.mk (List.toArray l) = mkS l := rfl
theorem mkS_extract (l : List UInt8) (i j : Nat) : (mkS l).extract i j = mkS ((l.take j).drop i) := by
  apply ByteArray.ext; apply Array.ext'; simp [mkS, ByteArray.data_extract, List.extract, List.drop_take]
@[go_sem high] theorem mkS_extract0 (l : List UInt8) (j : Nat) : (mkS l).extract 0 j = mkS (l.take j) := by rw [mkS_extract, List.drop_zero]
@[go_sem high] theorem mkS_extractE (l : List UInt8) (i : Nat) : (mkS l).extract i l.length = mkS (l.drop i) := by rw [mkS_extract, List.take_length]
@[go_sem] theorem mkS_extractM (l : List UInt8) (i j : Nat) : (mkS l).extract i j = mkS ((l.take j).drop i) := mkS_extract l i j
def bt (l : List UInt8) (i : Nat) : UInt8 := l.getD i 0
@[go_sem] theorem mkS_bt (l : List UInt8) (k : Nat) (h : k < (mkS l).size) : (mkS l)[k] = bt l k := by
  have hl : k < l.length := by rwa [mkS_size] at h
  rw [bt, List.getD_eq_getElem?_getD, List.getElem?_eq_getElem hl]; rfl
theorem I8_bt (l : List UInt8) (k : Nat) : I8 (bt l k) = ((l.getD k 0).toNat : Int) := rfl
@[go_sem ↓] theorem run_index_mkS {P : Program} (w : World) (t : TypeId) (l : List UInt8) (k : IntKind) (i : Int) (hu : P.underlying t = some .string) (h0 : 0 ≤ i) (h1 : i < l.length) :
    (Instr.index t (.string (mkS l)) (.int k i)).run P w = .ok (.int .u8 (I8 (bt l i.toNat))) w := by
  have hs : i.toNat < (mkS l).size := by rw [mkS_size]; omega
  have hl : i.toNat < l.length := by omega
  have e : (mkS l)[i.toNat]? = some (l.getD i.toNat 0) := by
    rw [getElem?_pos (mkS l) i.toNat hs, List.getD_eq_getElem?_getD, List.getElem?_eq_getElem hl]; rfl
  simp only [Instr.index, asIntOf, Sem.run_bind, Sem.run_pure, Result.andThen_ok, run_underlying hu]
  simp only [h0, if_true, e]
  rfl
section
variable {P : Program} {ops : Array Oper} {rest : List Oper} {o : Oper} {a : Act} {w w0 : World} {Q : Exit → Act → World → Prop} {F : List Nat} {L : List Chunk}
end
theorem eqInRow {P : Program} {t e : TypeId} {n : Nat} (hu : P.underlying t = some (.array n e)) (he : P.underlying e = some (.int .u8)) (hc : P.cellsOf e = 1) (l m : List UInt8) (hl : l.length = n) (hm : m.length = n) (w : World) : (Op.equalIn 10000 t (.agg (bs l).toArray) (.agg (bs m).toArray)).run P w = .ok (l == m) w := by
  obtain ⟨i, hi⟩ := info_of_underlying he
  have := run_equalIn_array w 9999 (bs l).toArray (bs m).toArray hu hi
  unfold bs at this ⊢
  rw [hc, run_eqItemsB he 9998 l m (by omega) w (List.range n) (fun i hi => by rw [hl]; exact List.mem_range.1 hi)] at this
  rw [← hl, all_range_eq l m (by omega)] at this
  exact this
end TL
end Go
namespace Go
namespace TL
open Go.RowKit
section
variable {P : Program} {ops : Array Oper} {rest : List Oper} {o : Oper} {a : Act} {w w0 : World} {Q : Exit → Act → World → Prop} {F : List Nat} {L : List Chunk}
theorem Mem.slAddr (M : Mem F w0 w L) (i : Nat) {size n cap : Nat} {q : Option Addr} {m : Nat} {xs : List Value} (hi : L[i]? = some (.sl size (.slice q m cap) n xs)) (hn : 0 < n) : ∃ g o, q = some ⟨g, o, none⟩ := by
  rcases (M.ok i _ hi).2 with ⟨_, h0⟩ | ⟨g, o, c, hv, _⟩
  · omega
  · injection hv with h1 h2 h3; exact ⟨g, o, h1⟩
theorem Mem.slCell (M : Mem F w0 w L) (i : Nat) {size n m cap g so : Nat} {xs : List Value} (hi : L[i]? = some (.sl size (.slice (some ⟨g, so, none⟩) m cap) n xs)) {j : Nat} {v : Value} (hv : xs[j]? = some v) : w.cell? ⟨g, so + j, none⟩ = some v := by
  rcases (M.ok i _ hi).2 with ⟨h0, _⟩ | ⟨g', o', c, hv', _, _, _, _, hr, _⟩
  · cases h0
  · injection hv' with h1 _ _; injection h1 with h1; injection h1 with h1 h2; subst h1; subst h2; exact hr j v hv
end
end TL
end Go
namespace Go
namespace TL
open Go.RowKit
section
variable {P : Program} {ops : Array Oper} {rest : List Oper} {o : Oper} {a : Act} {w w0 : World} {Q : Exit → Act → World → Prop} {F : List Nat} {L : List Chunk}
theorem w_bytes (M : Mem F w0 w L) (src dst e : TypeId) (x : Operand) (ho : o.op = .convert src dst x) (hw : Region.wanted o (yielded ops a.tmps) = true) {l : List UInt8} (hx : a.eval x = .string (mkS l))
    (hs : P.underlying src = some .string) (hd : P.underlying dst = some (.slice e)) (he : P.underlying e = some (.int .u8)) (hl : l.length ≤ 1000000000000)
    (h : ∀ (g cap : Nat) (w' : World), l.length ≤ cap → Mem F w0 w' (.sl 1 (.slice (some ⟨g, 0, none⟩) l.length cap) l.length (bs l) :: L) → wpList P ops Q rest (a.put o.dst (.slice (some ⟨g, 0, none⟩) l.length cap)) w') : wpList P ops Q (o :: rest) a w :=
  wpW hw fun _ hK => by
    have hr := Lib.run_convert_string_bytes (P := P) w src dst e (mkS l) hs hd he
    rw [mkS_size] at hr
    obtain ⟨cap, ec⟩ : ∃ cap, cap = grownCap w l.length 0 e := ⟨_, rfl⟩
    have hc1 : l.length ≤ cap := by rw [ec]; exact grownCap_ge _ _ _ _
    have hc2 : cap ≤ maxLen := by rw [ec]; exact grownCap_le_maxLen _ _ _ _ (by simp only [maxLen]; omega)
    have hsz : (Lib.bytesCells w e (mkS l)).size = cap := by
      simp only [Lib.bytesCells, Array.size_append, Array.size_map, Array.size_replicate, mkS_size, ← ec]
      show (mkS l).data.size + _ = _
      have : (mkS l).data.size = l.length := mkS_size l
      omega
    have hnew := Lib.bytesWorld_at_new w e (mkS l)
    have hk : Kept [] w (Lib.bytesWorld w e (mkS l)) := ⟨rfl, rfl, rfl, by rw [Lib.bytesWorld_size]; omega, fun k hk _ => Lib.bytesWorld_at_old w e (mkS l) k hk⟩
    have hok : (Chunk.sl 1 (.slice (some ⟨w.heap.size, 0, none⟩) l.length cap) l.length (bs l)).ok (Lib.bytesWorld w e (mkS l)) := by
      refine ⟨by simp [bs_length], .inr ⟨w.heap.size, 0, cap, rfl, Nat.zero_le _, by rw [Lib.bytesWorld_size]; omega, hc1, hc2, ?_, ?_⟩⟩
      · intro j v hv
        have hj : j < l.length := by have := (List.getElem?_eq_some_iff.1 hv).1; rwa [bs_length] at this
        rw [Nat.zero_add, Lib.bytesWorld_cell w e (mkS l) j (by rw [mkS_size]; exact hj), mkS_data, ← hv, getD_some hj]; rfl
      · intro j hj
        rw [Nat.mul_one] at hj
        rw [Nat.zero_add]
        constructor
        · simp only [World.cell?, hnew]
          rw [if_neg (by decide), Array.getElem?_eq_getElem (by omega)]; rfl
        · simp only [World.frozen?, hnew]
          rw [hsz]; simp; omega
    rw [← ec] at hr
    unfold Oper.wp execOp
    simp only [ho, hx, Sem.run_bind, hr, Result.andThen_ok]
    exact hK _ _ (h _ cap _ hc1 (M.add _ hk hok (by simp [Chunk.fp, Value.ownBlock])))
end
end TL
end Go
namespace Go
namespace TL
open Go.RowKit
theorem w_buildSliceB {P : Program} {ops : Array Oper} {rest : List Oper} {o : Oper} {a : Act} {w w0 : World} {Q : Exit → Act → World → Prop} {F : List Nat} {L : List Chunk} (M : Mem F w0 w L) {t e : TypeId} (T : SliceT P t e 1 1) (x : Operand) (ho : o.op = .buildSlice t 1 #[(0, x)]) (hw : Region.wanted o (yielded ops a.tmps) = true) {b : UInt8} (hx : a.eval x = .int .u8 (I8 b))
    (h : ∀ (g : Nat) (w' : World), Mem F w0 w' (.row g (bs [b]) :: L) → wpList P ops Q rest (a.put o.dst (.slice (some ⟨g, 0, none⟩) 1 1)) w') : wpList P ops Q (o :: rest) a w :=
  w_buildSlice1 M T (by decide) x ho hw hx (bs [b]) rfl rfl h
end TL
end Go

/- Hashes compared. Conditions: lengths. -/
namespace Go.Proofs.YtidadhbaomieiaaGreat
open Go.RowKit Go.TL
theorem hashT : ∀ l m : List UInt8, l.length = 32 → m.length = 32 → EqRow Tryz.prog 64 l m := fun l m hl hm =>
  eqRow Tryz.underlying64 Tryz.underlying5 (by kernel_rfl) (by kernel_rfl) l m hl hm
section
variable (l m : List UInt8) (hl : l.length = 32) (hm : m.length = 32) (w : World)
include hl hm
@[go_sem ↓] theorem hash_in : (Op.equalIn 10000 64 (.agg (bs l).toArray) (.agg (bs m).toArray)).run Tryz.prog w = .ok (l == m) w := eqInRow Tryz.underlying64 Tryz.underlying5 (by kernel_rfl) l m hl hm w
@[go_sem ↓] theorem hash_eql : (binOp .eql 64 (.agg (bs l).toArray) (.agg (bs m).toArray)).run Tryz.prog w = .ok (.bool (l == m)) w := (hashT l m hl hm).eql w
@[go_sem ↓] theorem hash_guardE (x y : Operand) : (eqGuard .eql 64 x y (.agg (bs l).toArray) (.agg (bs m).toArray)).run Tryz.prog w = .ok () w := (hashT l m hl hm).guardE x y w
end
end Go.Proofs.YtidadhbaomieiaaGreat

/- The contract of sha.Sum in closed words (bs, mkS), and hashes compared. Conditions: lengths. -/
namespace Go.Proofs.YtidadhbaomieiaaGreat
open Go.RowKit Go.TL
@[go_sem] theorem shaL_len (l : List UInt8) : (shaL l).length = 32 := by have := shaL_length l; omega
instance shaLen {l : List UInt8} : HXor (PLift (shaL l = shaL l)) Unit (PLift ((shaL l).length = 32)) := ⟨fun _ _ => ⟨shaL_len l⟩⟩
section
variable (l m : List UInt8) (hl : l.length = 32) (hm : m.length = 32) (w : World)
include hl hm
@[go_sem ↓] theorem hash_neq : (binOp .neq 64 (.agg (bs l).toArray) (.agg (bs m).toArray)).run Tryz.prog w = .ok (.bool (!(l == m))) w := (hashT l m hl hm).neq w
@[go_sem ↓] theorem hash_guardN (x y : Operand) : (eqGuard .neq 64 x y (.agg (bs l).toArray) (.agg (bs m).toArray)).run Tryz.prog w = .ok () w := (hashT l m hl hm).guardN x y w
end
end Go.Proofs.YtidadhbaomieiaaGreat

/- The contracts of package mac, in closed words (bs, mkS), for seats without its laws. Conditions: lengths. -/
namespace Go.Proofs.YtidadhbaomieiaaGreat
open Go.RowKit Go.TL
theorem Tag_c (key text : List UInt8) (w : World) (hk : key.length ≤ 100000000000) (ht : text.length ≤ 100000000000) :
    Calls Tryz.prog 47 #[.string (mkS key), .string (mkS text)] w fun e w' => e = .returned (.agg (bs (macL key text)).toArray) ∧ Below w.heap.size w w' :=
  Tag_any (mkS key) (mkS text) w (by rw [mkS_size]; exact hk) (by rw [mkS_size]; exact ht)
theorem Equal_c (a b : List UInt8) (ha : a.length = 32) (hb : b.length = 32) (w : World) :
    Calls Tryz.prog 83 #[.agg (bs a).toArray, .agg (bs b).toArray] w fun e w' => e = .returned (.bool (a == b)) ∧ Below w.heap.size w w' := Equal_any a b ha hb w
@[go_sem] theorem macL_len (k l : List UInt8) : (macL k l).length = 32 := by have := macL_length k l; omega
instance macLen {k l : List UInt8} : HXor (PLift (macL k l = macL k l)) Unit (PLift ((macL k l).length = 32)) := ⟨fun _ _ => ⟨macL_len k l⟩⟩
attribute [go_sem] macPad_length
set_option maxRecDepth 100000 in
set_option maxHeartbeats 1000000 in
theorem Key_c (k label : List UInt8) (w : World) (hk : k.length = 32) (hl : label.length ≤ 100000000000) :
    Calls Tryz.prog 110 #[.agg (bs k).toArray, .string (mkS label)] w fun e w' => e = .returned (.agg (bs (macL k label)).toArray) ∧ Below w.heap.size w w' := by
  have M := Mem.start [] w
  go_enter Tryz.func110, Tryz.ntmps110
  go_wp2_with ((first | ((with_reducible refine tGuard ?_); first | refine gdS ?_ | (refine gdC ?_ ?_ <;> (intro hgd; rw [hgd]; try (exfalso; simp at hgd; omega)))) | ((with_reducible refine tConv _ 70 9 ?_); go_must (refine cvB ?_)) | ((with_reducible refine tLoad ?_); go_must (refine ldB ?_)) | ((with_reducible refine tStore ?_); go_must (refine stB ?_; clear M; intro w1 M; (try simp only [setC] at M))) | ((with_reducible refine tBox _ ?_); (refine bxA M ?_; clear M; intro g w1 M)) | ((with_reducible refine tAlloc _ 50 ?_); refine w_alloc M _ rfl rfl (.agg (Array.replicate 32 (.int .u8 0))) (bs (List.replicate 32 (0 : UInt8))) (by kernel_rfl) rfl ?_; clear M; intro g w1 M) | (go_at_call 47; go_must (refine (Tag_c _ _ _ (by omega) (by omega)).mono ?_; rintro e w1 ⟨rfl, hb⟩; replace M := M.call hb; clear hb))) <;> (try conv => arg 5; simp only [Act.put, List.setIfInBounds_toArray, setC]))
  refine bodyPost_ret (results_row rfl _ _ _ 0 (bs (macL k label)) _ rfl (M.ok 0 _ rfl).2.1 Tryz.underlying50 rfl (by kernel_rfl)) rfl ⟨rfl, M.below⟩
end Go.Proofs.YtidadhbaomieiaaGreat

/- What the statements' frames lean on: an array of bytes that came in; a byte that came in. No conditions but those each lemma names. -/
namespace Go
namespace TL
open Go.RowKit
theorem wf_u8 {a : Int} (h : (Lit.int .u8 a).wf = true) : ∃ x : UInt8, a = I8 x := by
  have hb : IntKind.u8.min ≤ a ∧ a ≤ IntKind.u8.max := by simpa [Lit.wf] using h
  have h0 : IntKind.u8.min = 0 := by decide
  have h1 : IntKind.u8.max = 255 := by decide
  rw [h0, h1] at hb
  refine ⟨UInt8.ofNat a.toNat, ?_⟩
  rw [I8_eq, UInt8.toNat_ofNat']
  omega
theorem eq_of_cells {n : Nat} (cs : List Value) (h : ∀ i, i < n → ∃ x : UInt8, (cs.drop i).take 1 = [vb x]) (hl : cs.length = n) : ∃ l : List UInt8, l.length = n ∧ cs = l.map vb := by
  induction n generalizing cs with
  | zero => exact ⟨[], rfl, by simpa using hl⟩
  | succ n ih =>
    cases cs with
    | nil => simp at hl
    | cons c cs =>
      obtain ⟨x, hx⟩ := h 0 (by omega)
      simp only [List.drop_zero, List.take_succ_cons, List.take_zero, List.cons.injEq, and_true] at hx
      obtain ⟨l, h1, h2⟩ := ih cs (fun i hi => by simpa using h (i + 1) (by omega)) (by simpa using hl)
      exact ⟨x :: l, by simp [h1], by rw [hx, h2]; rfl⟩
end TL
end Go

/- A region that draws its order, walked in one order, beside the walk's memory. No conditions but those each law names. -/
namespace Go
namespace TL
open Go.RowKit
/-! ### The walk of such a region: behind its last operation, c, nothing is asked, if it waits for all that was read -/
section
variable {P : Program} {ops : Array Oper} {Q : Exit → Act → World → Prop} {md : Region.Mode} {I : World → Prop} {c : Nat}
def wpAnyC (P : Program) (md : Region.Mode) (ops : Array Oper) (Q : Exit → Act → World → Prop) (I : World → Prop) (c : Nat) : Nat → Array Bool → Act → World → Prop
  | 0, listed, a, w => Region.ready md ops listed = [] ∧ Q .normal a w
  | fuel + 1, listed, a, w =>
    (Region.ready md ops listed = [] → Q .normal a w) ∧
    ∀ j ∈ Region.ready md ops listed, wpOp P ops Q j (fun a' w' => (j ≠ c → I w') ∧ wpAnyC P md ops Q I c fuel (listed.setIfInBounds j true) a' w') a w
theorem wpAny_of_C : ∀ (fuel : Nat) (listed : Array Bool) (a : Act) (w : World), wpAnyC P md ops Q I c fuel listed a w → wpAny P md ops Q fuel listed a w
  | 0, _, _, _, h => h
  | fuel + 1, _, _, _, h => ⟨h.1, fun j hj => wpOp_mono (fun a' w' h' => wpAny_of_C fuel _ a' w' h'.2) (h.2 j hj)⟩
theorem C_first {i : Nat} {oi : Oper} {v : Value} (hi : ops[i]? = some oi) (hsel : ∀ (j : Nat) (o : Oper) cs b, ops[j]? = some o → o.op ≠ .select cs b)
    (hQ : ∀ c a w, Q (.panic c) (a.put oi.dst v) w → Q (.panic c) a w) (hwait : ∀ oc, ops[c]? = some oc → ∃ e ∈ oc.after, Region.binds md e = true ∧ e.on = i) :
    ∀ (fuel : Nat) (listed : Array Bool) (a : Act) (w : World),
      (∀ j oj, ops[j]? = some oj → j ≠ i → listed.getD j true = false → (∀ e ∈ oj.after, Region.binds md e = true → e.on ≠ i) → oi.apart ops oj = true) →
      i ∈ Region.ready md ops listed → YieldsIf P ops I oi v a → I w →
      wpAnyC P md ops Q I c fuel (listed.setIfInBounds i true) (a.put oi.dst v) w → wpAnyC P md ops Q I c (fuel + 1) listed a w := by
  intro fuel
  induction fuel with
  | zero =>
    intro listed a w _ hr hy hw H
    refine ⟨fun h => (by rw [h] at hr; cases hr), fun j hj => ?_⟩
    by_cases hji : j = i
    · subst hji; exact hy.wpOp hi hw ⟨fun _ => hw, H⟩
    · have := ready_mono hj hji
      rw [H.1] at this
      cases this
  | succ fuel ih =>
    intro listed a w hfree hr hy hw H
    refine ⟨fun h => (by rw [h] at hr; cases hr), fun j hj => ?_⟩
    by_cases hji : j = i
    · subst hji; exact hy.wpOp hi hw ⟨fun _ => hw, H⟩
    · have h1 := H.2 j (ready_mono hj hji)
      obtain ⟨hjun, oj, hoj, hall⟩ := mem_ready.1 hj
      have hnot := not_waits hr hoj hall
      have hjc : j ≠ c := fun e => by
        subst e
        obtain ⟨x, hx, hb, hxi⟩ := hwait oj hoj
        exact hnot x hx hb hxi
      have h2 := wpOp_putIf hoj (hfree j oj hoj hji hjun hnot) (fun cs b => hsel i oi cs b hi) (fun cs b => hsel j oj cs b hoj) hQ hy h1
      have hfree' : ∀ k ok, ops[k]? = some ok → k ≠ i → (listed.setIfInBounds j true).getD k true = false →
          (∀ e ∈ ok.after, Region.binds md e = true → e.on ≠ i) → oi.apart ops ok = true := fun k ok hk hki hun hno => by
        refine hfree k ok hk hki ?_ hno
        by_cases hjk : j = k
        · subst hjk; exact hjun
        · rw [getD_set_ne true hjk] at hun; exact hun
      refine wpOp_mono (fun a' w' h3 => ⟨fun _ => h3.2.1 hjc, ih (listed.setIfInBounds j true) a' w' hfree' (ready_mono hr (Ne.symm hji)) h3.1 (h3.2.1 hjc) ?_⟩) h2
      rw [Array.setIfInBounds_comm _ _ hji]; exact h3.2.2
end
/-! ### The walk -/
def planC (P : Program) (ops : Array Oper) (fin : Act → World → Prop) (I : World → Prop) (c : Nat) : Plan → List Oper × (Act → World → Prop)
  | [] => ([], fin)
  | (i, false) :: r => (opAt ops i :: (planC P ops fin I c r).1, (planC P ops fin I c r).2)
  | (i, true) :: r => ([opAt ops i], fun a w => (i ≠ c → I w) ∧ wpList P ops (Seg (planC P ops fin I c r).2) (planC P ops fin I c r).1 a w)
def waitsC (ops : Array Oper) (c i : Nat) : Bool := match ops[c]? with | none => true | some oc => oc.after.any fun e => Region.binds .any e && e.on == i
theorem waitsC_spec {ops : Array Oper} {c i : Nat} (h : waitsC ops c i = true) : ∀ oc, ops[c]? = some oc → ∃ e ∈ oc.after, Region.binds .any e = true ∧ e.on = i := fun oc hoc => by
  unfold waitsC at h; rw [hoc] at h
  simp only [Array.any_eq_true'] at h
  obtain ⟨e, he, h⟩ := h
  simp only [Bool.and_eq_true, beq_iff_eq] at h
  exact ⟨e, he, h.1, h.2⟩
def detC (P : Program) (ops : Array Oper) (need : Needs) (idx : List Nat) (c : Nat) : Array Bool → Plan → Bool
  | listed, [] => (Region.ready .any ops listed).isEmpty
  | listed, (i, false) :: r =>
    (Region.ready .any ops listed).contains i && Region.free .any ops listed i &&
      ((stays ops need (opAt ops i) ((i, false) :: r) && pureOp P (needOf need (opAt ops i)) (opAt ops i)) || (idx.contains i && staysLow ops (opAt ops i) ((i, false) :: r))) &&
      (waitsC ops c i && detC P ops need idx c (listed.setIfInBounds i true) r)
  | listed, (i, true) :: r => Region.ready .any ops listed == [i] && ((i != c || r.isEmpty) && detC P ops need idx c (listed.setIfInBounds i true) r)
section
variable {P : Program} {ops : Array Oper} {I : World → Prop} {fin : Act → World → Prop} {c : Nat}
theorem endsC : ∀ (plan : Plan) (a : Act) (w : World), wpList P ops (Seg (planC P ops fin I c plan).2) (planC P ops fin I c plan).1 a w →
    ∃ af wf, fin af wf ∧ ∀ t, (∀ x ∈ plan, (opAt ops x.1).dst ≠ some t) → af.tmps.getD t undef = a.tmps.getD t undef
  | [], a, w, h => ⟨a, w, h, fun _ _ => rfl⟩
  | (i, false) :: r, a, w, h => by
    obtain ⟨a', w', h1, h2⟩ := stepS h
    obtain ⟨af, wf, h3, h4⟩ := endsC r a' w' h1
    exact ⟨af, wf, h3, fun t ht => (h4 t fun x hx => ht x (List.mem_cons_of_mem _ hx)).trans (h2 t (ht (i, false) List.mem_cons_self))⟩
  | (i, true) :: r, a, w, h => by
    obtain ⟨a', w', h1, h2⟩ := stepS h
    obtain ⟨af, wf, h3, h4⟩ := endsC r a' w' h1.2
    exact ⟨af, wf, h3, fun t ht => (h4 t fun x hx => ht x (List.mem_cons_of_mem _ hx)).trans (h2 t (ht (i, true) List.mem_cons_self))⟩
theorem mainC {need : Needs} {low : List (Nat × Value)} {Q : Exit → Act → World → Prop} (hs : Region.noSelect ops = true) (hlow : ∀ x ∈ low, Stab P I (opAt ops x.1) x.2) :
    ∀ (plan : Plan) (listed : Array Bool) (a : Act) (w : World), detC P ops need (low.map (·.1)) c listed plan = true → I w →
      wpList P ops (Seg (planC P ops (finI ops need low Q) I c plan).2) (planC P ops (finI ops need low Q) I c plan).1 a w →
      wpAnyC P .any ops (Seg (finI ops need low Q)) I c plan.length listed a w
  | [], listed, a, w, hd, _, h => by
    have : Region.ready .any ops listed = [] := by simpa [detC] using hd
    exact ⟨this, h⟩
  | (i, false) :: r, listed, a, w, hd, hIw, h => by
    simp only [detC, Bool.and_eq_true] at hd
    obtain ⟨⟨⟨hr, hf⟩, hk⟩, hwt, hrest⟩ := hd
    have hwait := waitsC_spec hwt
    have hr' : i ∈ Region.ready .any ops listed := by simpa using hr
    obtain ⟨_, oi, hoi, _⟩ := mem_ready.1 hr'
    have hat : opAt ops i = oi := by simp [opAt, hoi]
    have hends := endsC ((i, false) :: r) a w h
    have h' : wpList P ops (Seg (planC P ops (finI ops need low Q) I c r).2) (oi :: (planC P ops (finI ops need low Q) I c r).1) a w := by
      rw [← hat]; exact h
    have hQ : ∀ v c a w, Seg (finI ops need low Q) (.panic c) (a.put oi.dst v) w → Seg (finI ops need low Q) (.panic c) a w := fun _ _ _ _ h => h.elim
    have hsel := fun j o cs b ho => Region.noSelect_spec hs j o cs b ho
    -- what it comes to, in every world that meets I
    have key : ∀ (s : Sem Value), execOp a.eval oi = (do Pure.pure (Next.value (← s))) → (∀ v w1, s.run P w = .ok v w1 → w1 = w ∧ ∀ w', I w' → s.run P w' = .ok v w') →
        wpAnyC P .any ops (Seg (finI ops need low Q)) I c (r.length + 1) listed a w := fun s hex hl => by
      cases hw : Region.wanted oi (yielded ops a.tmps) with
      | true =>
        unfold wpList at h'
        rw [if_pos hw] at h'
        rcases h' with h' | h'
        · unfold Oper.wp at h'
          rw [hex, Sem.run_bind] at h'
          cases hrun : s.run P w with
          | ok v w1 =>
            obtain ⟨rfl, hall⟩ := hl _ _ hrun
            rw [hrun] at h'
            have hy : YieldsIf P ops I oi v a := .inl ⟨hw, fun w' hw' => by rw [hex, Sem.run_bind, hall w' hw']; rfl⟩
            exact C_first hoi hsel (hQ v) hwait r.length listed a w1 (Region.free_spec hoi hf) hr' hy hIw (mainC hs hlow r _ _ w1 hrest hIw h')
          | halt x w1 =>
            rw [hrun] at h'
            cases x <;> exact h'.elim
        · exact (Seg.letsOut h'.2).elim
      | false =>
        unfold wpList at h'
        rw [if_neg (by rw [hw]; decide)] at h'
        exact C_first hoi hsel (hQ undef) hwait r.length listed a w (Region.free_spec hoi hf) hr' (.inr ⟨hw, rfl⟩) hIw (mainC hs hlow r _ _ w hrest hIw h')
    obtain ⟨af, wf, ⟨hneed, hlowf, _⟩, hsame⟩ := hends
    rcases (Bool.or_eq_true _ _).mp hk with hp | hp
    · obtain ⟨hst, hp⟩ := (Bool.and_eq_true _ _).mp hp
      have hne : needOk (needOf need (opAt ops i)) a = true := by
        unfold needOk at hneed ⊢
        rw [List.all_eq_true] at hneed ⊢
        intro p hpm
        have hp0 := hpm
        simp only [needOf, List.mem_filter] at hpm
        have h3 := hneed p hpm.1
        rw [hsame p.1 (fun x hx hd => by
          have h5 := List.all_eq_true.1 hst x hx
          simp only [hd] at h5
          have h6 := List.all_eq_true.1 h5 p hp0
          simp at h6)] at h3
        exact h3
      rw [hat] at hp hne
      obtain ⟨s, hex, hloc⟩ := pureOp_local hp hne
      exact key s hex fun v w1 hrun => ⟨(hloc _ _ _ hrun).1, fun w' _ => (hloc _ _ _ hrun).2 w'⟩
    · obtain ⟨hix, hst⟩ := (Bool.and_eq_true _ _).mp hp
      simp only [List.contains_iff_mem, List.mem_map] at hix
      obtain ⟨⟨i', p⟩, hxm, hxi⟩ := hix
      have hxi' : i' = i := hxi
      subst hxi'
      have hev : a.eval (lowOpnd oi) = p := by
        have e := hlowf _ hxm
        simp only [hat] at e
        rw [← e]
        refine (eval_same fun t ht => ?_).symm
        refine hsame t fun x hx hd => ?_
        have h5 := List.all_eq_true.1 hst x hx
        simp only [hd, hat] at h5
        have h6 := lowOpnd_in oi ht
        simp [h6] at h5
      have hstab := hlow _ hxm
      simp only [hat] at hstab
      unfold Stab at hstab
      cases hop : oi.op <;> simp only [hop] at hstab
      case load t x =>
        have hev' : a.eval x = p := by simpa only [lowOpnd, hop] using hev
        obtain ⟨v, hv⟩ := hstab
        refine key (Instr.loadAt t p) (by simp only [execOp, hop, hev']) fun u w1 hrun => ?_
        rw [hv w hIw] at hrun
        cases hrun
        exact ⟨rfl, hv⟩
      case convert src d x =>
        have hev' : a.eval x = p := by simpa only [lowOpnd, hop] using hev
        obtain ⟨v, hv⟩ := hstab
        refine key (Go.convert src d p) (by simp only [execOp, hop, hev']) fun u w1 hrun => ?_
        rw [hv w hIw] at hrun
        cases hrun
        exact ⟨rfl, hv⟩
  | (i, true) :: r, listed, a, w, hd, hIw, h => by
    simp only [detC, Bool.and_eq_true] at hd
    have hr : Region.ready .any ops listed = [i] := by simpa using hd.1
    have hr' : i ∈ Region.ready .any ops listed := by rw [hr]; simp
    obtain ⟨_, oi, hoi, _⟩ := mem_ready.1 hr'
    have hat : opAt ops i = oi := by simp [opAt, hoi]
    refine ⟨fun h0 => (by rw [hr] at h0; cases h0), fun j hj => ?_⟩
    rw [hr] at hj
    obtain rfl : j = i := by simpa using hj
    have h1 : wpList P ops (Seg (planC P ops (finI ops need low Q) I c ((j, true) :: r)).2) [oi] a w := by rw [← hat]; exact h
    have cont : ∀ a' w', (j ≠ c → I w') ∧ wpList P ops (Seg (planC P ops (finI ops need low Q) I c r).2) (planC P ops (finI ops need low Q) I c r).1 a' w' →
        (j ≠ c → I w') ∧ wpAnyC P .any ops (Seg (finI ops need low Q)) I c r.length (listed.setIfInBounds j true) a' w' := fun a' w' ⟨h2, h3⟩ => by
      refine ⟨h2, ?_⟩
      by_cases e : j = c
      · have hre := hd.2.1
        cases r with
        | nil =>
          have : Region.ready .any ops (listed.setIfInBounds j true) = [] := by simpa [detC] using hd.2.2
          exact ⟨this, h3⟩
        | cons x r => simp [e] at hre
      · exact mainC hs hlow r _ a' w' hd.2.2 (h2 e) h3
    unfold wpOp
    rw [hoi]
    unfold wpList at h1
    dsimp only
    split
    · rename_i hw
      rw [if_pos hw] at h1
      rcases h1 with h1 | h1
      · exact .inl (Oper.wp_seg cont h1)
      · exact (Seg.letsOut h1.2).elim
    · rename_i hw
      rw [if_neg hw] at h1
      exact cont _ _ h1
theorem region_lowc {Q : Exit → Act → World → Prop} {id : Nat} {l : List Oper} {a : Act} {w : World} (plan : Plan) (need : Needs) (low : List (Nat × Value)) (I : World → Prop) (c : Nat) (hm : P.follows .mixedOrders = true)
    (hs : Region.noSelect l.toArray = true) (hn : plan.length = l.length) (hd : detC P l.toArray need (low.map (·.1)) c (Array.replicate l.length false) plan = true)
    (hlow : ∀ x ∈ low, Stab P I (opAt l.toArray x.1) x.2) (hI : I w.drew)
    (h : wpList P l.toArray (Seg (planC P l.toArray (finI l.toArray need low Q) I c plan).2) (planC P l.toArray (finI l.toArray need low Q) I c plan).1 a w.drew) : (Code.region id l.toArray true).wp P Q a w := by
  refine Code.wp_mono (Q := Seg (finI l.toArray need low Q)) (fun e a w h => ?_) ?_
  · cases e <;> first | exact h.2.2 | exact h.elim
  · refine wp_region_any hm (wpAny_of_C (I := I) (c := c) _ _ _ _ (?_ : wpAnyC P .any l.toArray (Seg (finI l.toArray need low Q)) I c l.toArray.size (Array.replicate l.toArray.size false) a w.drew))
    have := mainC (Q := Q) hs hlow plan (Array.replicate l.length false) a w.drew hd hI h
    rw [hn] at this
    exact this
end
def IxOk {F : List Nat} {w0 w : World} {L : List Chunk} (_ : Mem F w0 w L) (is : List Nat) (w' : World) : Prop := Kept F w0 w' ∧ ∀ i ∈ is, ∀ c, L[i]? = some c → Chunk.ok w' c
section
variable {P : Program} {o : Oper} {w w0 w' : World} {F : List Nat} {L : List Chunk} {M : Mem F w0 w L} {is : List Nat}
theorem ixOk_self (M : Mem F w0 w L) (is : List Nat) : IxOk M is w.drew := ⟨M.drew.kept, fun i _ c hc => M.drew.ok i c hc⟩
theorem ixOk_nil (hk : Kept F w0 w') : IxOk M [] w' := ⟨hk, fun _ h => by cases h⟩
theorem ixOk_cons {i : Nat} {c : Chunk} (hi : L[i]? = some c) (h : c.ok w') (r : IxOk M is w') : IxOk M (i :: is) w' := ⟨r.1, fun j hj d hd => by
  rcases List.mem_cons.1 hj with rfl | hj
  · rw [hi] at hd; cases hd; exact h
  · exact r.2 j hj d hd⟩
theorem rowCell {g : Nat} {cs : List Value} (h : (Chunk.row g cs).ok w') {off : Nat} {v : Value} (hv : cs[off]? = some v) : w'.cell? ⟨g, off, none⟩ = some v := by
  have := h.2.1 off v hv; rwa [Nat.zero_add] at this
theorem stab_ix (M : Mem F w0 w L) (i : Nat) (off : Nat) {t : TypeId} {x : Operand} (ho : o.op = .load t x) {g : Nat} {cs : List Value} (hi : L[i]? = some (.row g cs)) (hin : i ∈ is) (ht : scalarT P t = true) {v : Value} (hv : cs[off]? = some v) : Stab P (IxOk M is) o (.pointer (some ⟨g, off, none⟩)) := by
  unfold Stab; rw [ho]
  refine ⟨v, fun w' hw => ?_⟩
  simp only [Instr.loadAt, Instr.sureAddr, Sem.run_bind, Sem.run_pure, Result.andThen_ok, run_loadVar_scalar ht w' g off v (rowCell (hw.2 i hin _ hi) hv)]
theorem stab_ixB (M : Mem F w0 w L) (i : Nat) (off : Nat) {t : TypeId} {x : Operand} (ho : o.op = .load t x) {g : Nat} {l : List UInt8} (hi : L[i]? = some (.row g (bs l))) (hin : i ∈ is) (ht : scalarT P t = true) (hlt : off < l.length) : Stab P (IxOk M is) o (.pointer (some ⟨g, off, none⟩)) :=
  stab_ix M i off ho hi hin ht (getD_some hlt)
theorem stab_ixA (M : Mem F w0 w L) (i : Nat) (off : Nat) {t : TypeId} {x : Operand} (ho : o.op = .load t x) {g : Nat} {cs : List Value} (hi : L[i]? = some (.row g cs)) (hin : i ∈ is) (ht : rowT P t = true) (pre mid post : List Value) (hcs : cs = pre ++ (mid ++ post)) (hpre : pre.length = off) (hn : (P.info? t).map (·.size) = some mid.length) : Stab P (IxOk M is) o (.pointer (some ⟨g, off, none⟩)) := by
  unfold rowT at ht
  cases hu : P.underlying t with
  | none => simp [hu] at ht
  | some d =>
    simp only [hu] at ht
    refine stab_load ho g off mid d (fun w' hw j v hv => rowCell (hw.2 i hin _ hi) ?_) hu ht hn
    have hj : j < mid.length := (List.getElem?_eq_some_iff.1 hv).1
    rw [hcs, ← hpre, List.getElem?_append_right (by omega), Nat.add_sub_cancel_left, List.getElem?_append_left hj]; exact hv
theorem stab_ixR (M : Mem F w0 w L) (i : Nat) {t : TypeId} {x : Operand} (ho : o.op = .load t x) {g : Nat} {cs : List Value} (hi : L[i]? = some (.row g cs)) (hin : i ∈ is) (ht : rowT P t = true) (hn : (P.info? t).map (·.size) = some cs.length) : Stab P (IxOk M is) o (.pointer (some ⟨g, 0, none⟩)) :=
  stab_ixA M i 0 ho hi hin ht [] cs [] (by simp) rfl hn
theorem stab_ixH (M : Mem F w0 w L) (i : Nat) {t : TypeId} {x : Operand} (ho : o.op = .load t x) {g : Nat} {l : List UInt8} (hi : L[i]? = some (.row g (bs l))) (hin : i ∈ is) (ht : rowT P t = true) {n : Nat} (hl : l.length = n) (hn : (P.info? t).map (·.size) = some n) : Stab P (IxOk M is) o (.pointer (some ⟨g, 0, none⟩)) :=
  stab_ixR M i ho hi hin ht (by rw [bs_length, hl]; exact hn)
theorem stab_ixW (M : Mem F w0 w L) (i : Nat) {src dst e : TypeId} {x : Operand} (ho : o.op = .convert src dst x) {g : Nat} {l : List UInt8} (hi : L[i]? = some (.row g (bs l))) (hin : i ∈ is) {n : Nat} (hl : l.length = n) (hm : n ≤ maxLen) (hs : P.underlying src = some (.slice e)) (he : P.underlying e = some (.int .u8)) (hd : P.underlying dst = some .string) : Stab P (IxOk M is) o (.slice (some ⟨g, 0, none⟩) n n) := by
  refine stab_conv ho _ l (fun w' hw => ?_) hs he hd
  have := row_sees (off := 0) (n := n) (cap := n) (hw.2 i hin _ hi) (by omega) (Nat.le_refl _) hm
  rwa [List.drop_zero, List.take_of_length_le (by omega)] at this
theorem stab_ixS (M : Mem F w0 w L) (i : Nat) {src dst e : TypeId} {x : Operand} (ho : o.op = .convert src dst x) {v : Value} {n : Nat} {l : List UInt8} (hi : L[i]? = some (.sl 1 v n (bs l))) (hin : i ∈ is) (hl : n = l.length) (hs : P.underlying src = some (.slice e)) (he : P.underlying e = some (.int .u8)) (hd : P.underlying dst = some .string) : Stab P (IxOk M is) o v := by
  subst hl
  exact stab_conv ho v l (fun w' hw => Own.sees (hw.2 i hin _ hi)) hs he hd
def StabAt (P : Program) (M : Mem F w0 w L) (is : List Nat) (o : Oper) (_i _off : Nat) (va : Value) : Prop := Stab P (IxOk M is) o va
section
variable {i off : Nat} {t : TypeId} {x : Operand}
theorem sa_ix (ho : o.op = .load t x) {g : Nat} {cs : List Value} (hi : L[i]? = some (.row g cs)) (hin : i ∈ is) (ht : scalarT P t = true) {v : Value} (hv : cs[off]? = some v) : StabAt P M is o i off (.pointer (some ⟨g, off, none⟩)) := stab_ix M i off ho hi hin ht hv
theorem sa_ixB (ho : o.op = .load t x) {g : Nat} {l : List UInt8} (hi : L[i]? = some (.row g (bs l))) (hin : i ∈ is) (ht : scalarT P t = true) (hlt : off < l.length) : StabAt P M is o i off (.pointer (some ⟨g, off, none⟩)) := stab_ixB M i off ho hi hin ht hlt
theorem sa_ixH (ho : o.op = .load t x) {g : Nat} {l : List UInt8} (hi : L[i]? = some (.row g (bs l))) (hin : i ∈ is) (ht : rowT P t = true) {n : Nat} (hl : l.length = n) (hn : (P.info? t).map (·.size) = some n) : StabAt P M is o i off (.pointer (some ⟨g, 0, none⟩)) := stab_ixH M i ho hi hin ht hl hn
theorem sa_ixR (ho : o.op = .load t x) {g : Nat} {cs : List Value} (hi : L[i]? = some (.row g cs)) (hin : i ∈ is) (ht : rowT P t = true) (hn : (P.info? t).map (·.size) = some cs.length) : StabAt P M is o i off (.pointer (some ⟨g, 0, none⟩)) := stab_ixR M i ho hi hin ht hn
theorem sa_ixW {src dst e : TypeId} (ho : o.op = .convert src dst x) {g : Nat} {l : List UInt8} (hi : L[i]? = some (.row g (bs l))) (hin : i ∈ is) {n : Nat} (hl : l.length = n) (hm : n ≤ maxLen) (hs : P.underlying src = some (.slice e)) (he : P.underlying e = some (.int .u8)) (hd : P.underlying dst = some .string) : StabAt P M is o i off (.slice (some ⟨g, 0, none⟩) n n) := stab_ixW M i ho hi hin hl hm hs he hd
theorem sa_ixS {src dst e : TypeId} (ho : o.op = .convert src dst x) {v : Value} {n : Nat} {l : List UInt8} (hi : L[i]? = some (.sl 1 v n (bs l))) (hin : i ∈ is) (hl : n = l.length) (hs : P.underlying src = some (.slice e)) (he : P.underlying e = some (.int .u8)) (hd : P.underlying dst = some .string) : StabAt P M is o i off v := stab_ixS M i ho hi hin hl hs he hd
end
theorem lowA {ops : Array Oper} {k : Nat} {va : Value} {low : List (Nat × Value)} (M : Mem F w0 w L) (i off : Nat)
    (r : ∀ x ∈ low, Stab P (IxOk M is) (opAt ops x.1) x.2)
    (h : StabAt P M is (opAt ops k) i off va := by first | exact sa_ix rfl rfl (by decide) (by decide +kernel) rfl | exact sa_ixB rfl rfl (by decide) (by decide +kernel) (by first | assumption | omega) | exact sa_ix32 rfl rfl (by decide) (by decide +kernel) (by first | assumption | omega | (simp; omega)) | exact sa_ixH rfl rfl (by decide) (by decide +kernel) (by first | assumption | exact lenI | exact lenS ‹_› | rfl) (by decide +kernel) | exact sa_ixW32 rfl rfl (by decide) (by decide +kernel) (by first | assumption | exact lenI | exact lenS ‹_› | rfl) (by decide +kernel) | exact sa_ixR rfl rfl (by decide) (by decide +kernel) (by kernel_rfl) | exact sa_ixW rfl rfl (by decide) (by first | assumption | exact lenI | exact lenS ‹_› | rfl) (by decide) Tryz.underlying70 Tryz.underlying5 Tryz.underlying9 | exact sa_ixS rfl rfl (by decide) (by first | rfl | simp | assumption) Tryz.underlying70 Tryz.underlying5 Tryz.underlying9) : ∀ y ∈ (k, va) :: low, Stab P (IxOk M is) (opAt ops y.1) y.2 := lows_cons h r
theorem ixA {M0 : Mem F w0 w L} (h : IxOk M0 is w' := by (repeat' (first | exact ixOk_nil M.kept | refine ixOk_cons rfl (by first | exact M.ok 0 _ rfl | exact M.ok 1 _ rfl | exact M.ok 2 _ rfl | exact M.ok 3 _ rfl | exact M.ok 4 _ rfl | exact M.ok 5 _ rfl | exact M.ok 6 _ rfl | exact M.ok 7 _ rfl | exact M.ok 8 _ rfl | exact M.ok 9 _ rfl) ?_))) : IxOk M0 is w' := h
end
theorem needs_at {l : List Value} {d : List Deferred} {n : Nat} {s : Shape} {r : Needs} {v : Value} (h : l[n]? = some v) (hs : s.ok v = true) (k : needOk r ⟨l.toArray, d⟩ = true) : needOk ((n, s) :: r) ⟨l.toArray, d⟩ = true :=
  needs_cons (by simpa [h] using hs) k
theorem nums_bs (l : List UInt8) : Shape.ok .nums (.agg (bs l).toArray) = true := nums_vb l
theorem ndA {r : Needs} {a : Act} (h : needOk r a = true := by (repeat' (first | (with_reducible exact needs_nil) | refine needs_at rfl (by first | (show Shape.ok Shape.nums _ = true; exact nums_bs _) | rfl) ?_))) : needOk r a = true := h
theorem atA {ops : Array Oper} {a : Act} {low : List (Nat × Value)} (h : ∀ y ∈ low, a.eval (lowOpnd (opAt ops y.1)) = y.2 := by (repeat' (first | (with_reducible exact ats_nil) | refine ats_cons (by first | exact ev_tmp rfl | rfl) ?_))) : ∀ y ∈ low, a.eval (lowOpnd (opAt ops y.1)) = y.2 := h
end TL
end Go

/- Slices of structs, as the walk reads them, by elements. No conditions but those each law names. -/
namespace Go
namespace TL
open Go.RowKit
theorem flat_len {α : Type} {f : α → List Value} {size : Nat} (hf : ∀ x, (f x).length = size) (l : List α) : (l.flatMap f).length = l.length * size := by
  induction l with
  | nil => simp
  | cons a l ih => simp only [List.flatMap_cons, List.length_append, ih, hf, List.length_cons, Nat.succ_mul]; omega
theorem flat_get {α : Type} {f : α → List Value} {size : Nat} (hf : ∀ x, (f x).length = size) : ∀ (l : List α) (k : Nat) (x : α), l[k]? = some x → ∀ j, j < size → (l.flatMap f)[k * size + j]? = (f x)[j]?
  | [], k, x, h, _, _ => by simp at h
  | a :: l, 0, x, h, j, hj => by
    simp only [List.getElem?_cons_zero, Option.some.injEq] at h; subst h
    rw [List.flatMap_cons, Nat.zero_mul, Nat.zero_add, List.getElem?_append_left (by rw [hf]; exact hj)]
  | a :: l, k + 1, x, h, j, hj => by
    rw [List.flatMap_cons, List.getElem?_append_right (by rw [hf, Nat.succ_mul]; omega), hf, Nat.succ_mul, show k * size + size + j - size = k * size + j by omega]
    exact flat_get hf l k x (by simpa using h) j hj
structure SeesL {α : Type} (w : World) (size : Nat) (f : α → List Value) (v : Value) (l : List α) : Prop where
  sees : Sees w size v l.length (l.flatMap f)
  size : ∀ x, (f x).length = size
section
variable {α : Type} {P : Program} {ops : Array Oper} {rest : List Oper} {o : Oper} {a : Act} {w w0 : World} {Q : Exit → Act → World → Prop} {L : List Chunk} {size : Nat} {f : α → List Value} {v : Value} {l : List α}
theorem SeesL.form (S : SeesL w size f v l) : ∃ p cap, v = .slice p l.length cap ∧ l.length ≤ cap := S.sees.form
theorem SeesL.addr {p : Option Addr} {n cap : Nat} (S : SeesL w size f (.slice p n cap) l) (h : 0 < l.length) : ∃ g so, p = some ⟨g, so, none⟩ := by
  rcases S.sees.2 with ⟨_, h0⟩ | ⟨g, so, c, hv, _⟩
  · omega
  · injection hv with h1 h2 h3; exact ⟨g, so, h1⟩
theorem SeesL.cell {g so n cap : Nat} (S : SeesL w size f (.slice (some ⟨g, so, none⟩) n cap) l) {k : Nat} {x : α} (hk : l[k]? = some x) {j : Nat} {val : Value} (hv : (f x)[j]? = some val) : w.cell? ⟨g, so + (k * size + j), none⟩ = some val := by
  have hj : j < size := by rw [← S.size x]; exact (List.getElem?_eq_some_iff.1 hv).1
  rcases S.sees.2 with ⟨_, h0⟩ | ⟨g', o', c, hv', _, _, _, hr⟩
  · rw [List.eq_nil_of_length_eq_zero h0] at hk; simp at hk
  · injection hv' with h1 _ _; injection h1 with h1; injection h1 with h1 h2; subst h1; subst h2
    exact hr _ _ ((flat_get S.size l k x hk j hj).trans hv)
theorem SeesL.kept {G : List Nat} {w' : World} (S : SeesL w size f v l) (h : Kept G w w') (hG : ∀ k, v.ownBlock = some k → k ∉ G) : SeesL w' size f v l := by
  refine ⟨⟨S.sees.1, S.sees.2.imp id ?_⟩, S.size⟩
  rintro ⟨g, so, cap, rfl, hlt, hn, hc, hr⟩
  exact ⟨g, so, cap, rfl, Nat.lt_of_lt_of_le hlt h.size, hn, hc, rangeAt_of_block hr (h.block g hlt (hG g rfl))⟩
theorem SeesL.kept0 {G : List Nat} {w' : World} (S : SeesL w size f v l) (h : Kept G w w') (hG : 0 < l.length → ∀ k, v.ownBlock = some k → k ∉ G) : SeesL w' size f v l := by
  by_cases hl : 0 < l.length
  · exact S.kept h (hG hl)
  · refine ⟨⟨S.sees.1, S.sees.2.imp id ?_⟩, S.size⟩
    rintro ⟨g, so, cap, rfl, hlt, hn, hc, _⟩
    refine ⟨g, so, cap, rfl, Nat.lt_of_lt_of_le hlt h.size, hn, hc, ?_⟩
    rw [List.eq_nil_of_length_eq_zero (by omega : l.length = 0)]
    exact rangeAt_nil _ _ _
theorem SeesL.below {w' : World} (S : SeesL w size f v l) (h : Below w.heap.size w w') : SeesL w' size f v l := S.kept (Kept.of_below h []) (by simp)
theorem SeesL.now (M : Mem [] w0 w L) (S : SeesL w0 size f v l) : SeesL w size f v l := S.kept M.kept (by simp)
theorem seesL_bare (size : Nat) (f : α → List Value) (hf : ∀ x, (f x).length = size) (w : World) (a : Option Addr) : SeesL w size f (.slice a 0 0) [] := ⟨Sees_bare _ _ _, hf⟩
theorem seesL_nil (size : Nat) (f : α → List Value) (hf : ∀ x, (f x).length = size) (w : World) : SeesL w size f (.slice none 0 0) [] := ⟨Sees_nil _ _, hf⟩
theorem SeesL.own {F : List Nat} (M : Mem F w0 w L) (i : Nat) {n : Nat} (hi : L[i]? = some (.sl size v n (l.flatMap f))) (hn : n = l.length) (hf : ∀ x, (f x).length = size) : SeesL w size f v l := by
  subst hn; exact ⟨Own.sees (M.ok i _ hi), hf⟩
theorem w_see (M : Mem [] w0 w L) {g so n cap : Nat} (S : SeesL w0 size f (.slice (some ⟨g, so, none⟩) n cap) l) {k : Nat} {x : α} (hk : l[k]? = some x) (t : TypeId) (op : Operand) (ho : o.op = .load t op) {off : Nat} (hx : a.eval op = .pointer (some ⟨g, off, none⟩)) (hw : Region.wanted o (yielded ops a.tmps) = true)
    (ht : scalarT P t = true) (j : Nat) (hoff : off = so + (k * size + j)) {val : Value} (hv : (f x)[j]? = some val) (h : wpList P ops Q rest (a.put o.dst val) w) : wpList P ops Q (o :: rest) a w :=
  wpW hw fun _ hK => by
    subst hoff
    unfold Oper.wp execOp
    simp only [ho, hx, Instr.loadAt, Instr.sureAddr, Sem.run_bind, Sem.run_pure, Result.andThen_ok, run_loadVar_scalar ht w g _ val ((S.now M).cell hk hv)]
    exact hK _ _ h
theorem w_seeA (M : Mem [] w0 w L) {g so n cap : Nat} (S : SeesL w0 size f (.slice (some ⟨g, so, none⟩) n cap) l) {k : Nat} {x : α} (hk : l[k]? = some x) (t : TypeId) (op : Operand) (ho : o.op = .load t op) {off : Nat} (hx : a.eval op = .pointer (some ⟨g, off, none⟩)) (hw : Region.wanted o (yielded ops a.tmps) = true)
    (ht : rowT P t = true) (hoff : off = so + k * size) (hn : (P.info? t).map (·.size) = some (f x).length) (h : wpList P ops Q rest (a.put o.dst (.agg (f x).toArray)) w) : wpList P ops Q (o :: rest) a w :=
  wpW hw fun _ hK => by
    subst hoff
    unfold rowT at ht
    cases hu : P.underlying t with
    | none => simp [hu] at ht
    | some d =>
      simp only [hu] at ht
      refine wp_load_mid t op ho g _ hx (f x) d ?_ hu ht hn (hK _ _ h)
      intro j val hv
      rw [Nat.add_assoc]
      exact (S.now M).cell hk hv
theorem stab_see (M : Mem [] w0 w L) {is : List Nat} {g so n cap : Nat} (S : SeesL w0 size f (.slice (some ⟨g, so, none⟩) n cap) l) {k : Nat} {x : α} (hk : l[k]? = some x) (j : Nat) {t : TypeId} {op : Operand} (ho : o.op = .load t op) (ht : scalarT P t = true) {val : Value} (hv : (f x)[j]? = some val) :
    Stab P (IxOk M is) o (.pointer (some ⟨g, so + (k * size + j), none⟩)) := by
  unfold Stab; rw [ho]
  refine ⟨val, fun w' hw => ?_⟩
  simp only [Instr.loadAt, Instr.sureAddr, Sem.run_bind, Sem.run_pure, Result.andThen_ok, run_loadVar_scalar ht w' g _ val ((S.kept hw.1 (by simp)).cell hk hv)]
end
def prV (x : List UInt8 × List UInt8) : List Value := [.string (mkS x.1), .string (mkS x.2)]
@[go_sem] theorem prV_eq (a b : List UInt8) : prV (a, b) = [.string (mkS a), .string (mkS b)] := rfl
theorem prV_len (x : List UInt8 × List UInt8) : (prV x).length = 2 := rfl
end TL
end Go

/- What the statements' frames lean on where a slice of structs comes in: it is seen, element by element. No conditions but those each lemma names. -/
namespace Go
namespace TL
open Go.RowKit Go.ChangeShapes Go.WideShapes Go.Deep
theorem listOf {α : Type} {p : Nat → α → Prop} : ∀ n : Nat, (∀ i, i < n → ∃ x, p i x) → ∃ l : List α, l.length = n ∧ ∀ (i : Nat) (x : α), l[i]? = some x → p i x
  | 0, _ => ⟨[], rfl, fun i x h => by simp at h⟩
  | n + 1, h => by
    obtain ⟨l, h1, h2⟩ := listOf n fun i hi => h i (by omega)
    obtain ⟨x, hx⟩ := h n (by omega)
    refine ⟨l ++ [x], by simp [h1], fun i y hy => ?_⟩
    by_cases hi : i < n
    · rw [List.getElem?_append_left (by omega)] at hy; exact h2 i y hy
    · have hi' : i = n := by
        have := (List.getElem?_eq_some_iff.1 hy).1
        simp at this; omega
      subst hi'
      rw [List.getElem?_append_right (by omega), h1] at hy
      simp at hy; subst hy; exact hx
theorem lt_of_shape {w : World} {g : Nat} {x : TypeId × Nat} (h : w.shape? g = some x) : g < w.heap.size := by
  unfold World.shape? at h
  cases e : w.heap[g]? with
  | none => rw [e] at h; simp at h
  | some o => exact (Array.getElem?_eq_some_iff.1 e).1
section
variable {H : Type} {enc : TypeId × Value → H} {P : Program} {w : World} {base : Nat} {spare : Nat → Bool} {held : Bool}
theorem slice_shape {r : Reach} {b0 : Nat} {t e : TypeId} {v : Value} (ht : P.underlying t = some (.slice e)) (hv : Value.okWide P w r b0 t v) : v = .slice none 0 0 ∨ ∃ a len cap, v = .slice (some a) len cap ∧ a.spot = none ∧ a.block < w.heap.size := by
  unfold Value.okWide at hv
  rw [ht] at hv
  have hv : Cell.ok P w r b0 t v := by
    unfold Cell.okWide at hv
    rw [ht] at hv
    exact hv
  unfold Cell.ok at hv
  rw [ht] at hv
  split at hv <;> simp_all
  obtain ⟨_, _, h⟩ := hv
  unfold World.has at h
  obtain ⟨_, hs, row, cells, hsh, _⟩ := h
  exact ⟨hs, lt_of_shape hsh⟩
theorem open_sl {α : Type} {f : α → List Value} {size : Nat} {good : α → Prop} {r : Reach} {b0 : Nat} {t e : TypeId} {v : Value} {d : DataW H} {p : List MemPlace} (ht : P.underlying t = some (.slice e)) (hc : P.cellsOf e = size) (hpos : 0 < size) (hf : ∀ x, (f x).length = size)
    (hdec : ∀ n cs y, cs.length = size → DataW.trod enc P w base spare held n e cs = some y → ∃ x, cs = f x ∧ good x) (hv : Value.okWide P w r b0 t v) (h : DataW.Trod enc P w base spare held t v d p) : ∃ l : List α, SeesL w size f v l ∧ ∀ x ∈ l, good x := by
  obtain ⟨fuel, hh⟩ := h
  rcases slice_shape ht hv with rfl | ⟨⟨g, o, s⟩, len, cap, rfl, hs, hlt⟩
  · exact ⟨[], seesL_nil size f hf w, by simp⟩
  · simp only at hs hlt; subst hs
    rcases open_slice ht hh with ⟨h0, _⟩ | ⟨a, len', cap', m, n, D, Pl, hcs, hb, hl, hm, hmm, hx, hi⟩
    · simp [Value.cells] at h0
    · simp only [Value.cells, List.cons.injEq, and_true, Value.slice.injEq, Option.some.injEq] at hcs
      obtain ⟨rfl, rfl, rfl⟩ := hcs
      have hlm : len ≤ m := by rw [hmm]; split <;> omega
      obtain ⟨l, h1, h2⟩ := listOf (p := fun i x => good x ∧ ∀ j, j < size → w.cell? ⟨g, o + (i * size + j), none⟩ = (f x)[j]?) len fun i hil => by
        obtain ⟨cs, hcells, htrod⟩ := hi i (by omega)
        rw [hc] at hcells
        obtain ⟨_, hlen, hat⟩ := World.cells?_some hcells
        obtain ⟨x, rfl, hg⟩ := hdec n cs _ hlen htrod
        refine ⟨x, hg, fun j hj => ?_⟩
        rw [← hat j hj]
        congr 1
        unfold Addr.add
        by_cases hi0 : i * size = 0 <;> by_cases hj0 : j = 0 <;> simp [hi0, hj0]
        omega
      refine ⟨l, ⟨⟨by rw [flat_len hf], .inr ⟨g, o, cap, by rw [h1], hlt, by omega, hm, ?_⟩⟩, hf⟩, fun x hx => ?_⟩
      · intro j v hv
        have hjl : j < l.length * size := by have := (List.getElem?_eq_some_iff.1 hv).1; rwa [flat_len hf] at this
        have hk : j / size < l.length := Nat.div_lt_of_lt_mul (by rw [Nat.mul_comm]; exact hjl)
        obtain ⟨x, hx⟩ : ∃ x, l[j / size]? = some x := ⟨_, List.getElem?_eq_getElem hk⟩
        have hmod : j % size < size := Nat.mod_lt _ hpos
        have e : j / size * size + j % size = j := by rw [Nat.mul_comm]; exact Nat.div_add_mod j size
        have := (h2 _ x hx).2 (j % size) hmod
        rw [e] at this
        rw [this, ← flat_get hf l (j / size) x hx (j % size) hmod, e]
        exact hv
      · obtain ⟨k, hk⟩ := List.getElem?_of_mem hx
        exact (h2 k x hk).1
theorem dec_pr {e : TypeId} {f0 f1 : Field} (he : P.underlying e = some (.struct #[f0, f1])) (h0 : P.underlying f0.type = some .string) (h1 : P.underlying f1.type = some .string) (o0 : f0.offset = 0) (o1 : f1.offset = 1) (c0 : P.cellsOf f0.type = 1) (c1 : P.cellsOf f1.type = 1) :
    ∀ n cs y, cs.length = 2 → DataW.trod enc P w base spare held n e cs = some y → ∃ x : List UInt8 × List UInt8, cs = prV x ∧ (x.1.length ≤ maxLen ∧ x.2.length ≤ maxLen) := by
  intro n cs y hl h
  obtain ⟨xs, m, _, _, _, hxl, hg⟩ := DataW.trod_struct he h
  match cs, hl with
  | [a, b], _ =>
    match xs, hxl with
    | [x0, x1], _ =>
      have g0 := hg 0 f0 rfl
      have g1 := hg 1 f1 rfl
      rw [o0, c0] at g0
      rw [o1, c1] at g1
      obtain ⟨s, hs, _, hsl⟩ := DataW.trod_string h0 g0
      obtain ⟨u, hu, _, hul⟩ := DataW.trod_string h1 g1
      simp at hs hu
      obtain ⟨ls, rfl⟩ := mkS_of s
      obtain ⟨lu, rfl⟩ := mkS_of u
      rw [mkS_size] at hsl hul
      exact ⟨(ls, lu), by rw [hs, hu]; rfl, hsl, hul⟩
end
end TL
end Go

/- Plain laws of layer 11 (path): a path's mount and key. No program in this text. No conditions but those each lemma names. -/
namespace Go
namespace TL
def goodN (b : UInt8) : Bool := decide (97 ≤ b.toNat ∧ b.toNat ≤ 122)
def goodK (b : UInt8) : Bool := decide (b.toNat ≠ 0 ∧ b.toNat ≠ 47)
def namedL (s : List UInt8) : Bool := decide (1 ≤ s.length ∧ s.length ≤ 8) && s.all goodN
def pkeyL (s : List UInt8) : Bool := decide (1 ≤ s.length ∧ s.length ≤ 24) && s.all goodK
def slash : List UInt8 → Nat
  | [] => 0
  | b :: l => if b.toNat = 47 then 0 else slash l + 1
def cutL (p : List UInt8) : List UInt8 × List UInt8 × Bool :=
  if slash p < p.length ∧ namedL (p.take (slash p)) = true ∧ pkeyL (p.drop (slash p + 1)) = true then (p.take (slash p), p.drop (slash p + 1), true) else ([], [], false)
def scutL (p : List UInt8) : List UInt8 × List UInt8 × Bool := if slash p < p.length then (p.take (slash p), p.drop (slash p + 1), true) else (p, [], false)
theorem scut_yes {p : List UInt8} (h : slash p < p.length) : scutL p = (p.take (slash p), p.drop (slash p + 1), true) := if_pos h
theorem scut_no {p : List UInt8} (h : ¬ slash p < p.length) : scutL p = (p, [], false) := if_neg h
theorem all_bad {f : UInt8 → Bool} {s : List UInt8} {k : Nat} (h : k < s.length) (hb : f (s.getD k 0) = false) : s.all f = false := by
  rw [List.all_eq_false]
  refine ⟨s[k], List.getElem_mem _, ?_⟩
  rw [List.getD_eq_getElem?_getD, List.getElem?_eq_getElem h] at hb
  simpa using hb
theorem all_good {f : UInt8 → Bool} {s : List UInt8} (h : ∀ k, k < s.length → f (s.getD k 0) = true) : s.all f = true := by
  rw [List.all_eq_true]
  intro x hx
  obtain ⟨k, hk, rfl⟩ := List.mem_iff_getElem.1 hx
  have := h k hk
  rwa [List.getD_eq_getElem?_getD, List.getElem?_eq_getElem hk] at this
theorem named_bad {s : List UInt8} {k : Nat} (h : k < s.length) (hb : goodN (s.getD k 0) = false) : namedL s = false := by unfold namedL; rw [all_bad h hb, Bool.and_false]
theorem named_good {s : List UInt8} (h : ∀ k, k < s.length → goodN (s.getD k 0) = true) : namedL s = decide (1 ≤ s.length ∧ s.length ≤ 8) := by unfold namedL; rw [all_good h, Bool.and_true]
theorem pkey_len {s : List UInt8} (h : ¬ (1 ≤ s.length ∧ s.length ≤ 24)) : pkeyL s = false := by unfold pkeyL; rw [decide_eq_false h, Bool.false_and]
theorem slash_le : ∀ p, slash p ≤ p.length
  | [] => Nat.le_refl _
  | b :: l => by rw [slash]; split <;> have := slash_le l <;> simp <;> omega
theorem slash_at : ∀ (p : List UInt8), slash p < p.length → (p.getD (slash p) 0).toNat = 47
  | [], h => by simp at h
  | b :: l, h => by
    by_cases hb : b.toNat = 47
    · rw [slash, if_pos hb]; simpa using hb
    · rw [slash, if_neg hb] at h ⊢
      simpa using slash_at l (by simpa using h)
theorem indexByte_slash : ∀ p : List UInt8, Lib.indexByte p 47 = if slash p < p.length then (slash p : Int) else -1
  | [] => rfl
  | b :: l => by
    have ih := indexByte_slash l
    by_cases hb : b.toNat = 47
    · have e : b = 47 := UInt8.toNat_inj.1 hb
      subst e
      rw [Lib.indexByte, slash, if_pos hb]; simp
    · have e : (b == 47) = false := by
        rw [beq_eq_false_iff_ne]; rintro rfl; exact hb rfl
      rw [Lib.indexByte, slash, if_neg hb, e, ih]
      by_cases h : slash l < l.length
      · have h2 : slash l + 1 < (b :: l).length := by simpa using h
        rw [if_pos h, if_pos h2]
        have : (((slash l : Nat) : Int) == -1) = false := by simp
        rw [this]; simp
      · have h2 : ¬ slash l + 1 < (b :: l).length := by simpa using h
        rw [if_neg h, if_neg h2]; simp
theorem indexByte_neg {l : List UInt8} {c : UInt8} : Lib.indexByte l c < 0 ↔ ∀ b ∈ l, b ≠ c := by
  have hge := Lib.indexByte_ge l c
  constructor
  · intro h b hb e
    subst e
    obtain ⟨k, hk, e⟩ := List.mem_iff_getElem.1 hb
    exact Lib.indexByte_none (by omega : Lib.indexByte l b = -1) k (by rw [List.getElem?_eq_getElem hk, e])
  · intro h
    by_cases h0 : Lib.indexByte l c < 0
    · exact h0
    · obtain ⟨o, ho⟩ := Int.eq_ofNat_of_zero_le (by omega : 0 ≤ Lib.indexByte l c)
      have := (Lib.indexByte_some ho).1
      exact absurd rfl (h c (List.mem_of_getElem? this))
theorem pkey_index (s : List UInt8) (h : 1 ≤ s.length ∧ s.length ≤ 24) : pkeyL s = (decide (Lib.indexByte s 0 < 0) && decide (Lib.indexByte s 47 < 0)) := by
  unfold pkeyL
  rw [decide_eq_true h, Bool.true_and, Bool.eq_iff_iff]
  simp only [Bool.and_eq_true, decide_eq_true_eq, indexByte_neg, List.all_eq_true, goodK]
  constructor
  · intro h2
    refine ⟨fun b hb e => (h2 b hb).1 (by rw [e]; rfl), fun b hb e => (h2 b hb).2 (by rw [e]; rfl)⟩
  · rintro ⟨h2, h3⟩ b hb
    exact ⟨fun e => h2 b hb (UInt8.toNat_inj.1 e), fun e => h3 b hb (UInt8.toNat_inj.1 e)⟩
theorem cut_ok {p m k : List UInt8} (h : cutL p = (m, k, true)) : p = m ++ 47 :: k ∧ namedL m = true ∧ pkeyL k = true ∧ m.length ≤ 8 ∧ k.length ≤ 24 ∧ 1 ≤ m.length ∧ 1 ≤ k.length := by
  unfold cutL at h
  split at h
  · rename_i h1
    obtain ⟨h1, h2, h3⟩ := h1
    simp only [Prod.mk.injEq, and_true] at h
    obtain ⟨rfl, rfl⟩ := h
    have hs := slash_at p h1
    have e47 : p[slash p] = 47 := by
      apply UInt8.toNat_inj.1
      rw [List.getD_eq_getElem?_getD, List.getElem?_eq_getElem h1] at hs
      exact hs
    refine ⟨?_, h2, h3, ?_⟩
    · rw [← e47, ← List.drop_eq_getElem_cons h1, List.take_append_drop]
    · unfold namedL at h2; unfold pkeyL at h3
      simp only [Bool.and_eq_true, decide_eq_true_eq] at h2 h3
      omega
  · simp at h
end TL
end Go

/- Plain laws of layer 1 (pack): a number's bytes, seven bits in each, and how they are read. No program in this text. Conditions: numbers below 2^64. -/
namespace Go
namespace TL
def numL (n : Nat) : List UInt8 := if n < 128 then [UInt8.ofNat n] else UInt8.ofNat (n % 128 + 128) :: numL (n / 128)
termination_by n
decreasing_by omega
theorem numL_small {n : Nat} (h : n < 128) : numL n = [UInt8.ofNat n] := by rw [numL, if_pos h]
theorem numL_big {n : Nat} (h : 128 ≤ n) : numL n = UInt8.ofNat (n % 128 + 128) :: numL (n / 128) := by rw [numL, if_neg (by omega)]
theorem numL_pos (n : Nat) : 0 < (numL n).length := by
  by_cases h : n < 128
  · rw [numL_small h]; exact Nat.one_pos
  · rw [numL_big (by omega)]; simp
theorem bitLenAux_zero : ∀ f, Lib.bitLenAux f 0 = 0
  | 0 => rfl
  | _ + 1 => rfl
theorem bitLenAux_log : ∀ (f x : Nat), x ≠ 0 → x < 2 ^ f → Lib.bitLenAux f x = Nat.log2 x + 1
  | 0, x, h0, h => by simp at h; omega
  | f + 1, x, h0, h => by
    rw [Lib.bitLenAux, if_neg h0, Nat.log2_def]
    by_cases h2 : 2 ≤ x
    · rw [if_pos h2, bitLenAux_log f (x / 2) (by omega) (by rw [Nat.pow_succ] at h; omega)]; omega
    · rw [if_neg h2, show x / 2 = 0 by omega, bitLenAux_zero]
theorem log2_div128 {n : Nat} (h : 128 ≤ n) : Nat.log2 n = Nat.log2 (n / 128) + 7 := by
  have e : ∀ m : Nat, 2 ≤ m → Nat.log2 m = Nat.log2 (m / 2) + 1 := fun m hm => by rw [Nat.log2_def, if_pos hm]
  rw [e n (by omega), e (n / 2) (by omega), e (n / 2 / 2) (by omega), e (n / 2 / 2 / 2) (by omega), e (n / 2 / 2 / 2 / 2) (by omega), e (n / 2 / 2 / 2 / 2 / 2) (by omega), e (n / 2 / 2 / 2 / 2 / 2 / 2) (by omega)]
  simp only [Nat.div_div_eq_div_mul]
theorem numL_length (n : Nat) : (numL n).length = if n = 0 then 1 else Nat.log2 n / 7 + 1 := by
  induction n using Nat.strongRecOn with
  | ind n ih =>
    by_cases h : n < 128
    · rw [numL_small h]
      by_cases h0 : n = 0
      · rw [if_pos h0]; rfl
      · rw [if_neg h0]
        have : Nat.log2 n < 7 := (Nat.log2_lt h0).2 (by omega)
        simp; omega
    · rw [numL_big (by omega), List.length_cons, ih (n / 128) (by omega), if_neg (by omega), if_neg (by omega), log2_div128 (n := n) (by omega)]
      omega
theorem size_eq (n : Nat) (h : n < 18446744073709551616) : max 1 ((Lib.bitLen n + 6) / 7) = (numL n).length := by
  rw [numL_length]
  by_cases h0 : n = 0
  · subst h0; rfl
  · rw [if_neg h0, Lib.bitLen, bitLenAux_log 64 n h0 h]; omega
theorem numL_length_le (n : Nat) (h : n < 18446744073709551616) : (numL n).length ≤ 10 := by
  rw [numL_length]
  split
  · omega
  · rename_i h0
    have : Nat.log2 n < 64 := (Nat.log2_lt h0).2 (by omega)
    omega
/-! ### Reading -/
def lead : List UInt8 → Nat
  | [] => 0
  | b :: l => if b.toNat < 128 then 0 else lead l + 1
def numV : List UInt8 → Nat
  | [] => 0
  | b :: l => b.toNat % 128 + 128 * numV l
def readN (s : List UInt8) (most : Nat) : Nat × Nat × Nat :=
  if 10 ≤ lead s then (0, 0, 8) else if s.length ≤ lead s then (0, 0, 7) else if lead s = 9 ∧ 1 < (s.getD 9 0).toNat then (0, 0, 8)
  else if 0 < lead s ∧ (s.getD (lead s) 0).toNat = 0 then (0, 0, 8)
  else if most < numV (s.take (lead s + 1)) then (0, 0, 8) else (numV (s.take (lead s + 1)), lead s + 1, 0)
theorem lead_le : ∀ s, lead s ≤ s.length
  | [] => Nat.le_refl _
  | b :: l => by rw [lead]; split <;> have := lead_le l <;> simp <;> omega
theorem ofNat_toNat {n : Nat} (h : n < 256) : (UInt8.ofNat n).toNat = n := by simp [UInt8.toNat_ofNat']; omega
theorem lead_numL (n : Nat) (r : List UInt8) : lead (numL n ++ r) + 1 = (numL n).length := by
  induction n using Nat.strongRecOn with
  | ind n ih =>
    by_cases h : n < 128
    · rw [numL_small h]; simp only [List.cons_append, List.nil_append, lead]; rw [if_pos (by rw [ofNat_toNat (by omega)]; exact h)]; rfl
    · rw [numL_big (by omega)]; simp only [List.cons_append, lead]
      rw [if_neg (by rw [ofNat_toNat (by omega)]; omega), ih (n / 128) (by omega)]; rfl
theorem numV_numL (n : Nat) : numV (numL n) = n := by
  induction n using Nat.strongRecOn with
  | ind n ih =>
    by_cases h : n < 128
    · rw [numL_small h]; simp only [numV]; rw [ofNat_toNat (by omega)]; omega
    · rw [numL_big (by omega)]; simp only [numV]; rw [ih (n / 128) (by omega), ofNat_toNat (by omega)]; omega
theorem numL_last (n : Nat) (r : List UInt8) : ((numL n ++ r).getD (lead (numL n ++ r)) 0).toNat < 128 ∧ (0 < lead (numL n ++ r) → 0 < ((numL n ++ r).getD (lead (numL n ++ r)) 0).toNat) := by
  induction n using Nat.strongRecOn with
  | ind n ih =>
    by_cases h : n < 128
    · rw [numL_small h]; simp only [List.cons_append, List.nil_append, lead]; rw [if_pos (by rw [ofNat_toNat (by omega)]; exact h)]
      simp only [List.getD_cons_zero]; rw [ofNat_toNat (by omega)]; omega
    · rw [numL_big (by omega)]; simp only [List.cons_append, lead]
      rw [if_neg (by rw [ofNat_toNat (by omega)]; omega)]; simp only [List.getD_cons_succ]
      refine ⟨(ih (n / 128) (by omega)).1, fun _ => ?_⟩
      by_cases h2 : n / 128 < 128
      · have e : numL (n / 128) = [UInt8.ofNat (n / 128)] := numL_small h2
        rw [e]; simp only [List.cons_append, List.nil_append, lead]; rw [if_pos (by rw [ofNat_toNat (by omega)]; exact h2)]
        simp only [List.getD_cons_zero]; rw [ofNat_toNat (by omega)]; omega
      · refine (ih (n / 128) (by omega)).2 ?_
        have := lead_numL (n / 128) r
        have : (numL (n / 128)).length = (numL (n / 128 / 128)).length + 1 := by rw [numL_big (by omega)]; rfl
        have := numL_pos (n / 128 / 128)
        omega
theorem take_numL (n : Nat) (r : List UInt8) : (numL n ++ r).take (lead (numL n ++ r) + 1) = numL n := by
  rw [lead_numL, List.take_left]
theorem numL_ten (n : Nat) (r : List UInt8) (k : Nat) (hk : lead (numL n ++ r) = k) : ((numL n ++ r).getD k 0).toNat * 128 ^ k ≤ n := by
  induction n using Nat.strongRecOn generalizing k with
  | ind n ih =>
    by_cases h : n < 128
    · rw [numL_small h] at hk ⊢; simp only [List.cons_append, List.nil_append, lead] at hk ⊢; rw [if_pos (by rw [ofNat_toNat (by omega)]; exact h)] at hk
      subst hk
      simp only [List.getD_cons_zero]; rw [ofNat_toNat (by omega)]; omega
    · rw [numL_big (by omega)] at hk ⊢; simp only [List.cons_append, lead] at hk ⊢
      rw [if_neg (by rw [ofNat_toNat (by omega)]; omega)] at hk
      subst hk
      simp only [List.getD_cons_succ]
      have := ih (n / 128) (by omega) _ rfl
      rw [Nat.pow_succ, ← Nat.mul_assoc]; omega
theorem read_num (n most : Nat) (r : List UInt8) (h : n < 18446744073709551616) : readN (numL n ++ r) most = if most < n then (0, 0, 8) else (n, (numL n).length, 0) := by
  have h1 := lead_numL n r
  have h2 := numL_length_le n h
  obtain ⟨h3, h4⟩ := numL_last n r
  unfold readN
  rw [if_neg (by omega), if_neg (by simp; omega), if_neg, if_neg (by rintro ⟨a, b⟩; have := h4 a; omega), take_numL, numV_numL, h1]
  rintro ⟨a, b⟩
  have := numL_ten n r 9 a
  omega
theorem toNat_lt' (b : UInt8) : b.toNat < 256 := b.toNat_lt
theorem ofNat_toNat' (b : UInt8) : UInt8.ofNat b.toNat = b := UInt8.ofNat_toNat
theorem numV_ge : ∀ s : List UInt8, lead s < s.length → (s.getD (lead s) 0).toNat * 128 ^ lead s ≤ numV (s.take (lead s + 1)) ∧ numV (s.take (lead s + 1)) < ((s.getD (lead s) 0).toNat + 1) * 128 ^ lead s
  | [], h => by simp at h
  | b :: l, h => by
    by_cases hb : b.toNat < 128
    · have e : lead (b :: l) = 0 := by rw [lead, if_pos hb]
      rw [e]; simp [numV]; omega
    · have e : lead (b :: l) = lead l + 1 := by rw [lead, if_neg hb]
      rw [e] at h ⊢
      have ih := numV_ge l (by simpa using h)
      simp only [List.getD_cons_succ, List.take_succ_cons, numV]
      obtain ⟨i1, i2⟩ := ih
      have := toNat_lt' b
      rw [Nat.pow_succ, ← Nat.mul_assoc, ← Nat.mul_assoc]
      omega
theorem lead_last : ∀ s : List UInt8, lead s < s.length → (s.getD (lead s) 0).toNat < 128
  | [], h => by simp at h
  | b :: l, h => by
    by_cases hb : b.toNat < 128
    · have e : lead (b :: l) = 0 := by rw [lead, if_pos hb]
      rw [e]; simpa using hb
    · have e : lead (b :: l) = lead l + 1 := by rw [lead, if_neg hb]
      rw [e] at h ⊢
      simpa using lead_last l (by simpa using h)
theorem canon : ∀ s : List UInt8, lead s < s.length → (0 < lead s → (s.getD (lead s) 0).toNat ≠ 0) → numL (numV (s.take (lead s + 1))) = s.take (lead s + 1)
  | [], h, _ => by simp at h
  | b :: l, h, hz => by
    by_cases hb : b.toNat < 128
    · have e : lead (b :: l) = 0 := by rw [lead, if_pos hb]
      rw [e]
      simp only [List.take_succ_cons, List.take_zero, numV]
      rw [show b.toNat % 128 + 128 * 0 = b.toNat by omega, numL_small hb, ofNat_toNat']
    · have e : lead (b :: l) = lead l + 1 := by rw [lead, if_neg hb]
      rw [e] at h hz ⊢
      have hl : lead l < l.length := by simpa using h
      have hz' := hz (by omega)
      simp only [List.getD_cons_succ] at hz'
      have ih := canon l hl (fun _ => hz')
      have hv := (numV_ge l hl).1
      have hp : 0 < 128 ^ lead l := Nat.pow_pos (by omega)
      have h1 : 1 * 1 ≤ (l.getD (lead l) 0).toNat * 128 ^ lead l := Nat.mul_le_mul (by omega) hp
      simp only [List.take_succ_cons, numV]
      have := toNat_lt' b
      rw [numL_big (by omega), show (b.toNat % 128 + 128 * numV (l.take (lead l + 1))) / 128 = numV (l.take (lead l + 1)) by omega, ih, show (b.toNat % 128 + 128 * numV (l.take (lead l + 1))) % 128 + 128 = b.toNat by omega, ofNat_toNat']
theorem read_ok {s : List UInt8} {most n k : Nat} (h : readN s most = (n, k, 0)) : s = numL n ++ s.drop k ∧ k = (numL n).length ∧ n ≤ most ∧ n < 18446744073709551616 := by
  unfold readN at h
  split at h
  · simp at h
  split at h
  · simp at h
  split at h
  · simp at h
  split at h
  · simp at h
  split at h
  · simp at h
  rename_i h1 h2 h3 h4 h5
  simp only [Prod.mk.injEq, and_true] at h
  obtain ⟨rfl, rfl⟩ := h
  have c := canon s (by omega) (fun h => fun e => h4 ⟨h, e⟩)
  rw [c]
  refine ⟨by rw [List.take_append_drop], by simp; omega, by omega, ?_⟩
  have v := (numV_ge s (by omega)).2
  have l := lead_last s (by omega)
  by_cases h9 : lead s = 9
  · rw [h9] at v ⊢
    have : (s.getD 9 0).toNat ≤ 1 := by omega
    have : ((s.getD 9 0).toNat + 1) * 128 ^ 9 ≤ 2 * 128 ^ 9 := Nat.mul_le_mul_right _ (by omega)
    omega
  · have h8 : 128 ^ lead s ≤ 128 ^ 8 := Nat.pow_le_pow_right (by omega) (by omega)
    have : ((s.getD (lead s) 0).toNat + 1) * 128 ^ lead s ≤ 128 * 128 ^ 8 := Nat.mul_le_mul (by omega) h8
    omega
theorem read_err (s : List UInt8) (most : Nat) : (readN s most).2.2 = 0 ∨ readN s most = (0, 0, 7) ∨ readN s most = (0, 0, 8) := by
  unfold readN
  split
  · simp
  split
  · simp
  split
  · simp
  split
  · simp
  split
  · simp
  · simp
theorem read_le {s : List UInt8} {most n k e : Nat} (h : readN s most = (n, k, e)) : k ≤ s.length ∧ k ≤ 10 ∧ n ≤ most := by
  by_cases he : e = 0
  · subst he
    obtain ⟨h1, h2, h3, h4⟩ := read_ok h
    have h5 : s.length = (numL n).length + (s.length - k) := by have := congrArg List.length h1; rwa [List.length_append, List.length_drop] at this
    have := numL_length_le n h4
    omega
  · have := read_err s most
    rw [h] at this
    simp at this
    omega
end TL
end Go

/- Plain laws of layer 1's reader (pack.In): its state, and what each method does to it. No program in this text. No conditions but those each lemma names. -/
namespace Go
namespace TL
def maxU : Nat := 18446744073709551615
theorem maxU_eq : maxU = 18446744073709551615 := rfl
def textL (t : List UInt8) : List UInt8 := numL t.length ++ t
structure InS where
  rest : List UInt8
  read : Nat
  err : Nat
def InS.fit (x : InS) : Prop := x.read + x.rest.length ≤ 1000000000
def InS.take (x : InS) (k e : Nat) : InS := if e = 0 then ⟨x.rest.drop k, x.read + k, 0⟩ else ⟨x.rest, x.read, e⟩
def InS.most (x : InS) (m : Nat) : Nat × InS := if x.err = 0 then ((readN x.rest m).1, x.take (readN x.rest m).2.1 (readN x.rest m).2.2) else (0, x)
def InS.text (x : InS) (m : Nat) : List UInt8 × InS :=
  if x.err = 0 then
    if (readN x.rest m).2.2 = 0 then
      if (readN x.rest m).1 ≤ x.rest.length - (readN x.rest m).2.1 then ((x.rest.drop (readN x.rest m).2.1).take (readN x.rest m).1, x.take ((readN x.rest m).2.1 + (readN x.rest m).1) 0)
      else ([], x.take 0 7)
    else ([], x.take 0 (readN x.rest m).2.2)
  else ([], x)
def InS.byte (x : InS) : Nat × InS := if x.err = 0 then (match x.rest with | [] => (0, x.take 0 7) | b :: _ => (b.toNat, x.take 1 0)) else (0, x)
def InS.fin (x : InS) : Nat := if x.err = 0 then (if x.rest.length = 0 then 0 else 8) else x.err
theorem numL_len_le : ∀ (k n : Nat), 0 < k → n < 128 ^ k → (numL n).length ≤ k
  | 0, _, h, _ => by omega
  | k + 1, n, _, h => by
    by_cases hn : n < 128
    · rw [numL_small hn]; simp
    · rw [numL_big (by omega), List.length_cons]
      have hk : 0 < k := by
        rcases Nat.eq_zero_or_pos k with rfl | h0
        · simp at h; omega
        · exact h0
      have := numL_len_le k (n / 128) hk (by rw [Nat.pow_succ] at h; omega)
      omega
theorem size_canon (s : List UInt8) (h : lead s < s.length) : ((numL (numV (s.take (lead s + 1)))).length = lead s + 1) ↔ ¬ (0 < lead s ∧ (s.getD (lead s) 0).toNat = 0) := by
  constructor
  · rintro h1 ⟨h2, h3⟩
    have hv := (numV_ge s h).2
    rw [h3, Nat.zero_add, Nat.one_mul] at hv
    have := numL_len_le _ _ h2 hv
    omega
  · intro h1
    rw [canon s h fun h2 h3 => h1 ⟨h2, h3⟩]; simp; omega
theorem numV_lt64 {s : List UInt8} (h : lead s < s.length) (h9 : lead s ≤ 9) (ht : lead s = 9 → (s.getD 9 0).toNat ≤ 1) : numV (s.take (lead s + 1)) < 18446744073709551616 := by
  have v := (numV_ge s h).2
  have l := lead_last s h
  by_cases h9 : lead s = 9
  · rw [h9] at v ⊢
    have := ht h9
    have : ((s.getD 9 0).toNat + 1) * 128 ^ 9 ≤ 2 * 128 ^ 9 := Nat.mul_le_mul_right _ (by omega)
    omega
  · have h8 : 128 ^ lead s ≤ 128 ^ 8 := Nat.pow_le_pow_right (by omega) (by omega)
    have : ((s.getD (lead s) 0).toNat + 1) * 128 ^ lead s ≤ 128 * 128 ^ 8 := Nat.mul_le_mul (by omega) h8
    omega
theorem lead_ge : ∀ (s : List UInt8) (k : Nat), k < lead s → 128 ≤ (s.getD k 0).toNat
  | [], k, h => by simp [lead] at h
  | b :: l, k, h => by
    by_cases hb : b.toNat < 128
    · rw [lead, if_pos hb] at h; omega
    · rw [lead, if_neg hb] at h
      cases k with
      | zero => simpa using hb
      | succ k => simpa using lead_ge l k (by omega)
theorem readN_form (s : List UInt8) (h : 10 ≤ lead s) (m : Nat) : readN s m = (0, 0, 8) := by unfold readN; rw [if_pos h]
theorem readN_short (s : List UInt8) (h : lead s < 10) (h1 : s.length ≤ lead s) (m : Nat) : readN s m = (0, 0, 7) := by unfold readN; rw [if_neg (by omega), if_pos h1]
theorem readN_ten (s : List UInt8) (h : lead s = 9) (h1 : lead s < s.length) (h2 : 1 < (s.getD 9 0).toNat) (m : Nat) : readN s m = (0, 0, 8) := by
  unfold readN; rw [if_neg (by omega), if_neg (by omega), if_pos ⟨h, h2⟩]
theorem readN_zero (s : List UInt8) (h : lead s < 10) (h1 : lead s < s.length) (h2 : 0 < lead s) (h3 : (s.getD (lead s) 0).toNat = 0) (m : Nat) : readN s m = (0, 0, 8) := by
  unfold readN; rw [if_neg (by omega), if_neg (by omega)]
  split
  · rfl
  · rw [if_pos ⟨h2, h3⟩]
theorem readN_val (s : List UInt8) (h : lead s < 10) (h1 : lead s < s.length) (h9 : lead s = 9 → (s.getD 9 0).toNat ≤ 1) (h3 : ¬ (0 < lead s ∧ (s.getD (lead s) 0).toNat = 0)) (m : Nat) :
    readN s m = if m < numV (s.take (lead s + 1)) then (0, 0, 8) else (numV (s.take (lead s + 1)), lead s + 1, 0) := by
  unfold readN; rw [if_neg (by omega), if_neg (by omega), if_neg (by rintro ⟨a, b⟩; have := h9 a; omega), if_neg h3]
theorem readN_max (s : List UInt8) (m : Nat) : readN s m = if (readN s maxU).2.2 = 0 ∧ m < (readN s maxU).1 then (0, 0, 8) else readN s maxU := by
  rw [maxU_eq] at *
  by_cases a : 10 ≤ lead s
  · rw [readN_form s a, readN_form s a]; rfl
  by_cases b : s.length ≤ lead s
  · rw [readN_short s (by omega) b, readN_short s (by omega) b]; rfl
  by_cases c : lead s = 9 ∧ 1 < (s.getD 9 0).toNat
  · rw [readN_ten s c.1 (by omega) c.2, readN_ten s c.1 (by omega) c.2]; rfl
  by_cases d : 0 < lead s ∧ (s.getD (lead s) 0).toNat = 0
  · rw [readN_zero s (by omega) (by omega) d.1 d.2, readN_zero s (by omega) (by omega) d.1 d.2]; rfl
  have h9 : lead s = 9 → (s.getD 9 0).toNat ≤ 1 := fun e => by
    have : ¬ 1 < (s.getD 9 0).toNat := fun h => c ⟨e, h⟩
    omega
  have hv := numV_lt64 (s := s) (by omega) (by omega) h9
  rw [readN_val s (by omega) (by omega) h9 d, readN_val s (by omega) (by omega) h9 d, if_neg (by omega : ¬ 18446744073709551615 < numV (s.take (lead s + 1)))]
  simp
theorem numV_drop : ∀ (s : List UInt8) (i : Nat), i < s.length → numV (s.drop i) = (s.getD i 0).toNat % 128 + 128 * numV (s.drop (i + 1))
  | [], i, h => by simp at h
  | b :: l, 0, _ => by simp [numV]
  | b :: l, i + 1, h => by simpa using numV_drop l i (by simpa using h)
theorem numV_last : ∀ (n : Nat) (l : List UInt8), l.length = n + 1 → numV l < ((l.getD n 0).toNat % 128 + 1) * 128 ^ n
  | _, [], h => by simp at h
  | 0, [b], _ => by simp [numV]
  | 0, b :: c :: l, h => by simp at h
  | n + 1, b :: l, h => by
    have := numV_last n l (by simpa using h)
    rw [numV, List.getD_cons_succ, Nat.pow_succ, ← Nat.mul_assoc]; omega
theorem numV_drop_lt (s : List UInt8) (hl : lead s < s.length) (h9 : lead s ≤ 9) (ht : lead s = 9 → (s.getD 9 0).toNat ≤ 1) (j : Nat) (hj : 1 ≤ j) : numV ((s.take (lead s + 1)).drop j) < 144115188075855872 := by
  by_cases hjl : j ≤ lead s
  · have e : ((s.take (lead s + 1)).drop j).length = (lead s - j) + 1 := by simp; omega
    have h := numV_last _ _ e
    have g : ((s.take (lead s + 1)).drop j).getD (lead s - j) 0 = s.getD (lead s) 0 := by
      simp only [List.getD_eq_getElem?_getD, List.getElem?_drop, List.getElem?_take]
      rw [show j + (lead s - j) = lead s by omega, if_pos (by omega)]
    rw [g] at h
    by_cases e9 : lead s = 9
    · have h8 : 128 ^ (lead s - j) ≤ 128 ^ 8 := Nat.pow_le_pow_right (by omega) (by omega)
      have t := ht e9
      rw [← e9] at t
      have := Nat.mul_le_mul (show (s.getD (lead s) 0).toNat % 128 + 1 ≤ 2 by omega) h8
      omega
    · have h8 : 128 ^ (lead s - j) ≤ 128 ^ 7 := Nat.pow_le_pow_right (by omega) (by omega)
      have := Nat.mul_le_mul (show (s.getD (lead s) 0).toNat % 128 + 1 ≤ 128 by omega) h8
      omega
  · rw [List.drop_of_length_le (by simp; omega)]; simp [numV]
theorem readN_size (s : List UInt8) (h : lead s ≤ 9) (h1 : lead s < s.length) (h9 : lead s = 9 → (s.getD 9 0).toNat ≤ 1) :
    readN s maxU = if (numL (numV (s.take (lead s + 1)))).length = lead s + 1 then (numV (s.take (lead s + 1)), lead s + 1, 0) else (0, 0, 8) := by
  have hc := size_canon s h1
  have hv := numV_lt64 h1 h h9
  by_cases d : 0 < lead s ∧ (s.getD (lead s) 0).toNat = 0
  · rw [readN_zero s (by omega) h1 d.1 d.2, if_neg (fun e => hc.1 e d)]
  · rw [readN_val s (by omega) h1 h9 d, if_pos (hc.2 d), maxU_eq, if_neg (by omega)]
end TL
end Go

/- Plain laws of the reference's reader (layer 12's In), and that it does what pack.In does. No program in this text. No conditions but those each lemma names. -/
namespace Go
namespace TL
structure RS where
  rest : List UInt8
  err : Nat
def RS.num (x : RS) (m : Nat) : Nat × RS :=
  if x.err = 0 then ((readN x.rest m).1, if (readN x.rest m).2.2 = 0 then ⟨x.rest.drop (readN x.rest m).2.1, 0⟩ else ⟨x.rest, (readN x.rest m).2.2⟩) else (0, x)
def RS.text (x : RS) (m : Nat) : List UInt8 × RS :=
  if (x.num m).2.err = 0 then
    if (x.num m).1 ≤ (x.num m).2.rest.length then ((x.num m).2.rest.take (x.num m).1, ⟨(x.num m).2.rest.drop (x.num m).1, 0⟩) else ([], ⟨(x.num m).2.rest, 7⟩)
  else ([], (x.num m).2)
def Alike (x : InS) (y : RS) : Prop := x.err = y.err ∧ (x.err = 0 → x.rest = y.rest)
theorem Alike.most {x : InS} {y : RS} (h : Alike x y) (m : Nat) : (x.most m).1 = (y.num m).1 ∧ Alike (x.most m).2 (y.num m).2 := by
  obtain ⟨h1, h2⟩ := h
  unfold InS.most RS.num
  by_cases h0 : x.err = 0
  · rw [if_pos h0, if_pos (h1 ▸ h0), h2 h0]
    refine ⟨rfl, ?_⟩
    unfold InS.take
    by_cases e : (readN y.rest m).2.2 = 0
    · rw [if_pos e]; simp only [if_pos e]; exact ⟨rfl, fun _ => by rw [h2 h0]⟩
    · rw [if_neg e]; simp only [if_neg e]; exact ⟨rfl, fun h => absurd h e⟩
  · rw [if_neg h0, if_neg (h1 ▸ h0)]
    exact ⟨rfl, h1, fun h => absurd h h0⟩
theorem Alike.text {x : InS} {y : RS} (h : Alike x y) (m : Nat) : (x.text m).1 = (y.text m).1 ∧ Alike (x.text m).2 (y.text m).2 := by
  obtain ⟨h1, h2⟩ := h
  unfold InS.text RS.text RS.num
  by_cases h0 : x.err = 0
  · rw [if_pos h0]
    simp only [if_pos (h1 ▸ h0 : y.err = 0), h2 h0]
    unfold InS.take
    have hl := (read_le (s := y.rest) (most := m) rfl).1
    by_cases e : (readN y.rest m).2.2 = 0
    · simp only [if_pos e, if_true]
      rw [List.length_drop]
      by_cases g : (readN y.rest m).1 ≤ y.rest.length - (readN y.rest m).2.1
      · simp only [if_pos g]
        refine ⟨trivial, rfl, fun _ => ?_⟩
        simp only [List.drop_drop, h2 h0]
      · simp only [if_neg g]
        exact ⟨trivial, rfl, fun h => by simp at h⟩
    · simp only [if_neg e]
      exact ⟨trivial, rfl, fun h => absurd h e⟩
  · rw [if_neg h0]
    simp only [if_neg (h1 ▸ h0 : ¬ y.err = 0)]
    exact ⟨trivial, h1, fun h => absurd h h0⟩
end TL
end Go
