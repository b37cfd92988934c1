/- The walk of mac.pad: a key's block, each byte xored. Conditions: the key is shorter than 10^12 bytes. -/
import Derived.Test.YtolmejipggdodaaHash
namespace Go
namespace TL
open Go.RowKit
/-- The key, or its hash where it is longer than a block. -/
def keyL (key : List UInt8) : List UInt8 := if 64 < key.length then shaL key else key
def keyB (key : List UInt8) : List UInt8 := keyL key ++ List.replicate (64 - (keyL key).length) 0
def macPad (key : List UInt8) (x : UInt8) : List UInt8 := (keyB key).map (· ^^^ x)
theorem keyL_length (key : List UInt8) : (keyL key).length ≤ 64 := by
  unfold keyL; split
  · rw [shaL_length]; omega
  · omega
theorem keyB_length (key : List UInt8) : (keyB key).length = 64 := by
  have := keyL_length key
  simp [keyB]; omega
def padK (l : List UInt8) (x : UInt8) (k : Nat) : List UInt8 := (l.take k).map (· ^^^ x) ++ l.drop k
theorem padK_length (l : List UInt8) (x : UInt8) (k : Nat) : (padK l x k).length = l.length := by
  simp [padK]; omega
theorem padK_get (l : List UInt8) (x : UInt8) (k : Nat) (h : k < l.length) : (padK l x k)[k]? = some l[k] := by
  unfold padK
  rw [List.getElem?_append_right (by simp; omega)]
  simp [List.length_take, Nat.min_eq_left (Nat.le_of_lt h), h]
theorem padK_set (l : List UInt8) (x : UInt8) (k : Nat) (h : k < l.length) : (padK l x k).set k (l[k] ^^^ x) = padK l x (k + 1) := by
  unfold padK
  rw [List.set_append_right _ _ (by simp; omega)]
  simp only [List.length_map, List.length_take, Nat.min_eq_left (Nat.le_of_lt h), Nat.sub_self]
  rw [List.drop_eq_getElem_cons h, List.set_cons_zero, List.take_succ_eq_append_getElem h, List.map_append, List.append_assoc]
  rfl
theorem padK_all (key : List UInt8) (x : UInt8) : padK (keyB key) x 64 = macPad key x := by
  unfold padK macPad
  rw [← keyB_length key, List.take_length, List.drop_length, List.append_nil]
/-- While the block is made. -/
structure MI (w wr : World) (g : Nat) (l : List UInt8) : Prop where
  bel : Below w.heap.size w wr
  lo : w.heap.size ≤ g
  lt : g < wr.heap.size
  got : wr.rangeAt g 0 (l.map vb)
  out : wr.there g 0 64
theorem MI.set {w wr : World} {g : Nat} {l : List UInt8} (h : MI w wr g l) (k : Nat) (hk : k < l.length) (y : UInt8) : MI w (wr.setCell ⟨g, k, none⟩ (vb y)) g (l.set k y) := by
  refine ⟨h.bel.setCell h.lo _, h.lo, by simpa using h.lt, ?_, there_setCell h.out _ _⟩
  have := rangeAt_setCell_same h.got k (by simpa using hk) (vb y)
  rw [Nat.zero_add] at this
  rwa [List.map_set]
theorem MI.copied {w wr : World} {g : Nat} (hb : Below w.heap.size w wr) (lo : w.heap.size ≤ g) (lt : g < wr.heap.size) (hr : wr.rangeAt g 0 (List.replicate 64 (Value.int .u8 0))) (ht : wr.there g 0 64) (K : List UInt8) (hK : K.length ≤ 64) :
    MI w (wr.setCells g 0 (K.map vb)) g (K ++ List.replicate (64 - K.length) 0) := by
  refine ⟨below_setCells lo _ _ _ hb, lo, by rw [size_setCells]; exact lt, ?_, World.there_setCells ht _ _ _⟩
  rw [List.map_append]
  refine rangeAt_append (World.rangeAt_setCells_same _ _ _ _ (there_mono ht (by simpa using hK))) ?_
  rw [Nat.zero_add, List.length_map]
  refine World.rangeAt_setCells_apart ?_ _ _ _ (.inr (.inr (by simp)))
  have := rangeAt_drop hr K.length
  rw [Nat.zero_add, List.drop_replicate] at this
  simpa [vb, I8_eq] using this
theorem MI.sees {w wr : World} {g : Nat} {l : List UInt8} (h : MI w wr g l) (hl : l.length = 64) : SeesB wr (.slice (some ⟨g, 0, none⟩) 64 64) l := by
  refine ⟨by simp, .inr ⟨g, 0, 64, by rw [hl], h.lt, by omega, by simp [maxLen], h.got⟩⟩
end TL
end Go
namespace Go.Proofs.Ytolmejipggdodaa
open Go.RowKit Go.TL
set_option maxHeartbeats 2000000 in
theorem pad_any (key : ByteArray) (x : UInt8) (w : World) (hs : key.size ≤ 1000000000000) :
    Calls Try.prog 31 #[.string key, .int .u8 (I8 x)] w fun e w' => e = .returned (.string ⟨(macPad (bytesOf key) x).toArray⟩) ∧ Below w.heap.size w w' := by
  by_cases hk : 64 < key.size
  · have EK : Hid (bytesOf ⟨(shaL (bytesOf key)).toArray⟩ = keyL (bytesOf key)) := Lib.hid (by rw [keyL, if_pos (by rw [bytesOf_length]; exact hk)]; rfl)
    have HK : Hid (ByteArray.size ⟨(shaL (bytesOf key)).toArray⟩ ≤ 64) := Lib.hid (by show (shaL (bytesOf key)).toArray.size ≤ 64; simp [shaL_length])
    go_enter Try.func31, Try.ntmps31
    go_wp2_with (first | (go_at_call 16; go_must (refine (shaSum_any key w hs).mono ?_; rintro e w1 ⟨rfl, hb1⟩; have Hb1 := Lib.hid hb1; clear hb1)) | ((with_reducible show wpList _ _ _ (Oper.mk _ (Op.alloc 23) _ _ _ _ :: _) _ _); go_must (refine wpList_newRow rfl _ rfl (Array.replicate 32 (.int .u8 0)) (by kernel_rfl) ?_; intro w2 hb2 hs2 hr2 ht2; have Hb2 := Lib.hid hb2; clear hb2 hr2; have Hs2 := Lib.hid hs2; clear hs2; have Ht2 := Lib.hid ht2; clear ht2)) | ((with_reducible show wpList _ _ _ (Oper.mk none (Op.store 23 _ _) _ _ _ _ :: _) _ _); go_must (refine wpList_putRow rfl 23 _ _ rfl w1.heap.size 0 ((shaL (bytesOf key)).map vb) rfl rfl (by exact Ht2.out) (by kernel_rfl) (vb_one _) ?_; have hrs2 : (convert 31 9 (.slice (some ⟨w1.heap.size, 0, none⟩) 32 32)).run Try.prog (w2.setCells w1.heap.size 0 ((shaL (bytesOf key)).map vb)) = .ok (.string ⟨(shaL (bytesOf key)).toArray⟩) (w2.setCells w1.heap.size 0 ((shaL (bytesOf key)).map vb)) := SeesB.run_string (l := shaL (bytesOf key)) ⟨by simp, .inr ⟨w1.heap.size, 0, 32, by rw [shaL_length], by rw [size_setCells]; have := Hs2.out; omega, by simp [shaL_length], by simp [maxLen], World.rangeAt_setCells_same _ _ _ _ (by exact Ht2.out)⟩⟩ 31 9 5 Try.underlying31 Try.underlying5 Try.underlying9 _ (grownBy_refl _ _); obtain ⟨wS, eS⟩ : ∃ wS, wS = w2.setCells w1.heap.size 0 ((shaL (bytesOf key)).map vb) := ⟨_, rfl⟩; have HbS : Hid (Below w.heap.size w wS) := Lib.hid (by rw [eS]; exact below_setCells Hb1.out.size _ _ _ (Hb1.out.trans (Hb2.out.mono Hb1.out.size))); rw [← eS] at hrs2; rw [← eS]; clear eS)) | ((with_reducible show wpList _ _ _ (Oper.mk _ (Op.alloc 79) _ _ _ _ :: _) _ _); go_must (refine wpList_newRow rfl _ rfl (Array.replicate 64 (.int .u8 0)) (by kernel_rfl) ?_; intro w3 hb3 hs3 hr3 ht3; have Hb3 := Lib.hid hb3; clear hb3; have Hs3 := Lib.hid hs3; clear hs3; have Hr3 := Lib.hid hr3; clear hr3; have Ht3 := Lib.hid ht3; clear ht3)) | ((with_reducible show wpList _ _ _ (Oper.mk _ (Op.call ⟨Callee.builtin Builtin.copy, _, _⟩) _ _ _ _ :: _) _ _); go_must (refine wpList_copy bytesT rfl _ _ 9 rfl wS.heap.size 0 64 64 rfl (.string (ByteArray.mk (shaL (bytesOf key)).toArray)) (ByteArray.mk (shaL (bytesOf key)).toArray).size _ rfl (Src_string _ _) (ByteArray.mk (shaL (bytesOf key)).toArray).size (by exact (Nat.min_eq_left HK.out).symm) (by rw [Nat.mul_one]; exact there_mono (by simpa using Ht3.out) HK.out) ?_)))
    have BW : Hid (Below w.heap.size w w3) := Lib.hid (HbS.out.trans (Hb3.out.mono HbS.out.size))
    have LO : Hid (w.heap.size ≤ wS.heap.size) := Lib.hid HbS.out.size
    have M0 : Hid (MI w (w3.setCells wS.heap.size 0 ((((ByteArray.mk (shaL (bytesOf key)).toArray)).data.toList.map vb).take (((ByteArray.mk (shaL (bytesOf key)).toArray)).size * 1))) wS.heap.size (padK (keyB (bytesOf key)) x 0)) := Lib.hid (by
      have := MI.copied BW.out (LO.out) (by have := Hs3.out; omega) (by simpa using Hr3.out) (by simpa using Ht3.out) (bytesOf (ByteArray.mk (shaL (bytesOf key)).toArray)) (by rw [bytesOf_length]; exact HK.out)
      rw [show padK (keyB (bytesOf key)) x 0 = keyB (bytesOf key) from rfl, keyB, ← EK.out, show (((ByteArray.mk (shaL (bytesOf key)).toArray)).data.toList.map vb).take (((ByteArray.mk (shaL (bytesOf key)).toArray)).size * 1) = (bytesOf (ByteArray.mk (shaL (bytesOf key)).toArray)).map vb from by rw [Nat.mul_one, ← bytesOf_length, ← List.length_map (f := vb)]; exact List.take_length]
      exact this)
    clear Hb3 Hs3 Hr3 Ht3
    go_simp
    go_loopw [18] (fun iv wr => ∃ k : Nat, k ≤ 64 ∧ iv = .int .i64 k ∧ MI w wr wS.heap.size (padK (keyB (bytesOf key)) x k)) (fun iv _ => 64 - (intOf iv).toNat)
    case atStart => exact ⟨0, by omega, rfl, by first | exact M0.out | (have := M0.out; rw [Nat.mul_one] at this; exact this)⟩
    case round =>
      clear M0
      obtain ⟨k, hk64, rfl, M⟩ := hrel
      have M' := Lib.hid M; clear M
      by_cases hlt : k < 64
      · have hkl : k < (keyB (bytesOf key)).length := by rw [keyB_length]; exact hlt
        obtain ⟨y, hy⟩ : ∃ y, y = (keyB (bytesOf key))[k] := ⟨_, rfl⟩
        have c1 : wr.cell? ⟨wS.heap.size, k, none⟩ = some (.int .u8 (I8 y)) := by
          have := M'.out.got k (vb y) (by rw [List.getElem?_map, padK_get _ _ _ hkl, hy]; rfl)
          rwa [Nat.zero_add] at this
        have c2 : wr.frozen? ⟨wS.heap.size, k, none⟩ = false := by
          have := (M'.out.out k hlt).2
          rwa [Nat.zero_add] at this
        have M1 := Lib.hid (M'.out.set k (by rw [padK_length]; exact hkl) (y ^^^ x))
        rw [hy, padK_set _ _ _ hkl, ← hy] at M1
        clear hy hkl
        go_wp2_with fail
        go_roundw
        case rel => exact ⟨k + 1, by omega, by go_num, M1.out⟩
        case measure => simp [intOf]; omega
      · have hk' : k = 64 := by omega
        subst hk'
        have hrs := SeesB.run_string (M'.out.sees (by rw [padK_length, keyB_length])) 31 9 5 Try.underlying31 Try.underlying5 Try.underlying9 _ (grownBy_refl _ _)
        rw [padK_all] at hrs
        go_wp2_with fail
        go_ret
        exact ⟨rfl, M'.out.bel⟩
  · have EK : Hid (bytesOf key = keyL (bytesOf key)) := Lib.hid (by rw [keyL, if_neg (by rw [bytesOf_length]; exact hk)])
    have HK : Hid (key.size ≤ 64) := Lib.hid (by omega)
    go_enter Try.func31, Try.ntmps31
    go_wp2_with (first | ((with_reducible show wpList _ _ _ (Oper.mk _ (Op.alloc 79) _ _ _ _ :: _) _ _); go_must (refine wpList_newRow rfl _ rfl (Array.replicate 64 (.int .u8 0)) (by kernel_rfl) ?_; intro w3 hb3 hs3 hr3 ht3; have Hb3 := Lib.hid hb3; clear hb3; have Hs3 := Lib.hid hs3; clear hs3; have Hr3 := Lib.hid hr3; clear hr3; have Ht3 := Lib.hid ht3; clear ht3)) | ((with_reducible show wpList _ _ _ (Oper.mk _ (Op.call ⟨Callee.builtin Builtin.copy, _, _⟩) _ _ _ _ :: _) _ _); go_must (refine wpList_copy bytesT rfl _ _ 9 rfl w.heap.size 0 64 64 rfl (.string (key)) (key).size _ rfl (Src_string _ _) (key).size (by exact (Nat.min_eq_left HK.out).symm) (by rw [Nat.mul_one]; exact there_mono (by simpa using Ht3.out) HK.out) ?_)))
    have BW : Hid (Below w.heap.size w w3) := Lib.hid Hb3.out
    have LO : Hid (w.heap.size ≤ w.heap.size) := Lib.hid (Nat.le_refl _)
    have M0 : Hid (MI w (w3.setCells w.heap.size 0 (((key).data.toList.map vb).take ((key).size * 1))) w.heap.size (padK (keyB (bytesOf key)) x 0)) := Lib.hid (by
      have := MI.copied BW.out (LO.out) (by have := Hs3.out; omega) (by simpa using Hr3.out) (by simpa using Ht3.out) (bytesOf key) (by rw [bytesOf_length]; exact HK.out)
      rw [show padK (keyB (bytesOf key)) x 0 = keyB (bytesOf key) from rfl, keyB, ← EK.out, show ((key).data.toList.map vb).take ((key).size * 1) = (bytesOf key).map vb from by rw [Nat.mul_one, ← bytesOf_length, ← List.length_map (f := vb)]; exact List.take_length]
      exact this)
    clear Hb3 Hs3 Hr3 Ht3
    go_simp
    go_loopw [18] (fun iv wr => ∃ k : Nat, k ≤ 64 ∧ iv = .int .i64 k ∧ MI w wr w.heap.size (padK (keyB (bytesOf key)) x k)) (fun iv _ => 64 - (intOf iv).toNat)
    case atStart => exact ⟨0, by omega, rfl, by first | exact M0.out | (have := M0.out; rw [Nat.mul_one] at this; exact this)⟩
    case round =>
      clear M0
      obtain ⟨k, hk64, rfl, M⟩ := hrel
      have M' := Lib.hid M; clear M
      by_cases hlt : k < 64
      · have hkl : k < (keyB (bytesOf key)).length := by rw [keyB_length]; exact hlt
        obtain ⟨y, hy⟩ : ∃ y, y = (keyB (bytesOf key))[k] := ⟨_, rfl⟩
        have c1 : wr.cell? ⟨w.heap.size, k, none⟩ = some (.int .u8 (I8 y)) := by
          have := M'.out.got k (vb y) (by rw [List.getElem?_map, padK_get _ _ _ hkl, hy]; rfl)
          rwa [Nat.zero_add] at this
        have c2 : wr.frozen? ⟨w.heap.size, k, none⟩ = false := by
          have := (M'.out.out k hlt).2
          rwa [Nat.zero_add] at this
        have M1 := Lib.hid (M'.out.set k (by rw [padK_length]; exact hkl) (y ^^^ x))
        rw [hy, padK_set _ _ _ hkl, ← hy] at M1
        clear hy hkl
        go_wp2_with fail
        go_roundw
        case rel => exact ⟨k + 1, by omega, by go_num, M1.out⟩
        case measure => simp [intOf]; omega
      · have hk' : k = 64 := by omega
        subst hk'
        have hrs := SeesB.run_string (M'.out.sees (by rw [padK_length, keyB_length])) 31 9 5 Try.underlying31 Try.underlying5 Try.underlying9 _ (grownBy_refl _ _)
        rw [padK_all] at hrs
        go_wp2_with fail
        go_ret
        exact ⟨rfl, M'.out.bel⟩
end Go.Proofs.Ytolmejipggdodaa
