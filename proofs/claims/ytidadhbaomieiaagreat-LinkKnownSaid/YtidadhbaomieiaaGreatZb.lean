/- Texts of this seat, put together: Hash, Pad, Low, Tag, Equal, Heap, Str, HashE, ShaO, MacC, Once, Grp, MapP, Reg, Row, Gives, RowF, Mark. Each begins with a remark that says what is proved in it, and under which conditions. -/
import Derived.Deep.MidRow
import Derived.Great.BuildSlice
import Derived.Lib.ConvBytes
import Derived.Defers
import Derived.Laws.LoneSync
import Derived.RegionCalls
import Derived.ChangeAlike
import Derived.Lib.SlBytesConst
import Derived.Test.YtidadhbaomieiaaGreatZa
/- The walks of sha.Sum, hexOf and Digits: a text's hash, its digits. Conditions: the text is shorter than 10^12 bytes. -/
namespace Go
namespace TL
open Go.RowKit
def bytesOf (s : ByteArray) : List UInt8 := s.data.toList
/-- The hash of a text of n bytes. -/
def shaL (l : List UInt8) : List UInt8 := sumS (absorb (l.length / 64) H0 l) (l.drop (64 * (l.length / 64))) l.length
theorem shaL_length (l : List UInt8) : (shaL l).length = 32 := rfl
def hexTab : ByteArray := ⟨#[48, 49, 50, 51, 52, 53, 54, 55, 56, 57, 97, 98, 99, 100, 101, 102]⟩
/-- The digit of a number below 16. -/
def hexD (x : UInt8) : UInt8 := (hexTab[x.toNat]?).getD 0
@[go_sem high] theorem fold_hexTab : (⟨#[48, 49, 50, 51, 52, 53, 54, 55, 56, 57, 97, 98, 99, 100, 101, 102]⟩ : ByteArray) = hexTab := rfl
@[go_sem high] theorem run_index_hexTab {P : Program} (w : World) (t : TypeId) (k : IntKind) (x : UInt8) (h : P.underlying t = some .string) (h1 : I8 x ≤ 15) :
    (Instr.index t (.string hexTab) (.int k (I8 x))).run P w = .ok (.int .u8 (I8 (hexD x))) w := by
  rw [I8_eq] at h1 ⊢
  have hs : hexTab.size = 16 := rfl
  have hi : 0 ≤ (x.toNat : Int) ∧ (x.toNat : Int) < (hexTab.size : Int) := by rw [hs]; omega
  rw [run_index_string w t hexTab k _ h, dif_pos hi]
  have h2 : x.toNat < hexTab.size := by rw [hs]; omega
  simp [hexD, ByteArray.getElem?_lt' _ _ h2, I8_eq]
theorem shr4_le (x : UInt8) : I8 (x >>> 4) ≤ 15 := by
  rw [I8_eq]; have := UInt8.toNat_lt x; rw [UInt8.toNat_shiftRight]; simp [Nat.shiftRight_eq_div_pow]; omega
theorem and15_le (x : UInt8) : I8 (x &&& 15) ≤ 15 := by
  rw [I8_eq]; rw [UInt8.toNat_and]; exact Int.ofNat_le.2 (Nat.and_le_right)
def hexB (l : List UInt8) : List UInt8 := l.flatMap fun (b : UInt8) => [hexD (b >>> 4), hexD (b &&& 15)]
theorem hexB_length (l : List UInt8) : (hexB l).length = 2 * l.length := by
  induction l with
  | nil => rfl
  | cons a l ih => simp only [hexB, List.flatMap_cons, List.length_append] at ih ⊢; rw [ih]; simp; omega
theorem hexB_snoc (l : List UInt8) (b : UInt8) : hexB (l ++ [b]) = hexB l ++ [hexD (b >>> 4), hexD (b &&& 15)] := by simp [hexB]
theorem bytesOf_length (s : ByteArray) : (bytesOf s).length = s.size := by simp [bytesOf]
end TL
end Go
namespace Go.Proofs.YtidadhbaomieiaaGreat
open Go.RowKit Go.TL
set_option maxHeartbeats 1000000 in
theorem shaSum_any (s : ByteArray) (w : World) (hs : s.size ≤ 1000000000000) :
    Calls Tryz.prog 87 #[.string s] w fun e w' => e = .returned (.agg ((shaL (bytesOf s)).map vb).toArray) ∧ Below w.heap.size w w' := by
  go_enter Tryz.func87, Tryz.ntmps87
  go_wp2_with (first | ((with_reducible show wpList _ _ _ (Oper.mk _ (Op.alloc 64) _ _ _ _ :: _) _ _); go_must (refine wpList_newRow rfl _ rfl (Array.replicate 32 (.int .u8 0)) (by kernel_rfl) ?_; intro w0 hb0 hs0 hr0 ht0; have Hb0 := Lib.hid hb0; clear hb0 hr0; have Hs0 := Lib.hid hs0; clear hs0; have Ht0 := Lib.hid ht0; clear ht0)) | (go_at_call 116; go_must (refine (New_any w0).mono ?_; rintro e w1 ⟨b, rfl, S1, hb1⟩; have S1' := Lib.hid S1; have hb1' := Lib.hid hb1; clear S1 hb1)) | (go_at_call 117; go_must (refine (Write_any w0.heap.size b s w1 hs hb1'.out.size S1'.out).mono ?_; rintro e w2 ⟨rfl, ⟨rv, S2⟩, hb2⟩; have S2' := Lib.hid S2; have hb2' := Lib.hid hb2; clear S2 hb2)) | (go_at_call 118; go_must (refine (Sum_any w0.heap.size b _ rv _ _ w2 S2'.out (by rw [List.length_drop]; have := bytesOf_length s; unfold bytesOf at this; omega)).mono ?_; rintro e w3 ⟨rfl, hb3⟩; have hb3' := Lib.hid hb3; have Ht3 : Hid (w3.there w.heap.size 0 32) := Lib.hid (by have e := (hb1'.out.trans (hb2'.out.trans (hb3'.out.mono (Nat.le_trans hb1'.out.size hb2'.out.size)))).block w.heap.size (by have := Hs0.out; omega); exact there_of_block (by simpa using Ht0.out) e); clear hb3)) | ((with_reducible show wpList _ _ _ (Oper.mk none (Op.store 64 _ _) _ _ _ _ :: _) _ _); go_must (refine wpList_putRow rfl 64 _ _ rfl w.heap.size 0 ((sumS (absorb (s.size / 64) H0 s.data.toList) (List.drop (64 * (s.size / 64)) s.data.toList) s.size).map vb) rfl rfl (by exact Ht3.out) (by kernel_rfl) (vb_one _) ?_)))
  refine bodyPost_ret (results_row rfl _ _ w.heap.size 0 ((shaL (bytesOf s)).map vb) _ rfl ?_ Tryz.underlying64 rfl (by kernel_rfl)) rfl ⟨rfl, ?_⟩
  · rw [shaL, bytesOf_length]; exact World.rangeAt_setCells_same _ _ _ _ Ht3.out
  · have hb := Hb0.out.trans ((hb1'.out.trans hb2'.out).mono (Nat.le_of_lt (by have := Hs0.out; omega)))
    exact below_setCells (Nat.le_refl _) _ _ _ (hb.trans (hb3'.out.mono hb.size))
end Go.Proofs.YtidadhbaomieiaaGreat

/- The walk of mac.pad: a key's block, each byte xored. Conditions: the key is shorter than 10^12 bytes. -/
namespace Go
namespace TL
open Go.RowKit
/-- The key, or its hash where it is longer than a block. -/
def keyL (key : List UInt8) : List UInt8 := if 64 < key.length then shaL key else key
def keyB (key : List UInt8) : List UInt8 := keyL key ++ List.replicate (64 - (keyL key).length) 0
def macPad (key : List UInt8) (x : UInt8) : List UInt8 := (keyB key).map (· ^^^ x)
theorem keyL_length (key : List UInt8) : (keyL key).length ≤ 64 := by
  unfold keyL; split
  · rw [shaL_length]; omega
  · omega
theorem keyB_length (key : List UInt8) : (keyB key).length = 64 := by
  have := keyL_length key
  simp [keyB]; omega
def padK (l : List UInt8) (x : UInt8) (k : Nat) : List UInt8 := (l.take k).map (· ^^^ x) ++ l.drop k
theorem padK_length (l : List UInt8) (x : UInt8) (k : Nat) : (padK l x k).length = l.length := by
  simp [padK]; omega
theorem padK_get (l : List UInt8) (x : UInt8) (k : Nat) (h : k < l.length) : (padK l x k)[k]? = some l[k] := by
  unfold padK
  rw [List.getElem?_append_right (by simp; omega)]
  simp [List.length_take, Nat.min_eq_left (Nat.le_of_lt h), h]
theorem padK_set (l : List UInt8) (x : UInt8) (k : Nat) (h : k < l.length) : (padK l x k).set k (l[k] ^^^ x) = padK l x (k + 1) := by
  unfold padK
  rw [List.set_append_right _ _ (by simp; omega)]
  simp only [List.length_map, List.length_take, Nat.min_eq_left (Nat.le_of_lt h), Nat.sub_self]
  rw [List.drop_eq_getElem_cons h, List.set_cons_zero, List.take_succ_eq_append_getElem h, List.map_append, List.append_assoc]
  rfl
theorem padK_all (key : List UInt8) (x : UInt8) : padK (keyB key) x 64 = macPad key x := by
  unfold padK macPad
  rw [← keyB_length key, List.take_length, List.drop_length, List.append_nil]
/-- While the block is made. -/
structure MI (w wr : World) (g : Nat) (l : List UInt8) : Prop where
  bel : Below w.heap.size w wr
  lo : w.heap.size ≤ g
  lt : g < wr.heap.size
  got : wr.rangeAt g 0 (l.map vb)
  out : wr.there g 0 64
theorem MI.set {w wr : World} {g : Nat} {l : List UInt8} (h : MI w wr g l) (k : Nat) (hk : k < l.length) (y : UInt8) : MI w (wr.setCell ⟨g, k, none⟩ (vb y)) g (l.set k y) := by
  refine ⟨h.bel.setCell h.lo _, h.lo, by simpa using h.lt, ?_, there_setCell h.out _ _⟩
  have := rangeAt_setCell_same h.got k (by simpa using hk) (vb y)
  rw [Nat.zero_add] at this
  rwa [List.map_set]
theorem MI.copied {w wr : World} {g : Nat} (hb : Below w.heap.size w wr) (lo : w.heap.size ≤ g) (lt : g < wr.heap.size) (hr : wr.rangeAt g 0 (List.replicate 64 (Value.int .u8 0))) (ht : wr.there g 0 64) (K : List UInt8) (hK : K.length ≤ 64) :
    MI w (wr.setCells g 0 (K.map vb)) g (K ++ List.replicate (64 - K.length) 0) := by
  refine ⟨below_setCells lo _ _ _ hb, lo, by rw [size_setCells]; exact lt, ?_, World.there_setCells ht _ _ _⟩
  rw [List.map_append]
  refine rangeAt_append (World.rangeAt_setCells_same _ _ _ _ (there_mono ht (by simpa using hK))) ?_
  rw [Nat.zero_add, List.length_map]
  refine World.rangeAt_setCells_apart ?_ _ _ _ (.inr (.inr (by simp)))
  have := rangeAt_drop hr K.length
  rw [Nat.zero_add, List.drop_replicate] at this
  simpa [vb, I8_eq] using this
theorem MI.sees {w wr : World} {g : Nat} {l : List UInt8} (h : MI w wr g l) (hl : l.length = 64) : SeesB wr (.slice (some ⟨g, 0, none⟩) 64 64) l := by
  refine ⟨by simp, .inr ⟨g, 0, 64, by rw [hl], h.lt, by omega, by simp [maxLen], h.got⟩⟩
end TL
end Go
namespace Go.Proofs.YtidadhbaomieiaaGreat
open Go.RowKit Go.TL
set_option maxRecDepth 100000 in
set_option maxHeartbeats 2000000 in
theorem pad_any (key : ByteArray) (x : UInt8) (w : World) (hs : key.size ≤ 1000000000000) :
    Calls Tryz.prog 88 #[.string key, .int .u8 (I8 x)] w fun e w' => e = .returned (.string ⟨(macPad (bytesOf key) x).toArray⟩) ∧ Below w.heap.size w w' := by
  by_cases hk : 64 < key.size
  · have EK : Hid (bytesOf ⟨(shaL (bytesOf key)).toArray⟩ = keyL (bytesOf key)) := Lib.hid (by rw [keyL, if_pos (by rw [bytesOf_length]; exact hk)]; rfl)
    have HK : Hid (ByteArray.size ⟨(shaL (bytesOf key)).toArray⟩ ≤ 64) := Lib.hid (by show (shaL (bytesOf key)).toArray.size ≤ 64; simp [shaL_length])
    go_enter Tryz.func88, Tryz.ntmps88
    go_wp2_with (first | (go_at_call 87; go_must (refine (shaSum_any key w hs).mono ?_; rintro e w1 ⟨rfl, hb1⟩; have Hb1 := Lib.hid hb1; clear hb1)) | ((with_reducible show wpList _ _ _ (Oper.mk _ (Op.alloc 64) _ _ _ _ :: _) _ _); go_must (refine wpList_newRow rfl _ rfl (Array.replicate 32 (.int .u8 0)) (by kernel_rfl) ?_; intro w2 hb2 hs2 hr2 ht2; have Hb2 := Lib.hid hb2; clear hb2 hr2; have Hs2 := Lib.hid hs2; clear hs2; have Ht2 := Lib.hid ht2; clear ht2)) | ((with_reducible show wpList _ _ _ (Oper.mk none (Op.store 64 _ _) _ _ _ _ :: _) _ _); go_must (refine wpList_putRow rfl 64 _ _ rfl w1.heap.size 0 ((shaL (bytesOf key)).map vb) rfl rfl (by exact Ht2.out) (by kernel_rfl) (vb_one _) ?_; have hrs2 : (convert 70 9 (.slice (some ⟨w1.heap.size, 0, none⟩) 32 32)).run Tryz.prog (w2.setCells w1.heap.size 0 ((shaL (bytesOf key)).map vb)) = .ok (.string ⟨(shaL (bytesOf key)).toArray⟩) (w2.setCells w1.heap.size 0 ((shaL (bytesOf key)).map vb)) := SeesB.run_string (l := shaL (bytesOf key)) ⟨by simp, .inr ⟨w1.heap.size, 0, 32, by rw [shaL_length], by rw [size_setCells]; have := Hs2.out; omega, by simp [shaL_length], by simp [maxLen], World.rangeAt_setCells_same _ _ _ _ (by exact Ht2.out)⟩⟩ 70 9 5 Tryz.underlying70 Tryz.underlying5 Tryz.underlying9 _ (grownBy_refl _ _); obtain ⟨wS, eS⟩ : ∃ wS, wS = w2.setCells w1.heap.size 0 ((shaL (bytesOf key)).map vb) := ⟨_, rfl⟩; have HbS : Hid (Below w.heap.size w wS) := Lib.hid (by rw [eS]; exact below_setCells Hb1.out.size _ _ _ (Hb1.out.trans (Hb2.out.mono Hb1.out.size))); rw [← eS] at hrs2; rw [← eS]; clear eS)) | ((with_reducible show wpList _ _ _ (Oper.mk _ (Op.alloc 209) _ _ _ _ :: _) _ _); go_must (refine wpList_newRow rfl _ rfl (Array.replicate 64 (.int .u8 0)) (by kernel_rfl) ?_; intro w3 hb3 hs3 hr3 ht3; have Hb3 := Lib.hid hb3; clear hb3; have Hs3 := Lib.hid hs3; clear hs3; have Hr3 := Lib.hid hr3; clear hr3; have Ht3 := Lib.hid ht3; clear ht3)) | ((with_reducible show wpList _ _ _ (Oper.mk _ (Op.call ⟨Callee.builtin Builtin.copy, _, _⟩) _ _ _ _ :: _) _ _); go_must (refine wpList_copy bytesT rfl _ _ 9 rfl wS.heap.size 0 64 64 rfl (.string (ByteArray.mk (shaL (bytesOf key)).toArray)) (ByteArray.mk (shaL (bytesOf key)).toArray).size _ rfl (Src_string _ _) (ByteArray.mk (shaL (bytesOf key)).toArray).size (by exact (Nat.min_eq_left HK.out).symm) (by rw [Nat.mul_one]; exact there_mono (by simpa using Ht3.out) HK.out) ?_)))
    have BW : Hid (Below w.heap.size w w3) := Lib.hid (HbS.out.trans (Hb3.out.mono HbS.out.size))
    have LO : Hid (w.heap.size ≤ wS.heap.size) := Lib.hid HbS.out.size
    have M0 : Hid (MI w (w3.setCells wS.heap.size 0 ((((ByteArray.mk (shaL (bytesOf key)).toArray)).data.toList.map vb).take (((ByteArray.mk (shaL (bytesOf key)).toArray)).size * 1))) wS.heap.size (padK (keyB (bytesOf key)) x 0)) := Lib.hid (by
      have := MI.copied BW.out (LO.out) (by have := Hs3.out; omega) (by simpa using Hr3.out) (by simpa using Ht3.out) (bytesOf (ByteArray.mk (shaL (bytesOf key)).toArray)) (by rw [bytesOf_length]; exact HK.out)
      rw [show padK (keyB (bytesOf key)) x 0 = keyB (bytesOf key) from rfl, keyB, ← EK.out, show (((ByteArray.mk (shaL (bytesOf key)).toArray)).data.toList.map vb).take (((ByteArray.mk (shaL (bytesOf key)).toArray)).size * 1) = (bytesOf (ByteArray.mk (shaL (bytesOf key)).toArray)).map vb from by rw [Nat.mul_one, ← bytesOf_length, ← List.length_map (f := vb)]; exact List.take_length]
      exact this)
    clear Hb3 Hs3 Hr3 Ht3
    go_simp
    go_loopw [18] (fun iv wr => ∃ k : Nat, k ≤ 64 ∧ iv = .int .i64 k ∧ MI w wr wS.heap.size (padK (keyB (bytesOf key)) x k)) (fun iv _ => 64 - (intOf iv).toNat)
    case atStart => exact ⟨0, by omega, rfl, by first | exact M0.out | (have := M0.out; rw [Nat.mul_one] at this; exact this)⟩
    case round =>
      clear M0
      obtain ⟨k, hk64, rfl, M⟩ := hrel
      have M' := Lib.hid M; clear M
      by_cases hlt : k < 64
      · have hkl : k < (keyB (bytesOf key)).length := by rw [keyB_length]; exact hlt
        obtain ⟨y, hy⟩ : ∃ y, y = (keyB (bytesOf key))[k] := ⟨_, rfl⟩
        have c1 : wr.cell? ⟨wS.heap.size, k, none⟩ = some (.int .u8 (I8 y)) := by
          have := M'.out.got k (vb y) (by rw [List.getElem?_map, padK_get _ _ _ hkl, hy]; rfl)
          rwa [Nat.zero_add] at this
        have c2 : wr.frozen? ⟨wS.heap.size, k, none⟩ = false := by
          have := (M'.out.out k hlt).2
          rwa [Nat.zero_add] at this
        have M1 := Lib.hid (M'.out.set k (by rw [padK_length]; exact hkl) (y ^^^ x))
        rw [hy, padK_set _ _ _ hkl, ← hy] at M1
        clear hy hkl
        go_wp2_with fail
        go_roundw
        case rel => exact ⟨k + 1, by omega, by go_num, M1.out⟩
        case measure => simp [intOf]; omega
      · have hk' : k = 64 := by omega
        subst hk'
        have hrs := SeesB.run_string (M'.out.sees (by rw [padK_length, keyB_length])) 70 9 5 Tryz.underlying70 Tryz.underlying5 Tryz.underlying9 _ (grownBy_refl _ _)
        rw [padK_all] at hrs
        go_wp2_with fail
        go_ret
        exact ⟨rfl, M'.out.bel⟩
  · have EK : Hid (bytesOf key = keyL (bytesOf key)) := Lib.hid (by rw [keyL, if_neg (by rw [bytesOf_length]; exact hk)])
    have HK : Hid (key.size ≤ 64) := Lib.hid (by omega)
    go_enter Tryz.func88, Tryz.ntmps88
    go_wp2_with (first | ((with_reducible show wpList _ _ _ (Oper.mk _ (Op.alloc 209) _ _ _ _ :: _) _ _); go_must (refine wpList_newRow rfl _ rfl (Array.replicate 64 (.int .u8 0)) (by kernel_rfl) ?_; intro w3 hb3 hs3 hr3 ht3; have Hb3 := Lib.hid hb3; clear hb3; have Hs3 := Lib.hid hs3; clear hs3; have Hr3 := Lib.hid hr3; clear hr3; have Ht3 := Lib.hid ht3; clear ht3)) | ((with_reducible show wpList _ _ _ (Oper.mk _ (Op.call ⟨Callee.builtin Builtin.copy, _, _⟩) _ _ _ _ :: _) _ _); go_must (refine wpList_copy bytesT rfl _ _ 9 rfl w.heap.size 0 64 64 rfl (.string (key)) (key).size _ rfl (Src_string _ _) (key).size (by exact (Nat.min_eq_left HK.out).symm) (by rw [Nat.mul_one]; exact there_mono (by simpa using Ht3.out) HK.out) ?_)))
    have BW : Hid (Below w.heap.size w w3) := Lib.hid Hb3.out
    have LO : Hid (w.heap.size ≤ w.heap.size) := Lib.hid (Nat.le_refl _)
    have M0 : Hid (MI w (w3.setCells w.heap.size 0 (((key).data.toList.map vb).take ((key).size * 1))) w.heap.size (padK (keyB (bytesOf key)) x 0)) := Lib.hid (by
      have := MI.copied BW.out (LO.out) (by have := Hs3.out; omega) (by simpa using Hr3.out) (by simpa using Ht3.out) (bytesOf key) (by rw [bytesOf_length]; exact HK.out)
      rw [show padK (keyB (bytesOf key)) x 0 = keyB (bytesOf key) from rfl, keyB, ← EK.out, show ((key).data.toList.map vb).take ((key).size * 1) = (bytesOf key).map vb from by rw [Nat.mul_one, ← bytesOf_length, ← List.length_map (f := vb)]; exact List.take_length]
      exact this)
    clear Hb3 Hs3 Hr3 Ht3
    go_simp
    go_loopw [18] (fun iv wr => ∃ k : Nat, k ≤ 64 ∧ iv = .int .i64 k ∧ MI w wr w.heap.size (padK (keyB (bytesOf key)) x k)) (fun iv _ => 64 - (intOf iv).toNat)
    case atStart => exact ⟨0, by omega, rfl, by first | exact M0.out | (have := M0.out; rw [Nat.mul_one] at this; exact this)⟩
    case round =>
      clear M0
      obtain ⟨k, hk64, rfl, M⟩ := hrel
      have M' := Lib.hid M; clear M
      by_cases hlt : k < 64
      · have hkl : k < (keyB (bytesOf key)).length := by rw [keyB_length]; exact hlt
        obtain ⟨y, hy⟩ : ∃ y, y = (keyB (bytesOf key))[k] := ⟨_, rfl⟩
        have c1 : wr.cell? ⟨w.heap.size, k, none⟩ = some (.int .u8 (I8 y)) := by
          have := M'.out.got k (vb y) (by rw [List.getElem?_map, padK_get _ _ _ hkl, hy]; rfl)
          rwa [Nat.zero_add] at this
        have c2 : wr.frozen? ⟨w.heap.size, k, none⟩ = false := by
          have := (M'.out.out k hlt).2
          rwa [Nat.zero_add] at this
        have M1 := Lib.hid (M'.out.set k (by rw [padK_length]; exact hkl) (y ^^^ x))
        rw [hy, padK_set _ _ _ hkl, ← hy] at M1
        clear hy hkl
        go_wp2_with fail
        go_roundw
        case rel => exact ⟨k + 1, by omega, by go_num, M1.out⟩
        case measure => simp [intOf]; omega
      · have hk' : k = 64 := by omega
        subst hk'
        have hrs := SeesB.run_string (M'.out.sees (by rw [padK_length, keyB_length])) 70 9 5 Tryz.underlying70 Tryz.underlying5 Tryz.underlying9 _ (grownBy_refl _ _)
        rw [padK_all] at hrs
        go_wp2_with fail
        go_ret
        exact ⟨rfl, M'.out.bel⟩
end Go.Proofs.YtidadhbaomieiaaGreat

/- A region that draws its order and holds calls that leave alone what was there: what is loaded there is loaded at any time. Walked in one order. Conditions: the check 'detI', by computation; what is loaded is the same in every world that meets I; behind each operation that writes I holds. -/
namespace Go
namespace TL
/-- The regular end alone. -/
def Seg (F : Act → World → Prop) : Exit → Act → World → Prop
  | .normal, a, w => F a w
  | _, _, _ => False
theorem Seg.intro {F : Act → World → Prop} {a : Act} {w : World} (h : F a w) : Seg F .normal a w := h
theorem Seg.letsOut {F : Act → World → Prop} (h : LetsOut (Seg F)) : False := by
  obtain ⟨a, w, h⟩ := h; exact h
theorem Oper.wp_seg {P : Program} {o : Oper} {a : Act} {w : World} {K K' : Act → World → Prop} {F F' : Act → World → Prop} (h : ∀ a w, K a w → K' a w) (hh : o.wp P a w K (Seg F)) : o.wp P a w K' (Seg F') := by
  unfold Oper.wp at *
  generalize (execOp a.eval o).run P w = r at *
  cases r with
  | ok n w1 =>
    cases n <;> simp only [Oper.upon] at hh ⊢
    case value v => exact h _ _ hh
    case skip => exact h _ _ hh
    case defer d => exact h _ _ hh
    case enter f args =>
      refine Calls.mono hh fun e w2 h2 => ?_
      cases e with
      | returned v => exact h _ _ h2
      | panicked c => exact h2.elim
      | outgrown => exact (Seg.letsOut h2).elim
    case row row args => exact fun b k => let ⟨v, w2, h1, h2⟩ := hh b k; ⟨v, w2, h _ _ h1, h2⟩
  | halt x w1 => cases x <;> simp only [Oper.upon] at hh <;> exact hh.elim
section
variable {P : Program} {ops : Array Oper} {Q : Exit → Act → World → Prop} {md : Region.Mode} {I : World → Prop}
def wpAnyI (P : Program) (md : Region.Mode) (ops : Array Oper) (Q : Exit → Act → World → Prop) (I : World → Prop) : Nat → Array Bool → Act → World → Prop
  | 0, listed, a, w => Region.ready md ops listed = [] ∧ Q .normal a w
  | fuel + 1, listed, a, w =>
    (Region.ready md ops listed = [] → Q .normal a w) ∧
    ∀ j ∈ Region.ready md ops listed, wpOp P ops Q j (fun a' w' => I w' ∧ wpAnyI P md ops Q I fuel (listed.setIfInBounds j true) a' w') a w
theorem wpAny_of_I : ∀ (fuel : Nat) (listed : Array Bool) (a : Act) (w : World), wpAnyI P md ops Q I fuel listed a w → wpAny P md ops Q fuel listed a w
  | 0, _, _, _, h => h
  | fuel + 1, _, _, _, h => ⟨h.1, fun j hj => wpOp_mono (fun a' w' h' => wpAny_of_I fuel _ a' w' h'.2) (h.2 j hj)⟩
/-- What yields the same in every world that meets I may be taken first. -/
theorem I_first {i : Nat} {oi : Oper} {v : Value} (hi : ops[i]? = some oi) (hsel : ∀ (j : Nat) (o : Oper) cs b, ops[j]? = some o → o.op ≠ .select cs b)
    (hQ : ∀ c a w, Q (.panic c) (a.put oi.dst v) w → Q (.panic c) a w) :
    ∀ (fuel : Nat) (listed : Array Bool) (a : Act) (w : World),
      (∀ j oj, ops[j]? = some oj → j ≠ i → listed.getD j true = false → (∀ e ∈ oj.after, Region.binds md e = true → e.on ≠ i) → oi.apart ops oj = true) →
      i ∈ Region.ready md ops listed → YieldsIf P ops I oi v a → I w →
      wpAnyI P md ops Q I fuel (listed.setIfInBounds i true) (a.put oi.dst v) w → wpAnyI P md ops Q I (fuel + 1) listed a w := by
  intro fuel
  induction fuel with
  | zero =>
    intro listed a w _ hr hy hw H
    refine ⟨fun h => (by rw [h] at hr; cases hr), fun j hj => ?_⟩
    by_cases hji : j = i
    · subst hji; exact hy.wpOp hi hw ⟨hw, H⟩
    · have := ready_mono hj hji
      rw [H.1] at this
      cases this
  | succ fuel ih =>
    intro listed a w hfree hr hy hw H
    refine ⟨fun h => (by rw [h] at hr; cases hr), fun j hj => ?_⟩
    by_cases hji : j = i
    · subst hji; exact hy.wpOp hi hw ⟨hw, H⟩
    · have h1 := H.2 j (ready_mono hj hji)
      obtain ⟨hjun, oj, hoj, hall⟩ := mem_ready.1 hj
      have hnot := not_waits hr hoj hall
      have h2 := wpOp_putIf hoj (hfree j oj hoj hji hjun hnot) (fun cs b => hsel i oi cs b hi) (fun cs b => hsel j oj cs b hoj) hQ hy h1
      have hfree' : ∀ k ok, ops[k]? = some ok → k ≠ i → (listed.setIfInBounds j true).getD k true = false →
          (∀ e ∈ ok.after, Region.binds md e = true → e.on ≠ i) → oi.apart ops ok = true := fun k ok hk hki hun hno => by
        refine hfree k ok hk hki ?_ hno
        by_cases hjk : j = k
        · subst hjk; exact hjun
        · rw [getD_set_ne true hjk] at hun; exact hun
      refine wpOp_mono (fun a' w' h3 => ⟨h3.2.1, ih (listed.setIfInBounds j true) a' w' hfree' (ready_mono hr (Ne.symm hji)) h3.1 h3.2.1 ?_⟩) h2
      rw [Array.setIfInBounds_comm _ _ hji]; exact h3.2.2
end
/-! ### The walk -/
/-- The operations up to the first that writes, and what is to hold there. -/
def planW (P : Program) (ops : Array Oper) (fin : Act → World → Prop) (I : World → Prop) : Plan → List Oper × (Act → World → Prop)
  | [] => ([], fin)
  | (i, false) :: r => (opAt ops i :: (planW P ops fin I r).1, (planW P ops fin I r).2)
  | (i, true) :: r => ([opAt ops i], fun a w => I w ∧ wpList P ops (Seg (planW P ops fin I r).2) (planW P ops fin I r).1 a w)
def lowOpnd (o : Oper) : Operand := match o.op with | .load _ x => x | .convert _ _ x => x | _ => .const undef
/-- What is loaded at p is the same in every world that meets I. -/
def Stab (P : Program) (I : World → Prop) (o : Oper) (p : Value) : Prop :=
  match o.op with
  | .load t _ => ∃ v, ∀ w, I w → (Instr.loadAt t p).run P w = .ok v w
  | .convert src dst _ => ∃ v, ∀ w, I w → (convert src dst p).run P w = .ok v w
  | _ => False
def finI (ops : Array Oper) (need : Needs) (low : List (Nat × Value)) (Q : Exit → Act → World → Prop) : Act → World → Prop := fun a w =>
  needOk need a = true ∧ (∀ x ∈ low, a.eval (lowOpnd (opAt ops x.1)) = x.2) ∧ Q .normal a w
def staysLow (ops : Array Oper) (o : Oper) (r : Plan) : Bool := r.all fun x => match (opAt ops x.1).dst with | some d => !(tmpsIn o).contains d | none => true
def detI (P : Program) (ops : Array Oper) (need : Needs) (idx : List Nat) : Array Bool → Plan → Bool
  | listed, [] => (Region.ready .any ops listed).isEmpty
  | listed, (i, false) :: r =>
    (Region.ready .any ops listed).contains i && Region.free .any ops listed i &&
      ((stays ops need (opAt ops i) ((i, false) :: r) && pureOp P (needOf need (opAt ops i)) (opAt ops i)) || (idx.contains i && staysLow ops (opAt ops i) ((i, false) :: r))) &&
      detI P ops need idx (listed.setIfInBounds i true) r
  | listed, (i, true) :: r => Region.ready .any ops listed == [i] && detI P ops need idx (listed.setIfInBounds i true) r
section
variable {P : Program} {ops : Array Oper} {I : World → Prop} {fin : Act → World → Prop}
theorem stepS {F : Act → World → Prop} {o : Oper} {l : List Oper} {a : Act} {w : World} (h : wpList P ops (Seg F) (o :: l) a w) :
    ∃ a' w', wpList P ops (Seg F) l a' w' ∧ ∀ t, o.dst ≠ some t → a'.tmps.getD t undef = a.tmps.getD t undef := by
  unfold wpList at h
  split at h
  · rcases h with h | h
    · unfold Oper.wp at h
      generalize (execOp a.eval o).run P w = r at h
      cases r with
      | ok n w1 =>
        cases n <;> simp only [Oper.upon] at h
        case value v => exact ⟨_, _, h, fun t ht => put_ne ht⟩
        case skip => exact ⟨_, _, h, fun t ht => put_ne ht⟩
        case defer d => exact ⟨_, _, h, fun t ht => put_ne (a := { a with defers := d :: a.defers }) ht⟩
        case enter f args =>
          obtain ⟨e, w2, fr, hR, _⟩ := h []
          cases e with
          | returned v => exact ⟨_, _, hR, fun t ht => put_ne ht⟩
          | panicked c => exact hR.elim
          | outgrown => exact (Seg.letsOut hR).elim
        case row row args =>
          obtain ⟨v, w2, hR, _⟩ := h default []
          exact ⟨_, _, hR, fun t ht => put_ne ht⟩
      | halt x w1 => cases x <;> simp only [Oper.upon] at h <;> exact h.elim
    · exact (Seg.letsOut h.2).elim
  · exact ⟨_, _, h, fun t ht => put_ne ht⟩
theorem endsP : ∀ (plan : Plan) (a : Act) (w : World), wpList P ops (Seg (planW P ops fin I plan).2) (planW P ops fin I plan).1 a w →
    ∃ af wf, fin af wf ∧ ∀ t, (∀ x ∈ plan, (opAt ops x.1).dst ≠ some t) → af.tmps.getD t undef = a.tmps.getD t undef
  | [], a, w, h => ⟨a, w, h, fun _ _ => rfl⟩
  | (i, false) :: r, a, w, h => by
    obtain ⟨a', w', h1, h2⟩ := stepS h
    obtain ⟨af, wf, h3, h4⟩ := endsP r a' w' h1
    exact ⟨af, wf, h3, fun t ht => (h4 t fun x hx => ht x (List.mem_cons_of_mem _ hx)).trans (h2 t (ht (i, false) List.mem_cons_self))⟩
  | (i, true) :: r, a, w, h => by
    obtain ⟨a', w', h1, h2⟩ := stepS h
    obtain ⟨af, wf, h3, h4⟩ := endsP r a' w' h1.2
    exact ⟨af, wf, h3, fun t ht => (h4 t fun x hx => ht x (List.mem_cons_of_mem _ hx)).trans (h2 t (ht (i, true) List.mem_cons_self))⟩
theorem eval_same {a a' : Act} {x : Operand} (h : ∀ t, x = .tmp t → a'.tmps.getD t undef = a.tmps.getD t undef) : a'.eval x = a.eval x := by
  cases x <;> simp only [Act.eval]
  exact h _ rfl
theorem lowOpnd_in (o : Oper) {t : Tmp} (h : lowOpnd o = .tmp t) : t ∈ tmpsIn o := by
  obtain ⟨dst, op, type, pos, after, guard⟩ := o
  cases op <;> simp only [lowOpnd, reduceCtorEq] at h
  all_goals (subst h; simp [tmpsIn, Op.operands])
theorem mainI {need : Needs} {low : List (Nat × Value)} {Q : Exit → Act → World → Prop} (hs : Region.noSelect ops = true) (hlow : ∀ x ∈ low, Stab P I (opAt ops x.1) x.2) :
    ∀ (plan : Plan) (listed : Array Bool) (a : Act) (w : World), detI P ops need (low.map (·.1)) listed plan = true → I w →
      wpList P ops (Seg (planW P ops (finI ops need low Q) I plan).2) (planW P ops (finI ops need low Q) I plan).1 a w →
      wpAnyI P .any ops (Seg (finI ops need low Q)) I plan.length listed a w
  | [], listed, a, w, hd, _, h => by
    have : Region.ready .any ops listed = [] := by simpa [detI] using hd
    exact ⟨this, h⟩
  | (i, false) :: r, listed, a, w, hd, hIw, h => by
    simp only [detI, Bool.and_eq_true] at hd
    obtain ⟨⟨⟨hr, hf⟩, hk⟩, hrest⟩ := hd
    have hr' : i ∈ Region.ready .any ops listed := by simpa using hr
    obtain ⟨_, oi, hoi, _⟩ := mem_ready.1 hr'
    have hat : opAt ops i = oi := by simp [opAt, hoi]
    have hends := endsP ((i, false) :: r) a w h
    have h' : wpList P ops (Seg (planW P ops (finI ops need low Q) I r).2) (oi :: (planW P ops (finI ops need low Q) I r).1) a w := by
      rw [← hat]; exact h
    have hQ : ∀ v c a w, Seg (finI ops need low Q) (.panic c) (a.put oi.dst v) w → Seg (finI ops need low Q) (.panic c) a w := fun _ _ _ _ h => h.elim
    have hsel := fun j o cs b ho => Region.noSelect_spec hs j o cs b ho
    -- what it comes to, in every world that meets I
    have key : ∀ (s : Sem Value), execOp a.eval oi = (do Pure.pure (Next.value (← s))) → (∀ v w1, s.run P w = .ok v w1 → w1 = w ∧ ∀ w', I w' → s.run P w' = .ok v w') →
        wpAnyI P .any ops (Seg (finI ops need low Q)) I (r.length + 1) listed a w := fun s hex hl => by
      cases hw : Region.wanted oi (yielded ops a.tmps) with
      | true =>
        unfold wpList at h'
        rw [if_pos hw] at h'
        rcases h' with h' | h'
        · unfold Oper.wp at h'
          rw [hex, Sem.run_bind] at h'
          cases hrun : s.run P w with
          | ok v w1 =>
            obtain ⟨rfl, hall⟩ := hl _ _ hrun
            rw [hrun] at h'
            have hy : YieldsIf P ops I oi v a := .inl ⟨hw, fun w' hw' => by rw [hex, Sem.run_bind, hall w' hw']; rfl⟩
            exact I_first hoi hsel (hQ v) r.length listed a w1 (Region.free_spec hoi hf) hr' hy hIw (mainI hs hlow r _ _ w1 hrest hIw h')
          | halt x w1 =>
            rw [hrun] at h'
            cases x <;> exact h'.elim
        · exact (Seg.letsOut h'.2).elim
      | false =>
        unfold wpList at h'
        rw [if_neg (by rw [hw]; decide)] at h'
        exact I_first hoi hsel (hQ undef) r.length listed a w (Region.free_spec hoi hf) hr' (.inr ⟨hw, rfl⟩) hIw (mainI hs hlow r _ _ w hrest hIw h')
    obtain ⟨af, wf, ⟨hneed, hlowf, _⟩, hsame⟩ := hends
    rcases (Bool.or_eq_true _ _).mp hk with hp | hp
    · obtain ⟨hst, hp⟩ := (Bool.and_eq_true _ _).mp hp
      have hne : needOk (needOf need (opAt ops i)) a = true := by
        unfold needOk at hneed ⊢
        rw [List.all_eq_true] at hneed ⊢
        intro p hpm
        have hp0 := hpm
        simp only [needOf, List.mem_filter] at hpm
        have h3 := hneed p hpm.1
        rw [hsame p.1 (fun x hx hd => by
          have h5 := List.all_eq_true.1 hst x hx
          simp only [hd] at h5
          have h6 := List.all_eq_true.1 h5 p hp0
          simp at h6)] at h3
        exact h3
      rw [hat] at hp hne
      obtain ⟨s, hex, hloc⟩ := pureOp_local hp hne
      exact key s hex fun v w1 hrun => ⟨(hloc _ _ _ hrun).1, fun w' _ => (hloc _ _ _ hrun).2 w'⟩
    · obtain ⟨hix, hst⟩ := (Bool.and_eq_true _ _).mp hp
      simp only [List.contains_iff_mem, List.mem_map] at hix
      obtain ⟨⟨i', p⟩, hxm, hxi⟩ := hix
      have hxi' : i' = i := hxi
      subst hxi'
      have hev : a.eval (lowOpnd oi) = p := by
        have e := hlowf _ hxm
        simp only [hat] at e
        rw [← e]
        refine (eval_same fun t ht => ?_).symm
        refine hsame t fun x hx hd => ?_
        have h5 := List.all_eq_true.1 hst x hx
        simp only [hd, hat] at h5
        have h6 := lowOpnd_in oi ht
        simp [h6] at h5
      have hstab := hlow _ hxm
      simp only [hat] at hstab
      unfold Stab at hstab
      cases hop : oi.op <;> simp only [hop] at hstab
      case load t x =>
        have hev' : a.eval x = p := by simpa only [lowOpnd, hop] using hev
        obtain ⟨v, hv⟩ := hstab
        refine key (Instr.loadAt t p) (by simp only [execOp, hop, hev']) fun u w1 hrun => ?_
        rw [hv w hIw] at hrun
        cases hrun
        exact ⟨rfl, hv⟩
      case convert src d x =>
        have hev' : a.eval x = p := by simpa only [lowOpnd, hop] using hev
        obtain ⟨v, hv⟩ := hstab
        refine key (Go.convert src d p) (by simp only [execOp, hop, hev']) fun u w1 hrun => ?_
        rw [hv w hIw] at hrun
        cases hrun
        exact ⟨rfl, hv⟩
  | (i, true) :: r, listed, a, w, hd, hIw, h => by
    simp only [detI, Bool.and_eq_true] at hd
    have hr : Region.ready .any ops listed = [i] := by simpa using hd.1
    have hr' : i ∈ Region.ready .any ops listed := by rw [hr]; simp
    obtain ⟨_, oi, hoi, _⟩ := mem_ready.1 hr'
    have hat : opAt ops i = oi := by simp [opAt, hoi]
    refine ⟨fun h0 => (by rw [hr] at h0; cases h0), fun j hj => ?_⟩
    rw [hr] at hj
    obtain rfl : j = i := by simpa using hj
    have h1 : wpList P ops (Seg (planW P ops (finI ops need low Q) I ((j, true) :: r)).2) [oi] a w := by rw [← hat]; exact h
    have cont : ∀ a' w', I w' ∧ wpList P ops (Seg (planW P ops (finI ops need low Q) I r).2) (planW P ops (finI ops need low Q) I r).1 a' w' →
        I w' ∧ wpAnyI P .any ops (Seg (finI ops need low Q)) I r.length (listed.setIfInBounds j true) a' w' := fun a' w' ⟨h2, h3⟩ => ⟨h2, mainI hs hlow r _ a' w' hd.2 h2 h3⟩
    unfold wpOp
    rw [hoi]
    unfold wpList at h1
    dsimp only
    split
    · rename_i hw
      rw [if_pos hw] at h1
      rcases h1 with h1 | h1
      · exact .inl (Oper.wp_seg cont h1)
      · exact (Seg.letsOut h1.2).elim
    · rename_i hw
      rw [if_neg hw] at h1
      exact cont _ _ h1
/-- THE REGION. 'low': the loads (and readings of bytes) that may come at any time, each with the place that it reads. -/
theorem region_low {Q : Exit → Act → World → Prop} {id : Nat} {l : List Oper} {a : Act} {w : World} (plan : Plan) (need : Needs) (low : List (Nat × Value)) (I : World → Prop) (hm : P.follows .mixedOrders = true)
    (hs : Region.noSelect l.toArray = true) (hn : plan.length = l.length) (hd : detI P l.toArray need (low.map (·.1)) (Array.replicate l.length false) plan = true)
    (hlow : ∀ x ∈ low, Stab P I (opAt l.toArray x.1) x.2) (hI : I w.drew)
    (h : wpList P l.toArray (Seg (planW P l.toArray (finI l.toArray need low Q) I plan).2) (planW P l.toArray (finI l.toArray need low Q) I plan).1 a w.drew) : (Code.region id l.toArray true).wp P Q a w := by
  refine Code.wp_mono (Q := Seg (finI l.toArray need low Q)) (fun e a w h => ?_) ?_
  · cases e <;> first | exact h.2.2 | exact h.elim
  · refine wp_region_any hm (wpAny_of_I (I := I) _ _ _ _ (?_ : wpAnyI P .any l.toArray (Seg (finI l.toArray need low Q)) I l.toArray.size (Array.replicate l.toArray.size false) a w.drew))
    have := mainI (Q := Q) hs hlow plan (Array.replicate l.length false) a w.drew hd hI h
    rw [hn] at this
    exact this
end
/-! ### What is told to it -/
theorem stab_load {P : Program} {I : World → Prop} {o : Oper} {t : TypeId} {x : Operand} (ho : o.op = .load t x) (b off : Nat) (cs : List Value) (d : TypeDesc) (hI : ∀ w', I w' → w'.rangeAt b off cs)
    (hu : P.underlying t = some d) (hd : d.isRow = true) (hi : (P.info? t).map (·.size) = some cs.length) : Stab P I o (.pointer (some ⟨b, off, none⟩)) := by
  unfold Stab; rw [ho]
  exact ⟨_, fun w' hw => run_loadAt_mid w' b off t cs d (hI w' hw) hu hd hi⟩
theorem stab_conv {P : Program} {I : World → Prop} {o : Oper} {src dst e : TypeId} {x : Operand} (ho : o.op = .convert src dst x) (v : Value) (l : List UInt8) (hI : ∀ w', I w' → SeesB w' v l)
    (hs : P.underlying src = some (.slice e)) (he : P.underlying e = some (.int .u8)) (hd : P.underlying dst = some .string) : Stab P I o v := by
  unfold Stab; rw [ho]
  exact ⟨_, fun w' hw => SeesB.run_string (hI w' hw) src dst e hs he hd w' (grownBy_refl _ _)⟩
theorem lows_cons {P : Program} {I : World → Prop} {ops : Array Oper} {x : Nat × Value} {low : List (Nat × Value)} (h : Stab P I (opAt ops x.1) x.2) (r : ∀ x ∈ low, Stab P I (opAt ops x.1) x.2) : ∀ y ∈ x :: low, Stab P I (opAt ops y.1) y.2 :=
  List.forall_mem_cons.2 ⟨h, r⟩
theorem lows_nil {P : Program} {I : World → Prop} {ops : Array Oper} : ∀ y ∈ ([] : List (Nat × Value)), Stab P I (opAt ops y.1) y.2 := fun _ h => by cases h
theorem ats_cons {ops : Array Oper} {a : Act} {x : Nat × Value} {low : List (Nat × Value)} (h : a.eval (lowOpnd (opAt ops x.1)) = x.2) (r : ∀ x ∈ low, a.eval (lowOpnd (opAt ops x.1)) = x.2) : ∀ y ∈ x :: low, a.eval (lowOpnd (opAt ops y.1)) = y.2 :=
  List.forall_mem_cons.2 ⟨h, r⟩
theorem ats_nil {ops : Array Oper} {a : Act} : ∀ y ∈ ([] : List (Nat × Value)), a.eval (lowOpnd (opAt ops y.1)) = y.2 := fun _ h => by cases h
theorem needs_nil {a : Act} : needOk [] a = true := rfl
theorem needs_cons {a : Act} {x : Tmp × Shape} {r : Needs} (h : x.2.ok (a.tmps.getD x.1 undef) = true) (k : needOk r a = true) : needOk (x :: r) a = true := by
  unfold needOk at *; rw [List.all_cons, h, k]; rfl
end TL
end Go

/- The walk of mac.Tag: a hash of a hash. Conditions: key and text are shorter than 10^11 bytes. -/
namespace Go
namespace TL
open Go.RowKit
def macL (key text : List UInt8) : List UInt8 := shaL (macPad key 92 ++ shaL (macPad key 54 ++ text))
theorem macL_length (key text : List UInt8) : (macL key text).length = 32 := rfl
theorem macPad_length (key : List UInt8) (x : UInt8) : (macPad key x).length = 64 := by rw [macPad, List.length_map, keyB_length]
theorem bytesOf_mk (l : List UInt8) : bytesOf ⟨l.toArray⟩ = l := rfl
theorem bytesOf_append (a b : ByteArray) : bytesOf (a ++ b) = bytesOf a ++ bytesOf b := by simp [bytesOf]
theorem size_mk (l : List UInt8) : (⟨l.toArray⟩ : ByteArray).size = l.length := by simp [ByteArray.size]
theorem seesB_row {w : World} {g : Nat} {l : List UInt8} {n : Nat} (hn : l.length = n) (hm : n ≤ 1000) (hg : g < w.heap.size) (hr : w.rangeAt g 0 (l.map vb)) : SeesB w (.slice (some ⟨g, 0, none⟩) n n) l := by
  refine ⟨by simp, .inr ⟨g, 0, n, by rw [hn], hg, by omega, by simp only [maxLen]; omega, hr⟩⟩
end TL
end Go
namespace Go.Proofs.YtidadhbaomieiaaGreat
open Go.RowKit Go.TL
set_option maxRecDepth 100000 in
set_option maxHeartbeats 2000000 in
theorem Tag_any (key text : ByteArray) (w : World) (hk : key.size ≤ 100000000000) (ht : text.size ≤ 100000000000) :
    Calls Tryz.prog 47 #[.string key, .string text] w fun e w' => e = .returned (.agg ((macL (bytesOf key) (bytesOf text)).map vb).toArray) ∧ Below w.heap.size w w' := by
  have z1 : (⟨(macPad (bytesOf key) 54).toArray⟩ : ByteArray).size = 64 := by rw [size_mk, macPad_length]
  have z2 : (⟨(macPad (bytesOf key) 92).toArray⟩ : ByteArray).size = 64 := by rw [size_mk, macPad_length]
  obtain ⟨s1, e1⟩ : ∃ s, s = (⟨(macPad (bytesOf key) 54).toArray⟩ : ByteArray) ++ text := ⟨_, rfl⟩
  have E1 := Lib.hid e1
  have e1' := e1.symm
  clear e1
  go_enter Tryz.func47, Tryz.ntmps47
  go_wp2_with (first | ((with_reducible show wpList _ _ _ (Oper.mk (some 4) (Op.alloc 64) _ _ _ _ :: _) _ _); go_must (refine wpList_newRow rfl _ rfl (Array.replicate 32 (.int .u8 0)) (by kernel_rfl) ?_; intro w1 hb1 hs1 hr1 ht1; have Hb1 := Lib.hid hb1; clear hb1 hr1; have Hs1 := Lib.hid hs1; clear hs1; have Ht1 := Lib.hid ht1; clear ht1)) | (go_at_call 88; go_must (refine (pad_any key 54 w1 (by omega)).mono ?_; rintro e w2 ⟨rfl, hb2⟩; have Hb2 := Lib.hid hb2; clear hb2)) | (go_at_call 87; go_must (refine (shaSum_any s1 w2 (by rw [E1.out, ByteArray.size_append, z1]; omega)).mono ?_; rintro e w3 ⟨rfl, hb3⟩; have Hb3 := Lib.hid hb3; clear hb3)) | ((with_reducible show wpList _ _ _ (Oper.mk (some 5) (Op.alloc 64) _ _ _ _ :: _) _ _); go_must (refine wpList_newRow rfl _ rfl (Array.replicate 32 (.int .u8 0)) (by kernel_rfl) ?_; intro w4 hb4 hs4 hr4 ht4; have Hb4 := Lib.hid hb4; clear hb4 hr4; have Hs4 := Lib.hid hs4; clear hs4; have Ht4 := Lib.hid ht4; clear ht4)) | ((with_reducible show wpList _ _ _ (Oper.mk none (Op.store 64 (.tmp 5) _) _ _ _ _ :: _) _ _); go_must (refine wpList_putRow rfl 64 _ _ rfl w3.heap.size 0 ((shaL (bytesOf s1)).map vb) rfl rfl (by exact Ht4.out) (by kernel_rfl) (vb_one _) ?_)))
  go_simp
  obtain ⟨lH, elH⟩ : ∃ l, l = shaL (bytesOf s1) := ⟨_, rfl⟩
  obtain ⟨w5, e5⟩ : ∃ w5, w5 = w4.setCells w3.heap.size 0 ((shaL (bytesOf s1)).map vb) := ⟨_, rfl⟩
  have h3 : Hid (w.heap.size + 1 ≤ w3.heap.size) := Lib.hid (by have := Hs1.out; have := Hb2.out.size; have := Hb3.out.size; omega)
  have S5 : Hid (SeesB w5 (.slice (some ⟨w3.heap.size, 0, none⟩) 32 32) lH) := Lib.hid (by rw [e5, elH]; exact seesB_row (shaL_length _) (by omega) (by rw [size_setCells]; have := Hs4.out; omega) (World.rangeAt_setCells_same _ _ _ _ (by exact Ht4.out)))
  have B5 : Hid (Below w.heap.size w w5) := Lib.hid (by
    have b2 := Hb1.out.trans (Hb2.out.mono Hb1.out.size)
    have b3 := b2.trans (Hb3.out.mono b2.size)
    rw [e5]; exact below_setCells b3.size _ _ _ (b3.trans (Hb4.out.mono b3.size)))
  have T5 : Hid (w5.there w.heap.size 0 32) := Lib.hid (by
    have b3 := Hb2.out.trans (Hb3.out.mono Hb2.out.size)
    have b4 := b3.trans (Hb4.out.mono b3.size)
    have l1 := Hs1.out
    rw [e5]
    refine World.there_setCells (there_of_block (by simpa using Ht1.out) (b4.block _ (by omega))) _ _ _)
  rw [← e5]
  have hlen : lH.length = 32 := by rw [elH]; rfl
  have z3 : (⟨lH.toArray⟩ : ByteArray).size = 32 := by rw [size_mk, hlen]
  have ElH := Lib.hid elH; clear elH
  clear e5 Hb1 Hb2 Hb3 Hb4 Hs1 Hs4 Ht1 Ht4 e1'
  obtain ⟨s2, e2⟩ : ∃ s, s = (⟨(macPad (bytesOf key) 92).toArray⟩ : ByteArray) ++ ⟨lH.toArray⟩ := ⟨_, rfl⟩
  have E2 := Lib.hid e2
  have e2' := e2.symm
  clear e2
  refine region_low [(0, false), (2, false), (3, false), (1, true), (4, false), (5, true), (6, true)] [(12, .str), (14, .str)] [(3, .slice (some ⟨w3.heap.size, 0, none⟩) 32 32)] (fun w' => SeesB w' (.slice (some ⟨w3.heap.size, 0, none⟩) 32 32) lH) (by kernel_rfl) (by kernel_rfl) rfl (by kernel_rfl)
    (lows_cons (stab_conv rfl _ lH (fun _ h => h) Tryz.underlying70 Tryz.underlying5 Tryz.underlying9) lows_nil) S5.out ?_
  simp only [planW, opAt, List.getElem?_toArray, List.getElem?_cons_zero, List.getElem?_cons_succ, Option.getD_some]
  have hrs := SeesB.run_string S5.out 70 9 5 Tryz.underlying70 Tryz.underlying5 Tryz.underlying9 w5.drew (grownBy_drew _ _)
  go_wp2_with (go_at_call 88; go_must (refine (pad_any key 92 w5.drew (by omega)).mono ?_; rintro e w6 ⟨rfl, hb6⟩; have B6 : Hid (Below w5.heap.size w5 w6) := Lib.hid ((Below.refl _ w5).drew.trans hb6); clear hb6))
  refine Seg.intro ⟨Sees.below S5.out B6.out, ?_⟩
  clear hrs
  go_wp2_with (go_at_call 87; go_must (refine (shaSum_any s2 w6 (by rw [E2.out, ByteArray.size_append, z2, z3]; omega)).mono ?_; rintro e w7 ⟨rfl, hb7⟩; have B7 : Hid (Below w5.heap.size w5 w7) := Lib.hid (B6.out.trans (hb7.mono B6.out.size)); clear hb7))
  refine Seg.intro ⟨Sees.below S5.out B7.out, ?_⟩
  have l0 : w.heap.size < w5.heap.size := by
    have h1 := h3.out
    obtain ⟨g, o, c, e, hg, _⟩ := (S5.out.2.resolve_left (by simp))
    injection e with e1 e2
    injection e1 with e1
    injection e1 with e1
    omega
  have T7 : Hid (w7.there w.heap.size 0 32) := Lib.hid (there_of_block T5.out (B7.out.block _ l0))
  go_wp2_with ((with_reducible show wpList _ _ _ (Oper.mk none (Op.store 64 (.tmp 4) _) _ _ _ _ :: _) _ _); go_must (refine wpList_putRow rfl 64 _ _ rfl w.heap.size 0 ((shaL (bytesOf s2)).map vb) rfl rfl (by exact T7.out) (by kernel_rfl) (vb_one _) ?_))
  refine Seg.intro ⟨Sees.kept (Sees.below S5.out B7.out) (grownBy_setCells _ _ _ _) (.inr (by simp only [Value.ownBlock]; intro e; injection e with e; have := h3.out; omega)), ?_⟩
  refine Seg.intro ⟨needs_cons rfl (needs_cons rfl needs_nil), ats_cons rfl ats_nil, ?_⟩
  go_wp2_with fail
  refine bodyPost_ret (results_row rfl _ _ w.heap.size 0 ((shaL (bytesOf s2)).map vb) _ rfl (World.rangeAt_setCells_same _ _ _ _ (by exact T7.out)) Tryz.underlying64 rfl (by kernel_rfl)) rfl ⟨?_, below_setCells (Nat.le_refl _) _ _ _ (B5.out.trans (B7.out.mono (Nat.le_of_lt l0)))⟩
  have e1 : bytesOf s1 = macPad (bytesOf key) 54 ++ bytesOf text := by rw [E1.out, bytesOf_append]; rfl
  have e2 : bytesOf s2 = macPad (bytesOf key) 92 ++ lH := by rw [E2.out, bytesOf_append]; rfl
  rw [macL, e2, ElH.out, e1]
end Go.Proofs.YtidadhbaomieiaaGreat

/- The walk of mac.Equal: it tells whether two arrays of 32 bytes are the same. No other conditions. -/
namespace Go
namespace TL
open Go.RowKit
/-- What differs among the first k bytes. -/
def diffB (a b : List UInt8) : Nat → UInt8
  | 0 => 0
  | k + 1 => diffB a b k ||| (a.getD k 0 ^^^ b.getD k 0)
theorem or_zero8 (x y : UInt8) : (x ||| y = 0) ↔ x = 0 ∧ y = 0 := by
  rw [← UInt8.toNat_inj, ← UInt8.toNat_inj, ← UInt8.toNat_inj, UInt8.toNat_or]
  simp [Nat.or_eq_zero_iff]
theorem xor_zero8 (x y : UInt8) : (x ^^^ y = 0) ↔ x = y := by
  constructor
  · intro h
    have : x ^^^ y ^^^ y = 0 ^^^ y := by rw [h]
    simpa [UInt8.xor_assoc] using this
  · rintro rfl; simp
theorem diffB_zero (a b : List UInt8) : ∀ k, diffB a b k = 0 ↔ ∀ i, i < k → a.getD i 0 = b.getD i 0
  | 0 => by simp [diffB]
  | k + 1 => by
    rw [diffB, or_zero8, diffB_zero a b k, xor_zero8]
    constructor
    · rintro ⟨h1, h2⟩ i hi
      by_cases e : i = k
      · subst e; exact h2
      · exact h1 i (by omega)
    · intro h; exact ⟨fun i hi => h i (by omega), h k (by omega)⟩
theorem diffB_eq (a b : List UInt8) (h : a.length = b.length) : (diffB a b a.length = 0) ↔ a = b := by
  rw [diffB_zero]
  constructor
  · intro k
    refine List.ext_getElem h fun i h1 h2 => ?_
    have := k i h1
    simpa [h1, h2] using this
  · rintro rfl i _; rfl
end TL
end Go
namespace Go.Proofs.YtidadhbaomieiaaGreat
open Go.RowKit Go.TL
set_option maxRecDepth 100000 in
set_option maxHeartbeats 1000000 in
theorem Equal_any (a b : List UInt8) (ha : a.length = 32) (hb : b.length = 32) (w : World) :
    Calls Tryz.prog 83 #[.agg (a.map vb).toArray, .agg (b.map vb).toArray] w fun e w' => e = .returned (.bool (a == b)) ∧ Below w.heap.size w w' := by
  have hA0 : Hid (((w.alloc (.cells (a.map vb).toArray 64)).alloc (.cells (b.map vb).toArray 64)).rangeAt w.heap.size 0 (a.map vb)) := Lib.hid (rangeAt_of_block (rangeAt_new w (a.map vb).toArray 64 (0, 0)) (((Below.refl (w.heap.size + 1) _).alloc (by simp) (.cells (b.map vb).toArray 64)).block _ (by omega)))
  have hB0 : Hid (((w.alloc (.cells (a.map vb).toArray 64)).alloc (.cells (b.map vb).toArray 64)).rangeAt (w.heap.size + 1) 0 (b.map vb)) := Lib.hid (by have := rangeAt_new (w.alloc (.cells (a.map vb).toArray 64)) (b.map vb).toArray 64 (0, 0); simpa using this)
  go_enter Tryz.func83, Tryz.ntmps83
  go_wp2_with fail
  go_loopw [5, 7] (fun v iv wr => ∃ k : Nat, k ≤ 32 ∧ iv = .int .i64 k ∧ v = .int .u8 (I8 (diffB a b k)) ∧ Below (w.heap.size + 2) ((w.alloc (.cells (a.map vb).toArray 64)).alloc (.cells (b.map vb).toArray 64)) wr) (fun _ iv _ => 32 - (intOf iv).toNat)
  case atStart => exact ⟨0, by omega, rfl, rfl, Below.refl _ _⟩
  case round =>
    obtain ⟨k, hk, rfl, rfl, hbel⟩ := hrel
    have Hb := Lib.hid hbel; clear hbel
    by_cases hlt : k < 32
    · obtain ⟨x, hx⟩ : ∃ x, x = a.getD k 0 := ⟨_, rfl⟩
      obtain ⟨y, hy⟩ : ∃ y, y = b.getD k 0 := ⟨_, rfl⟩
      obtain ⟨dk, hd⟩ : ∃ d, d = diffB a b k := ⟨_, rfl⟩
      have c1 : wr.cell? ⟨w.heap.size, k, none⟩ = some (.int .u8 (I8 x)) := by
        have := rangeAt_of_block hA0.out (Hb.out.block _ (by omega)) k (vb x) (by rw [hx]; simp [ha, hlt])
        rwa [Nat.zero_add] at this
      have c2 : wr.cell? ⟨w.heap.size + 1, k, none⟩ = some (.int .u8 (I8 y)) := by
        have := rangeAt_of_block hB0.out (Hb.out.block _ (by omega)) k (vb y) (by rw [hy]; simp [hb, hlt])
        rwa [Nat.zero_add] at this
      have e : diffB a b (k + 1) = dk ||| (x ^^^ y) := by rw [diffB, hx, hy, hd]
      rw [← hd]
      have E := Lib.hid e
      clear e hx hy hd
      go_wp2_with fail
      refine region_det [(0, false), (1, false), (2, false), (4, false), (5, false), (3, false), (6, false), (7, false), (8, false), (9, false)] [(13, .int), (16, .int), (10, .int), (17, .int)] (by kernel_rfl) (by kernel_rfl) rfl (by kernel_rfl) ?_
      simp only [reord, opAt, List.map_cons, List.map_nil, List.getElem?_toArray, List.getElem?_cons_zero, List.getElem?_cons_succ, Option.getD_some]
      go_wp2_with fail
      refine OnlyN.intro (by kernel_rfl) ?_
      go_wp2_with fail
      go_roundw
      case rel => exact ⟨k + 1, by omega, by go_num, by rw [E.out], Hb.out.drew⟩
      case measure => simp [intOf]; omega
    · have hk' : k = 32 := by omega
      subst hk'
      have hq : (I8 (diffB a b 32) == 0) = (a == b) := by
        rw [Bool.eq_iff_iff, beq_iff_eq, beq_iff_eq, ← diffB_eq a b (by omega), ha, I8_eq]
        constructor
        · intro h; exact UInt8.toNat_inj.1 (by simpa using h)
        · intro h; rw [h]; rfl
      go_wp2_with fail
      go_ret
      refine ⟨rfl, ?_⟩
      have B0 : Below w.heap.size w ((w.alloc (.cells (a.map vb).toArray 64)).alloc (.cells (b.map vb).toArray 64)) := ((Below.refl _ w).alloc (Nat.le_refl _) _).alloc (by simp) _
      exact B0.trans (Hb.out.mono (by omega))
end Go.Proofs.YtidadhbaomieiaaGreat

/- The walk's memory: what is known of it, piece by piece, and what each operation does to it. No conditions but those each law names. -/
namespace Go
namespace TL
open Go.RowKit
/-- A row's place is set: one law, for simp. -/
theorem setC {α : Type _} (a : α) (l : List α) (b : α) : (a :: l).set 0 b = b :: l ∧ ∀ n, (a :: l).set (n + 1) b = a :: l.set n b := ⟨rfl, fun _ => rfl⟩
/-- A row's places. -/
theorem at0 {α : Type _} {c : α} {L : List α} : (c :: L)[0]? = some c := rfl
theorem at1 {α : Type _} {a0 c : α} {L : List α} : (a0 :: c :: L)[1]? = some c := rfl
theorem at2 {α : Type _} {a0 a1 c : α} {L : List α} : (a0 :: a1 :: c :: L)[2]? = some c := rfl
theorem at3 {α : Type _} {a0 a1 a2 c : α} {L : List α} : (a0 :: a1 :: a2 :: c :: L)[3]? = some c := rfl
theorem at4 {α : Type _} {a0 a1 a2 a3 c : α} {L : List α} : (a0 :: a1 :: a2 :: a3 :: c :: L)[4]? = some c := rfl
theorem at5 {α : Type _} {a0 a1 a2 a3 a4 c : α} {L : List α} : (a0 :: a1 :: a2 :: a3 :: a4 :: c :: L)[5]? = some c := rfl
theorem at6 {α : Type _} {a0 a1 a2 a3 a4 a5 c : α} {L : List α} : (a0 :: a1 :: a2 :: a3 :: a4 :: a5 :: c :: L)[6]? = some c := rfl
theorem at7 {α : Type _} {a0 a1 a2 a3 a4 a5 a6 c : α} {L : List α} : (a0 :: a1 :: a2 :: a3 :: a4 :: a5 :: a6 :: c :: L)[7]? = some c := rfl
theorem at8 {α : Type _} {a0 a1 a2 a3 a4 a5 a6 a7 c : α} {L : List α} : (a0 :: a1 :: a2 :: a3 :: a4 :: a5 :: a6 :: a7 :: c :: L)[8]? = some c := rfl
/-- A row of bytes, closed to the walk's simp; a text, likewise. -/
def bs (l : List UInt8) : List Value := l.map vb
def mkS (l : List UInt8) : ByteArray := ⟨l.toArray⟩
/-- A list's length, where an instance tells it (a class of the core is borrowed, for its answer that is found). -/
theorem lenI {α : Type} {l : List α} {n : Nat} [h : HXor (PLift (l = l)) Unit (PLift (l.length = n))] : l.length = n := (h.hXor ⟨rfl⟩ ()).down
theorem lenS {α : Type} {l : List α} {n i : Nat} {x : α} (h : l.length = n) : (l.set i x).length = n := by rw [List.length_set, h]
instance lenReplicate {α : Type} {x : α} {n : Nat} : HXor (PLift (List.replicate n x = List.replicate n x)) Unit (PLift ((List.replicate n x).length = n)) := ⟨fun _ _ => ⟨List.length_replicate⟩⟩
instance lenSet {α : Type} {l : List α} {x : α} {n i : Nat} [h : HXor (PLift (l = l)) Unit (PLift (l.length = n))] : HXor (PLift (l.set i x = l.set i x)) Unit (PLift ((l.set i x).length = n)) := ⟨fun _ _ => ⟨lenS (h.hXor ⟨rfl⟩ ()).down⟩⟩
theorem bs_length (l : List UInt8) : (bs l).length = l.length := by simp [bs]
theorem bs_one (l : List UInt8) : ∀ q ∈ bs l, q.oneCell' = true := vb_one l
theorem bs_set (l : List UInt8) (i : Nat) (b : UInt8) : bs (l.set i b) = (bs l).set i (vb b) := by simp [bs, List.map_set]
theorem bs_append (l m : List UInt8) : bs (l ++ m) = bs l ++ bs m := by simp [bs]
theorem mkS_size (l : List UInt8) : (mkS l).size = l.length := by simp [mkS, ByteArray.size]
theorem mkS_data (l : List UInt8) : (mkS l).data.toList = l := by simp [mkS]
theorem mkS_toList (l : List UInt8) : (mkS l).toList = l := by simp [mkS, Lib.toList_data]
theorem mkS_append (l m : List UInt8) : mkS l ++ mkS m = mkS (l ++ m) := by
  apply ByteArray.ext; apply Array.ext'; simp [mkS]
theorem mkS_of (s : ByteArray) : ∃ l, s = mkS l := ⟨s.data.toList, by simp [mkS]⟩
theorem mkS_inj {l m : List UInt8} : mkS l = mkS m ↔ l = m := ⟨fun h => by rw [← mkS_toList l, h, mkS_toList], fun h => by rw [h]⟩
/-- Of what was there, only the blocks F have turned. -/
structure Kept (F : List Nat) (w0 w : World) : Prop where
  os : w.os = w0.os
  tape : w.tape = w0.tape
  output : w.output = w0.output
  size : w0.heap.size ≤ w.heap.size
  block : ∀ k, k < w0.heap.size → k ∉ F → w.heap[k]? = w0.heap[k]?
theorem Kept.refl (F : List Nat) (w : World) : Kept F w w := ⟨rfl, rfl, rfl, Nat.le_refl _, fun _ _ _ => rfl⟩
theorem Kept.below {w0 w : World} (h : Kept [] w0 w) : Below w0.heap.size w0 w := ⟨h.os, h.tape, h.output, h.size, fun k hk => h.block k hk (by simp)⟩
theorem Kept.of_below {w0 w : World} (h : Below w0.heap.size w0 w) (F : List Nat) : Kept F w0 w := ⟨h.os, h.tape, h.output, h.size, fun k hk _ => h.block k hk⟩
theorem Kept.trans {F G : List Nat} {a b c : World} (h : Kept F a b) (k : Kept G b c) (hG : ∀ x ∈ G, x ∈ F ∨ a.heap.size ≤ x) : Kept F a c :=
  ⟨k.os.trans h.os, k.tape.trans h.tape, k.output.trans h.output, Nat.le_trans h.size k.size, fun i hi hF => (k.block i (Nat.lt_of_lt_of_le hi h.size) fun hx => by
    rcases hG i hx with h1 | h1
    · exact hF h1
    · omega).trans (h.block i hi hF)⟩
theorem Kept.mono {F G : List Nat} {a b : World} (h : Kept F a b) (hG : ∀ x ∈ F, x ∈ G) : Kept G a b := ⟨h.os, h.tape, h.output, h.size, fun k hk hn => h.block k hk fun hx => hn (hG k hx)⟩
theorem Kept.grown {w w' : World} {row : Option Nat} (h : w.grownBy w' row) : Kept row.toList w w' :=
  ⟨h.os, h.tape, h.output, h.size, fun k hk hn => h.block k hk fun e => hn (by rw [← e]; simp)⟩
theorem Kept.drew {F : List Nat} {a w : World} (h : Kept F a w) : Kept F a w.drew := ⟨h.os, h.tape, h.output, h.size, h.block⟩
theorem Kept.alloc (w : World) (o : Obj) : Kept [] w (w.alloc o) := Kept.of_below ((Below.refl _ _).alloc (Nat.le_refl _) o) _
/-- A piece of memory: a block's cells; a slice that is owned; a whole object; whatever lies in some blocks. -/
inductive Chunk where
  | row (g : Nat) (cs : List Value)
  | sl (size : Nat) (v : Value) (n : Nat) (xs : List Value)
  | blk (g : Nat) (o : Obj)
  | obj (fp : List Nat) (p : World → Prop)
def Chunk.fp : Chunk → List Nat
  | .row g _ => [g]
  | .sl _ v _ _ => v.ownBlock.toList
  | .blk g _ => [g]
  | .obj f _ => f
def Chunk.ok (w : World) : Chunk → Prop
  | .row g cs => g < w.heap.size ∧ w.rangeAt g 0 cs ∧ w.there g 0 cs.length
  | .sl size v n xs => Own w 0 size v n xs
  | .blk g o => w.heap[g]? = some o
  | .obj f p => (∀ k ∈ f, k < w.heap.size) ∧ p w ∧ ∀ w' : World, w.heap.size ≤ w'.heap.size → (∀ k ∈ f, w'.heap[k]? = w.heap[k]?) → p w'
theorem Chunk.ok.lt {w : World} {c : Chunk} (h : c.ok w) : ∀ k ∈ c.fp, k < w.heap.size := by
  intro k hk
  cases c with
  | row g cs => simp [Chunk.fp] at hk; subst hk; exact h.1
  | sl size v n xs =>
    simp only [Chunk.fp, Option.mem_toList] at hk
    exact (Own.base_le h hk).2
  | blk g o => simp [Chunk.fp] at hk; subst hk; exact (Array.getElem?_eq_some_iff.1 h).1
  | obj f p => exact h.1 k hk
theorem Chunk.ok.stay {w w' : World} {c : Chunk} (h : c.ok w) (hs : w.heap.size ≤ w'.heap.size) (hb : ∀ k ∈ c.fp, w'.heap[k]? = w.heap[k]?) : c.ok w' := by
  cases c with
  | row g cs =>
    have e := hb g (by simp [Chunk.fp])
    exact ⟨Nat.lt_of_lt_of_le h.1 hs, rangeAt_of_block h.2.1 e, there_of_block h.2.2 e⟩
  | sl size v n xs =>
    refine ⟨h.1, h.2.imp id ?_⟩
    rintro ⟨g, o, cap, rfl, hb', hlt, hn, hc, hr, ht⟩
    have e := hb g (by simp [Chunk.fp, Value.ownBlock])
    exact ⟨g, o, cap, rfl, hb', Nat.lt_of_lt_of_le hlt hs, hn, hc, rangeAt_of_block hr e, there_of_block ht e⟩
  | blk g o => exact (hb g (by simp [Chunk.fp])).trans h
  | obj f p =>
    refine ⟨fun k hk => Nat.lt_of_lt_of_le (h.1 k hk) hs, h.2.2 w' hs hb, fun w'' hs' hb' => h.2.2 w'' (Nat.le_trans hs hs') fun k hk => (hb' k hk).trans (hb k hk)⟩
/-- What one piece's owner may do: the piece turns to another one, in the same blocks or new ones. -/
structure Upd (w : World) (c : Chunk) (w' : World) (c' : Chunk) : Prop where
  kept : Kept c.fp w w'
  ok : c'.ok w'
  fp : ∀ k ∈ c'.fp, k ∈ c.fp ∨ w.heap.size ≤ k
/-- THE MEMORY: of what was there at w0 only F has turned; these pieces are known, apart from each other, and may be written. -/
structure Mem (F : List Nat) (w0 w : World) (L : List Chunk) : Prop where
  kept : Kept F w0 w
  ok : ∀ (i : Nat) (c : Chunk), L[i]? = some c → c.ok w
  own : ∀ (i : Nat) (c : Chunk), L[i]? = some c → ∀ k ∈ c.fp, k ∈ F ∨ w0.heap.size ≤ k
  nd : ∀ (i j : Nat) (c d : Chunk), i ≠ j → L[i]? = some c → L[j]? = some d → ∀ k ∈ c.fp, k ∉ d.fp
theorem Mem.start (F : List Nat) (w : World) : Mem F w w [] := ⟨Kept.refl _ _, by simp, by simp, by simp⟩
/-- With a piece that came in, and may be turned. -/
theorem Mem.start1 {w : World} {c : Chunk} (h : c.ok w) : Mem c.fp w w [c] := by
  refine ⟨Kept.refl _ _, ?_, ?_, ?_⟩
  · intro i d hd; cases i <;> simp at hd; subst hd; exact h
  · intro i d hd; cases i <;> simp at hd; subst hd; exact fun k hk => .inl hk
  · intro i j c d hij hi hj; cases i <;> cases j <;> simp at hi hj hij
theorem Mem.upd {F : List Nat} {w0 w w' : World} {L : List Chunk} (M : Mem F w0 w L) (i : Nat) {c c' : Chunk} (hi : L[i]? = some c) (U : Upd w c w' c') : Mem F w0 w' (L.set i c') := by
  have hil : i < L.length := (List.getElem?_eq_some_iff.1 hi).1
  have key : ∀ (j : Nat) (d : Chunk), j ≠ i → L[j]? = some d → d.ok w' := fun j d hj hd => by
    refine (M.ok j d hd).stay U.kept.size fun k hk => U.kept.block k ((M.ok j d hd).lt k hk) fun hx => M.nd j i d c hj hd hi k hk hx
  refine ⟨M.kept.trans U.kept fun x hx => M.own i c hi x hx, ?_, ?_, ?_⟩
  · intro j d hd
    by_cases e : j = i
    · subst e; rw [List.getElem?_set_self hil] at hd; cases hd; exact U.ok
    · rw [List.getElem?_set_ne (Ne.symm e)] at hd; exact key j d e hd
  · intro j d hd k hk
    by_cases e : j = i
    · subst e; rw [List.getElem?_set_self hil] at hd; cases hd
      rcases U.fp k hk with h | h
      · exact M.own j c hi k h
      · exact .inr (Nat.le_trans M.kept.size h)
    · rw [List.getElem?_set_ne (Ne.symm e)] at hd; exact M.own j d hd k hk
  · intro a b x y hab ha hb k hk hk2
    by_cases e : a = i
    · subst e; rw [List.getElem?_set_self hil] at ha; cases ha
      rw [List.getElem?_set_ne hab] at hb
      rcases U.fp k hk with h | h
      · exact M.nd a b c y hab hi hb k h hk2
      · have := (M.ok b y hb).lt k hk2; omega
    · rw [List.getElem?_set_ne (Ne.symm e)] at ha
      by_cases e2 : b = i
      · subst e2; rw [List.getElem?_set_self hil] at hb; cases hb
        rcases U.fp k hk2 with h | h
        · exact M.nd a b x c hab ha hi k hk h
        · have := (M.ok a x ha).lt k hk; omega
      · rw [List.getElem?_set_ne (Ne.symm e2)] at hb
        exact M.nd a b x y hab ha hb k hk hk2
theorem Mem.add {F : List Nat} {w0 w w' : World} {L : List Chunk} (M : Mem F w0 w L) (c : Chunk) (hk : Kept [] w w') (hok : c.ok w') (hfp : ∀ k ∈ c.fp, w.heap.size ≤ k) : Mem F w0 w' (c :: L) := by
  have key : ∀ (j : Nat) (d : Chunk), L[j]? = some d → d.ok w' := fun j d hd => (M.ok j d hd).stay hk.size fun k hk' => hk.block k ((M.ok j d hd).lt k hk') (by simp)
  refine ⟨M.kept.trans hk (by simp), ?_, ?_, ?_⟩
  · intro j d hd
    cases j with
    | zero => simp at hd; subst hd; exact hok
    | succ j => simp at hd; exact key j d hd
  · intro j d hd k hk'
    cases j with
    | zero => simp at hd; subst hd; exact .inr (Nat.le_trans M.kept.size (hfp k hk'))
    | succ j => simp at hd; exact M.own j d hd k hk'
  · intro a b x y hab ha hb k hk1 hk2
    cases a with
    | zero =>
      simp at ha; subst ha
      cases b with
      | zero => exact hab rfl
      | succ b => simp at hb; have := (M.ok b y hb).lt k hk2; have := hfp k hk1; omega
    | succ a =>
      simp at ha
      cases b with
      | zero => simp at hb; subst hb; have := (M.ok a x ha).lt k hk1; have := hfp k hk2; omega
      | succ b => simp at hb; exact M.nd a b x y (by omega) ha hb k hk1 hk2
/-- A call that leaves alone what was there. -/
theorem Mem.call {F : List Nat} {w0 w w' : World} {L : List Chunk} (M : Mem F w0 w L) (h : Below w.heap.size w w') : Mem F w0 w' L := by
  have hk := Kept.of_below h []
  exact ⟨M.kept.trans hk (by simp), fun j d hd => (M.ok j d hd).stay hk.size fun k hk' => hk.block k ((M.ok j d hd).lt k hk') (by simp), M.own, M.nd⟩
theorem Mem.drew {F : List Nat} {w0 w : World} {L : List Chunk} (M : Mem F w0 w L) : Mem F w0 w.drew L := ⟨M.kept.drew, fun i c h => (M.ok i c h).stay (Nat.le_refl _) (fun _ _ => rfl), M.own, M.nd⟩
/-- A piece is let go; pieces are laid in another row. -/
theorem Mem.pick {F : List Nat} {w0 w : World} {L : List Chunk} (M : Mem F w0 w L) (L' : List Chunk) (f : Nat → Nat) (hf : ∀ i j, i < L'.length → j < L'.length → f i = f j → i = j) (h : ∀ (i : Nat) (c : Chunk), L'[i]? = some c → L[f i]? = some c) : Mem F w0 w L' :=
  ⟨M.kept, fun i c hc => M.ok (f i) c (h i c hc), fun i c hc => M.own (f i) c (h i c hc), fun i j c d hij hi hj => M.nd (f i) (f j) c d (fun e => hij (hf i j (List.getElem?_eq_some_iff.1 hi).1 (List.getElem?_eq_some_iff.1 hj).1 e)) (h i c hi) (h j d hj)⟩
theorem Mem.tail {F : List Nat} {w0 w : World} {c : Chunk} {L : List Chunk} (M : Mem F w0 w (c :: L)) : Mem F w0 w L := M.pick L (· + 1) (fun _ _ _ _ h => by simpa using h) (fun i c h => by simpa using h)
theorem Mem.below {w0 w : World} {L : List Chunk} (M : Mem [] w0 w L) : Below w0.heap.size w0 w := M.kept.below
/-- A nil slice is owned by whoever wants it. -/
theorem Mem.nil {F : List Nat} {w0 w : World} {L : List Chunk} (M : Mem F w0 w L) (size : Nat) : Mem F w0 w (.sl size (.slice none 0 0) 0 [] :: L) :=
  M.add _ (Kept.refl _ _) (Own_nil _ _ _) (by simp [Chunk.fp, Value.ownBlock])
/-- What is seen outside of the blocks that may turn is seen on. -/
theorem Mem.sees {F : List Nat} {w0 w : World} {L : List Chunk} (M : Mem F w0 w L) {size : Nat} {v : Value} {n : Nat} {xs : List Value} (S : Sees w0 size v n xs) (hF : ∀ k, v.ownBlock = some k → k ∉ F) : Sees w size v n xs := by
  refine ⟨S.1, S.2.imp id ?_⟩
  rintro ⟨g, o, cap, rfl, hlt, hn, hc, hr⟩
  have e := M.kept.block g hlt (hF g rfl)
  exact ⟨g, o, cap, rfl, Nat.lt_of_lt_of_le hlt M.kept.size, hn, hc, rangeAt_of_block hr e⟩
/-- The only piece, at the end. -/
theorem Mem.upd1 {w0 w : World} {c c' : Chunk} {L : List Chunk} (M : Mem c.fp w0 w L) (i : Nat) (hi : L[i]? = some c') : Upd w0 c w c' :=
  ⟨M.kept, M.ok i c' hi, M.own i c' hi⟩
/-! ### The operations -/
def scalarT (P : Program) (t : TypeId) : Bool := match P.underlying t with | some d => !d.isRow | none => false
def rowT (P : Program) (t : TypeId) : Bool := match P.underlying t with | some d => d.isRow | none => false
theorem run_loadVar_scalar {P : Program} {t : TypeId} (h : scalarT P t = true) (w : World) (b o : Nat) (v : Value) (hv : w.cell? ⟨b, o, none⟩ = some v) : (loadVar t ⟨b, o, none⟩).run P w = .ok v w := by
  unfold scalarT at h
  cases hu : P.underlying t with
  | none => simp [hu] at h
  | some d =>
    have hagg : (isAgg t).run P w = .ok false w := by
      unfold isAgg
      rw [Sem.run_bind, run_underlying hu w]
      cases d <;> simp_all [TypeDesc.isRow]
    simp [loadVar, Sem.run_bind, hagg, Go.load, Sem.run, hv]
theorem wpW {P : Program} {ops : Array Oper} {rest : List Oper} {o : Oper} {a : Act} {w : World} {Q : Exit → Act → World → Prop} (hw : Region.wanted o (yielded ops a.tmps) = true)
    (h : ∀ K : Act → World → Prop, (∀ a w, wpList P ops Q rest a w → K a w) → o.wp P a w K Q) : wpList P ops Q (o :: rest) a w :=
  wpList_want hw (h _ fun _ _ h => h)
section
variable {P : Program} {ops : Array Oper} {rest : List Oper} {o : Oper} {a : Act} {w w0 : World} {Q : Exit → Act → World → Prop} {F : List Nat} {L : List Chunk}
theorem Mem.cellAt (M : Mem F w0 w L) (i : Nat) {g : Nat} {cs : List Value} (hi : L[i]? = some (.row g cs)) {off : Nat} {v : Value} (hv : cs[off]? = some v) : w.cell? ⟨g, off, none⟩ = some v := by
  have := (M.ok i _ hi).2.1 off v hv
  rwa [Nat.zero_add] at this
/-- A load of one cell. -/
theorem w_load (M : Mem F w0 w L) (i : Nat) (t : TypeId) (x : Operand) (ho : o.op = .load t x) {g off : Nat} {cs : List Value} (hi : L[i]? = some (.row g cs)) (hx : a.eval x = .pointer (some ⟨g, off, none⟩)) (hw : Region.wanted o (yielded ops a.tmps) = true)
    (ht : scalarT P t = true) {v : Value} (hv : cs[off]? = some v) (h : wpList P ops Q rest (a.put o.dst v) w) : wpList P ops Q (o :: rest) a w :=
  wpW hw fun _ hK => by
    unfold Oper.wp execOp
    simp only [ho, hx, Instr.loadAt, Instr.sureAddr, Sem.run_bind, Sem.run_pure, Result.andThen_ok, run_loadVar_scalar ht w g off v (M.cellAt i hi hv)]
    exact hK _ _ h
/-- A load of a struct or an array that lies in the midst of a row. -/
theorem w_loadA (M : Mem F w0 w L) (i : Nat) (t : TypeId) (x : Operand) (ho : o.op = .load t x) {g off : Nat} {cs : List Value} (hi : L[i]? = some (.row g cs)) (hx : a.eval x = .pointer (some ⟨g, off, none⟩)) (hw : Region.wanted o (yielded ops a.tmps) = true)
    (ht : rowT P t = true) (pre mid post : List Value) (hcs : cs = pre ++ (mid ++ post)) (hpre : pre.length = off) (hn : (P.info? t).map (·.size) = some mid.length) (h : wpList P ops Q rest (a.put o.dst (.agg mid.toArray)) w) : wpList P ops Q (o :: rest) a w :=
  wpW hw fun _ hK => by
    unfold rowT at ht
    cases hu : P.underlying t with
    | none => simp [hu] at ht
    | some d =>
      simp only [hu] at ht
      refine wp_load_mid t x ho g off hx mid d ?_ hu ht hn (hK _ _ h)
      intro j v hv
      refine M.cellAt i hi ?_
      have hj : j < mid.length := (List.getElem?_eq_some_iff.1 hv).1
      rw [hcs, ← hpre, List.getElem?_append_right (by omega), Nat.add_sub_cancel_left, List.getElem?_append_left hj]; exact hv
/-- The whole of a row. -/
theorem w_loadR (M : Mem F w0 w L) (i : Nat) (t : TypeId) (x : Operand) (ho : o.op = .load t x) {g : Nat} {cs : List Value} (hi : L[i]? = some (.row g cs)) (hx : a.eval x = .pointer (some ⟨g, 0, none⟩)) (hw : Region.wanted o (yielded ops a.tmps) = true)
    (ht : rowT P t = true) (hn : (P.info? t).map (·.size) = some cs.length) (h : wpList P ops Q rest (a.put o.dst (.agg cs.toArray)) w) : wpList P ops Q (o :: rest) a w :=
  w_loadA M i t x ho hi hx hw ht [] cs [] (by simp) rfl hn h
/-- Cells are written. -/
theorem upd_setCells {g : Nat} {cs : List Value} (h : (Chunk.row g cs).ok w) (pre mid post new : List Value) (hcs : cs = pre ++ (mid ++ post)) (hnew : new.length = mid.length) :
    Upd w (.row g cs) (w.setCells g pre.length new) (.row g (pre ++ (new ++ post))) := by
  refine ⟨Kept.grown (grownBy_setCells w g pre.length new), ⟨by rw [size_setCells]; exact h.1, ?_, ?_⟩, fun k hk => .inl hk⟩
  · have hth := h.2.2
    rw [hcs] at hth
    have hr := h.2.1
    rw [hcs] at hr
    refine rangeAt_append ?_ (rangeAt_append ?_ ?_)
    · refine World.rangeAt_setCells_apart ?_ _ _ _ (.inr (.inl (by omega)))
      have := rangeAt_take hr pre.length
      rwa [List.take_left'  rfl] at this
    · rw [Nat.zero_add]
      refine World.rangeAt_setCells_same _ _ _ _ ?_
      have := there_drop hth pre.length
      rw [Nat.zero_add] at this
      exact there_mono this (by simp; omega)
    · refine World.rangeAt_setCells_apart ?_ _ _ _ (.inr (.inr (by omega)))
      have := rangeAt_drop hr (pre.length + mid.length)
      rw [← List.append_assoc, List.drop_left' (by simp)] at this
      rw [hnew, Nat.add_assoc]; exact this
  · have := h.2.2
    rw [hcs] at this
    refine World.there_setCells (there_mono this ?_) _ _ _
    simp; omega
theorem setCells_one (w : World) (g o : Nat) (v : Value) : w.setCells g o [v] = w.setCell ⟨g, o, none⟩ v := by simp [World.setCells]
theorem upd_setCell {g off : Nat} {cs : List Value} (h : (Chunk.row g cs).ok w) (hlt : off < cs.length) (v : Value) : Upd w (.row g cs) (w.setCell ⟨g, off, none⟩ v) (.row g (cs.set off v)) := by
  have := upd_setCells h (cs.take off) [cs[off]] (cs.drop (off + 1)) [v] (by simp) rfl
  rw [List.length_take, Nat.min_eq_left (by omega), setCells_one] at this
  rwa [List.set_eq_take_append_cons_drop, if_pos hlt]
/-- A store of one cell. -/
theorem w_store (M : Mem F w0 w L) (i : Nat) (t : TypeId) (x y : Operand) (ho : o.op = .store t x y) {g off : Nat} {cs : List Value} (hi : L[i]? = some (.row g cs)) (hx : a.eval x = .pointer (some ⟨g, off, none⟩)) (hw : Region.wanted o (yielded ops a.tmps) = true)
    {v : Value} (hy : a.eval y = v) (h1 : v.oneCell' = true) (hc : v.cells = #[v]) (hn : (P.info? t).map (·.size) = some 1) (hlt : off < cs.length)
    (h : ∀ w' : World, Mem F w0 w' (L.set i (.row g (cs.set off v))) → wpList P ops Q rest (a.put o.dst undef) w') : wpList P ops Q (o :: rest) a w :=
  wpW hw fun _ hK => by
    have hok := M.ok i _ hi
    have hst := run_storeCells_mid (P := P) (w := w) (g := g) (o := off) [v] (by have := there_drop hok.2.2 off; rw [Nat.zero_add] at this; exact there_mono this (by simp; omega)) (by simpa using h1)
    cases hq : P.info? t with
    | none => simp [hq] at hn
    | some inf =>
      have hs : inf.size = 1 := by simpa [hq] using hn
      unfold Oper.wp execOp
      simp only [ho, hx, hy, Instr.storeAt, Instr.sureAddr, storeVar, Sem.run_bind, Sem.run_pure, Result.andThen_ok, sizeOf, typeInfo, run_program, hq, hs, hc]
      simp only [List.size_toArray, List.length_cons, List.length_nil, Nat.zero_add, ne_eq, not_true_eq_false, if_false, hst, Result.andThen_ok]
      rw [setCells_one]
      exact hK _ _ (h _ (M.upd i hi (upd_setCell hok hlt v)))
/-- A store of a struct or an array. -/
theorem w_storeA (M : Mem F w0 w L) (i : Nat) (t : TypeId) (x y : Operand) (ho : o.op = .store t x y) {g off : Nat} {cs : List Value} (hi : L[i]? = some (.row g cs)) (hx : a.eval x = .pointer (some ⟨g, off, none⟩)) (hw : Region.wanted o (yielded ops a.tmps) = true)
    {C : Array Value} (new : List Value) (hy : a.eval y = .agg C) (hC : C = new.toArray) (hn : (P.info? t).map (·.size) = some new.length) (h1 : ∀ v ∈ new, v.oneCell' = true) (pre mid post : List Value) (hcs : cs = pre ++ (mid ++ post)) (hpre : pre.length = off) (hmid : new.length = mid.length)
    (h : ∀ w' : World, Mem F w0 w' (L.set i (.row g (pre ++ (new ++ post)))) → wpList P ops Q rest (a.put o.dst undef) w') : wpList P ops Q (o :: rest) a w :=
  wpW hw fun _ hK => by
    subst hC
    have hok := M.ok i _ hi
    have hth := hok.2.2
    rw [hcs] at hth
    refine wp_store_mid t x y ho g off new.toArray hx hy ?_ (by simpa using hn) (all_oneCell_toArray h1) (hK _ _ (h _ ?_))
    · have := there_drop hth off
      rw [Nat.zero_add] at this
      exact there_mono this (by simp; omega)
    · have := M.upd i hi (upd_setCells hok pre mid post new hcs hmid)
      rw [hpre] at this
      simpa using this
/-- The whole of a row is stored. -/
theorem w_storeR (M : Mem F w0 w L) (i : Nat) (t : TypeId) (x y : Operand) (ho : o.op = .store t x y) {g : Nat} {cs : List Value} (hi : L[i]? = some (.row g cs)) (hx : a.eval x = .pointer (some ⟨g, 0, none⟩)) (hw : Region.wanted o (yielded ops a.tmps) = true)
    {C : Array Value} (new : List Value) (hy : a.eval y = .agg C) (hC : C = new.toArray) (hn : (P.info? t).map (·.size) = some new.length) (h1 : ∀ v ∈ new, v.oneCell' = true) (hl : new.length = cs.length)
    (h : ∀ w' : World, Mem F w0 w' (L.set i (.row g new)) → wpList P ops Q rest (a.put o.dst undef) w') : wpList P ops Q (o :: rest) a w :=
  w_storeA M i t x y ho hi hx hw new hy hC hn h1 [] cs [] (by simp) rfl hl (fun w' M' => h w' (by simpa using M'))
theorem new_row (w : World) (C : Array Value) (t : TypeId) : (Chunk.row w.heap.size C.toList).ok (w.alloc (.cells C t)) :=
  ⟨by simp, rangeAt_new w C t (0, 0), there_new w C t _ (by simp)⟩
theorem Mem.alloc (M : Mem F w0 w L) (C : Array Value) (t : TypeId) : Mem F w0 (w.alloc (.cells C t)) (.row w.heap.size C.toList :: L) :=
  M.add _ (Kept.alloc _ _) (new_row w C t) (by simp [Chunk.fp])
/-- A new variable. -/
theorem w_alloc (M : Mem F w0 w L) (t : TypeId) (ho : o.op = .alloc t) (hw : Region.wanted o (yielded ops a.tmps) = true) (z : Value) (cs : List Value) (hz : (P.info? t).bind (·.zero) = some z) (hc : z.cells = cs.toArray)
    (h : ∀ (g : Nat) (w' : World), Mem F w0 w' (.row g cs :: L) → wpList P ops Q rest (a.put o.dst (.pointer (some ⟨g, 0, none⟩))) w') : wpList P ops Q (o :: rest) a w :=
  wpW hw fun _ hK => by
    cases hq : P.info? t with
    | none => simp [hq] at hz
    | some inf =>
      have hzz : inf.zero = some z := by simpa [hq] using hz
      have hr : (Instr.alloc t true (.tuple #[])).run P w = .ok (.pointer (some ⟨w.heap.size, 0, none⟩)) (w.alloc (.cells z.cells t)) := by
        simp only [Instr.alloc, zeroValue, typeInfo, Sem.run_bind, run_program, hq, Sem.run_pure, Result.andThen_ok, hzz]; rfl
      unfold Oper.wp execOp
      simp only [ho, Sem.run_bind, hr, Result.andThen_ok]
      exact hK _ _ (h _ _ (by have := M.alloc z.cells t; rw [hc] at this ⊢; exact this))
/-- A value is boxed. -/
theorem w_box (M : Mem F w0 w L) (t : TypeId) (x : Operand) (ho : o.op = .box t x) (hw : Region.wanted o (yielded ops a.tmps) = true) (v : Value) (hx : a.eval x = v) (cs : List Value) (hc : v.cells = cs.toArray)
    (h : ∀ (g : Nat) (w' : World), Mem F w0 w' (.row g cs :: L) → wpList P ops Q rest (a.put o.dst (.pointer (some ⟨g, 0, none⟩))) w') : wpList P ops Q (o :: rest) a w :=
  wpW hw fun _ hK => by
    have hr : (Instr.box t v).run P w = .ok (.pointer (some ⟨w.heap.size, 0, none⟩)) (w.alloc (.cells v.cells t)) := rfl
    unfold Oper.wp execOp
    simp only [ho, hx, Sem.run_bind, hr, Result.andThen_ok]
    exact hK _ _ (h _ _ (by have := M.alloc v.cells t; rw [hc] at this ⊢; exact this))
/-- A slice literal. -/
theorem w_buildSlice (M : Mem F w0 w L) {t e : TypeId} {size bytes : Nat} (T : SliceT P t e size bytes) (len : Nat) (parts : Array (Nat × Operand)) (ho : o.op = .buildSlice t len parts) (hw : Region.wanted o (yielded ops a.tmps) = true) (hlen : 0 < len ∧ len * size ≤ 16777216) (z : Value) (hz : (P.info? e).bind (·.zero) = some z) (cs : List Value)
    (hf : Instr.fill (fun i => some (i * size, size)) ((Array.range (len * size)).map (z.cells[· % z.cells.size]!)) (parts.map fun (i, x) => (i, a.eval x)).toList = some cs.toArray)
    (h : ∀ (g : Nat) (w' : World), Mem F w0 w' (.row g cs :: L) → wpList P ops Q rest (a.put o.dst (.slice (some ⟨g, 0, none⟩) len len)) w') : wpList P ops Q (o :: rest) a w :=
  wpW hw fun _ hK => by
    obtain ⟨ht, ⟨i, z', hi, hz', hsize, hby, hzs⟩, hsz⟩ := T
    have ez : z' = z := by simpa [hi, hz'] using hz
    subst ez hsize
    have hr := run_buildSlice (P := P) w t e len _ cs.toArray i z' ht hi hz' (by omega) (by have := Nat.mul_pos hlen.1 hsz; omega) hf
    unfold Oper.wp execOp
    simp only [ho, Sem.run_bind, hr, Result.andThen_ok]
    exact hK _ _ (h _ _ (M.alloc cs.toArray e))
theorem foldl_set (l : List Value) : ∀ (k : Nat) (C : Array Value), k + l.length ≤ C.size → ((l.zipIdx k).foldl (fun cs x => cs.setIfInBounds x.2 x.1) C).toList = C.toList.take k ++ l ++ C.toList.drop (k + l.length) := by
  induction l with
  | nil => intro k C h; simp
  | cons v r ih =>
    intro k C h
    simp only [List.length_cons] at h
    rw [List.zipIdx_cons, List.foldl_cons, ih (k + 1) _ (by simp; omega)]
    have hk : k < C.toList.length := by simpa using (by omega : k < C.size)
    rw [Array.toList_setIfInBounds, List.take_set, List.take_succ_eq_append_getElem hk, List.drop_set_of_lt (by omega), List.set_append_right _ _ (by simp; omega)]
    simp only [List.length_take, Nat.min_eq_left (Nat.le_of_lt hk), Nat.sub_self, List.set_cons_zero, List.length_cons]
    rw [show k + 1 + r.length = k + (r.length + 1) by omega]
    simp
theorem fill_one (size : Nat) (C : Array Value) (hC : C.size = size) (v : Value) (hv : v.cells.size = size) : Instr.fill (fun i => some (i * size, size)) C [(0, v)] = some v.cells := by
  have e := foldl_set v.cells.toList 0 C (by simp [hC, hv])
  have e2 : (v.cells.zipIdx.foldl (fun cs x => cs.setIfInBounds (0 * size + x.2) x.1) C) = v.cells := by
    apply Array.ext'
    rw [← Array.foldl_toList]
    simp only [Nat.zero_mul, Nat.zero_add, Array.toList_zipIdx]
    rw [e]
    simp [hv, hC]
  simp only [Instr.fill, Nat.zero_mul, Nat.zero_add, hv, hC]
  simp only [Nat.zero_mul, Nat.zero_add] at e2
  have hz : v.cells.size = v.cells.zipIdx.size := by simp
  simp
  rw [hz]
  exact e2
/-- A slice literal of one element. -/
theorem w_buildSlice1 (M : Mem F w0 w L) {t e : TypeId} {size bytes : Nat} (T : SliceT P t e size bytes) (hsm : size ≤ 1000) (x : Operand) (ho : o.op = .buildSlice t 1 #[(0, x)]) (hw : Region.wanted o (yielded ops a.tmps) = true) {v : Value} (hx : a.eval x = v) (cs : List Value) (hc : v.cells = cs.toArray) (hcs : cs.length = size)
    (h : ∀ (g : Nat) (w' : World), Mem F w0 w' (.row g cs :: L) → wpList P ops Q rest (a.put o.dst (.slice (some ⟨g, 0, none⟩) 1 1)) w') : wpList P ops Q (o :: rest) a w := by
  have T' := T
  obtain ⟨ht, ⟨i, z', hi, hz', hsize, hby, hzs⟩, hsz⟩ := T'
  refine w_buildSlice M T 1 _ ho hw ⟨by omega, by omega⟩ z' (by simp [hi, hz']) cs ?_ h
  have := fill_one size ((Array.range (1 * size)).map (z'.cells[· % z'.cells.size]!)) (by simp) v (by rw [hc]; simpa using hcs)
  rw [hc] at this
  subst hx
  simpa using this
theorem Own.form0 {base size : Nat} {v : Value} {n : Nat} {xs : List Value} (h : Own w base size v n xs) : ∃ a cap, v = .slice a n cap := by
  obtain ⟨a, c, e, _⟩ := h.sees.form; exact ⟨a, c, e⟩
/-- append of what is read at another place. -/
theorem w_append (M : Mem F w0 w L) (i : Nat) {t e : TypeId} {size bytes : Nat} (T : SliceT P t e size bytes) (s x : Operand) (u : TypeId) (ho : o.op = .call { callee := .builtin .append, args := #[s, x], argTypes := #[t, u] }) (hu : P.underlying u = some .string ∨ ∃ e', P.underlying u = some (.slice e'))
    (hw : Region.wanted o (yielded ops a.tmps) = true) {v : Value} {n : Nat} {xs : List Value} (hi : L[i]? = some (.sl size v n xs)) (hs : a.eval s = v) {xv : Value} (hx : a.eval x = xv) (m : Nat) (news : List Value) (hsrc : Src P w size xv m news)
    (h63 : n + m ≤ maxLen) (hbytes : (n + m) * bytes ≤ 140737488355328)
    (h : ∀ (p : Option Addr) (cap : Nat) (w' : World), Mem F w0 w' (L.set i (.sl size (.slice p (n + m) cap) (n + m) (xs ++ news))) → wpList P ops Q rest (a.put o.dst (.slice p (n + m) cap)) w') : wpList P ops Q (o :: rest) a w :=
  wpW hw fun _ hK => by
    refine wp_append T s x u ho hu 0 v n xs hs (M.ok i _ hi) xv m news hx hsrc h63 hbytes (Nat.zero_le _) ?_
    intro v' w' hown hg hb _
    obtain ⟨p, cap, rfl⟩ := hown.form0
    refine hK _ _ (h p cap w' (M.upd i hi ⟨Kept.grown hg, hown, fun k hk => ?_⟩))
    simp only [Chunk.fp, Option.mem_toList] at hk ⊢
    rcases hb with hb | hb
    · exact .inl (hb ▸ hk)
    · rw [hb] at hk; cases hk; exact .inr (Nat.le_refl _)
/-- append of elements that were laid into a row of their own just ahead. -/
theorem w_append_new {g : Nat} {news : List Value} (M : Mem F w0 w (.row g news :: L)) (i : Nat) {t e : TypeId} {size bytes : Nat} (T : SliceT P t e size bytes) (s x : Operand) (ho : o.op = .call { callee := .builtin .append, args := #[s, x], argTypes := #[t, t] })
    (hw : Region.wanted o (yielded ops a.tmps) = true) {v : Value} {n : Nat} {xs : List Value} (hi : L[i]? = some (.sl size v n xs)) (hs : a.eval s = v) {m : Nat} (hx : a.eval x = .slice (some ⟨g, 0, none⟩) m m) (hm : news.length = m * size) (h1 : ∀ q ∈ news, q.oneCell' = true)
    (hmm : m ≤ 1000000) (h63 : n + m ≤ maxLen) (hbytes : (n + m) * bytes ≤ 140737488355328)
    (h : ∀ (p : Option Addr) (cap : Nat) (w' : World), Mem F w0 w' (L.set i (.sl size (.slice p (n + m) cap) (n + m) (xs ++ news))) → wpList P ops Q rest (a.put o.dst (.slice p (n + m) cap)) w') : wpList P ops Q (o :: rest) a w := by
  have hok := M.ok 0 _ rfl
  refine w_append M.tail i T s x t ho (.inr ⟨e, T.ht⟩) hw hi hs hx m news (Src_of_sees ⟨hm, .inr ⟨g, 0, m, rfl, hok.1, Nat.le_refl _, by simp only [maxLen]; omega, hok.2.1⟩⟩ h1) h63 hbytes h
/-- string(b), b owned. -/
theorem w_string (M : Mem F w0 w L) (i : Nat) (src dst e : TypeId) (x : Operand) (ho : o.op = .convert src dst x) (hw : Region.wanted o (yielded ops a.tmps) = true) {v : Value} {l : List UInt8} {n : Nat} (hi : L[i]? = some (.sl 1 v n (bs l))) (hn : n = l.length) (hx : a.eval x = v)
    (hs : P.underlying src = some (.slice e)) (he : P.underlying e = some (.int .u8)) (hd : P.underlying dst = some .string)
    (h : wpList P ops Q rest (a.put o.dst (.string (mkS l))) w) : wpList P ops Q (o :: rest) a w :=
  wpW hw fun _ hK => by
    subst hn
    have hr := SeesB.run_string (P := P) (l := l) (Own.sees (M.ok i _ hi)) src dst e hs he hd w (grownBy_refl _ _)
    unfold Oper.wp execOp
    simp only [ho, hx, Sem.run_bind, hr, Result.andThen_ok]
    exact hK _ _ h
theorem row_sees {g off n cap : Nat} {l : List UInt8} (h : (Chunk.row g (bs l)).ok w) (ho : off + n ≤ l.length) (hc : n ≤ cap) (hm : cap ≤ maxLen) : SeesB w (.slice (some ⟨g, off, none⟩) n cap) ((l.drop off).take n) := by
  have hl : ((l.drop off).take n).length = n := by simp; omega
  refine ⟨by simp, .inr ⟨g, off, cap, by rw [hl], h.1, by omega, hm, ?_⟩⟩
  have := rangeAt_take (rangeAt_drop h.2.1 off) n
  rw [Nat.zero_add] at this
  rwa [List.map_take, List.map_drop]
/-- string(a[i:k]), a an array. -/
theorem w_stringR (M : Mem F w0 w L) (i : Nat) (src dst e : TypeId) (x : Operand) (ho : o.op = .convert src dst x) (hw : Region.wanted o (yielded ops a.tmps) = true) {g : Nat} {l : List UInt8} (hi : L[i]? = some (.row g (bs l))) {off n cap : Nat} (hx : a.eval x = .slice (some ⟨g, off, none⟩) n cap)
    (hb : off + n ≤ l.length) (hc : n ≤ cap) (hm : cap ≤ maxLen) (hs : P.underlying src = some (.slice e)) (he : P.underlying e = some (.int .u8)) (hd : P.underlying dst = some .string)
    (h : wpList P ops Q rest (a.put o.dst (.string (mkS ((l.drop off).take n)))) w) : wpList P ops Q (o :: rest) a w :=
  wpW hw fun _ hK => by
    have hr := SeesB.run_string (P := P) (row_sees (M.ok i _ hi) hb hc hm) src dst e hs he hd w (grownBy_refl _ _)
    unfold Oper.wp execOp
    simp only [ho, hx, Sem.run_bind, hr, Result.andThen_ok]
    exact hK _ _ h
/-- string(a[:]), a an array. -/
theorem w_stringW (M : Mem F w0 w L) (i : Nat) (src dst e : TypeId) (x : Operand) (ho : o.op = .convert src dst x) (hw : Region.wanted o (yielded ops a.tmps) = true) {g : Nat} {l : List UInt8} (hi : L[i]? = some (.row g (bs l))) {n : Nat} (hx : a.eval x = .slice (some ⟨g, 0, none⟩) n n)
    (hb : l.length = n) (hm : n ≤ maxLen) (hs : P.underlying src = some (.slice e)) (he : P.underlying e = some (.int .u8)) (hd : P.underlying dst = some .string)
    (h : wpList P ops Q rest (a.put o.dst (.string (mkS l))) w) : wpList P ops Q (o :: rest) a w :=
  w_stringR M i src dst e x ho hw hi hx (by omega) (Nat.le_refl _) hm hs he hd (by rw [List.drop_zero, List.take_of_length_le (by omega)]; exact h)
/-- copy into an array's cells. -/
theorem w_copy (M : Mem F w0 w L) (i : Nat) {t e : TypeId} {size bytes : Nat} (T : SliceT P t e size bytes) (d x : Operand) (u : TypeId) (ho : o.op = .call { callee := .builtin .copy, args := #[d, x], argTypes := #[t, u] }) (hw : Region.wanted o (yielded ops a.tmps) = true)
    {g off dl dc : Nat} {cs : List Value} (hi : L[i]? = some (.row g cs)) (hd : a.eval d = .slice (some ⟨g, off, none⟩) dl dc) {xv : Value} (hx : a.eval x = xv) (m : Nat) (news : List Value) (hsrc : Src P w size xv m news)
    (k : Nat) (hk : k = Nat.min m dl) (hlen : off + k * size ≤ cs.length)
    (h : ∀ w' : World, Mem F w0 w' (L.set i (.row g (cs.take off ++ (news.take (k * size) ++ cs.drop (off + k * size))))) → wpList P ops Q rest (a.put o.dst (.int .i64 k)) w') : wpList P ops Q (o :: rest) a w :=
  wpW hw fun _ hK => by
    have hok := M.ok i _ hi
    have hth := there_drop hok.2.2 off
    rw [Nat.zero_add] at hth
    have hr := run_copy_any (P := P) (w := w) T u o.type g off dl dc xv m news hsrc k hk (there_mono hth (by omega))
    unfold Oper.wp execOp
    simp only [ho, resolve, invoke, builtin, Sem.run_bind, Sem.run_pure, Result.andThen_ok, List.map_toArray, List.map_cons, List.map_nil, hd, hx, hr]
    have hkm : k ≤ m := by rw [hk]; exact Nat.min_le_left _ _
    have hl : (news.take (k * size)).length = k * size := by
      rw [List.length_take, hsrc.1]; exact Nat.min_eq_left (Nat.mul_le_mul_right _ hkm)
    have U := upd_setCells hok (cs.take off) ((cs.drop off).take (k * size)) (cs.drop (off + k * size)) (news.take (k * size)) (by rw [← List.drop_drop, List.take_append_drop, List.take_append_drop]) (by rw [hl, List.length_take, List.length_drop, Nat.min_eq_left (by omega)])
    rw [List.length_take, Nat.min_eq_left (by omega)] at U
    exact hK _ _ (h _ (M.upd i hi U))
/-- A guard that is not decided yet. -/
theorem w_guard {dst : Option Tmp} {op : Op} {ty : TypeId} {pos : String} {after : Array Edge} {j : Nat} {want b : Bool} (hb : yielded ops a.tmps j = some b)
    (h1 : b = want → wpList P ops Q (Oper.mk dst op ty pos after none :: rest) a w) (h2 : b = (!want) → wpList P ops Q rest (a.put dst undef) w) : wpList P ops Q (Oper.mk dst op ty pos after (some (j, want)) :: rest) a w := by
  by_cases e : b = want
  · have h := h1 e
    unfold wpList at h ⊢
    rw [if_pos (by simp [Region.wanted])] at h
    rw [if_pos (by simp [Region.wanted, hb, e])]
    exact h
  · have h := h2 (by cases b <;> cases want <;> simp_all)
    unfold wpList
    rw [if_neg (by simp [Region.wanted, hb, e])]
    exact h
end
end TL
end Go
namespace Go
namespace TL
open Go.RowKit
section
variable {P : Program} {ops : Array Oper} {rest : List Oper} {o : Oper} {a : Act} {w w0 : World} {Q : Exit → Act → World → Prop} {F : List Nat} {L : List Chunk}
theorem getD_some {l : List UInt8} {i : Nat} (h : i < l.length) : (bs l)[i]? = some (.int .u8 (I8 (l.getD i 0))) := by
  rw [bs, List.getElem?_map, List.getD_eq_getElem?_getD, List.getElem?_eq_getElem h]; rfl
/-- A byte of an array. -/
theorem w_loadB (M : Mem F w0 w L) (i : Nat) (t : TypeId) (x : Operand) (ho : o.op = .load t x) {g off : Nat} {l : List UInt8} (hi : L[i]? = some (.row g (bs l))) (hx : a.eval x = .pointer (some ⟨g, off, none⟩)) (hw : Region.wanted o (yielded ops a.tmps) = true)
    (ht : scalarT P t = true) (hlt : off < l.length) (h : wpList P ops Q rest (a.put o.dst (.int .u8 (I8 (l.getD off 0)))) w) : wpList P ops Q (o :: rest) a w :=
  w_load M i t x ho hi hx hw ht (getD_some hlt) h
/-- A whole array of bytes. -/
theorem w_loadH (M : Mem F w0 w L) (i : Nat) (t : TypeId) (x : Operand) (ho : o.op = .load t x) {g : Nat} {l : List UInt8} (hi : L[i]? = some (.row g (bs l))) (hx : a.eval x = .pointer (some ⟨g, 0, none⟩)) (hw : Region.wanted o (yielded ops a.tmps) = true)
    (ht : rowT P t = true) {n : Nat} (hl : l.length = n) (hn : (P.info? t).map (·.size) = some n) (h : wpList P ops Q rest (a.put o.dst (.agg (bs l).toArray)) w) : wpList P ops Q (o :: rest) a w :=
  w_loadR M i t x ho hi hx hw ht (by rw [bs_length, hl]; exact hn) h
theorem w_storeB (M : Mem F w0 w L) (i : Nat) (t : TypeId) (x y : Operand) (ho : o.op = .store t x y) {g off : Nat} {l : List UInt8} (hi : L[i]? = some (.row g (bs l))) (hx : a.eval x = .pointer (some ⟨g, off, none⟩)) (hw : Region.wanted o (yielded ops a.tmps) = true)
    {b : UInt8} (hy : a.eval y = .int .u8 (I8 b)) (hn : (P.info? t).map (·.size) = some 1) (hlt : off < l.length)
    (h : ∀ w' : World, Mem F w0 w' (L.set i (.row g (bs (l.set off b)))) → wpList P ops Q rest (a.put o.dst undef) w') : wpList P ops Q (o :: rest) a w :=
  w_store M i t x y ho hi hx hw hy rfl rfl hn (by rw [bs_length]; exact hlt) (fun w' M' => h w' (by rw [bs_set]; exact M'))
theorem w_storeH (M : Mem F w0 w L) (i : Nat) (t : TypeId) (x y : Operand) (ho : o.op = .store t x y) {g : Nat} {l : List UInt8} (hi : L[i]? = some (.row g (bs l))) (hx : a.eval x = .pointer (some ⟨g, 0, none⟩)) (hw : Region.wanted o (yielded ops a.tmps) = true)
    {m : List UInt8} (hy : a.eval y = .agg (m.map vb).toArray) {n : Nat} (hm : m.length = n) (hn : (P.info? t).map (·.size) = some n) (hl : l.length = n)
    (h : ∀ w' : World, Mem F w0 w' (L.set i (.row g (bs m))) → wpList P ops Q rest (a.put o.dst undef) w') : wpList P ops Q (o :: rest) a w :=
  w_storeR M i t x y ho hi hx hw (bs m) hy rfl (by rw [bs_length, hm]; exact hn) (bs_one _) (by simp [bs_length, hm, hl]) h
theorem w_strip {dst : Option Tmp} {op : Op} {ty : TypeId} {pos : String} {after : Array Edge} {j : Nat} {want b : Bool} (hb : yielded ops a.tmps j = some b) (hl : b = want)
    (h : wpList P ops Q (Oper.mk dst op ty pos after none :: rest) a w) : wpList P ops Q (Oper.mk dst op ty pos after (some (j, want)) :: rest) a w := by
  subst hl
  unfold wpList at h ⊢
  rw [if_pos (by simp [Region.wanted])] at h
  rw [if_pos (by simp [Region.wanted, hb])]
  exact h
theorem w_lit {dst : Option Tmp} {op : Op} {ty : TypeId} {pos : String} {after : Array Edge} {j : Nat} {want b : Bool} (c : Bool) (_hb : yielded ops a.tmps j = some b) (_hl : b = c)
    (h : wpList P ops Q (Oper.mk dst op ty pos after (some (j, want)) :: rest) a w) : wpList P ops Q (Oper.mk dst op ty pos after (some (j, want)) :: rest) a w := h
theorem w_case {dst : Option Tmp} {op : Op} {ty : TypeId} {pos : String} {after : Array Edge} {j : Nat} {want b : Bool} (_hb : yielded ops a.tmps j = some b)
    (h1 : b = true → wpList P ops Q (Oper.mk dst op ty pos after (some (j, want)) :: rest) a w) (h0 : b = false → wpList P ops Q (Oper.mk dst op ty pos after (some (j, want)) :: rest) a w) : wpList P ops Q (Oper.mk dst op ty pos after (some (j, want)) :: rest) a w := by
  cases b
  · exact h0 rfl
  · exact h1 rfl
end
end TL
end Go
namespace Go
namespace TL
/-! ### The next operation's shape: a law that fits it alone -/
section
variable {P : Program} {ops : Array Oper} {rest : List Oper} {a : Act} {w : World} {Q : Exit → Act → World → Prop} {dst : Option Tmp} {ty : TypeId} {pos : String} {after : Array Edge} {g : Option (Nat × Bool)}
theorem tLoad {t : TypeId} {x : Operand} (h : wpList P ops Q (Oper.mk dst (.load t x) ty pos after g :: rest) a w) : wpList P ops Q (Oper.mk dst (.load t x) ty pos after g :: rest) a w := h
theorem tStore {t : TypeId} {x y : Operand} (h : wpList P ops Q (Oper.mk dst (.store t x y) ty pos after g :: rest) a w) : wpList P ops Q (Oper.mk dst (.store t x y) ty pos after g :: rest) a w := h
theorem tApp {x : Array Operand} {t : Array TypeId} (h : wpList P ops Q (Oper.mk dst (.call ⟨.builtin .append, x, t⟩) ty pos after g :: rest) a w) : wpList P ops Q (Oper.mk dst (.call ⟨.builtin .append, x, t⟩) ty pos after g :: rest) a w := h
theorem tBox (dst : Option Tmp) {t : TypeId} {x : Operand} (h : wpList P ops Q (Oper.mk dst (.box t x) ty pos after g :: rest) a w) : wpList P ops Q (Oper.mk dst (.box t x) ty pos after g :: rest) a w := h
theorem tAlloc (dst : Option Tmp) (t : TypeId) (h : wpList P ops Q (Oper.mk dst (.alloc t) ty pos after g :: rest) a w) : wpList P ops Q (Oper.mk dst (.alloc t) ty pos after g :: rest) a w := h
theorem tConv (dst : Option Tmp) (s t : TypeId) {x : Operand} (h : wpList P ops Q (Oper.mk dst (.convert s t x) ty pos after g :: rest) a w) : wpList P ops Q (Oper.mk dst (.convert s t x) ty pos after g :: rest) a w := h
theorem tGuard {op : Op} {q : Nat × Bool} (h : wpList P ops Q (Oper.mk dst op ty pos after (some q) :: rest) a w) : wpList P ops Q (Oper.mk dst op ty pos after (some q) :: rest) a w := h
theorem apS {l : List Value} {d : List Deferred} {k : Nat} {v : Value} : Act.put ⟨l.toArray, d⟩ (some k) v = ⟨(l.set k v).toArray, d⟩ ∧ ∀ a : Act, Act.put a none v = a := ⟨by simp [Act.put], fun _ => rfl⟩
end
theorem ev_tmp {l : List Value} {d : List Deferred} {n : Nat} {v : Value} (h : l[n]? = some v) : Act.eval ⟨l.toArray, d⟩ (.tmp n) = v := by
  simp [Act.eval, h]
theorem ev_const {a : Act} {v : Value} : a.eval (.const v) = v := rfl
theorem w_at {P : Program} {ops : Array Oper} {rest : List Oper} {o : Oper} {a : Act} {w : World} {Q : Exit → Act → World → Prop} (t : TypeId) (x : Operand) (_ho : o.op = .load t x) {v : Value} (hx : a.eval x = v)
    (h : a.eval x = v → wpList P ops Q (o :: rest) a w) : wpList P ops Q (o :: rest) a w := h hx
theorem w_at2 {P : Program} {ops : Array Oper} {rest : List Oper} {o : Oper} {a : Act} {w : World} {Q : Exit → Act → World → Prop} (t : TypeId) (x y : Operand) (_ho : o.op = .store t x y) {v u : Value} (hx : a.eval x = v) (hy : a.eval y = u)
    (h : a.eval x = v → a.eval y = u → wpList P ops Q (o :: rest) a w) : wpList P ops Q (o :: rest) a w := h hx hy
end TL
end Go
namespace Go
namespace TL
open Go.RowKit
/-! ### The same laws, for a walk's arms: what stands at their sides is found by a tactic that each law names -/
section
variable {P : Program} {a : Act} {w w0 : World} {F : List Nat} {L : List Chunk} {t : TypeId} {g off : Nat} {cs : List Value} {l : List UInt8} {i : Nat}
/-- A load from here gives this. -/
def LdA (P : Program) (w : World) (t : TypeId) (va v : Value) : Prop := ∀ (ops : Array Oper) (Q : Exit → Act → World → Prop) (o : Oper) (x : Operand) (rest : List Oper) (a : Act), o.op = .load t x → a.eval x = va → Region.wanted o (yielded ops a.tmps) = true → wpList P ops Q rest (a.put o.dst v) w → wpList P ops Q (o :: rest) a w
theorem LdA.cell (M : Mem F w0 w L) (hi : L[i]? = some (.row g cs)) (ht : scalarT P t = true) {v : Value} (hv : cs[off]? = some v) : LdA P w t (.pointer (some ⟨g, off, none⟩)) v := fun _ _ _ x _ _ ho hx hw h => w_load M i t x ho hi hx hw ht hv h
theorem LdA.byte (M : Mem F w0 w L) (hi : L[i]? = some (.row g (bs l))) (ht : scalarT P t = true) (hlt : off < l.length) : LdA P w t (.pointer (some ⟨g, off, none⟩)) (.int .u8 (I8 (l.getD off 0))) := fun _ _ _ x _ _ ho hx hw h => w_loadB M i t x ho hi hx hw ht hlt h
theorem LdA.arr (M : Mem F w0 w L) (hi : L[i]? = some (.row g (bs l))) (ht : rowT P t = true) {n : Nat} (hl : l.length = n) (hn : (P.info? t).map (·.size) = some n) : LdA P w t (.pointer (some ⟨g, 0, none⟩)) (.agg (bs l).toArray) := fun _ _ _ x _ _ ho hx hw h => w_loadH M i t x ho hi hx hw ht hl hn h
theorem LdA.row (M : Mem F w0 w L) (hi : L[i]? = some (.row g cs)) (ht : rowT P t = true) (hn : (P.info? t).map (·.size) = some cs.length) : LdA P w t (.pointer (some ⟨g, 0, none⟩)) (.agg cs.toArray) := fun _ _ _ x _ _ ho hx hw h => w_loadR M i t x ho hi hx hw ht hn h
/-- A store to here leaves the memory so. -/
def StA (P : Program) (w : World) (t : TypeId) (va vy : Value) (R : World → Prop) : Prop := ∀ (ops : Array Oper) (Q : Exit → Act → World → Prop) (o : Oper) (x y : Operand) (rest : List Oper) (a : Act), o.op = .store t x y → a.eval x = va → a.eval y = vy → Region.wanted o (yielded ops a.tmps) = true → (∀ w' : World, R w' → wpList P ops Q rest (a.put o.dst undef) w') → wpList P ops Q (o :: rest) a w
theorem StA.cell (M : Mem F w0 w L) (hi : L[i]? = some (.row g cs)) {v : Value} (h1 : v.oneCell' = true) (hc : v.cells = #[v]) (hn : (P.info? t).map (·.size) = some 1) (hlt : off < cs.length) : StA P w t (.pointer (some ⟨g, off, none⟩)) v fun w' => Mem F w0 w' (L.set i (.row g (cs.set off v))) := fun _ _ _ x y _ _ ho hx hy hw h => w_store M i t x y ho hi hx hw hy h1 hc hn hlt h
theorem StA.byte (M : Mem F w0 w L) (hi : L[i]? = some (.row g (bs l))) {b : UInt8} (hn : (P.info? t).map (·.size) = some 1) (hlt : off < l.length) : StA P w t (.pointer (some ⟨g, off, none⟩)) (.int .u8 (I8 b)) fun w' => Mem F w0 w' (L.set i (.row g (bs (l.set off b)))) := fun _ _ _ x y _ _ ho hx hy hw h => w_storeB M i t x y ho hi hx hw hy hn hlt h
theorem StA.arr (M : Mem F w0 w L) (hi : L[i]? = some (.row g (bs l))) {m : List UInt8} {n : Nat} (hm : m.length = n) (hn : (P.info? t).map (·.size) = some n) (hl : l.length = n) : StA P w t (.pointer (some ⟨g, 0, none⟩)) (.agg (bs m).toArray) fun w' => Mem F w0 w' (L.set i (.row g (bs m))) := fun _ _ _ x y _ _ ho hx hy hw h => w_storeH M i t x y ho hi hx hw hy hm hn hl h
theorem StA.row (M : Mem F w0 w L) (hi : L[i]? = some (.row g cs)) {C : Array Value} {new : List Value} (hC : C = new.toArray) (hn : (P.info? t).map (·.size) = some new.length) (h1 : ∀ v ∈ new, v.oneCell' = true) (hl : new.length = cs.length) : StA P w t (.pointer (some ⟨g, 0, none⟩)) (.agg C) fun w' => Mem F w0 w' (L.set i (.row g new)) := fun _ _ _ x y _ _ ho hx hy hw h => w_storeR M i t x y ho hi hx hw new hy hC hn h1 hl h
/-- What is converted gives this. -/
def CvA (P : Program) (w : World) (src dst : TypeId) (vx v : Value) : Prop := ∀ (ops : Array Oper) (Q : Exit → Act → World → Prop) (o : Oper) (x : Operand) (rest : List Oper) (a : Act), o.op = .convert src dst x → a.eval x = vx → Region.wanted o (yielded ops a.tmps) = true → wpList P ops Q rest (a.put o.dst v) w → wpList P ops Q (o :: rest) a w
theorem CvA.arr {src dst e : TypeId} (M : Mem F w0 w L) (hi : L[i]? = some (.row g (bs l))) {n : Nat} (hb : l.length = n) (hm : n ≤ maxLen) (hs : P.underlying src = some (.slice e)) (he : P.underlying e = some (.int .u8)) (hd : P.underlying dst = some .string) : CvA P w src dst (.slice (some ⟨g, 0, none⟩) n n) (.string (mkS l)) := fun _ _ _ x _ _ ho hx hw h => w_stringW M i src dst e x ho hw hi hx hb hm hs he hd h
theorem CvA.sl {src dst e : TypeId} {v : Value} {n : Nat} (M : Mem F w0 w L) (hi : L[i]? = some (.sl 1 v n (bs l))) (hn : n = l.length) (hs : P.underlying src = some (.slice e)) (he : P.underlying e = some (.int .u8)) (hd : P.underlying dst = some .string) : CvA P w src dst v (.string (mkS l)) := fun _ _ _ x _ _ ho hx hw h => w_string M i src dst e x ho hw hi hn hx hs he hd h
end
section
variable {P : Program} {ops : Array Oper} {rest : List Oper} {a : Act} {w w0 : World} {Q : Exit → Act → World → Prop} {F : List Nat} {L : List Chunk} {dst : Option Tmp} {ty : TypeId} {pos : String} {after : Array Edge} {gd : Option (Nat × Bool)} {t : TypeId} {x y : Operand} {va v vy : Value} {R : World → Prop}
theorem ldS (h : wpList P ops Q rest (a.put dst v) w) (hx : a.eval x = va := by exact ev_tmp rfl) (hw : Region.wanted (Oper.mk dst (.load t x) ty pos after gd) (yielded ops a.tmps) = true := by exact rfl)
    (hv : LdA P w t va v := by first | exact LdA.cell M (by first | exact at0 | exact at1 | exact at2 | exact at3 | exact at4 | exact at5 | exact at6 | exact at7 | exact at8) (by decide +kernel) (by exact rfl) | exact LdA.row M (by first | exact at0 | exact at1 | exact at2 | exact at3 | exact at4 | exact at5 | exact at6 | exact at7 | exact at8) (by decide +kernel) (by kernel_rfl)) : wpList P ops Q (Oper.mk dst (.load t x) ty pos after gd :: rest) a w := hv _ _ _ x _ _ rfl hx hw h
theorem ldB (h : wpList P ops Q rest (a.put dst v) w) (hx : a.eval x = va := by exact ev_tmp rfl) (hw : Region.wanted (Oper.mk dst (.load t x) ty pos after gd) (yielded ops a.tmps) = true := by exact rfl)
    (hv : LdA P w t va v := by first | exact LdA.cell M (by first | exact at0 | exact at1 | exact at2 | exact at3 | exact at4 | exact at5 | exact at6 | exact at7 | exact at8) (by decide +kernel) (by exact rfl) | exact LdA.byte M (by first | exact at0 | exact at1 | exact at2 | exact at3 | exact at4 | exact at5 | exact at6 | exact at7 | exact at8) (by decide +kernel) (by first | assumption | omega | (simp; omega)) | exact LdA.arr M (by first | exact at0 | exact at1 | exact at2 | exact at3 | exact at4 | exact at5 | exact at6 | exact at7 | exact at8) (by decide +kernel) (by first | assumption | exact lenI | exact lenS ‹_› | rfl) (by decide +kernel) | exact LdA.row M (by first | exact at0 | exact at1 | exact at2 | exact at3 | exact at4 | exact at5 | exact at6 | exact at7 | exact at8) (by decide +kernel) (by kernel_rfl)) : wpList P ops Q (Oper.mk dst (.load t x) ty pos after gd :: rest) a w := hv _ _ _ x _ _ rfl hx hw h
theorem ldW (h : wpList P ops Q rest (a.put dst v) w) (hx : a.eval x = va := by exact ev_tmp rfl) (hw : Region.wanted (Oper.mk dst (.load t x) ty pos after gd) (yielded ops a.tmps) = true := by exact rfl)
    (hv : LdA P w t va v := by first | exact LdA.cell M (by first | exact at0 | exact at1 | exact at2 | exact at3 | exact at4 | exact at5 | exact at6 | exact at7 | exact at8) (by decide +kernel) (by exact rfl) | exact LdA.byte M (by first | exact at0 | exact at1 | exact at2 | exact at3 | exact at4 | exact at5 | exact at6 | exact at7 | exact at8) (by decide +kernel) (by first | assumption | omega | (simp; omega)) | exact LdA.w32 M (by first | exact at0 | exact at1 | exact at2 | exact at3 | exact at4 | exact at5 | exact at6 | exact at7 | exact at8) (by decide +kernel) (by first | assumption | omega | (simp; omega)) | exact LdA.arr32 M (by first | exact at0 | exact at1 | exact at2 | exact at3 | exact at4 | exact at5 | exact at6 | exact at7 | exact at8) (by decide +kernel) (by first | assumption | exact lenI | exact lenS ‹_› | rfl) (by decide +kernel) | exact LdA.arr M (by first | exact at0 | exact at1 | exact at2 | exact at3 | exact at4 | exact at5 | exact at6 | exact at7 | exact at8) (by decide +kernel) (by first | assumption | exact lenI | exact lenS ‹_› | rfl) (by decide +kernel) | exact LdA.row M (by first | exact at0 | exact at1 | exact at2 | exact at3 | exact at4 | exact at5 | exact at6 | exact at7 | exact at8) (by decide +kernel) (by kernel_rfl)) : wpList P ops Q (Oper.mk dst (.load t x) ty pos after gd :: rest) a w := hv _ _ _ x _ _ rfl hx hw h
theorem stS (h : ∀ w' : World, R w' → wpList P ops Q rest (a.put dst undef) w') (hx : a.eval x = va := by exact ev_tmp rfl) (hy : a.eval y = vy := by first | exact ev_tmp rfl | exact ev_const) (hw : Region.wanted (Oper.mk dst (.store t x y) ty pos after gd) (yielded ops a.tmps) = true := by exact rfl)
    (hv : StA P w t va vy R := by first | exact StA.cell M (by first | exact at0 | exact at1 | exact at2 | exact at3 | exact at4 | exact at5 | exact at6 | exact at7 | exact at8) rfl rfl (by decide +kernel) (by first | decide | simp | (simp; omega)) | exact StA.row M (by first | exact at0 | exact at1 | exact at2 | exact at3 | exact at4 | exact at5 | exact at6 | exact at7 | exact at8) rfl (by kernel_rfl) (by simp [Value.oneCell']) (by first | rfl | assumption | exact Eq.symm (by assumption))) : wpList P ops Q (Oper.mk dst (.store t x y) ty pos after gd :: rest) a w := hv _ _ _ x y _ _ rfl hx hy hw h
theorem stB (h : ∀ w' : World, R w' → wpList P ops Q rest (a.put dst undef) w') (hx : a.eval x = va := by exact ev_tmp rfl) (hy : a.eval y = vy := by first | exact ev_tmp rfl | exact ev_const) (hw : Region.wanted (Oper.mk dst (.store t x y) ty pos after gd) (yielded ops a.tmps) = true := by exact rfl)
    (hv : StA P w t va vy R := by first | exact StA.byte M (by first | exact at0 | exact at1 | exact at2 | exact at3 | exact at4 | exact at5 | exact at6 | exact at7 | exact at8) (by decide +kernel) (by first | assumption | omega | (simp; omega)) | exact StA.arr M (by first | exact at0 | exact at1 | exact at2 | exact at3 | exact at4 | exact at5 | exact at6 | exact at7 | exact at8) (by first | assumption | exact lenI | exact lenS ‹_› | rfl) (by decide +kernel) (by first | assumption | exact lenI | exact lenS ‹_› | rfl) | exact StA.cell M (by first | exact at0 | exact at1 | exact at2 | exact at3 | exact at4 | exact at5 | exact at6 | exact at7 | exact at8) rfl rfl (by decide +kernel) (by first | decide | simp | (simp; omega)) | exact StA.row M (by first | exact at0 | exact at1 | exact at2 | exact at3 | exact at4 | exact at5 | exact at6 | exact at7 | exact at8) rfl (by kernel_rfl) (by simp [Value.oneCell']) (by first | rfl | assumption | exact Eq.symm (by assumption))) : wpList P ops Q (Oper.mk dst (.store t x y) ty pos after gd :: rest) a w := hv _ _ _ x y _ _ rfl hx hy hw h
theorem stBc (h : ∀ w' : World, R w' → wpList P ops Q rest (a.put dst undef) w') (hx : a.eval x = va := by exact ev_tmp rfl) (hy : a.eval y = vy := by first | exact ev_tmp rfl | exact ev_const) (hw : Region.wanted (Oper.mk dst (.store t x y) ty pos after gd) (yielded ops a.tmps) = true := by exact rfl)
    (hv : StA P w t va vy R := by first | exact StA.byte M (by first | exact at0 | exact at1 | exact at2 | exact at3 | exact at4 | exact at5 | exact at6 | exact at7 | exact at8) (by decide +kernel) (by first | assumption | omega | (simp; omega)) | exact StA.arr M (by first | exact at0 | exact at1 | exact at2 | exact at3 | exact at4 | exact at5 | exact at6 | exact at7 | exact at8) (by first | assumption | exact lenI | exact lenS ‹_› | rfl) (by decide +kernel) (by first | assumption | exact lenI | exact lenS ‹_› | rfl) | exact StA.byteC M (by first | exact at0 | exact at1 | exact at2 | exact at3 | exact at4 | exact at5 | exact at6 | exact at7 | exact at8) (by decide) (by decide +kernel) (by first | assumption | omega | (simp; omega)) | exact StA.cell M (by first | exact at0 | exact at1 | exact at2 | exact at3 | exact at4 | exact at5 | exact at6 | exact at7 | exact at8) rfl rfl (by decide +kernel) (by first | decide | simp | (simp; omega)) | exact StA.row M (by first | exact at0 | exact at1 | exact at2 | exact at3 | exact at4 | exact at5 | exact at6 | exact at7 | exact at8) rfl (by kernel_rfl) (by simp [Value.oneCell']) (by first | rfl | assumption | exact Eq.symm (by assumption))) : wpList P ops Q (Oper.mk dst (.store t x y) ty pos after gd :: rest) a w := hv _ _ _ x y _ _ rfl hx hy hw h
theorem stW (h : ∀ w' : World, R w' → wpList P ops Q rest (a.put dst undef) w') (hx : a.eval x = va := by exact ev_tmp rfl) (hy : a.eval y = vy := by first | exact ev_tmp rfl | exact ev_const) (hw : Region.wanted (Oper.mk dst (.store t x y) ty pos after gd) (yielded ops a.tmps) = true := by exact rfl)
    (hv : StA P w t va vy R := by first | exact StA.w32 M (by first | exact at0 | exact at1 | exact at2 | exact at3 | exact at4 | exact at5 | exact at6 | exact at7 | exact at8) (by decide +kernel) (by first | assumption | omega | (simp; omega)) | exact StA.arr32 M (by first | exact at0 | exact at1 | exact at2 | exact at3 | exact at4 | exact at5 | exact at6 | exact at7 | exact at8) (by first | assumption | exact lenI | exact lenS ‹_› | rfl) (by decide +kernel) (by first | assumption | exact lenI | exact lenS ‹_› | rfl) | exact StA.byte M (by first | exact at0 | exact at1 | exact at2 | exact at3 | exact at4 | exact at5 | exact at6 | exact at7 | exact at8) (by decide +kernel) (by first | assumption | omega | (simp; omega)) | exact StA.arr M (by first | exact at0 | exact at1 | exact at2 | exact at3 | exact at4 | exact at5 | exact at6 | exact at7 | exact at8) (by first | assumption | exact lenI | exact lenS ‹_› | rfl) (by decide +kernel) (by first | assumption | exact lenI | exact lenS ‹_› | rfl) | exact StA.cell M (by first | exact at0 | exact at1 | exact at2 | exact at3 | exact at4 | exact at5 | exact at6 | exact at7 | exact at8) rfl rfl (by decide +kernel) (by first | decide | simp | (simp; omega)) | exact StA.row M (by first | exact at0 | exact at1 | exact at2 | exact at3 | exact at4 | exact at5 | exact at6 | exact at7 | exact at8) rfl (by kernel_rfl) (by simp [Value.oneCell']) (by first | rfl | assumption | exact Eq.symm (by assumption))) : wpList P ops Q (Oper.mk dst (.store t x y) ty pos after gd :: rest) a w := hv _ _ _ x y _ _ rfl hx hy hw h
theorem cvB {src des : TypeId} (h : wpList P ops Q rest (a.put dst v) w) (hx : a.eval x = va := by first | exact ev_tmp rfl | exact ev_const) (hw : Region.wanted (Oper.mk dst (.convert src des x) ty pos after gd) (yielded ops a.tmps) = true := by exact rfl)
    (hv : CvA P w src des va v := by first | exact CvA.arr M (by first | exact at0 | exact at1 | exact at2 | exact at3 | exact at4 | exact at5 | exact at6 | exact at7 | exact at8) (by first | assumption | exact lenI | exact lenS ‹_› | rfl) (by decide) Tryz.underlying70 Tryz.underlying5 Tryz.underlying9 | exact CvA.sl M (by first | exact at0 | exact at1 | exact at2 | exact at3 | exact at4 | exact at5 | exact at6 | exact at7 | exact at8) (by first | rfl | (simp; done) | assumption) Tryz.underlying70 Tryz.underlying5 Tryz.underlying9) : wpList P ops Q (Oper.mk dst (.convert src des x) ty pos after gd :: rest) a w := hv _ _ _ x _ _ rfl hx hw h
theorem bxA {cs : List Value} (M : Mem F w0 w L) (h : ∀ (g : Nat) (w' : World), Mem F w0 w' (.row g cs :: L) → wpList P ops Q rest (a.put dst (.pointer (some ⟨g, 0, none⟩))) w') (hx : a.eval x = v := by first | exact ev_tmp rfl | exact ev_const) (hw : Region.wanted (Oper.mk dst (.box t x) ty pos after gd) (yielded ops a.tmps) = true := by exact rfl)  (hc : v.cells = cs.toArray := by exact rfl) : wpList P ops Q (Oper.mk dst (.box t x) ty pos after gd :: rest) a w := w_box M t x rfl hw v hx cs hc h
end
/-- Neither of the two, as it stands. -/
def Open2 (_ : Bool) : Prop := True
theorem Open2.f {b : Bool} (_ : b = false) : Open2 b := trivial
theorem Open2.t {b : Bool} (_ : b = true) : Open2 b := trivial
section
variable {P : Program} {ops : Array Oper} {rest : List Oper} {a : Act} {w : World} {Q : Exit → Act → World → Prop}
theorem gdS {dst : Option Tmp} {op : Op} {ty : TypeId} {pos : String} {after : Array Edge} {j : Nat} {want b : Bool} (h : wpList P ops Q (Oper.mk dst op ty pos after none :: rest) a w) (hb : yielded ops a.tmps j = some b := by exact rfl) (hl : b = want := by with_reducible rfl) : wpList P ops Q (Oper.mk dst op ty pos after (some (j, want)) :: rest) a w := w_strip hb hl h
theorem gdC {dst : Option Tmp} {op : Op} {ty : TypeId} {pos : String} {after : Array Edge} {j : Nat} {want b : Bool} (h1 : b = true → wpList P ops Q (Oper.mk dst op ty pos after (some (j, want)) :: rest) a w) (h0 : b = false → wpList P ops Q (Oper.mk dst op ty pos after (some (j, want)) :: rest) a w) (hb : yielded ops a.tmps j = some b := by exact rfl) (_hu : Open2 b := by (fail_if_success (exact Open2.f (by with_reducible rfl))); (fail_if_success (exact Open2.t (by with_reducible rfl))); exact trivial) : wpList P ops Q (Oper.mk dst op ty pos after (some (j, want)) :: rest) a w := w_case hb h1 h0
end
end TL
end Go

/- Texts as lists of bytes, in the walk. No conditions but those each law names. -/
namespace Go
namespace TL
open Go.RowKit
attribute [go_sem] mkS_size mkS_toList mkS_append
@[go_sem] theorem mkS_fold (l : List UInt8) : ByteArray.mk (List.toArray l) = mkS l := rfl
theorem mkS_extract (l : List UInt8) (i j : Nat) : (mkS l).extract i j = mkS ((l.take j).drop i) := by
  apply ByteArray.ext; apply Array.ext'; simp [mkS, ByteArray.data_extract, List.extract, List.drop_take]
@[go_sem high] theorem mkS_extract0 (l : List UInt8) (j : Nat) : (mkS l).extract 0 j = mkS (l.take j) := by rw [mkS_extract, List.drop_zero]
@[go_sem high] theorem mkS_extractE (l : List UInt8) (i : Nat) : (mkS l).extract i l.length = mkS (l.drop i) := by rw [mkS_extract, List.take_length]
@[go_sem] theorem mkS_extractM (l : List UInt8) (i j : Nat) : (mkS l).extract i j = mkS ((l.take j).drop i) := mkS_extract l i j
/-- A text's byte, in a word that is closed to the walk. -/
def bt (l : List UInt8) (i : Nat) : UInt8 := l.getD i 0
@[go_sem] theorem mkS_bt (l : List UInt8) (k : Nat) (h : k < (mkS l).size) : (mkS l)[k] = bt l k := by
  have hl : k < l.length := by rwa [mkS_size] at h
  rw [bt, List.getD_eq_getElem?_getD, List.getElem?_eq_getElem hl]; rfl
theorem I8_bt (l : List UInt8) (k : Nat) : I8 (bt l k) = ((l.getD k 0).toNat : Int) := rfl
@[go_sem ↓] theorem run_index_mkS {P : Program} (w : World) (t : TypeId) (l : List UInt8) (k : IntKind) (i : Int) (hu : P.underlying t = some .string) (h0 : 0 ≤ i) (h1 : i < l.length) :
    (Instr.index t (.string (mkS l)) (.int k i)).run P w = .ok (.int .u8 (I8 (bt l i.toNat))) w := by
  have hs : i.toNat < (mkS l).size := by rw [mkS_size]; omega
  have hl : i.toNat < l.length := by omega
  have e : (mkS l)[i.toNat]? = some (l.getD i.toNat 0) := by
    rw [getElem?_pos (mkS l) i.toNat hs, List.getD_eq_getElem?_getD, List.getElem?_eq_getElem hl]; rfl
  simp only [Instr.index, asIntOf, Sem.run_bind, Sem.run_pure, Result.andThen_ok, run_underlying hu]
  simp only [h0, if_true, e]
  rfl
section
variable {P : Program} {ops : Array Oper} {rest : List Oper} {o : Oper} {a : Act} {w w0 : World} {Q : Exit → Act → World → Prop} {F : List Nat} {L : List Chunk}
/-- make([]byte, n). -/
theorem w_makeB (M : Mem F w0 w L) (t : TypeId) (x y : Operand) (ho : o.op = .makeSlice t x y) (hw : Region.wanted o (yielded ops a.tmps) = true) (n : Nat) {kl kc : IntKind} {m m' : Int} (hx : a.eval x = .int kl m) (hy : a.eval y = .int kc m') (hm : m = (n : Nat)) (hm' : m' = (n : Nat)) {e : TypeId} (ht : P.underlying t = some (.slice e)) (hz : (P.info? e).bind (·.zero) = some (.int .u8 0)) (hs : (P.info? e).map (fun i => (i.size, i.bytes)) = some (1, 1)) (hn : n ≤ 16777216)
    (h : ∀ (g : Nat) (w' : World), Mem F w0 w' (.row g (bs (List.replicate n 0)) :: L) → wpList P ops Q rest (a.put o.dst (.slice (some ⟨g, 0, none⟩) n n)) w') : wpList P ops Q (o :: rest) a w :=
  wpW hw fun _ hK => by
    subst hm hm'
    cases hq : P.info? e with
    | none => simp [hq] at hz
    | some inf =>
      have hzz : inf.zero = some (.int .u8 0) := by simpa [hq] using hz
      have hss : inf.size = 1 ∧ inf.bytes = 1 := by simpa [hq] using hs
      have hr := run_makeSlice (P := P) (w := w) t e inf (.int .u8 0) ht hq hzz kl kc n n (by omega) (Int.le_refl _) (by rw [hss.1]; simp; omega) (by rw [hss.2]; omega) (by omega)
      have e1 : madeCells (Value.int .u8 0).cells ((n : Int).toNat * inf.size) = (bs (List.replicate n 0)).toArray := by
        rw [hss.1]
        apply Array.ext'
        simp [madeCells, bs, vb, I8, Value.cells]
        apply List.ext_getElem
        · simp
        · intro i h1 h2; simp [Nat.mod_one]
      rw [e1] at hr
      unfold Oper.wp execOp
      simp only [ho, hx, hy, Sem.run_bind, hr, Result.andThen_ok]
      refine hK _ _ ?_
      have := h _ _ (M.alloc (bs (List.replicate n 0)).toArray e)
      simpa using this
end
theorem eqInRow {P : Program} {t e : TypeId} {n : Nat} (hu : P.underlying t = some (.array n e)) (he : P.underlying e = some (.int .u8)) (hc : P.cellsOf e = 1) (l m : List UInt8) (hl : l.length = n) (hm : m.length = n) (w : World) : (Op.equalIn 10000 t (.agg (bs l).toArray) (.agg (bs m).toArray)).run P w = .ok (l == m) w := by
  obtain ⟨i, hi⟩ := info_of_underlying he
  have := run_equalIn_array w 9999 (bs l).toArray (bs m).toArray hu hi
  unfold bs at this ⊢
  rw [hc, run_eqItemsB he 9998 l m (by omega) w (List.range n) (fun i hi => by rw [hl]; exact List.mem_range.1 hi)] at this
  rw [← hl, all_range_eq l m (by omega)] at this
  exact this
/-- What is written byte by byte. -/
theorem setTake (l : List UInt8) (n k : Nat) (hl : l.length = n) (hk : k < n) : (l.take k ++ List.replicate (n - k) 0).set k (l.getD k 0) = l.take (k + 1) ++ List.replicate (n - (k + 1)) 0 := by
  rw [List.set_append_right _ _ (by simp; omega)]
  simp only [List.length_take, Nat.min_eq_left (show k ≤ l.length by omega), Nat.sub_self]
  rw [List.take_succ_eq_append_getElem (by omega), List.append_assoc, show n - k = (n - (k + 1)) + 1 by omega, List.replicate_succ, List.set_cons_zero, List.getD_eq_getElem?_getD, List.getElem?_eq_getElem (by omega)]
  rfl
end TL
end Go
namespace Go
namespace TL
open Go.RowKit
section
variable {P : Program} {ops : Array Oper} {rest : List Oper} {o : Oper} {a : Act} {w w0 : World} {Q : Exit → Act → World → Prop} {F : List Nat} {L : List Chunk}
/-- A slice that has elements lies somewhere. -/
theorem Mem.slAddr (M : Mem F w0 w L) (i : Nat) {size n cap : Nat} {q : Option Addr} {m : Nat} {xs : List Value} (hi : L[i]? = some (.sl size (.slice q m cap) n xs)) (hn : 0 < n) : ∃ g o, q = some ⟨g, o, none⟩ := by
  rcases (M.ok i _ hi).2 with ⟨_, h0⟩ | ⟨g, o, c, hv, _⟩
  · omega
  · injection hv with h1 h2 h3; exact ⟨g, o, h1⟩
theorem Mem.slCap (M : Mem F w0 w L) (i : Nat) {size n cap : Nat} {q : Option Addr} {m : Nat} {xs : List Value} (hi : L[i]? = some (.sl size (.slice q m cap) n xs)) : m = n ∧ n ≤ cap ∧ cap ≤ maxLen ∧ xs.length = n * size := by
  have h := M.ok i _ hi
  rcases h.2 with ⟨hv, h0⟩ | ⟨g, o, c, hv, _, _, h1, h2, _⟩
  · injection hv with _ e1 e2; exact ⟨by omega, by omega, by omega, h.1⟩
  · injection hv with _ e1 e2; exact ⟨e1, by omega, by omega, h.1⟩
theorem Mem.slCell (M : Mem F w0 w L) (i : Nat) {size n m cap g so : Nat} {xs : List Value} (hi : L[i]? = some (.sl size (.slice (some ⟨g, so, none⟩) m cap) n xs)) {j : Nat} {v : Value} (hv : xs[j]? = some v) : w.cell? ⟨g, so + j, none⟩ = some v := by
  rcases (M.ok i _ hi).2 with ⟨h0, _⟩ | ⟨g', o', c, hv', _, _, _, _, hr, _⟩
  · cases h0
  · injection hv' with h1 _ _; injection h1 with h1; injection h1 with h1 h2; subst h1; subst h2; exact hr j v hv
/-- An element of one cell. -/
theorem w_loadS (M : Mem F w0 w L) (i : Nat) (t : TypeId) (x : Operand) (ho : o.op = .load t x) {size n m cap g so off : Nat} {xs : List Value} (hi : L[i]? = some (.sl size (.slice (some ⟨g, so, none⟩) m cap) n xs)) (hx : a.eval x = .pointer (some ⟨g, off, none⟩)) (hw : Region.wanted o (yielded ops a.tmps) = true)
    (ht : scalarT P t = true) (j : Nat) (hoff : off = so + j) {v : Value} (hv : xs[j]? = some v) (h : wpList P ops Q rest (a.put o.dst v) w) : wpList P ops Q (o :: rest) a w :=
  wpW hw fun _ hK => by
    subst hoff
    unfold Oper.wp execOp
    simp only [ho, hx, Instr.loadAt, Instr.sureAddr, Sem.run_bind, Sem.run_pure, Result.andThen_ok, run_loadVar_scalar ht w g _ v (M.slCell i hi hv)]
    exact hK _ _ h
/-- An element that is a struct. -/
theorem w_loadSA (M : Mem F w0 w L) (i : Nat) (t : TypeId) (x : Operand) (ho : o.op = .load t x) {size n m cap g so off : Nat} {xs : List Value} (hi : L[i]? = some (.sl size (.slice (some ⟨g, so, none⟩) m cap) n xs)) (hx : a.eval x = .pointer (some ⟨g, off, none⟩)) (hw : Region.wanted o (yielded ops a.tmps) = true)
    (ht : rowT P t = true) (j : Nat) (hoff : off = so + j) (cs : List Value) (hcs : ∀ k v, cs[k]? = some v → xs[j + k]? = some v) (hn : (P.info? t).map (·.size) = some cs.length) (h : wpList P ops Q rest (a.put o.dst (.agg cs.toArray)) w) : wpList P ops Q (o :: rest) a w :=
  wpW hw fun _ hK => by
    subst hoff
    unfold rowT at ht
    cases hu : P.underlying t with
    | none => simp [hu] at ht
    | some d =>
      simp only [hu] at ht
      refine wp_load_mid t x ho g _ hx cs d ?_ hu ht hn (hK _ _ h)
      intro k v hv
      rw [Nat.add_assoc]
      exact M.slCell i hi (hcs k v hv)
end
end TL
end Go
namespace Go
namespace TL
open Go.RowKit
section
variable {P : Program} {ops : Array Oper} {rest : List Oper} {o : Oper} {a : Act} {w w0 : World} {Q : Exit → Act → World → Prop} {F : List Nat} {L : List Chunk}
/-- []byte(s): a slice of the call's own. -/
theorem w_bytes (M : Mem F w0 w L) (src dst e : TypeId) (x : Operand) (ho : o.op = .convert src dst x) (hw : Region.wanted o (yielded ops a.tmps) = true) {l : List UInt8} (hx : a.eval x = .string (mkS l))
    (hs : P.underlying src = some .string) (hd : P.underlying dst = some (.slice e)) (he : P.underlying e = some (.int .u8)) (hl : l.length ≤ 1000000000000)
    (h : ∀ (g cap : Nat) (w' : World), l.length ≤ cap → Mem F w0 w' (.sl 1 (.slice (some ⟨g, 0, none⟩) l.length cap) l.length (bs l) :: L) → wpList P ops Q rest (a.put o.dst (.slice (some ⟨g, 0, none⟩) l.length cap)) w') : wpList P ops Q (o :: rest) a w :=
  wpW hw fun _ hK => by
    have hr := Lib.run_convert_string_bytes (P := P) w src dst e (mkS l) hs hd he
    rw [mkS_size] at hr
    obtain ⟨cap, ec⟩ : ∃ cap, cap = grownCap w l.length 0 e := ⟨_, rfl⟩
    have hc1 : l.length ≤ cap := by rw [ec]; exact grownCap_ge _ _ _ _
    have hc2 : cap ≤ maxLen := by rw [ec]; exact grownCap_le_maxLen _ _ _ _ (by simp only [maxLen]; omega)
    have hsz : (Lib.bytesCells w e (mkS l)).size = cap := by
      simp only [Lib.bytesCells, Array.size_append, Array.size_map, Array.size_replicate, mkS_size, ← ec]
      show (mkS l).data.size + _ = _
      have : (mkS l).data.size = l.length := mkS_size l
      omega
    have hnew := Lib.bytesWorld_at_new w e (mkS l)
    have hk : Kept [] w (Lib.bytesWorld w e (mkS l)) := ⟨rfl, rfl, rfl, by rw [Lib.bytesWorld_size]; omega, fun k hk _ => Lib.bytesWorld_at_old w e (mkS l) k hk⟩
    have hok : (Chunk.sl 1 (.slice (some ⟨w.heap.size, 0, none⟩) l.length cap) l.length (bs l)).ok (Lib.bytesWorld w e (mkS l)) := by
      refine ⟨by simp [bs_length], .inr ⟨w.heap.size, 0, cap, rfl, Nat.zero_le _, by rw [Lib.bytesWorld_size]; omega, hc1, hc2, ?_, ?_⟩⟩
      · intro j v hv
        have hj : j < l.length := by have := (List.getElem?_eq_some_iff.1 hv).1; rwa [bs_length] at this
        rw [Nat.zero_add, Lib.bytesWorld_cell w e (mkS l) j (by rw [mkS_size]; exact hj), mkS_data, ← hv, getD_some hj]; rfl
      · intro j hj
        rw [Nat.mul_one] at hj
        rw [Nat.zero_add]
        constructor
        · simp only [World.cell?, hnew]
          rw [if_neg (by decide), Array.getElem?_eq_getElem (by omega)]; rfl
        · simp only [World.frozen?, hnew]
          rw [hsz]; simp; omega
    rw [← ec] at hr
    unfold Oper.wp execOp
    simp only [ho, hx, Sem.run_bind, hr, Result.andThen_ok]
    exact hK _ _ (h _ cap _ hc1 (M.add _ hk hok (by simp [Chunk.fp, Value.ownBlock])))
end
end TL
end Go
namespace Go
namespace TL
open Go.RowKit
theorem w_buildSliceB {P : Program} {ops : Array Oper} {rest : List Oper} {o : Oper} {a : Act} {w w0 : World} {Q : Exit → Act → World → Prop} {F : List Nat} {L : List Chunk} (M : Mem F w0 w L) {t e : TypeId} (T : SliceT P t e 1 1) (x : Operand) (ho : o.op = .buildSlice t 1 #[(0, x)]) (hw : Region.wanted o (yielded ops a.tmps) = true) {b : UInt8} (hx : a.eval x = .int .u8 (I8 b))
    (h : ∀ (g : Nat) (w' : World), Mem F w0 w' (.row g (bs [b]) :: L) → wpList P ops Q rest (a.put o.dst (.slice (some ⟨g, 0, none⟩) 1 1)) w') : wpList P ops Q (o :: rest) a w :=
  w_buildSlice1 M T (by decide) x ho hw hx (bs [b]) rfl rfl h
end TL
end Go

/- Hashes compared. Conditions: lengths. -/
namespace Go.Proofs.YtidadhbaomieiaaGreat
open Go.RowKit Go.TL
theorem hashT : ∀ l m : List UInt8, l.length = 32 → m.length = 32 → EqRow Tryz.prog 64 l m := fun l m hl hm =>
  eqRow Tryz.underlying64 Tryz.underlying5 (by kernel_rfl) (by kernel_rfl) l m hl hm
section
variable (l m : List UInt8) (hl : l.length = 32) (hm : m.length = 32) (w : World)
include hl hm
@[go_sem ↓] theorem hash_in : (Op.equalIn 10000 64 (.agg (bs l).toArray) (.agg (bs m).toArray)).run Tryz.prog w = .ok (l == m) w := eqInRow Tryz.underlying64 Tryz.underlying5 (by kernel_rfl) l m hl hm w
@[go_sem ↓] theorem hash_eql : (binOp .eql 64 (.agg (bs l).toArray) (.agg (bs m).toArray)).run Tryz.prog w = .ok (.bool (l == m)) w := (hashT l m hl hm).eql w
@[go_sem ↓] theorem hash_guardE (x y : Operand) : (eqGuard .eql 64 x y (.agg (bs l).toArray) (.agg (bs m).toArray)).run Tryz.prog w = .ok () w := (hashT l m hl hm).guardE x y w
end
end Go.Proofs.YtidadhbaomieiaaGreat

/- The contract of sha.Sum in closed words (bs, mkS), and hashes compared. Conditions: lengths. -/
namespace Go.Proofs.YtidadhbaomieiaaGreat
open Go.RowKit Go.TL
theorem shaSum_c (l : List UInt8) (w : World) (h : l.length ≤ 100000000000) :
    Calls Tryz.prog 87 #[.string (mkS l)] w fun e w' => e = .returned (.agg (bs (shaL l)).toArray) ∧ Below w.heap.size w w' :=
  shaSum_any (mkS l) w (by rw [mkS_size]; omega)
@[go_sem] theorem shaL_len (l : List UInt8) : (shaL l).length = 32 := by have := shaL_length l; omega
instance shaLen {l : List UInt8} : HXor (PLift (shaL l = shaL l)) Unit (PLift ((shaL l).length = 32)) := ⟨fun _ _ => ⟨shaL_len l⟩⟩
section
variable (l m : List UInt8) (hl : l.length = 32) (hm : m.length = 32) (w : World)
include hl hm
@[go_sem ↓] theorem hash_neq : (binOp .neq 64 (.agg (bs l).toArray) (.agg (bs m).toArray)).run Tryz.prog w = .ok (.bool (!(l == m))) w := (hashT l m hl hm).neq w
@[go_sem ↓] theorem hash_guardN (x y : Operand) : (eqGuard .neq 64 x y (.agg (bs l).toArray) (.agg (bs m).toArray)).run Tryz.prog w = .ok () w := (hashT l m hl hm).guardN x y w
end
end Go.Proofs.YtidadhbaomieiaaGreat

/- The contracts of package mac, in closed words (bs, mkS), for seats without its laws. Conditions: lengths. -/
namespace Go.Proofs.YtidadhbaomieiaaGreat
open Go.RowKit Go.TL
theorem Tag_c (key text : List UInt8) (w : World) (hk : key.length ≤ 100000000000) (ht : text.length ≤ 100000000000) :
    Calls Tryz.prog 47 #[.string (mkS key), .string (mkS text)] w fun e w' => e = .returned (.agg (bs (macL key text)).toArray) ∧ Below w.heap.size w w' :=
  Tag_any (mkS key) (mkS text) w (by rw [mkS_size]; exact hk) (by rw [mkS_size]; exact ht)
theorem Equal_c (a b : List UInt8) (ha : a.length = 32) (hb : b.length = 32) (w : World) :
    Calls Tryz.prog 83 #[.agg (bs a).toArray, .agg (bs b).toArray] w fun e w' => e = .returned (.bool (a == b)) ∧ Below w.heap.size w w' := Equal_any a b ha hb w
@[go_sem] theorem macL_len (k l : List UInt8) : (macL k l).length = 32 := by have := macL_length k l; omega
instance macLen {k l : List UInt8} : HXor (PLift (macL k l = macL k l)) Unit (PLift ((macL k l).length = 32)) := ⟨fun _ _ => ⟨macL_len k l⟩⟩
attribute [go_sem] macPad_length
set_option maxRecDepth 100000 in
set_option maxHeartbeats 1000000 in
theorem Key_c (k label : List UInt8) (w : World) (hk : k.length = 32) (hl : label.length ≤ 100000000000) :
    Calls Tryz.prog 110 #[.agg (bs k).toArray, .string (mkS label)] w fun e w' => e = .returned (.agg (bs (macL k label)).toArray) ∧ Below w.heap.size w w' := by
  have M := Mem.start [] w
  go_enter Tryz.func110, Tryz.ntmps110
  go_wp2_with ((first | ((with_reducible refine tGuard ?_); first | refine gdS ?_ | (refine gdC ?_ ?_ <;> (intro hgd; rw [hgd]; try (exfalso; simp at hgd; omega)))) | ((with_reducible refine tConv _ 70 9 ?_); go_must (refine cvB ?_)) | ((with_reducible refine tLoad ?_); go_must (refine ldB ?_)) | ((with_reducible refine tStore ?_); go_must (refine stB ?_; clear M; intro w1 M; (try simp only [setC] at M))) | ((with_reducible refine tBox _ ?_); (refine bxA M ?_; clear M; intro g w1 M)) | ((with_reducible refine tAlloc _ 50 ?_); refine w_alloc M _ rfl rfl (.agg (Array.replicate 32 (.int .u8 0))) (bs (List.replicate 32 (0 : UInt8))) (by kernel_rfl) rfl ?_; clear M; intro g w1 M) | (go_at_call 47; go_must (refine (Tag_c _ _ _ (by omega) (by omega)).mono ?_; rintro e w1 ⟨rfl, hb⟩; replace M := M.call hb; clear hb))) <;> (try conv => arg 5; simp only [Act.put, List.setIfInBounds_toArray, setC]))
  refine bodyPost_ret (results_row rfl _ _ _ 0 (bs (macL k label)) _ rfl (M.ok 0 _ rfl).2.1 Tryz.underlying50 rfl (by kernel_rfl)) rfl ⟨rfl, M.below⟩
end Go.Proofs.YtidadhbaomieiaaGreat

/- sync.Once in a run of one goroutine: its parts, each a contract. Conditions: the cells. -/
namespace Go
namespace TL
/-- A Once's cells, and what stands behind them. -/
abbrev onceR (d l : Int) (cs : List Value) : List Value := .int .u32 d :: .int .i32 l :: .int .u32 0 :: cs
end TL
end Go
namespace Go.Proofs.YtidadhbaomieiaaGreat
open Go.RowKit Go.TL
theorem raceDisable (w : World) : (callFunc 193 #[]).run Tryz.prog w = .ok (.value (.tuple #[])) w := run_call_mark0 Tryz.func193 (by kernel_rfl) (by kernel_rfl) (by kernel_rfl) .disable (by kernel_rfl) w
theorem raceEnable (w : World) : (callFunc 195 #[]).run Tryz.prog w = .ok (.value (.tuple #[])) w := run_call_mark0 Tryz.func195 (by kernel_rfl) (by kernel_rfl) (by kernel_rfl) .enable (by kernel_rfl) w
theorem raceAcquire (a : Addr) (w : World) : (callFunc 196 #[.pointer (some a)]).run Tryz.prog w = .ok (.value (.tuple #[])) w := run_call_marked Tryz.func196 (by kernel_rfl) (by kernel_rfl) (by kernel_rfl) .acquire (by kernel_rfl) a w
theorem raceMerge (a : Addr) (w : World) : (callFunc 198 #[.pointer (some a)]).run Tryz.prog w = .ok (.value (.tuple #[])) w := run_call_marked Tryz.func198 (by kernel_rfl) (by kernel_rfl) (by kernel_rfl) .releaseMerge (by kernel_rfl) a w
theorem store_deferred (a : Addr) (x : Value) (u : FrameMode) (w : World) (hc : w.cell? a = some x) (hz : w.frozen? a = false) :
    CallsD Tryz.prog 154 #[.pointer (some a), .bool true] u w fun e u' w' => u' = u ∧ (e = .returned (.tuple #[]) ∧ w' = w.drew.setCell a (.int .u32 1)) := by
  have hc' : w.drew.cell? a = some x := by go_simp
  have hz' : w.drew.frozen? a = false := by go_simp
  have hst := run_call_store (P := Tryz.prog) Tryz.func182 (by kernel_rfl) (by kernel_rfl) (by kernel_rfl) (by kernel_rfl) (k := .u32) (y := 1) hc' hz'
  go_enter_d Tryz.func154, Tryz.ntmps154
  go_wp2
  go_region_calls
  all_goals (go_end0; exact ⟨rfl, rfl⟩)
set_option maxRecDepth 100000 in
theorem unlock_deferred (a : Addr) (u : FrameMode) (w : World) (hc : w.cell? a = some (.int .i32 1)) (hz : w.frozen? a = false) :
    CallsD Tryz.prog 153 #[.pointer (some a)] u w fun e u' w' => u' = u ∧ (e = .returned (.tuple #[]) ∧ w' = w.setCell a (.int .i32 0)) := by
  have hd := raceDisable
  have he := raceEnable
  have hr := raceMerge
  have hadd := run_call_add (P := Tryz.prog) Tryz.func199 (by kernel_rfl) (by kernel_rfl) (by kernel_rfl) .i32 (by kernel_rfl) (y := -1) (s := 0) hc hz (by simp [go_sem]; rfl)
  have hcv := run_convert_to_unsafe (P := Tryz.prog) (src := 274) (dst := 278) Tryz.underlying274 Tryz.underlying278 (by kernel_rfl) hc
  go_enter_d Tryz.func153, Tryz.ntmps153
  go_wp2
  go_end0
  go_wp2
  go_end0
  exact ⟨rfl, rfl⟩
set_option maxRecDepth 100000 in
theorem lock_free (a : Addr) (w : World) (hc : w.cell? a = some (.int .i32 0)) (hz : w.frozen? a = false) :
    Calls Tryz.prog 152 #[.pointer (some a)] w fun e w' => e = .returned (.tuple #[]) ∧ w' = w.setCell a (.int .i32 1) := by
  have hd := raceDisable
  have he := raceEnable
  have ha := raceAcquire
  have hcas := run_call_cas_hit (P := Tryz.prog) Tryz.func194 (by kernel_rfl) (by kernel_rfl) (by kernel_rfl) .i32 (by kernel_rfl) (y := 1) hc hz
  have hc' : (w.setCell a (.int .i32 1)).cell? a = some (.int .i32 1) := World.cell?_setCell_same w a _ hc
  have hcv := run_convert_to_unsafe (P := Tryz.prog) (src := 274) (dst := 278) Tryz.underlying274 Tryz.underlying278 (by kernel_rfl) hc'
  go_enter Tryz.func152, Tryz.ntmps152
  go_wp2
  first | go_end0 | (simp only [Exit.inBlock, Exit.then]; refine bodyPost_ret (results_none rfl _ _ _) rfl ?_) | refine bodyPost_ret (results_none rfl _ _ _) rfl ?_
  go_wp2
  go_end0
  exact ⟨rfl, rfl⟩
theorem boolLoad_c (a : Addr) (d : Int) (w : World) (h : w.cell? a = some (.int .u32 d)) :
    Calls Tryz.prog 111 #[.pointer (some a)] w fun e w' => e = .returned (.bool (d != 0)) ∧ w' = w := by
  have hl := run_call_load (P := Tryz.prog) Tryz.func151 (by kernel_rfl) (by kernel_rfl) (by kernel_rfl) .u32 (by kernel_rfl) h
  go_enter Tryz.func111, Tryz.ntmps111
  go_wp2
  go_ret
  exact ⟨rfl, rfl⟩
/-- A counter is read. -/
theorem u64Load_c (a : Addr) (d : Int) (w : World) (h : w.cell? a = some (.int .u64 d)) :
    Calls Tryz.prog 38 #[.pointer (some a)] w fun e w' => e = .returned (.int .u64 d) ∧ w' = w := by
  have hl := run_call_load (P := Tryz.prog) Tryz.func73 (by kernel_rfl) (by kernel_rfl) (by kernel_rfl) .u64 (by kernel_rfl) h
  go_enter Tryz.func38, Tryz.ntmps38
  go_wp2
  go_ret
  exact ⟨rfl, rfl⟩
/-- A counter is counted up. -/
theorem u64Add_c (a : Addr) (n : UInt64) (w : World) (h : w.cell? a = some (.int .u64 (I64 n))) (hz : w.frozen? a = false) :
    Calls Tryz.prog 42 #[.pointer (some a), .int .u64 1] w fun e w' => e = .returned (.int .u64 (I64 (n + 1))) ∧ w' = w.setCell a (.int .u64 (I64 (n + 1))) := by
  have hl := run_call_add (P := Tryz.prog) Tryz.func82 (by kernel_rfl) (by kernel_rfl) (by kernel_rfl) .u64 (by kernel_rfl) (y := 1) (s := I64 (n + 1)) h hz (by simp [go_sem])
  go_enter Tryz.func42, Tryz.ntmps42
  go_wp2
  go_ret
  exact ⟨rfl, rfl⟩
section
variable {F : List Nat} {g : Nat} {cs cs' : List Value} {R : List Chunk} {w0 w : World} {p1 p2 p3 : Value} {d l : Int}
theorem Mem.frozenAt {L : List Chunk} (M : Mem F w0 w L) (i : Nat) {cs : List Value} (hi : L[i]? = some (.row g cs)) {off : Nat} (h : off < cs.length) : w.frozen? ⟨g, off, none⟩ = false := by
  have := (M.ok i _ hi).2.2 off h
  rw [Nat.zero_add] at this
  exact this.2
theorem Mem.setOff {L : List Chunk} (M : Mem F w0 w L) (i : Nat) {cs : List Value} (hi : L[i]? = some (.row g cs)) {off : Nat} (h : off < cs.length) (v : Value) : Mem F w0 (w.setCell ⟨g, off, none⟩ v) (L.set i (.row g (cs.set off v))) := M.upd i hi (upd_setCell (M.ok i _ hi) h v)
theorem lock_m (M : Mem F w0 w (.row g (onceR d 0 cs) :: R)) : Calls Tryz.prog 152 #[.pointer (some ⟨g, 1, none⟩)] w fun e w' => e = .returned (.tuple #[]) ∧ Mem F w0 w' (.row g (onceR d 1 cs) :: R) :=
  (lock_free ⟨g, 1, none⟩ w (M.cellAt 0 rfl rfl) (Mem.frozenAt M 0 rfl (by simp))).mono fun _ _ h => ⟨h.1, by rw [h.2]; exact Mem.setOff M 0 rfl (by simp) _⟩
theorem store_m (u : FrameMode) (M : Mem F w0 w (.row g (onceR 0 l cs) :: R)) : CallsD Tryz.prog 154 #[.pointer (some ⟨g, 0, none⟩), .bool true] u w fun e u' w' => u' = u ∧ (e = .returned (.tuple #[]) ∧ Mem F w0 w' (.row g (onceR 1 l cs) :: R)) :=
  (store_deferred ⟨g, 0, none⟩ _ u w (M.cellAt 0 rfl rfl) (Mem.frozenAt M 0 rfl (by simp))).mono fun _ _ _ h => ⟨h.1, h.2.1, by rw [h.2.2]; exact Mem.setOff M.drew 0 rfl (by simp) _⟩
theorem unlock_m (u : FrameMode) (M : Mem F w0 w (.row g (onceR d 1 cs) :: R)) : CallsD Tryz.prog 153 #[.pointer (some ⟨g, 1, none⟩)] u w fun e u' w' => u' = u ∧ (e = .returned (.tuple #[]) ∧ Mem F w0 w' (.row g (onceR d 0 cs) :: R)) :=
  (unlock_deferred ⟨g, 1, none⟩ u w (M.cellAt 0 rfl rfl) (Mem.frozenAt M 0 rfl (by simp))).mono fun _ _ _ h => ⟨h.1, h.2.1, by rw [h.2.2]; exact Mem.setOff M 0 rfl (by simp) _⟩
set_option maxRecDepth 100000 in
/-- 'doSlow', not yet done, the lock free. -/
theorem slow_c (M : Mem F w0 w (.row g (onceR 0 0 cs) :: R))
    (hf : ∀ w1, Mem F w0 w1 (.row g (onceR 0 1 cs) :: R) → Calls Tryz.prog 78 #[p1, p2, p3] w1 fun e w2 => e = .returned (.tuple #[]) ∧ Mem F w0 w2 (.row g (onceR 0 1 cs') :: R)) :
    Calls Tryz.prog 112 #[.pointer (some ⟨g, 0, none⟩), .func (.func 78) #[] #[p1, p2, p3]] w fun e w' => e = .returned (.tuple #[]) ∧ Mem F w0 w' (.row g (onceR 1 0 cs') :: R) := by
  have hnot : ∀ (x : Bool) (w : World), (Op.unary .not (.bool x)).run Tryz.prog w = .ok (.bool (!x)) w := fun _ _ => rfl
  go_enter_defers Tryz.func112, Tryz.ntmps112
  go_wp2_with (first | (go_at_call 152; refine (lock_m M).mono ?_; rintro e w1 ⟨rfl, M1⟩) | (go_at_call 111; refine (boolLoad_c _ _ _ (M1.cellAt 0 rfl rfl)).mono ?_; rintro e w2 ⟨rfl, rfl⟩) | (go_at_call 78; refine (hf _ M1).mono ?_; rintro e w2 ⟨rfl, M2⟩))
  refine leaves_cons (f := 154) (args := #[.pointer (some ⟨g, 0, none⟩), .bool true]) (by simp) (by simp [go_sem]) ?_
  refine (store_m _ M2).mono ?_
  rintro e u' w3 ⟨rfl, rfl, M3⟩
  refine leaves_cons (f := 153) (args := #[.pointer (some ⟨g, 1, none⟩)]) (by simp [settle]) (by simp [go_sem]) ?_
  refine (unlock_m _ M3).mono ?_
  rintro e u' w4 ⟨rfl, rfl, M4⟩
  simp [Leaves, settle, results, Tryz.results112]
  exact M4
theorem do_first (M : Mem F w0 w (.row g (onceR 0 0 cs) :: R))
    (hf : ∀ w1, Mem F w0 w1 (.row g (onceR 0 1 cs) :: R) → Calls Tryz.prog 78 #[p1, p2, p3] w1 fun e w2 => e = .returned (.tuple #[]) ∧ Mem F w0 w2 (.row g (onceR 0 1 cs') :: R)) :
    Calls Tryz.prog 77 #[.pointer (some ⟨g, 0, none⟩), .func (.func 78) #[] #[p1, p2, p3]] w fun e w' => e = .returned (.tuple #[]) ∧ Mem F w0 w' (.row g (onceR 1 0 cs') :: R) := by
  have hnot : ∀ (x : Bool) (w : World), (Op.unary .not (.bool x)).run Tryz.prog w = .ok (.bool (!x)) w := fun _ _ => rfl
  have h0 : w.cell? ⟨g, 0, none⟩ = some (.int .u32 0) := M.cellAt 0 rfl rfl
  have hl := run_call_load (P := Tryz.prog) Tryz.func151 (by kernel_rfl) (by kernel_rfl) (by kernel_rfl) .u32 (by kernel_rfl) h0
  go_enter Tryz.func77, Tryz.ntmps77
  go_wp2_with (first | (go_at_call 112; refine (slow_c M hf).mono ?_; rintro e w' ⟨rfl, M2⟩) | (go_at_call 111; go_in))
  go_end0
  exact ⟨rfl, M2⟩
theorem do_done (hd : ¬ d = 0) (fv : Value) (h0 : w.cell? ⟨g, 0, none⟩ = some (.int .u32 d)) :
    Calls Tryz.prog 77 #[.pointer (some ⟨g, 0, none⟩), fv] w fun e w' => e = .returned (.tuple #[]) ∧ w' = w := by
  have hl := run_call_load (P := Tryz.prog) Tryz.func151 (by kernel_rfl) (by kernel_rfl) (by kernel_rfl) .u32 (by kernel_rfl) h0
  have hnot : ∀ (x : Bool) (w : World), (Op.unary .not (.bool x)).run Tryz.prog w = .ok (.bool (!x)) w := fun _ _ => rfl
  have hd' : (d != 0) = true := by simp [hd]
  go_enter Tryz.func77, Tryz.ntmps77
  go_wp2
  go_end0
  exact ⟨rfl, rfl⟩
end
end Go.Proofs.YtidadhbaomieiaaGreat

/- Several pieces of memory held as one; opened and shut. Conditions: none. -/
namespace Go
namespace TL
open Go.RowKit
/-- These pieces are there, apart from each other. -/
def grpOk (L : List Chunk) (w : World) : Prop :=
  (∀ (i : Nat) (c : Chunk), L[i]? = some c → c.ok w) ∧ ∀ (i j : Nat) (c d : Chunk), i ≠ j → L[i]? = some c → L[j]? = some d → ∀ k ∈ c.fp, k ∉ d.fp
/-- Several pieces as one. -/
def grp (L : List Chunk) : Chunk := .obj (L.flatMap Chunk.fp) (grpOk L)
theorem grp_fp (L : List Chunk) : (grp L).fp = L.flatMap Chunk.fp := rfl
theorem mem_grp {L : List Chunk} {i : Nat} {c : Chunk} (h : L[i]? = some c) {k : Nat} (hk : k ∈ c.fp) : k ∈ (grp L).fp :=
  List.mem_flatMap.2 ⟨c, List.mem_of_getElem? h, hk⟩
theorem grp_mem {L : List Chunk} {k : Nat} (h : k ∈ (grp L).fp) : ∃ (i : Nat) (c : Chunk), L[i]? = some c ∧ k ∈ c.fp := by
  obtain ⟨c, hc, hk⟩ := List.mem_flatMap.1 h
  obtain ⟨i, hi⟩ := List.getElem?_of_mem hc
  exact ⟨i, c, hi, hk⟩
theorem grp_ok {L : List Chunk} {w : World} (h : grpOk L w) : (grp L).ok w := by
  refine ⟨fun k hk => ?_, h, fun w' hs hb => ⟨fun i c hc => ?_, h.2⟩⟩
  · obtain ⟨i, c, hc, hk'⟩ := grp_mem hk
    exact (h.1 i c hc).lt k hk'
  · exact (h.1 i c hc).stay hs fun k hk => hb k (mem_grp hc hk)
theorem Mem.opened {F : List Nat} {w0 w : World} {A L R : List Chunk} (M : Mem F w0 w (grp L :: R)) (hA : L ++ R = A) : Mem F w0 w A := by
  subst hA
  have hg : grpOk L w := (M.ok 0 _ rfl).2.1
  have pick : ∀ (i : Nat) (c : Chunk), (L ++ R)[i]? = some c → (∃ (h : i < L.length), L[i]? = some c) ∨ (∃ (h : L.length ≤ i), R[i - L.length]? = some c) := by
    intro i c hi
    by_cases h : i < L.length
    · rw [List.getElem?_append_left h] at hi; exact .inl ⟨h, hi⟩
    · rw [List.getElem?_append_right (by omega)] at hi; exact .inr ⟨by omega, hi⟩
  refine ⟨M.kept, ?_, ?_, ?_⟩
  · intro i c hi
    rcases pick i c hi with ⟨_, h⟩ | ⟨_, h⟩
    · exact hg.1 i c h
    · exact M.ok (i - L.length + 1) c (by simpa using h)
  · intro i c hi k hk
    rcases pick i c hi with ⟨_, h⟩ | ⟨_, h⟩
    · exact M.own 0 _ rfl k (mem_grp h hk)
    · exact M.own (i - L.length + 1) c (by simpa using h) k hk
  · intro i j c d hij hi hj k hk hk2
    rcases pick i c hi with ⟨_, h⟩ | ⟨h1, h⟩ <;> rcases pick j d hj with ⟨_, h'⟩ | ⟨h2, h'⟩
    · exact hg.2 i j c d hij h h' k hk hk2
    · exact M.nd 0 (j - L.length + 1) _ d (by omega) rfl (by simpa using h') k (mem_grp h hk) hk2
    · exact M.nd 0 (i - L.length + 1) _ c (by omega) rfl (by simpa using h) k (mem_grp h' hk2) hk
    · exact M.nd (i - L.length + 1) (j - L.length + 1) c d (by omega) (by simpa using h) (by simpa using h') k hk hk2
theorem Mem.shut {F : List Nat} {w0 w : World} {A : List Chunk} (M : Mem F w0 w A) (L R : List Chunk) (hA : A = L ++ R) : Mem F w0 w (grp L :: R) := by
  subst hA
  have left : ∀ (i : Nat) (c : Chunk), L[i]? = some c → (L ++ R)[i]? = some c := fun i c h => by
    rw [List.getElem?_append_left (List.getElem?_eq_some_iff.1 h).1]; exact h
  have right : ∀ (i : Nat) (c : Chunk), R[i]? = some c → (L ++ R)[L.length + i]? = some c := fun i c h => by
    rw [List.getElem?_append_right (by omega), show L.length + i - L.length = i by omega]; exact h
  have hg : grpOk L w := ⟨fun i c h => M.ok i c (left i c h), fun i j c d hij hi hj => M.nd i j c d hij (left i c hi) (left j d hj)⟩
  refine ⟨M.kept, ?_, ?_, ?_⟩
  · intro i c hi
    cases i with
    | zero => simp at hi; subst hi; exact grp_ok hg
    | succ i => exact M.ok (L.length + i) c (right i c (by simpa using hi))
  · intro i c hi k hk
    cases i with
    | zero =>
      simp at hi; subst hi
      obtain ⟨j, d, hd, hk'⟩ := grp_mem hk
      exact M.own j d (left j d hd) k hk'
    | succ i => exact M.own (L.length + i) c (right i c (by simpa using hi)) k hk
  · intro i j c d hij hi hj k hk hk2
    cases i with
    | zero =>
      simp at hi; subst hi
      obtain ⟨i', c', hc', hk'⟩ := grp_mem hk
      have hl := (List.getElem?_eq_some_iff.1 hc').1
      cases j with
      | zero => exact hij rfl
      | succ j => exact M.nd i' (L.length + j) c' d (by omega) (left i' c' hc') (right j d (by simpa using hj)) k hk' hk2
    | succ i =>
      cases j with
      | zero =>
        simp at hj; subst hj
        obtain ⟨j', d', hd', hk'⟩ := grp_mem hk2
        have hl := (List.getElem?_eq_some_iff.1 hd').1
        exact M.nd (L.length + i) j' c d' (by omega) (right i c (by simpa using hi)) (left j' d' hd') k hk hk'
      | succ j => exact M.nd (L.length + i) (L.length + j) c d (by omega) (right i c (by simpa using hi)) (right j d (by simpa using hj)) k hk hk2
/-- What came in as one piece is opened at once. -/
theorem Mem.startG {w : World} {L : List Chunk} (h : (grp L).ok w) : Mem (grp L).fp w w L := (Mem.start1 h).opened (List.append_nil L)
/-- At the end it is shut again. -/
theorem Mem.updG {w0 w : World} {L L' A : List Chunk} (M : Mem (grp L).fp w0 w A) (R : List Chunk) (hA : A = L' ++ R) : Upd w0 (grp L) w (grp L') := (M.shut L' R hA).upd1 0 rfl
/-- What is known of some pieces, each of them. -/
theorem Mem.startL {F : List Nat} {w0 w : World} {L : List Chunk} (M : Mem F w0 w L) : Mem (grp L).fp w w L :=
  Mem.startG (grp_ok ⟨M.ok, M.nd⟩)
end TL
end Go

/- A map from numbers to pointers which the walk owns: made, asked, written. Conditions: none. -/
namespace Go
namespace TL
open Go.RowKit
/-- The entries: numbers, and the blocks to which they lead. -/
def mapE : List (Int × Nat) → Nat → List MapEntry
  | [], _ => []
  | x :: l, n => ⟨.int .i64 x.1, .pointer (some ⟨x.2, 0, none⟩), n⟩ :: mapE l (n + 1)
theorem mapE_snoc (x : Int × Nat) : ∀ (l : List (Int × Nat)) (n : Nat), mapE (l ++ [x]) n = mapE l n ++ [⟨.int .i64 x.1, .pointer (some ⟨x.2, 0, none⟩), n + l.length⟩]
  | [], _ => rfl
  | y :: l, n => by
    rw [List.cons_append, mapE, mapE_snoc x l (n + 1)]
    simp only [mapE, List.cons_append, List.length_cons]
    rw [show n + 1 + l.length = n + (l.length + 1) by omega]
def mapO (l : List (Int × Nat)) : Obj := .map (mapE l 0).toArray l.length
def lookP : List (Int × Nat) → Int → Option Nat
  | [], _ => none
  | x :: l, i => if x.1 = i then some x.2 else lookP l i
theorem lookP_mem : ∀ {l : List (Int × Nat)} {i : Int} {g : Nat}, lookP l i = some g → ∃ j : Nat, l[j]? = some (i, g)
  | x :: l, i, g, h => by
    unfold lookP at h
    by_cases e : x.1 = i
    · rw [if_pos e] at h; injection h with h; exact ⟨0, by simp [← e, ← h]⟩
    · rw [if_neg e] at h
      obtain ⟨j, hj⟩ := lookP_mem h
      exact ⟨j + 1, by simpa using hj⟩
theorem lookP_snoc (i : Int) (g : Nat) : ∀ (l : List (Int × Nat)), lookP l i = none → lookP (l ++ [(i, g)]) i = some g
  | [], _ => by simp [lookP]
  | x :: l, h => by
    rw [List.cons_append]
    unfold lookP at h ⊢
    by_cases e : x.1 = i
    · rw [if_pos e] at h; cases h
    · rw [if_neg e] at h ⊢; exact lookP_snoc i g l h
theorem findP (i : Int) : ∀ (l : List (Int × Nat)) (n k : Nat), (lookP l i = none ∧ Instr.findNow (.int .i64) (.int .i64 i) (mapE l n) k = some none) ∨ ∃ g j, lookP l i = some g ∧ Instr.findNow (.int .i64) (.int .i64 i) (mapE l n) k = some (some (j, .pointer (some ⟨g, 0, none⟩)))
  | [], _, _ => .inl ⟨rfl, rfl⟩
  | x :: l, n, k => by
    have hs : Instr.sameNow (.int .i64) (.int .i64 i) (.int .i64 x.1) = some (i == x.1) := by simp [Instr.sameNow]
    unfold lookP mapE
    by_cases e : x.1 = i
    · refine .inr ⟨x.2, k, by rw [if_pos e], ?_⟩
      rw [Instr.findNow, hs, e]; simp
    · rw [if_neg e]
      have hf : (i == x.1) = false := by simpa using fun h => e h.symm
      rcases findP i l (n + 1) (k + 1) with ⟨h1, h2⟩ | ⟨g, j, h1, h2⟩
      · exact .inl ⟨h1, by rw [Instr.findNow, hs, hf]; exact h2⟩
      · exact .inr ⟨g, j, h1, by rw [Instr.findNow, hs, hf]; exact h2⟩
section
variable {P : Program} {w : World} {t k e : TypeId} {gm : Nat} {l : List (Int × Nat)} {i : Int}
theorem checkP (hk : P.underlying k = some (.int .i64)) (b : Bool) (n : Nat) : (Instr.checkKey b (n + 1) k (.int .i64 i)).run P w = .ok () w := by
  unfold Instr.checkKey
  simp [run_underlying hk, Result.andThen]
theorem lookup_none (ht : P.underlying t = some (.map k e)) (hk : P.underlying k = some (.int .i64)) (hz : (zeroValue e).run P w = .ok (.pointer none) w) (hb : w.heap[gm]? = some (mapO l)) (h : lookP l i = none) :
    (Instr.lookup t (.map (some gm)) (.int .i64 i) true).run P w = .ok (.tuple #[.pointer none, .bool false]) w := by
  rcases findP i l 0 0 with ⟨_, h2⟩ | ⟨g, j, h1, _⟩
  · simp [Instr.lookup, run_underlying ht, MapKept.run_getObj_map hb, checkP hk, Instr.findKey, run_underlying hk, h2, hz, Result.andThen]
  · rw [h] at h1; cases h1
theorem lookup_some (ht : P.underlying t = some (.map k e)) (hk : P.underlying k = some (.int .i64)) (hb : w.heap[gm]? = some (mapO l)) {g : Nat} (h : lookP l i = some g) :
    (Instr.lookup t (.map (some gm)) (.int .i64 i) true).run P w = .ok (.tuple #[.pointer (some ⟨g, 0, none⟩), .bool true]) w := by
  rcases findP i l 0 0 with ⟨h1, _⟩ | ⟨g', j, h1, h2⟩
  · rw [h] at h1; cases h1
  · rw [h] at h1; injection h1 with h1; subst h1
    simp [Instr.lookup, run_underlying ht, MapKept.run_getObj_map hb, checkP hk, Instr.findKey, run_underlying hk, h2, Result.andThen]
theorem update_none (ht : P.underlying t = some (.map k e)) (hk : P.underlying k = some (.int .i64)) (hb : w.heap[gm]? = some (mapO l)) (h : lookP l i = none) (g : Nat) :
    (Instr.mapUpdate t (.map (some gm)) (.int .i64 i) (.pointer (some ⟨g, 0, none⟩))).run P w = .ok () { w with heap := w.heap.setIfInBounds gm (mapO (l ++ [(i, g)])) } := by
  rcases findP i l 0 0 with ⟨_, h2⟩ | ⟨g', j, h1, _⟩
  · simp [Instr.mapUpdate, run_underlying ht, MapKept.run_getObj_map hb, checkP hk, Instr.findKey, run_underlying hk, h2, MapKept.run_setObj_map _ hb, Result.andThen, mapO, mapE_snoc]
  · rw [h] at h1; cases h1
end
section
variable {P : Program} {F : List Nat} {w0 w : World} {L : List Chunk} {ops : Array Oper} {rest : List Oper} {o : Oper} {a : Act} {Q : Exit → Act → World → Prop}
/-- 'make(map[int]*T)', or the empty literal. -/
theorem w_makeMap (M : Mem F w0 w L) (t : TypeId) (ho : o.op = .makeMap t none) (hw : Region.wanted o (yielded ops a.tmps) = true)
    (h : ∀ (g : Nat) (w' : World), Mem F w0 w' (.blk g (mapO []) :: L) → wpList P ops Q rest (a.put o.dst (.map (some g))) w') : wpList P ops Q (o :: rest) a w :=
  wpW hw fun _ hK => by
    have hr : (Instr.makeMap t none).run P w = .ok (.map (some w.heap.size)) (w.alloc (.map #[] 0)) := rfl
    unfold Oper.wp execOp
    simp only [ho, Option.map_none, Sem.run_bind, hr, Result.andThen_ok]
    exact hK _ _ (h _ _ (M.add (.blk w.heap.size (mapO [])) (Kept.alloc _ _) (MapKept.heap_alloc w (mapO [])).1 (by simp [Chunk.fp])))
/-- 's, ok := m[i]': nothing is there. -/
theorem w_lookNo (M : Mem F w0 w L) (n : Nat) (t : TypeId) (m x : Operand) (ho : o.op = .lookup t m x true) (hw : Region.wanted o (yielded ops a.tmps) = true) {k e : TypeId} (ht : P.underlying t = some (.map k e)) (hk : P.underlying k = some (.int .i64)) (hz : ((P.info? e).bind (·.zero)) = some (.pointer none)) {gm : Nat} {l : List (Int × Nat)} {i : Int} (hi : L[n]? = some (.blk gm (mapO l))) (hm : a.eval m = .map (some gm)) (hx : a.eval x = .int .i64 i) (hl : lookP l i = none)
    (h : wpList P ops Q rest (a.put o.dst (.tuple #[.pointer none, .bool false])) w) : wpList P ops Q (o :: rest) a w :=
  wpW hw fun _ hK => by
    cases hq : P.info? e with
    | none => simp [hq] at hz
    | some inf =>
      have hzz : inf.zero = some (.pointer none) := by simpa [hq] using hz
      have hzv : (zeroValue e).run P w = .ok (.pointer none) w := by simp only [zeroValue, typeInfo, Sem.run_bind, run_program, hq, Sem.run_pure, Result.andThen_ok, hzz]
      have hr := lookup_none ht hk hzv (M.ok n _ hi) hl
      unfold Oper.wp execOp
      simp only [ho, hm, hx, Sem.run_bind, hr, Result.andThen_ok]
      exact hK _ _ h
/-- 's, ok := m[i]': it is there. -/
theorem w_lookYes (M : Mem F w0 w L) (n : Nat) (t : TypeId) (m x : Operand) (ho : o.op = .lookup t m x true) (hw : Region.wanted o (yielded ops a.tmps) = true) {k e : TypeId} (ht : P.underlying t = some (.map k e)) (hk : P.underlying k = some (.int .i64)) {gm : Nat} {l : List (Int × Nat)} {i : Int} (hi : L[n]? = some (.blk gm (mapO l))) (hm : a.eval m = .map (some gm)) (hx : a.eval x = .int .i64 i) {g : Nat} (hl : lookP l i = some g)
    (h : wpList P ops Q rest (a.put o.dst (.tuple #[.pointer (some ⟨g, 0, none⟩), .bool true])) w) : wpList P ops Q (o :: rest) a w :=
  wpW hw fun _ hK => by
    have hr := lookup_some (w := w) (P := P) (t := t) (i := i) ht hk (M.ok n _ hi) hl
    unfold Oper.wp execOp
    simp only [ho, hm, hx, Sem.run_bind, hr, Result.andThen_ok]
    exact hK _ _ h
/-- 'm[i] = s', a new number. -/
theorem w_mapNew (M : Mem F w0 w L) (n : Nat) (t : TypeId) (m x v : Operand) (ho : o.op = .mapUpdate t m x v) (hw : Region.wanted o (yielded ops a.tmps) = true) {k e : TypeId} (ht : P.underlying t = some (.map k e)) (hk : P.underlying k = some (.int .i64)) {gm : Nat} {l : List (Int × Nat)} {i : Int} {g : Nat} (hi : L[n]? = some (.blk gm (mapO l))) (hm : a.eval m = .map (some gm)) (hx : a.eval x = .int .i64 i) (hv : a.eval v = .pointer (some ⟨g, 0, none⟩)) (hl : lookP l i = none)
    (h : ∀ w' : World, Mem F w0 w' (L.set n (.blk gm (mapO (l ++ [(i, g)])))) → wpList P ops Q rest (a.put o.dst undef) w') : wpList P ops Q (o :: rest) a w :=
  wpW hw fun _ hK => by
    have hb : w.heap[gm]? = some (mapO l) := M.ok n _ hi
    have hr := update_none (P := P) (t := t) ht hk hb hl g
    have hs := MapKept.heap_set (o' := mapO (l ++ [(i, g)])) hb
    have U : Upd w (.blk gm (mapO l)) { w with heap := w.heap.setIfInBounds gm (mapO (l ++ [(i, g)])) } (.blk gm (mapO (l ++ [(i, g)]))) :=
      ⟨⟨rfl, rfl, rfl, by simp, fun k _ hn => hs.2 k (by simpa [Chunk.fp] using hn)⟩, hs.1, fun k hk => .inl hk⟩
    unfold Oper.wp execOp
    simp only [ho, hm, hx, hv, Sem.run_bind, hr, Result.andThen_ok]
    exact hK _ _ (h _ (M.upd n hi U))
end
end TL
end Go

/- A region that draws its order, walked in one order, beside the walk's memory. No conditions but those each law names. -/
namespace Go
namespace TL
open Go.RowKit
/-! ### The walk of such a region: behind its last operation, c, nothing is asked, if it waits for all that was read -/
section
variable {P : Program} {ops : Array Oper} {Q : Exit → Act → World → Prop} {md : Region.Mode} {I : World → Prop} {c : Nat}
def wpAnyC (P : Program) (md : Region.Mode) (ops : Array Oper) (Q : Exit → Act → World → Prop) (I : World → Prop) (c : Nat) : Nat → Array Bool → Act → World → Prop
  | 0, listed, a, w => Region.ready md ops listed = [] ∧ Q .normal a w
  | fuel + 1, listed, a, w =>
    (Region.ready md ops listed = [] → Q .normal a w) ∧
    ∀ j ∈ Region.ready md ops listed, wpOp P ops Q j (fun a' w' => (j ≠ c → I w') ∧ wpAnyC P md ops Q I c fuel (listed.setIfInBounds j true) a' w') a w
theorem wpAny_of_C : ∀ (fuel : Nat) (listed : Array Bool) (a : Act) (w : World), wpAnyC P md ops Q I c fuel listed a w → wpAny P md ops Q fuel listed a w
  | 0, _, _, _, h => h
  | fuel + 1, _, _, _, h => ⟨h.1, fun j hj => wpOp_mono (fun a' w' h' => wpAny_of_C fuel _ a' w' h'.2) (h.2 j hj)⟩
/-- What yields the same in every world that meets I may be taken first. -/
theorem C_first {i : Nat} {oi : Oper} {v : Value} (hi : ops[i]? = some oi) (hsel : ∀ (j : Nat) (o : Oper) cs b, ops[j]? = some o → o.op ≠ .select cs b)
    (hQ : ∀ c a w, Q (.panic c) (a.put oi.dst v) w → Q (.panic c) a w) (hwait : ∀ oc, ops[c]? = some oc → ∃ e ∈ oc.after, Region.binds md e = true ∧ e.on = i) :
    ∀ (fuel : Nat) (listed : Array Bool) (a : Act) (w : World),
      (∀ j oj, ops[j]? = some oj → j ≠ i → listed.getD j true = false → (∀ e ∈ oj.after, Region.binds md e = true → e.on ≠ i) → oi.apart ops oj = true) →
      i ∈ Region.ready md ops listed → YieldsIf P ops I oi v a → I w →
      wpAnyC P md ops Q I c fuel (listed.setIfInBounds i true) (a.put oi.dst v) w → wpAnyC P md ops Q I c (fuel + 1) listed a w := by
  intro fuel
  induction fuel with
  | zero =>
    intro listed a w _ hr hy hw H
    refine ⟨fun h => (by rw [h] at hr; cases hr), fun j hj => ?_⟩
    by_cases hji : j = i
    · subst hji; exact hy.wpOp hi hw ⟨fun _ => hw, H⟩
    · have := ready_mono hj hji
      rw [H.1] at this
      cases this
  | succ fuel ih =>
    intro listed a w hfree hr hy hw H
    refine ⟨fun h => (by rw [h] at hr; cases hr), fun j hj => ?_⟩
    by_cases hji : j = i
    · subst hji; exact hy.wpOp hi hw ⟨fun _ => hw, H⟩
    · have h1 := H.2 j (ready_mono hj hji)
      obtain ⟨hjun, oj, hoj, hall⟩ := mem_ready.1 hj
      have hnot := not_waits hr hoj hall
      have hjc : j ≠ c := fun e => by
        subst e
        obtain ⟨x, hx, hb, hxi⟩ := hwait oj hoj
        exact hnot x hx hb hxi
      have h2 := wpOp_putIf hoj (hfree j oj hoj hji hjun hnot) (fun cs b => hsel i oi cs b hi) (fun cs b => hsel j oj cs b hoj) hQ hy h1
      have hfree' : ∀ k ok, ops[k]? = some ok → k ≠ i → (listed.setIfInBounds j true).getD k true = false →
          (∀ e ∈ ok.after, Region.binds md e = true → e.on ≠ i) → oi.apart ops ok = true := fun k ok hk hki hun hno => by
        refine hfree k ok hk hki ?_ hno
        by_cases hjk : j = k
        · subst hjk; exact hjun
        · rw [getD_set_ne true hjk] at hun; exact hun
      refine wpOp_mono (fun a' w' h3 => ⟨fun _ => h3.2.1 hjc, ih (listed.setIfInBounds j true) a' w' hfree' (ready_mono hr (Ne.symm hji)) h3.1 (h3.2.1 hjc) ?_⟩) h2
      rw [Array.setIfInBounds_comm _ _ hji]; exact h3.2.2
end
/-! ### The walk -/
/-- The operations up to the first that writes, and what is to hold there. -/
def planC (P : Program) (ops : Array Oper) (fin : Act → World → Prop) (I : World → Prop) (c : Nat) : Plan → List Oper × (Act → World → Prop)
  | [] => ([], fin)
  | (i, false) :: r => (opAt ops i :: (planC P ops fin I c r).1, (planC P ops fin I c r).2)
  | (i, true) :: r => ([opAt ops i], fun a w => (i ≠ c → I w) ∧ wpList P ops (Seg (planC P ops fin I c r).2) (planC P ops fin I c r).1 a w)
def waitsC (ops : Array Oper) (c i : Nat) : Bool := match ops[c]? with | none => true | some oc => oc.after.any fun e => Region.binds .any e && e.on == i
theorem waitsC_spec {ops : Array Oper} {c i : Nat} (h : waitsC ops c i = true) : ∀ oc, ops[c]? = some oc → ∃ e ∈ oc.after, Region.binds .any e = true ∧ e.on = i := fun oc hoc => by
  unfold waitsC at h; rw [hoc] at h
  simp only [Array.any_eq_true'] at h
  obtain ⟨e, he, h⟩ := h
  simp only [Bool.and_eq_true, beq_iff_eq] at h
  exact ⟨e, he, h.1, h.2⟩
def detC (P : Program) (ops : Array Oper) (need : Needs) (idx : List Nat) (c : Nat) : Array Bool → Plan → Bool
  | listed, [] => (Region.ready .any ops listed).isEmpty
  | listed, (i, false) :: r =>
    (Region.ready .any ops listed).contains i && Region.free .any ops listed i &&
      ((stays ops need (opAt ops i) ((i, false) :: r) && pureOp P (needOf need (opAt ops i)) (opAt ops i)) || (idx.contains i && staysLow ops (opAt ops i) ((i, false) :: r))) &&
      (waitsC ops c i && detC P ops need idx c (listed.setIfInBounds i true) r)
  | listed, (i, true) :: r => Region.ready .any ops listed == [i] && ((i != c || r.isEmpty) && detC P ops need idx c (listed.setIfInBounds i true) r)
section
variable {P : Program} {ops : Array Oper} {I : World → Prop} {fin : Act → World → Prop} {c : Nat}
theorem endsC : ∀ (plan : Plan) (a : Act) (w : World), wpList P ops (Seg (planC P ops fin I c plan).2) (planC P ops fin I c plan).1 a w →
    ∃ af wf, fin af wf ∧ ∀ t, (∀ x ∈ plan, (opAt ops x.1).dst ≠ some t) → af.tmps.getD t undef = a.tmps.getD t undef
  | [], a, w, h => ⟨a, w, h, fun _ _ => rfl⟩
  | (i, false) :: r, a, w, h => by
    obtain ⟨a', w', h1, h2⟩ := stepS h
    obtain ⟨af, wf, h3, h4⟩ := endsC r a' w' h1
    exact ⟨af, wf, h3, fun t ht => (h4 t fun x hx => ht x (List.mem_cons_of_mem _ hx)).trans (h2 t (ht (i, false) List.mem_cons_self))⟩
  | (i, true) :: r, a, w, h => by
    obtain ⟨a', w', h1, h2⟩ := stepS h
    obtain ⟨af, wf, h3, h4⟩ := endsC r a' w' h1.2
    exact ⟨af, wf, h3, fun t ht => (h4 t fun x hx => ht x (List.mem_cons_of_mem _ hx)).trans (h2 t (ht (i, true) List.mem_cons_self))⟩
theorem mainC {need : Needs} {low : List (Nat × Value)} {Q : Exit → Act → World → Prop} (hs : Region.noSelect ops = true) (hlow : ∀ x ∈ low, Stab P I (opAt ops x.1) x.2) :
    ∀ (plan : Plan) (listed : Array Bool) (a : Act) (w : World), detC P ops need (low.map (·.1)) c listed plan = true → I w →
      wpList P ops (Seg (planC P ops (finI ops need low Q) I c plan).2) (planC P ops (finI ops need low Q) I c plan).1 a w →
      wpAnyC P .any ops (Seg (finI ops need low Q)) I c plan.length listed a w
  | [], listed, a, w, hd, _, h => by
    have : Region.ready .any ops listed = [] := by simpa [detC] using hd
    exact ⟨this, h⟩
  | (i, false) :: r, listed, a, w, hd, hIw, h => by
    simp only [detC, Bool.and_eq_true] at hd
    obtain ⟨⟨⟨hr, hf⟩, hk⟩, hwt, hrest⟩ := hd
    have hwait := waitsC_spec hwt
    have hr' : i ∈ Region.ready .any ops listed := by simpa using hr
    obtain ⟨_, oi, hoi, _⟩ := mem_ready.1 hr'
    have hat : opAt ops i = oi := by simp [opAt, hoi]
    have hends := endsC ((i, false) :: r) a w h
    have h' : wpList P ops (Seg (planC P ops (finI ops need low Q) I c r).2) (oi :: (planC P ops (finI ops need low Q) I c r).1) a w := by
      rw [← hat]; exact h
    have hQ : ∀ v c a w, Seg (finI ops need low Q) (.panic c) (a.put oi.dst v) w → Seg (finI ops need low Q) (.panic c) a w := fun _ _ _ _ h => h.elim
    have hsel := fun j o cs b ho => Region.noSelect_spec hs j o cs b ho
    -- what it comes to, in every world that meets I
    have key : ∀ (s : Sem Value), execOp a.eval oi = (do Pure.pure (Next.value (← s))) → (∀ v w1, s.run P w = .ok v w1 → w1 = w ∧ ∀ w', I w' → s.run P w' = .ok v w') →
        wpAnyC P .any ops (Seg (finI ops need low Q)) I c (r.length + 1) listed a w := fun s hex hl => by
      cases hw : Region.wanted oi (yielded ops a.tmps) with
      | true =>
        unfold wpList at h'
        rw [if_pos hw] at h'
        rcases h' with h' | h'
        · unfold Oper.wp at h'
          rw [hex, Sem.run_bind] at h'
          cases hrun : s.run P w with
          | ok v w1 =>
            obtain ⟨rfl, hall⟩ := hl _ _ hrun
            rw [hrun] at h'
            have hy : YieldsIf P ops I oi v a := .inl ⟨hw, fun w' hw' => by rw [hex, Sem.run_bind, hall w' hw']; rfl⟩
            exact C_first hoi hsel (hQ v) hwait r.length listed a w1 (Region.free_spec hoi hf) hr' hy hIw (mainC hs hlow r _ _ w1 hrest hIw h')
          | halt x w1 =>
            rw [hrun] at h'
            cases x <;> exact h'.elim
        · exact (Seg.letsOut h'.2).elim
      | false =>
        unfold wpList at h'
        rw [if_neg (by rw [hw]; decide)] at h'
        exact C_first hoi hsel (hQ undef) hwait r.length listed a w (Region.free_spec hoi hf) hr' (.inr ⟨hw, rfl⟩) hIw (mainC hs hlow r _ _ w hrest hIw h')
    obtain ⟨af, wf, ⟨hneed, hlowf, _⟩, hsame⟩ := hends
    rcases (Bool.or_eq_true _ _).mp hk with hp | hp
    · obtain ⟨hst, hp⟩ := (Bool.and_eq_true _ _).mp hp
      have hne : needOk (needOf need (opAt ops i)) a = true := by
        unfold needOk at hneed ⊢
        rw [List.all_eq_true] at hneed ⊢
        intro p hpm
        have hp0 := hpm
        simp only [needOf, List.mem_filter] at hpm
        have h3 := hneed p hpm.1
        rw [hsame p.1 (fun x hx hd => by
          have h5 := List.all_eq_true.1 hst x hx
          simp only [hd] at h5
          have h6 := List.all_eq_true.1 h5 p hp0
          simp at h6)] at h3
        exact h3
      rw [hat] at hp hne
      obtain ⟨s, hex, hloc⟩ := pureOp_local hp hne
      exact key s hex fun v w1 hrun => ⟨(hloc _ _ _ hrun).1, fun w' _ => (hloc _ _ _ hrun).2 w'⟩
    · obtain ⟨hix, hst⟩ := (Bool.and_eq_true _ _).mp hp
      simp only [List.contains_iff_mem, List.mem_map] at hix
      obtain ⟨⟨i', p⟩, hxm, hxi⟩ := hix
      have hxi' : i' = i := hxi
      subst hxi'
      have hev : a.eval (lowOpnd oi) = p := by
        have e := hlowf _ hxm
        simp only [hat] at e
        rw [← e]
        refine (eval_same fun t ht => ?_).symm
        refine hsame t fun x hx hd => ?_
        have h5 := List.all_eq_true.1 hst x hx
        simp only [hd, hat] at h5
        have h6 := lowOpnd_in oi ht
        simp [h6] at h5
      have hstab := hlow _ hxm
      simp only [hat] at hstab
      unfold Stab at hstab
      cases hop : oi.op <;> simp only [hop] at hstab
      case load t x =>
        have hev' : a.eval x = p := by simpa only [lowOpnd, hop] using hev
        obtain ⟨v, hv⟩ := hstab
        refine key (Instr.loadAt t p) (by simp only [execOp, hop, hev']) fun u w1 hrun => ?_
        rw [hv w hIw] at hrun
        cases hrun
        exact ⟨rfl, hv⟩
      case convert src d x =>
        have hev' : a.eval x = p := by simpa only [lowOpnd, hop] using hev
        obtain ⟨v, hv⟩ := hstab
        refine key (Go.convert src d p) (by simp only [execOp, hop, hev']) fun u w1 hrun => ?_
        rw [hv w hIw] at hrun
        cases hrun
        exact ⟨rfl, hv⟩
  | (i, true) :: r, listed, a, w, hd, hIw, h => by
    simp only [detC, Bool.and_eq_true] at hd
    have hr : Region.ready .any ops listed = [i] := by simpa using hd.1
    have hr' : i ∈ Region.ready .any ops listed := by rw [hr]; simp
    obtain ⟨_, oi, hoi, _⟩ := mem_ready.1 hr'
    have hat : opAt ops i = oi := by simp [opAt, hoi]
    refine ⟨fun h0 => (by rw [hr] at h0; cases h0), fun j hj => ?_⟩
    rw [hr] at hj
    obtain rfl : j = i := by simpa using hj
    have h1 : wpList P ops (Seg (planC P ops (finI ops need low Q) I c ((j, true) :: r)).2) [oi] a w := by rw [← hat]; exact h
    have cont : ∀ a' w', (j ≠ c → I w') ∧ wpList P ops (Seg (planC P ops (finI ops need low Q) I c r).2) (planC P ops (finI ops need low Q) I c r).1 a' w' →
        (j ≠ c → I w') ∧ wpAnyC P .any ops (Seg (finI ops need low Q)) I c r.length (listed.setIfInBounds j true) a' w' := fun a' w' ⟨h2, h3⟩ => by
      refine ⟨h2, ?_⟩
      by_cases e : j = c
      · have hre := hd.2.1
        cases r with
        | nil =>
          have : Region.ready .any ops (listed.setIfInBounds j true) = [] := by simpa [detC] using hd.2.2
          exact ⟨this, h3⟩
        | cons x r => simp [e] at hre
      · exact mainC hs hlow r _ a' w' hd.2.2 (h2 e) h3
    unfold wpOp
    rw [hoi]
    unfold wpList at h1
    dsimp only
    split
    · rename_i hw
      rw [if_pos hw] at h1
      rcases h1 with h1 | h1
      · exact .inl (Oper.wp_seg cont h1)
      · exact (Seg.letsOut h1.2).elim
    · rename_i hw
      rw [if_neg hw] at h1
      exact cont _ _ h1
/-- THE REGION. 'low': the loads (and readings of bytes) that may come at any time, each with the place that it reads. -/
theorem region_lowc {Q : Exit → Act → World → Prop} {id : Nat} {l : List Oper} {a : Act} {w : World} (plan : Plan) (need : Needs) (low : List (Nat × Value)) (I : World → Prop) (c : Nat) (hm : P.follows .mixedOrders = true)
    (hs : Region.noSelect l.toArray = true) (hn : plan.length = l.length) (hd : detC P l.toArray need (low.map (·.1)) c (Array.replicate l.length false) plan = true)
    (hlow : ∀ x ∈ low, Stab P I (opAt l.toArray x.1) x.2) (hI : I w.drew)
    (h : wpList P l.toArray (Seg (planC P l.toArray (finI l.toArray need low Q) I c plan).2) (planC P l.toArray (finI l.toArray need low Q) I c plan).1 a w.drew) : (Code.region id l.toArray true).wp P Q a w := by
  refine Code.wp_mono (Q := Seg (finI l.toArray need low Q)) (fun e a w h => ?_) ?_
  · cases e <;> first | exact h.2.2 | exact h.elim
  · refine wp_region_any hm (wpAny_of_C (I := I) (c := c) _ _ _ _ (?_ : wpAnyC P .any l.toArray (Seg (finI l.toArray need low Q)) I c l.toArray.size (Array.replicate l.toArray.size false) a w.drew))
    have := mainC (Q := Q) hs hlow plan (Array.replicate l.length false) a w.drew hd hI h
    rw [hn] at this
    exact this
end
/-- The pieces that a region's loads read stand as they were. -/
def IxOk {F : List Nat} {w0 w : World} {L : List Chunk} (_ : Mem F w0 w L) (is : List Nat) (w' : World) : Prop := Kept F w0 w' ∧ ∀ i ∈ is, ∀ c, L[i]? = some c → Chunk.ok w' c
section
variable {P : Program} {o : Oper} {w w0 w' : World} {F : List Nat} {L : List Chunk} {M : Mem F w0 w L} {is : List Nat}
theorem ixOk_self (M : Mem F w0 w L) (is : List Nat) : IxOk M is w.drew := ⟨M.drew.kept, fun i _ c hc => M.drew.ok i c hc⟩
theorem ixOk_nil (hk : Kept F w0 w') : IxOk M [] w' := ⟨hk, fun _ h => by cases h⟩
theorem ixOk_cons {i : Nat} {c : Chunk} (hi : L[i]? = some c) (h : c.ok w') (r : IxOk M is w') : IxOk M (i :: is) w' := ⟨r.1, fun j hj d hd => by
  rcases List.mem_cons.1 hj with rfl | hj
  · rw [hi] at hd; cases hd; exact h
  · exact r.2 j hj d hd⟩
theorem rowCell {g : Nat} {cs : List Value} (h : (Chunk.row g cs).ok w') {off : Nat} {v : Value} (hv : cs[off]? = some v) : w'.cell? ⟨g, off, none⟩ = some v := by
  have := h.2.1 off v hv; rwa [Nat.zero_add] at this
theorem stab_ix (M : Mem F w0 w L) (i : Nat) (off : Nat) {t : TypeId} {x : Operand} (ho : o.op = .load t x) {g : Nat} {cs : List Value} (hi : L[i]? = some (.row g cs)) (hin : i ∈ is) (ht : scalarT P t = true) {v : Value} (hv : cs[off]? = some v) : Stab P (IxOk M is) o (.pointer (some ⟨g, off, none⟩)) := by
  unfold Stab; rw [ho]
  refine ⟨v, fun w' hw => ?_⟩
  simp only [Instr.loadAt, Instr.sureAddr, Sem.run_bind, Sem.run_pure, Result.andThen_ok, run_loadVar_scalar ht w' g off v (rowCell (hw.2 i hin _ hi) hv)]
theorem stab_ixB (M : Mem F w0 w L) (i : Nat) (off : Nat) {t : TypeId} {x : Operand} (ho : o.op = .load t x) {g : Nat} {l : List UInt8} (hi : L[i]? = some (.row g (bs l))) (hin : i ∈ is) (ht : scalarT P t = true) (hlt : off < l.length) : Stab P (IxOk M is) o (.pointer (some ⟨g, off, none⟩)) :=
  stab_ix M i off ho hi hin ht (getD_some hlt)
theorem stab_ixA (M : Mem F w0 w L) (i : Nat) (off : Nat) {t : TypeId} {x : Operand} (ho : o.op = .load t x) {g : Nat} {cs : List Value} (hi : L[i]? = some (.row g cs)) (hin : i ∈ is) (ht : rowT P t = true) (pre mid post : List Value) (hcs : cs = pre ++ (mid ++ post)) (hpre : pre.length = off) (hn : (P.info? t).map (·.size) = some mid.length) : Stab P (IxOk M is) o (.pointer (some ⟨g, off, none⟩)) := by
  unfold rowT at ht
  cases hu : P.underlying t with
  | none => simp [hu] at ht
  | some d =>
    simp only [hu] at ht
    refine stab_load ho g off mid d (fun w' hw j v hv => rowCell (hw.2 i hin _ hi) ?_) hu ht hn
    have hj : j < mid.length := (List.getElem?_eq_some_iff.1 hv).1
    rw [hcs, ← hpre, List.getElem?_append_right (by omega), Nat.add_sub_cancel_left, List.getElem?_append_left hj]; exact hv
theorem stab_ixR (M : Mem F w0 w L) (i : Nat) {t : TypeId} {x : Operand} (ho : o.op = .load t x) {g : Nat} {cs : List Value} (hi : L[i]? = some (.row g cs)) (hin : i ∈ is) (ht : rowT P t = true) (hn : (P.info? t).map (·.size) = some cs.length) : Stab P (IxOk M is) o (.pointer (some ⟨g, 0, none⟩)) :=
  stab_ixA M i 0 ho hi hin ht [] cs [] (by simp) rfl hn
theorem stab_ixH (M : Mem F w0 w L) (i : Nat) {t : TypeId} {x : Operand} (ho : o.op = .load t x) {g : Nat} {l : List UInt8} (hi : L[i]? = some (.row g (bs l))) (hin : i ∈ is) (ht : rowT P t = true) {n : Nat} (hl : l.length = n) (hn : (P.info? t).map (·.size) = some n) : Stab P (IxOk M is) o (.pointer (some ⟨g, 0, none⟩)) :=
  stab_ixR M i ho hi hin ht (by rw [bs_length, hl]; exact hn)
/-- string(a[:]), a an array. -/
theorem stab_ixW (M : Mem F w0 w L) (i : Nat) {src dst e : TypeId} {x : Operand} (ho : o.op = .convert src dst x) {g : Nat} {l : List UInt8} (hi : L[i]? = some (.row g (bs l))) (hin : i ∈ is) {n : Nat} (hl : l.length = n) (hm : n ≤ maxLen) (hs : P.underlying src = some (.slice e)) (he : P.underlying e = some (.int .u8)) (hd : P.underlying dst = some .string) : Stab P (IxOk M is) o (.slice (some ⟨g, 0, none⟩) n n) := by
  refine stab_conv ho _ l (fun w' hw => ?_) hs he hd
  have := row_sees (off := 0) (n := n) (cap := n) (hw.2 i hin _ hi) (by omega) (Nat.le_refl _) hm
  rwa [List.drop_zero, List.take_of_length_le (by omega)] at this
/-- string(b), b owned. -/
theorem stab_ixS (M : Mem F w0 w L) (i : Nat) {src dst e : TypeId} {x : Operand} (ho : o.op = .convert src dst x) {v : Value} {n : Nat} {l : List UInt8} (hi : L[i]? = some (.sl 1 v n (bs l))) (hin : i ∈ is) (hl : n = l.length) (hs : P.underlying src = some (.slice e)) (he : P.underlying e = some (.int .u8)) (hd : P.underlying dst = some .string) : Stab P (IxOk M is) o v := by
  subst hl
  exact stab_conv ho v l (fun w' hw => Own.sees (hw.2 i hin _ hi)) hs he hd
/-- The same, told by the piece and the place. -/
def StabAt (P : Program) (M : Mem F w0 w L) (is : List Nat) (o : Oper) (_i _off : Nat) (va : Value) : Prop := Stab P (IxOk M is) o va
section
variable {i off : Nat} {t : TypeId} {x : Operand}
theorem sa_ix (ho : o.op = .load t x) {g : Nat} {cs : List Value} (hi : L[i]? = some (.row g cs)) (hin : i ∈ is) (ht : scalarT P t = true) {v : Value} (hv : cs[off]? = some v) : StabAt P M is o i off (.pointer (some ⟨g, off, none⟩)) := stab_ix M i off ho hi hin ht hv
theorem sa_ixB (ho : o.op = .load t x) {g : Nat} {l : List UInt8} (hi : L[i]? = some (.row g (bs l))) (hin : i ∈ is) (ht : scalarT P t = true) (hlt : off < l.length) : StabAt P M is o i off (.pointer (some ⟨g, off, none⟩)) := stab_ixB M i off ho hi hin ht hlt
theorem sa_ixH (ho : o.op = .load t x) {g : Nat} {l : List UInt8} (hi : L[i]? = some (.row g (bs l))) (hin : i ∈ is) (ht : rowT P t = true) {n : Nat} (hl : l.length = n) (hn : (P.info? t).map (·.size) = some n) : StabAt P M is o i off (.pointer (some ⟨g, 0, none⟩)) := stab_ixH M i ho hi hin ht hl hn
theorem sa_ixR (ho : o.op = .load t x) {g : Nat} {cs : List Value} (hi : L[i]? = some (.row g cs)) (hin : i ∈ is) (ht : rowT P t = true) (hn : (P.info? t).map (·.size) = some cs.length) : StabAt P M is o i off (.pointer (some ⟨g, 0, none⟩)) := stab_ixR M i ho hi hin ht hn
theorem sa_ixW {src dst e : TypeId} (ho : o.op = .convert src dst x) {g : Nat} {l : List UInt8} (hi : L[i]? = some (.row g (bs l))) (hin : i ∈ is) {n : Nat} (hl : l.length = n) (hm : n ≤ maxLen) (hs : P.underlying src = some (.slice e)) (he : P.underlying e = some (.int .u8)) (hd : P.underlying dst = some .string) : StabAt P M is o i off (.slice (some ⟨g, 0, none⟩) n n) := stab_ixW M i ho hi hin hl hm hs he hd
theorem sa_ixS {src dst e : TypeId} (ho : o.op = .convert src dst x) {v : Value} {n : Nat} {l : List UInt8} (hi : L[i]? = some (.sl 1 v n (bs l))) (hin : i ∈ is) (hl : n = l.length) (hs : P.underlying src = some (.slice e)) (he : P.underlying e = some (.int .u8)) (hd : P.underlying dst = some .string) : StabAt P M is o i off v := stab_ixS M i ho hi hin hl hs he hd
end
/-- One of a region's loads that may come at any time, and the others. -/
theorem lowA {ops : Array Oper} {k : Nat} {va : Value} {low : List (Nat × Value)} (M : Mem F w0 w L) (i off : Nat)
    (r : ∀ x ∈ low, Stab P (IxOk M is) (opAt ops x.1) x.2)
    (h : StabAt P M is (opAt ops k) i off va := by first | exact sa_ix rfl rfl (by decide) (by decide +kernel) rfl | exact sa_ixB rfl rfl (by decide) (by decide +kernel) (by first | assumption | omega) | exact sa_ix32 rfl rfl (by decide) (by decide +kernel) (by first | assumption | omega | (simp; omega)) | exact sa_ixH rfl rfl (by decide) (by decide +kernel) (by first | assumption | exact lenI | exact lenS ‹_› | rfl) (by decide +kernel) | exact sa_ixW32 rfl rfl (by decide) (by decide +kernel) (by first | assumption | exact lenI | exact lenS ‹_› | rfl) (by decide +kernel) | exact sa_ixR rfl rfl (by decide) (by decide +kernel) (by kernel_rfl) | exact sa_ixW rfl rfl (by decide) (by first | assumption | exact lenI | exact lenS ‹_› | rfl) (by decide) Tryz.underlying70 Tryz.underlying5 Tryz.underlying9 | exact sa_ixS rfl rfl (by decide) (by first | rfl | simp | assumption) Tryz.underlying70 Tryz.underlying5 Tryz.underlying9) : ∀ y ∈ (k, va) :: low, Stab P (IxOk M is) (opAt ops y.1) y.2 := lows_cons h r
/-- The pieces that the loads read stand. -/
theorem ixA {M0 : Mem F w0 w L} (h : IxOk M0 is w' := by (repeat' (first | exact ixOk_nil M.kept | refine ixOk_cons rfl (by first | exact M.ok 0 _ rfl | exact M.ok 1 _ rfl | exact M.ok 2 _ rfl | exact M.ok 3 _ rfl | exact M.ok 4 _ rfl | exact M.ok 5 _ rfl | exact M.ok 6 _ rfl | exact M.ok 7 _ rfl | exact M.ok 8 _ rfl | exact M.ok 9 _ rfl) ?_))) : IxOk M0 is w' := h
end
theorem needs_at {l : List Value} {d : List Deferred} {n : Nat} {s : Shape} {r : Needs} {v : Value} (h : l[n]? = some v) (hs : s.ok v = true) (k : needOk r ⟨l.toArray, d⟩ = true) : needOk ((n, s) :: r) ⟨l.toArray, d⟩ = true :=
  needs_cons (by simpa [h] using hs) k
theorem nums_bs (l : List UInt8) : Shape.ok .nums (.agg (bs l).toArray) = true := nums_vb l
theorem ndA {r : Needs} {a : Act} (h : needOk r a = true := by (repeat' (first | (with_reducible exact needs_nil) | refine needs_at rfl (by first | (show Shape.ok Shape.nums _ = true; exact nums_bs _) | rfl) ?_))) : needOk r a = true := h
theorem ndK {r : Needs} {a : Act} (h : needOk r a = true := by (repeat' (first | (with_reducible exact needs_nil) | refine needs_at rfl (by first | (show Shape.ok Shape.nums _ = true; exact nums_bs _) | rfl | (simp [Shape.ok, Shape.strict, aggV, plain1]; done)) ?_))) : needOk r a = true := h
theorem atA {ops : Array Oper} {a : Act} {low : List (Nat × Value)} (h : ∀ y ∈ low, a.eval (lowOpnd (opAt ops y.1)) = y.2 := by (repeat' (first | (with_reducible exact ats_nil) | refine ats_cons (by first | exact ev_tmp rfl | rfl) ?_))) : ∀ y ∈ low, a.eval (lowOpnd (opAt ops y.1)) = y.2 := h
end TL
end Go

/- A row of bytes that came in, and is only read. No conditions but those each law names. -/
namespace Go
namespace TL
open Go.RowKit
section
variable {P : Program} {ops : Array Oper} {rest : List Oper} {o : Oper} {a : Act} {w w0 : World} {Q : Exit → Act → World → Prop} {F : List Nat} {L : List Chunk} {g : Nat} {l : List UInt8}
theorem Mem.stays {c : Chunk} (M : Mem [] w0 w L) (R : c.ok w0) : c.ok w := R.stay M.kept.size fun k hk => M.kept.block k (R.lt k hk) (by simp)
/-- A byte of it. -/
theorem w_rowB (M : Mem [] w0 w L) (R : (Chunk.row g (bs l)).ok w0) (t : TypeId) (x : Operand) (ho : o.op = .load t x) {off : Nat} (hx : a.eval x = .pointer (some ⟨g, off, none⟩)) (hw : Region.wanted o (yielded ops a.tmps) = true)
    (ht : scalarT P t = true) (hlt : off < l.length) (h : wpList P ops Q rest (a.put o.dst (.int .u8 (I8 (l.getD off 0)))) w) : wpList P ops Q (o :: rest) a w :=
  wpW hw fun _ hK => by
    unfold Oper.wp execOp
    simp only [ho, hx, Instr.loadAt, Instr.sureAddr, Sem.run_bind, Sem.run_pure, Result.andThen_ok, run_loadVar_scalar ht w g _ _ (rowCell (M.stays R) (getD_some hlt))]
    exact hK _ _ h
/-- A cell of a row that came in. -/
theorem w_rowC {cs : List Value} (M : Mem [] w0 w L) (R : (Chunk.row g cs).ok w0) (t : TypeId) (x : Operand) (ho : o.op = .load t x) {off : Nat} (hx : a.eval x = .pointer (some ⟨g, off, none⟩)) (hw : Region.wanted o (yielded ops a.tmps) = true)
    (ht : scalarT P t = true) {v : Value} (hv : cs[off]? = some v) (h : wpList P ops Q rest (a.put o.dst v) w) : wpList P ops Q (o :: rest) a w :=
  wpW hw fun _ hK => by
    unfold Oper.wp execOp
    simp only [ho, hx, Instr.loadAt, Instr.sureAddr, Sem.run_bind, Sem.run_pure, Result.andThen_ok, run_loadVar_scalar ht w g _ _ (rowCell (M.stays R) hv)]
    exact hK _ _ h
/-- A byte of it, as a region's load that may come at any time. -/
theorem stab_rowB (M : Mem [] w0 w L) {is : List Nat} (R : (Chunk.row g (bs l)).ok w0) (off : Nat) {t : TypeId} {x : Operand} (ho : o.op = .load t x) (ht : scalarT P t = true) (hlt : off < l.length) : Stab P (IxOk M is) o (.pointer (some ⟨g, off, none⟩)) := by
  unfold Stab; rw [ho]
  have R' : ∀ w' : World, Kept [] w0 w' → (Chunk.row g (bs l)).ok w' := fun w' k => R.stay k.size fun j hj => k.block j (R.lt j hj) (by simp)
  refine ⟨.int .u8 (I8 (l.getD off 0)), fun w' hw => ?_⟩
  simp only [Instr.loadAt, Instr.sureAddr, Sem.run_bind, Sem.run_pure, Result.andThen_ok, run_loadVar_scalar ht w' g off _ (rowCell (R' w' hw.1) (getD_some hlt))]
/-- A store of a byte that is told as a number. -/
theorem w_storeBc (M : Mem F w0 w L) (i : Nat) (t : TypeId) (x y : Operand) (ho : o.op = .store t x y) {off : Nat} (hi : L[i]? = some (.row g (bs l))) (hx : a.eval x = .pointer (some ⟨g, off, none⟩)) (hw : Region.wanted o (yielded ops a.tmps) = true)
    {n : Int} (hy : a.eval y = .int .u8 n) (hb : n = I8 (w8 n)) (hn : (P.info? t).map (·.size) = some 1) (hlt : off < l.length)
    (h : ∀ w' : World, Mem F w0 w' (L.set i (.row g (bs (l.set off (w8 n))))) → wpList P ops Q rest (a.put o.dst undef) w') : wpList P ops Q (o :: rest) a w :=
  w_storeB M i t x y ho hi hx hw (hy.trans (congrArg (Value.int .u8) hb)) hn hlt h
theorem StA.byteC {t : TypeId} {off i : Nat} (M : Mem F w0 w L) (hi : L[i]? = some (.row g (bs l))) {n : Int} (hb : n = I8 (w8 n)) (hn : (P.info? t).map (·.size) = some 1) (hlt : off < l.length) : StA P w t (.pointer (some ⟨g, off, none⟩)) (.int .u8 n) fun w' => Mem F w0 w' (L.set i (.row g (bs (l.set off (w8 n))))) := fun _ _ _ x y _ _ ho hx hy hw h => w_storeBc M i t x y ho hi hx hw hy hb hn hlt h
/-- A byte of an owned slice. -/
theorem w_slB (M : Mem F w0 w L) (i : Nat) (t : TypeId) (x : Operand) (ho : o.op = .load t x) {so n m cap : Nat} (hi : L[i]? = some (.sl 1 (.slice (some ⟨g, so, none⟩) m cap) n (bs l))) {at' : Nat} (hx : a.eval x = .pointer (some ⟨g, at', none⟩)) (hw : Region.wanted o (yielded ops a.tmps) = true)
    (ht : scalarT P t = true) (k : Nat) (hat : at' = so + k) (hlt : k < l.length) (h : wpList P ops Q rest (a.put o.dst (.int .u8 (I8 (l.getD k 0)))) w) : wpList P ops Q (o :: rest) a w :=
  wpW hw fun _ hK => by
    subst hat
    unfold Oper.wp execOp
    simp only [ho, hx, Instr.loadAt, Instr.sureAddr, Sem.run_bind, Sem.run_pure, Result.andThen_ok, run_loadVar_scalar ht w g _ _ (M.slCell i hi (getD_some hlt))]
    exact hK _ _ h
/-- A cell of an owned slice is turned. -/
theorem upd_slSet {size n m cap g so off : Nat} {cs : List Value} (h : (Chunk.sl size (.slice (some ⟨g, so, none⟩) m cap) n cs).ok w) (hlt : off < cs.length) (v : Value) :
    Upd w (.sl size (.slice (some ⟨g, so, none⟩) m cap) n cs) (w.setCell ⟨g, so + off, none⟩ v) (.sl size (.slice (some ⟨g, so, none⟩) m cap) n (cs.set off v)) := by
  obtain ⟨h1, h2⟩ := h
  rcases h2 with ⟨h0, _⟩ | ⟨g', o', c, hv, _, hg, hn, hc, hr, ht⟩
  · cases h0
  · injection hv with e1 e2 e3; injection e1 with e1; injection e1 with e1 e4; subst e1; subst e2; subst e3; subst e4
    have hle : cs.length ≤ cap * size := by rw [h1]; exact Nat.mul_le_mul_right _ hn
    refine ⟨Kept.grown (grownBy_setCell w ⟨g, so + off, none⟩ v), ⟨by rw [List.length_set]; exact h1, .inr ⟨g, so, cap, rfl, Nat.zero_le _, by rw [← setCells_one, size_setCells]; exact hg, hn, hc, ?_, ?_⟩⟩, fun k hk => .inl hk⟩
    · rw [← setCells_one, List.set_eq_take_append_cons_drop, if_pos hlt]
      have hcs : cs = cs.take off ++ ([cs[off]] ++ cs.drop (off + 1)) := by simp
      refine rangeAt_append ?_ (rangeAt_append (xs := [v]) ?_ ?_)
      · refine World.rangeAt_setCells_apart (rangeAt_take hr off) _ _ _ (.inr (.inl (by rw [List.length_take]; omega)))
      · rw [List.length_take, Nat.min_eq_left (by omega)]
        refine World.rangeAt_setCells_same _ _ _ _ ?_
        exact there_mono (there_drop ht off) (by simp; omega)
      · refine World.rangeAt_setCells_apart ?_ _ _ _ (.inr (.inr (by rw [List.length_take]; simp; omega)))
        have := rangeAt_drop hr (off + 1)
        rw [List.length_take, Nat.min_eq_left (by omega)]
        simpa [Nat.add_assoc] using this
    · rw [← setCells_one]; exact World.there_setCells ht _ _ _
/-- A store of one cell into an owned slice. -/
theorem w_slSet (M : Mem F w0 w L) (i : Nat) (t : TypeId) (x y : Operand) (ho : o.op = .store t x y) {size n m cap g so : Nat} {cs : List Value} (hi : L[i]? = some (.sl size (.slice (some ⟨g, so, none⟩) m cap) n cs)) {at' : Nat} (hx : a.eval x = .pointer (some ⟨g, at', none⟩)) (hw : Region.wanted o (yielded ops a.tmps) = true)
    {v : Value} (hy : a.eval y = v) (h1 : v.oneCell' = true) (hc : v.cells = #[v]) (hn : (P.info? t).map (·.size) = some 1) (off : Nat) (hat : at' = so + off) (hlt : off < cs.length)
    (h : ∀ w' : World, Mem F w0 w' (L.set i (.sl size (.slice (some ⟨g, so, none⟩) m cap) n (cs.set off v))) → wpList P ops Q rest (a.put o.dst undef) w') : wpList P ops Q (o :: rest) a w :=
  wpW hw fun _ hK => by
    subst hat
    have hok := M.ok i _ hi
    have hth : w.there g (so + off) 1 := by
      obtain ⟨k1, k2⟩ := hok
      rcases k2 with ⟨h0, _⟩ | ⟨g', o', c, hv, _, hg, hn', hc', hr, ht⟩
      · cases h0
      · injection hv with e1 e2 e3; injection e1 with e1; injection e1 with e1 e4; subst e1; subst e2; subst e3; subst e4
        have hle : cs.length ≤ cap * size := by rw [k1]; exact Nat.mul_le_mul_right _ hn'
        exact there_mono (there_drop ht off) (by omega)
    have hst := run_storeCells_mid (P := P) (w := w) (g := g) (o := so + off) [v] hth (by simpa using h1)
    cases hq : P.info? t with
    | none => simp [hq] at hn
    | some inf =>
      have hs : inf.size = 1 := by simpa [hq] using hn
      unfold Oper.wp execOp
      simp only [ho, hx, hy, Instr.storeAt, Instr.sureAddr, storeVar, Sem.run_bind, Sem.run_pure, Result.andThen_ok, sizeOf, typeInfo, run_program, hq, hs, hc]
      simp only [List.size_toArray, List.length_cons, List.length_nil, Nat.zero_add, ne_eq, not_true_eq_false, if_false, hst, Result.andThen_ok]
      rw [setCells_one]
      exact hK _ _ (h _ (M.upd i hi (upd_slSet hok hlt v)))
/-- A store of a byte into an owned slice. -/
theorem w_slSetB (M : Mem F w0 w L) (i : Nat) (t : TypeId) (x y : Operand) (ho : o.op = .store t x y) {so n m cap : Nat} (hi : L[i]? = some (.sl 1 (.slice (some ⟨g, so, none⟩) m cap) n (bs l))) {at' : Nat} (hx : a.eval x = .pointer (some ⟨g, at', none⟩)) (hw : Region.wanted o (yielded ops a.tmps) = true)
    {b : UInt8} (hy : a.eval y = .int .u8 (I8 b)) (hn : (P.info? t).map (·.size) = some 1) (k : Nat) (hat : at' = so + k) (hlt : k < l.length)
    (h : ∀ w' : World, Mem F w0 w' (L.set i (.sl 1 (.slice (some ⟨g, so, none⟩) m cap) n (bs (l.set k b)))) → wpList P ops Q rest (a.put o.dst undef) w') : wpList P ops Q (o :: rest) a w :=
  w_slSet M i t x y ho hi hx hw hy rfl rfl hn k hat (by rw [bs_length]; exact hlt) (fun w' M' => h w' (by rw [bs_set]; exact M'))
/-- copy into a row of bytes. -/
theorem w_copyB (M : Mem F w0 w L) (i : Nat) {t e : TypeId} {bytes : Nat} (T : SliceT P t e 1 bytes) (d x : Operand) (u : TypeId) (ho : o.op = .call { callee := .builtin .copy, args := #[d, x], argTypes := #[t, u] }) (hw : Region.wanted o (yielded ops a.tmps) = true)
    {off dl dc : Nat} (hi : L[i]? = some (.row g (bs l))) (hd : a.eval d = .slice (some ⟨g, off, none⟩) dl dc) {xv : Value} (hx : a.eval x = xv) {news : List UInt8} (hsee : SeesB w xv news) (k : Nat) (hk : k = min news.length dl) (hlen : off + k ≤ l.length)
    (h : ∀ w' : World, Mem F w0 w' (L.set i (.row g (bs (l.take off ++ (news.take k ++ l.drop (off + k)))))) → wpList P ops Q rest (a.put o.dst (.int .i64 k)) w') : wpList P ops Q (o :: rest) a w := by
  refine w_copy M i T d x u ho hw hi hd hx news.length (bs news) (Src_of_sees hsee (bs_one _)) k hk (by rw [bs_length]; omega) fun w' M' => h w' ?_
  rw [Nat.mul_one] at M'
  rw [bs_append, bs_append]
  simpa [bs, List.map_take, List.map_drop] using M'
/-- An array within a row of bytes. -/
theorem w_loadM (M : Mem F w0 w L) (i : Nat) (t : TypeId) (x : Operand) (ho : o.op = .load t x) {off : Nat} (hi : L[i]? = some (.row g (bs l))) (hx : a.eval x = .pointer (some ⟨g, off, none⟩)) (hw : Region.wanted o (yielded ops a.tmps) = true)
    (ht : rowT P t = true) (n : Nat) (hn : (P.info? t).map (·.size) = some n) (hle : off + n ≤ l.length) (h : wpList P ops Q rest (a.put o.dst (.agg (bs ((l.drop off).take n)).toArray)) w) : wpList P ops Q (o :: rest) a w := by
  refine w_loadA M i t x ho hi hx hw ht (bs (l.take off)) (bs ((l.drop off).take n)) (bs (l.drop (off + n))) ?_ ?_ ?_ h
  · rw [← bs_append, ← bs_append, ← List.drop_drop, List.take_append_drop, List.take_append_drop]
  · rw [bs_length, List.length_take]; omega
  · rw [bs_length, List.length_take, List.length_drop]; rw [hn]; congr 1; omega
end
end TL
end Go

/- A call that hands a new slice on. No conditions. -/
namespace Go
namespace TL
open Go.RowKit
/-- An operation whose guard is decided. -/
theorem w_stripE {P : Program} {ops : Array Oper} {rest : List Oper} {a : Act} {w : World} {Q : Exit → Act → World → Prop} {dst : Option Tmp} {op : Op} {ty : TypeId} {pos : String} {after : Array Edge} {j : Nat} {want : Bool} (hb : ∃ b, yielded ops a.tmps j = some b ∧ b = want)
    (h : wpList P ops Q (Oper.mk dst op ty pos after none :: rest) a w) : wpList P ops Q (Oper.mk dst op ty pos after (some (j, want)) :: rest) a w :=
  let ⟨_, h1, h2⟩ := hb
  w_strip h1 h2 h
/-- An operation that is not wanted. -/
theorem w_skip1 {P : Program} {ops : Array Oper} {rest : List Oper} {a : Act} {w : World} {Q : Exit → Act → World → Prop} {dst : Option Tmp} {op : Op} {ty : TypeId} {pos : String} {after : Array Edge} {j : Nat} (hb : ∃ b, yielded ops a.tmps j = some b ∧ b = false)
    (h : wpList P ops Q rest (a.put dst undef) w) : wpList P ops Q (Oper.mk dst op ty pos after (some (j, true)) :: rest) a w :=
  let ⟨_, h1, h2⟩ := hb
  w_guard h1 (fun e => by subst h2; cases e) (fun _ => h)
theorem w_skip0 {P : Program} {ops : Array Oper} {rest : List Oper} {a : Act} {w : World} {Q : Exit → Act → World → Prop} {dst : Option Tmp} {op : Op} {ty : TypeId} {pos : String} {after : Array Edge} {j : Nat} (hb : ∃ b, yielded ops a.tmps j = some b ∧ b = true)
    (h : wpList P ops Q rest (a.put dst undef) w) : wpList P ops Q (Oper.mk dst op ty pos after (some (j, false)) :: rest) a w :=
  let ⟨_, h1, h2⟩ := hb
  w_guard h1 (fun e => by subst h2; cases e) (fun _ => h)
/-- What a callee made is handed on. -/
theorem Mem.join {F : List Nat} {w0 w w' : World} {L K : List Chunk} (M : Mem F w0 w L) (N : Mem [] w w' K) : Mem F w0 w' (K ++ L) := by
  have M' := M.call N.below
  have key : ∀ (i : Nat) (c : Chunk), K[i]? = some c → ∀ k ∈ c.fp, w.heap.size ≤ k := fun i c hc k hk => (N.own i c hc k hk).resolve_left (by simp)
  refine ⟨M'.kept, fun i c hc => ?_, fun i c hc k hk => ?_, fun i j c d hij hi hj k hk hk2 => ?_⟩
  · rw [List.getElem?_append] at hc; split at hc
    · exact N.ok i c hc
    · exact M'.ok _ c hc
  · rw [List.getElem?_append] at hc; split at hc
    · exact .inr (Nat.le_trans M.kept.size (key i c hc k hk))
    · exact M'.own _ c hc k hk
  · rw [List.getElem?_append] at hi hj; split at hi <;> split at hj
    · exact N.nd i j c d hij hi hj k hk hk2
    · have := key i c hi k hk; have := (M.ok _ d hj).lt k hk2; omega
    · have := key j d hj k hk2; have := (M.ok _ c hi).lt k hk; omega
    · exact M.nd _ _ c d (by omega) hi hj k hk hk2
/-- A call that hands a new slice on. -/
def Gives {α : Type} (size : Nat) (f : α → List Value) (l : List α) (r : Value → Value) (w : World) (e : Ending) (w' : World) : Prop := ∃ p cap, e = .returned (r (.slice p l.length cap)) ∧ Mem [] w w' [.sl size (.slice p l.length cap) l.length (l.flatMap f)]
theorem Gives.intro {α : Type} {size : Nat} {f : α → List Value} {l : List α} {r : Value → Value} {w w' : World} {p : Option Addr} {cap : Nat} {L : List Chunk} (M : Mem [] w w' (.sl size (.slice p l.length cap) l.length (l.flatMap f) :: L)) : Gives size f l r w (.returned (r (.slice p l.length cap))) w' :=
  ⟨p, cap, rfl, M.pick _ id (fun _ _ _ _ h => h) (fun i c h => by cases i with | zero => exact h | succ i => simp at h)⟩
theorem Gives.below {α : Type} {size : Nat} {f : α → List Value} {l : List α} {r : Value → Value} {w w' : World} {e : Ending} (h : Gives size f l r w e w') : Below w.heap.size w w' := by
  obtain ⟨p, cap, _, M⟩ := h; exact M.below
theorem Gives.at {α : Type} {size : Nat} {f : α → List Value} {l : List α} {r : Value → Value} {w w' : World} {p : Option Addr} {cap : Nat} {L : List Chunk} (M : Mem [] w w' L) (i : Nat) (hi : L[i]? = some (.sl size (.slice p l.length cap) l.length (l.flatMap f))) : Gives size f l r w (.returned (r (.slice p l.length cap))) w' :=
  ⟨p, cap, rfl, M.pick _ (fun j => i + j) (fun _ _ _ _ h => by omega) (fun j c h => by cases j with | zero => simp at h; subst h; exact hi | succ j => simp at h)⟩
end TL
end Go

/- A row that came in and that is none of those that may be turned: its loads. No conditions. -/
namespace Go
namespace TL
open Go.RowKit
section
variable {P : Program} {ops : Array Oper} {rest : List Oper} {o : Oper} {a : Act} {w w0 : World} {Q : Exit → Act → World → Prop} {F : List Nat} {L : List Chunk} {g : Nat}
theorem Mem.staysF {c : Chunk} (M : Mem F w0 w L) (R : c.ok w0) (hF : ∀ k ∈ c.fp, k ∉ F) : c.ok w := R.stay M.kept.size fun k hk => M.kept.block k (R.lt k hk) (hF k hk)
/-- A cell of a row that came in and that is none of those that may be turned. -/
theorem w_rowF {cs : List Value} (M : Mem F w0 w L) (R : (Chunk.row g cs).ok w0) (hF : g ∉ F) (t : TypeId) (x : Operand) (ho : o.op = .load t x) {off : Nat} (hx : a.eval x = .pointer (some ⟨g, off, none⟩)) (hw : Region.wanted o (yielded ops a.tmps) = true)
    (ht : scalarT P t = true) {v : Value} (hv : cs[off]? = some v) (h : wpList P ops Q rest (a.put o.dst v) w) : wpList P ops Q (o :: rest) a w := by
  have R' := M.staysF R (by intro k hk; simp only [Chunk.fp, List.mem_singleton] at hk; subst hk; exact hF)
  exact wpW hw fun _ hK => by
    unfold Oper.wp execOp
    simp only [ho, hx, Instr.loadAt, Instr.sureAddr, Sem.run_bind, Sem.run_pure, Result.andThen_ok, run_loadVar_scalar ht w g _ _ (rowCell R' hv)]
    exact hK _ _ h
/-- A struct or an array in the midst of such a row. -/
theorem w_rowFA {cs : List Value} (M : Mem F w0 w L) (R : (Chunk.row g cs).ok w0) (hF : g ∉ F) (t : TypeId) (x : Operand) (ho : o.op = .load t x) {off : Nat} (hx : a.eval x = .pointer (some ⟨g, off, none⟩)) (hw : Region.wanted o (yielded ops a.tmps) = true)
    (ht : rowT P t = true) (pre mid post : List Value) (hcs : cs = pre ++ (mid ++ post)) (hpre : pre.length = off) (hn : (P.info? t).map (·.size) = some mid.length) (h : wpList P ops Q rest (a.put o.dst (.agg mid.toArray)) w) : wpList P ops Q (o :: rest) a w := by
  have R' := M.staysF R (by intro k hk; simp only [Chunk.fp, List.mem_singleton] at hk; subst hk; exact hF)
  exact wpW hw fun _ hK => by
    unfold rowT at ht
    cases hu : P.underlying t with
    | none => simp [hu] at ht
    | some d =>
      simp only [hu] at ht
      refine wp_load_mid t x ho g off hx mid d ?_ hu ht hn (hK _ _ h)
      intro j v hv
      have hj : j < mid.length := (List.getElem?_eq_some_iff.1 hv).1
      refine rowCell R' ?_
      rw [hcs, ← hpre, List.getElem?_append_right (by omega), Nat.add_sub_cancel_left, List.getElem?_append_left hj]; exact hv
/-- The same, as a region's load that may come at any time. -/
theorem stab_rowF {cs : List Value} (M : Mem F w0 w L) {is : List Nat} (R0 : (Chunk.row g cs).ok w0) (hF : g ∉ F) (off : Nat) {v : Value} {t : TypeId} {x : Operand} (ho : o.op = .load t x) (ht : scalarT P t = true) (hv : cs[off]? = some v) : Stab P (IxOk M is) o (.pointer (some ⟨g, off, none⟩)) := by
  unfold Stab; rw [ho]
  have R' : ∀ w' : World, Kept F w0 w' → (Chunk.row g cs).ok w' := fun w' k => R0.stay k.size fun j hj => k.block j (R0.lt j hj) (by simp only [Chunk.fp, List.mem_singleton] at hj; subst hj; exact hF)
  refine ⟨v, fun w' hw => ?_⟩
  simp only [Instr.loadAt, Instr.sureAddr, Sem.run_bind, Sem.run_pure, Result.andThen_ok, run_loadVar_scalar ht w' g off _ (rowCell (R' w' hw.1) hv)]
end
end TL
end Go

/- '[]byte("abcd")' of a constant text of four bytes: the literal, and behind it a conversion to its own type. No conditions. -/
namespace Go
namespace TL
open Go.RowKit
section
variable {P : Program} {ops : Array Oper} {rest : List Oper} {o : Oper} {a : Act} {w w0 : World} {Q : Exit → Act → World → Prop} {F : List Nat} {L : List Chunk}
/-- The literal's row; the memory stays as it was told ahead of it. -/
theorem w_lit4 {t e : TypeId} {bytes : Nat} (T : SliceT P t e 1 bytes) (x y z u : Operand) (ho : o.op = .buildSlice t 4 #[(0, x), (1, y), (2, z), (3, u)]) (hw : Region.wanted o (yielded ops a.tmps) = true) {b0 b1 b2 b3 : UInt8} (hx : a.eval x = .int .u8 (I8 b0)) (hy : a.eval y = .int .u8 (I8 b1)) (hz : a.eval z = .int .u8 (I8 b2)) (hu : a.eval u = .int .u8 (I8 b3))
    (h : ∀ (g : Nat) (w' : World), g = w.heap.size → w' = w.alloc (.cells (bs [b0, b1, b2, b3]).toArray e) → wpList P ops Q rest (a.put o.dst (.slice (some ⟨g, 0, none⟩) 4 4)) w') : wpList P ops Q (o :: rest) a w :=
  wpW hw fun _ hK => by
    obtain ⟨ht, ⟨i, z', hi, hz', hsize, hby, hzs⟩, hsz⟩ := T
    have hf : Instr.fill (fun j => some (j * i.size, i.size)) ((Array.range (4 * i.size)).map (z'.cells[· % z'.cells.size]!)) (#[(0, x), (1, y), (2, z), (3, u)].map fun ((j, q) : Nat × Operand) => (j, a.eval q)).toList = some (bs [b0, b1, b2, b3]).toArray := by
      have r4 : Array.range (4 * 1) = #[0, 1, 2, 3] := by decide
      rw [hsize, r4]
      simp only [List.map_toArray, List.map_cons, List.map_nil, hx, hy, hz, hu]
      generalize z'.cells[0 % z'.cells.size]! = c0
      generalize z'.cells[1 % z'.cells.size]! = c1
      generalize z'.cells[2 % z'.cells.size]! = c2
      generalize z'.cells[3 % z'.cells.size]! = c3
      rfl
    have hr := run_buildSlice (P := P) w t e 4 _ (bs [b0, b1, b2, b3]).toArray i z' ht hi hz' (by omega) (by have := Nat.mul_pos (show 0 < 4 by omega) hsz; omega) hf
    unfold Oper.wp execOp
    simp only [ho, Sem.run_bind, hr, Result.andThen_ok]
    exact hK _ _ (h _ _ rfl rfl)
/-- It is marked. -/
theorem w_mark (M : Mem F w0 w L) {t e : TypeId} {l : List UInt8} {n : Nat} {g : Nat} {wm : World} (eg : g = w.heap.size) (ew : wm = w.alloc (.cells (bs l).toArray e)) (x : Operand) (ho : o.op = .convert t t x) (hw : Region.wanted o (yielded ops a.tmps) = true) (ht : P.underlying t = some (.slice e)) (he : P.underlying e = some (.int .u8)) (hn : n = l.length) (hm : n ≤ 1000000) (hx : a.eval x = .slice (some ⟨g, 0, none⟩) n n)
    (h : ∀ w' : World, Mem F w0 w' (.sl 1 (.slice (some ⟨g, 0, none⟩) n n) n (bs l) :: L) → wpList P ops Q rest (a.put o.dst (.slice (some ⟨g, 0, none⟩) n n)) w') : wpList P ops Q (o :: rest) a wm := by
  subst eg ew hn
  exact wpW hw fun _ hK => by
    have hr := Lib.run_convert_bytes_const (P := P) w t e (bs l).toArray l.length l.length ht he
    have hsz : (bs l).toArray.size = l.length := by rw [List.size_toArray, bs_length]
    rw [hsz] at hr
    have hnew : (w.alloc (.cells (bs l).toArray e (l.length, l.length + 1))).heap[w.heap.size]? = some (.cells (bs l).toArray e (l.length, l.length + 1)) := by
      show (w.heap.push _)[w.heap.size]? = _
      simp
    have hok : (Chunk.sl 1 (.slice (some ⟨w.heap.size, 0, none⟩) l.length l.length) l.length (bs l)).ok (w.alloc (.cells (bs l).toArray e (l.length, l.length + 1))) := by
      refine ⟨by simp [bs_length], .inr ⟨w.heap.size, 0, l.length, rfl, Nat.zero_le _, by simp, Nat.le_refl _, by simp only [maxLen]; omega, ?_, ?_⟩⟩
      · intro j v hv
        rw [Nat.zero_add]
        simp only [World.cell?, hnew]
        rw [if_neg (by decide)]
        simpa using hv
      · intro j hj
        rw [Nat.mul_one] at hj
        rw [Nat.zero_add]
        constructor
        · simp only [World.cell?, hnew]
          rw [if_neg (by decide), Array.getElem?_eq_getElem (by omega)]; rfl
        · simp only [World.frozen?, hnew]
          simp; omega
    unfold Oper.wp execOp
    simp only [ho, hx, Sem.run_bind, hr, Result.andThen_ok]
    exact hK _ _ (h _ (M.add _ (Kept.alloc _ _) hok (by simp [Chunk.fp, Value.ownBlock])))
end
end TL
end Go
