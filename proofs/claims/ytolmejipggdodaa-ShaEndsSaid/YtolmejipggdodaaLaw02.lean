/- The walks of layer 2's awake and of ShaDigits: it returns true. No conditions but 32 bytes each. -/
import Derived.Test.YtolmejipggdodaaRefD
import Derived.Test.YtolmejipggdodaaLow
namespace Go
namespace TL
open Go.RowKit
def abcDigits : List UInt8 := [98, 97, 55, 56, 49, 54, 98, 102, 56, 102, 48, 49, 99, 102, 101, 97, 52, 49, 52, 49, 52, 48, 100, 101, 53, 100, 97, 101, 50, 50, 50, 51, 98, 48, 48, 51, 54, 49, 97, 51, 57, 54, 49, 55, 55, 97, 57, 99, 98, 52, 49, 48, 102, 102, 54, 49, 102, 50, 48, 48, 49, 53, 97, 100]
theorem abc_known : hexB (shaL (bytesOf ⟨#[97, 98, 99]⟩)) = abcDigits := by decide +kernel
theorem rangeAt_bel {B g o : Nat} {w w' : World} {xs : List Value} (h : w.rangeAt g o xs) (hb : Below B w w') (hg : g < B) : w'.rangeAt g o xs := rangeAt_of_block h (hb.block g hg)
theorem hexD_inj : ∀ x y : Fin 16, hexD (UInt8.ofNat x.1) = hexD (UInt8.ofNat y.1) → x = y := by decide +kernel
theorem hexD_inj' (x y : UInt8) (hx : x.toNat < 16) (hy : y.toNat < 16) (h : hexD x = hexD y) : x = y := by
  have := hexD_inj ⟨x.toNat, hx⟩ ⟨y.toNat, hy⟩ (by simpa using h)
  exact UInt8.toNat_inj.1 (by simpa using this)
theorem hex_pair (x y : UInt8) (h1 : hexD (x >>> 4) = hexD (y >>> 4)) (h2 : hexD (x &&& 15) = hexD (y &&& 15)) : x = y := by
  have hs : ∀ z : UInt8, (z >>> 4).toNat < 16 := fun z => by have := shr4_le z; rw [I8_eq] at this; omega
  have ha : ∀ z : UInt8, (z &&& 15).toNat < 16 := fun z => by have := and15_le z; rw [I8_eq] at this; omega
  have e1 := hexD_inj' _ _ (hs x) (hs y) h1
  have e2 := hexD_inj' _ _ (ha x) (ha y) h2
  have d : ∀ z : UInt8, z.toNat = 16 * (z >>> 4).toNat + (z &&& 15).toNat := fun z => by
    rw [UInt8.toNat_shiftRight, UInt8.toNat_and]
    simp only [UInt8.toNat_ofNat, Nat.shiftRight_eq_div_pow]
    have : z.toNat &&& 15 = z.toNat % 16 := Nat.and_two_pow_sub_one_eq_mod z.toNat 4
    simp [this]; omega
  apply UInt8.toNat_inj.1
  rw [d x, d y, e1, e2]
theorem hexB_inj : ∀ l m : List UInt8, hexB l = hexB m → l = m
  | [], [], _ => rfl
  | [], b :: m, h => by have := congrArg List.length h; rw [hexB_length, hexB_length] at this; simp at this
  | a :: l, [], h => by have := congrArg List.length h; rw [hexB_length, hexB_length] at this; simp at this
  | a :: l, b :: m, h => by
    simp only [hexB, List.flatMap_cons, List.cons_append, List.nil_append, List.cons.injEq] at h
    obtain ⟨h1, h2, h3⟩ := h
    rw [hex_pair a b h1 h2, hexB_inj l m h3]
theorem bytes_toList (l : List UInt8) : (⟨l.toArray⟩ : ByteArray).toList = l := by
  rw [Lib.toList_data]
end TL
end Go
namespace Go.Proofs.Ytolmejipggdodaa
open Go.RowKit Go.TL
set_option maxHeartbeats 1000000 in
theorem awake02_any (w : World) : Calls Try.prog 13 #[] w fun e w' => e = .returned (.bool true) ∧ Below w.heap.size w w' := by
  have H := Lib.hid abc_known
  go_enter Try.func13, Try.ntmps13
  go_wp2_with (first | (go_at_call 16; go_must (refine (shaSum_any _ w (by decide)).mono ?_; rintro e w1 ⟨rfl, hb1⟩)) | (go_at_call 14; go_must (refine (Digits_any (shaL (bytesOf ⟨#[97, 98, 99]⟩)) (shaL_length _) w1).mono ?_; rintro e w2 ⟨rfl, hb2⟩; rw [H.out])))
  go_ret
  exact ⟨rfl, hb1.trans (hb2.mono hb1.size)⟩
theorem hashT : ∀ l m : List UInt8, l.length = 32 → m.length = 32 → EqRow Try.prog 23 l m := fun l m hl hm =>
  eqRow Try.underlying23 Try.underlying5 (by kernel_rfl) (by kernel_rfl) l m hl hm
set_option maxHeartbeats 4000000 in
theorem ShaDigits_any (a b : List UInt8) (ha : a.length = 32) (hb : b.length = 32) (w : World) :
    Calls Try.prog 3 #[.agg (a.map vb).toArray, .agg (b.map vb).toArray] w fun e w' => e = .returned (.bool true) ∧ Below w.heap.size w w' := by
  go_enter Try.func3, Try.ntmps3
  have hq := hashT a b ha hb
  have q1 := hq.eql
  have q2 := hq.guardE
  clear hq
  have hA0 := Lib.hid (rangeAt_bel (rangeAt_new w (a.map vb).toArray 23 (0, 0)) ((Below.refl (w.heap.size + 1) _).alloc (by simp) (.cells (b.map vb).toArray 23)) (by omega))
  have hB0 : Hid (((w.alloc (.cells (a.map vb).toArray 23)).alloc (.cells (b.map vb).toArray 23)).rangeAt (w.heap.size + 1) 0 (b.map vb)) := Lib.hid (by have := rangeAt_new (w.alloc (.cells (a.map vb).toArray 23)) (b.map vb).toArray 23 (0, 0); simpa using this)
  go_wp2_with (first | (go_at_call 13; go_must (refine (awake02_any _).mono ?_; rintro e w1 ⟨rfl, hb1⟩; have hA1 := Lib.hid (rangeAt_bel hA0.out hb1 (by simp; omega)); have hB1 := Lib.hid (rangeAt_bel hB0.out hb1 (by simp)); have Hb1 := Lib.hid hb1; clear hb1)) | ((with_reducible show wpList _ _ _ (Oper.mk _ (Op.load 23 (.tmp 2)) _ _ _ _ :: _) _ _); go_must (refine wpList_load_mid rfl 23 _ rfl w.heap.size 0 rfl (a.map vb) _ (by exact hA1.out) Try.underlying23 rfl (by rw [List.length_map, ha]; kernel_rfl) ?_)) | (go_at_call 14; go_must (refine (Digits_any a ha _).mono ?_; rintro e w2 ⟨rfl, hb2⟩; have hA2 := Lib.hid (rangeAt_bel hA1.out hb2 (by have := Hb1.out.size; simp at this; omega)); have hB2 := Lib.hid (rangeAt_bel hB1.out hb2 (by have := Hb1.out.size; simp at this ⊢; omega)); have Hb2 := Lib.hid hb2; clear hb2)))
  have s1 : (⟨(hexB a).toArray⟩ : ByteArray).size = 64 := by rw [bytes_size, hexB_length, ha]
  have sz2 : Hid (w.heap.size + 2 ≤ w2.heap.size) := Lib.hid (by have h1 := Hb1.out.size; have h2 := Hb2.out.size; simp at h1; omega)
  have kA : ∀ w', Below w2.heap.size w2 w' → w'.rangeAt w.heap.size 0 (a.map vb) := fun w' h => rangeAt_bel hA2.out h (by have := sz2.out; omega)
  have kB : ∀ w', Below w2.heap.size w2 w' → w'.rangeAt (w.heap.size + 1) 0 (b.map vb) := fun w' h => rangeAt_bel hB2.out h (by have := sz2.out; omega)
  have KA := Lib.hid kA; clear kA
  have KB := Lib.hid kB; clear kB
  have iA : (Try.prog.info? 23).map (·.size) = some (a.map vb).length := by rw [List.length_map, ha]; kernel_rfl
  have iB : (Try.prog.info? 23).map (·.size) = some (b.map vb).length := by rw [List.length_map, hb]; kernel_rfl
  have IA := Lib.hid iA; clear iA
  have IB := Lib.hid iB; clear iB
  refine region_low [(0, false), (1, false), (2, true), (3, false), (4, false), (5, false), (6, false), (7, false), (8, false), (9, false), (10, false), (11, false), (14, false), (15, false), (16, false), (12, true), (13, false), (17, false), (18, false), (19, false)] [(10, .str), (12, .str), (16, .int), (24, .nums), (25, .nums), (20, .str), (22, .str), (23, .bool), (26, .bool)]
    [(1, .pointer (some ⟨w.heap.size, 0, none⟩)), (11, .pointer (some ⟨w.heap.size + 1, 0, none⟩)), (14, .pointer (some ⟨w.heap.size, 0, none⟩)), (15, .pointer (some ⟨w.heap.size + 1, 0, none⟩))] (Below w2.heap.size w2) (by kernel_rfl) (by kernel_rfl) rfl (by kernel_rfl)
    (lows_cons (stab_load rfl _ _ _ _ KA.out Try.underlying23 rfl IA.out) (lows_cons (stab_load rfl _ _ _ _ KB.out Try.underlying23 rfl IB.out) (lows_cons (stab_load rfl _ _ _ _ KA.out Try.underlying23 rfl IA.out) (lows_cons (stab_load rfl _ _ _ _ KB.out Try.underlying23 rfl IB.out) lows_nil)))) (Below.refl _ _).drew ?_
  simp only [planW, opAt, List.getElem?_toArray, List.getElem?_cons_zero, List.getElem?_cons_succ, Option.getD_some]
  go_wp2_with (first | ((with_reducible show wpList _ _ _ (Oper.mk _ (Op.load 23 (.tmp 2)) _ _ _ _ :: _) _ _); go_must (refine wpList_load_mid rfl 23 _ rfl w.heap.size 0 rfl (a.map vb) _ (by exact hA2.out) Try.underlying23 rfl IA.out ?_)) | (go_at_call 15; go_must (refine (refDigits_any a ha _).mono ?_; rintro e w3 ⟨rfl, hb3⟩; have Hb3 : Hid (Below w2.heap.size w2 w3) := Lib.hid ((Below.refl _ w2).drew.trans hb3); clear hb3)))
  refine Seg.intro ⟨Hb3.out, ?_⟩
  go_wp2_with (first | ((with_reducible show wpList _ _ _ (Oper.mk _ (Op.load 23 (.tmp 2)) _ _ _ _ :: _) _ _); go_must (refine wpList_want (by kernel_rfl) (wp_load_mid 23 _ rfl w.heap.size 0 rfl (a.map vb) _ (KA.out _ Hb3.out) Try.underlying23 rfl IA.out ?_))) | ((with_reducible show wpList _ _ _ (Oper.mk _ (Op.load 23 (.tmp 3)) _ _ _ _ :: _) _ _); go_must (refine wpList_want (by kernel_rfl) (wp_load_mid 23 _ rfl (w.heap.size + 1) 0 rfl (b.map vb) _ (KB.out _ Hb3.out) Try.underlying23 rfl IB.out ?_))) | (go_at_call 14; go_must (refine (Digits_any b hb _).mono ?_; rintro e w4 ⟨rfl, hb4⟩; have Hb4 := Lib.hid hb4; clear hb4)))
  refine Seg.intro ⟨Hb3.out.trans (Hb4.out.mono Hb3.out.size), ?_⟩
  go_wp2_with fail
  refine Seg.intro ⟨needs_cons rfl (needs_cons rfl (needs_cons rfl (needs_cons (nums_vb _) (needs_cons (nums_vb _) (needs_cons rfl (needs_cons rfl (needs_cons rfl (needs_cons rfl needs_nil)))))))), ats_cons rfl (ats_cons rfl (ats_cons rfl (ats_cons rfl ats_nil))), ?_⟩
  go_wp2_with fail
  go_ret
  have e : ((hexB a == hexB b) == (a == b)) = true := by
    by_cases h : a = b
    · subst h; simp
    · have h2 : hexB a ≠ hexB b := fun k => h (hexB_inj a b k)
      rw [beq_eq_false_iff_ne.2 h, beq_eq_false_iff_ne.2 h2]; rfl
  refine ⟨by rw [← e]; rfl, ?_⟩
  have B0 : Below w.heap.size w ((w.alloc (.cells (a.map vb).toArray 23)).alloc (.cells (b.map vb).toArray 23)) := ((Below.refl _ w).alloc (Nat.le_refl _) _).alloc (by simp) _
  have B1 := B0.trans (Hb1.out.mono B0.size)
  have B2 := B1.trans (Hb2.out.mono B1.size)
  have B3 := B2.trans (Hb3.out.mono B2.size)
  exact B3.trans (Hb4.out.mono B3.size)
end Go.Proofs.Ytolmejipggdodaa
