/- The walk of mac.Tag: a hash of a hash. Conditions: key and text are shorter than 10^11 bytes. -/
import Derived.Test.YtolmejipggdodaaPad
import Derived.Test.YtolmejipggdodaaLow
namespace Go
namespace TL
open Go.RowKit
def macL (key text : List UInt8) : List UInt8 := shaL (macPad key 92 ++ shaL (macPad key 54 ++ text))
theorem macL_length (key text : List UInt8) : (macL key text).length = 32 := rfl
theorem macPad_length (key : List UInt8) (x : UInt8) : (macPad key x).length = 64 := by rw [macPad, List.length_map, keyB_length]
theorem bytesOf_mk (l : List UInt8) : bytesOf ⟨l.toArray⟩ = l := rfl
theorem bytesOf_append (a b : ByteArray) : bytesOf (a ++ b) = bytesOf a ++ bytesOf b := by simp [bytesOf]
theorem size_mk (l : List UInt8) : (⟨l.toArray⟩ : ByteArray).size = l.length := by simp [ByteArray.size]
theorem seesB_row {w : World} {g : Nat} {l : List UInt8} {n : Nat} (hn : l.length = n) (hm : n ≤ 1000) (hg : g < w.heap.size) (hr : w.rangeAt g 0 (l.map vb)) : SeesB w (.slice (some ⟨g, 0, none⟩) n n) l := by
  refine ⟨by simp, .inr ⟨g, 0, n, by rw [hn], hg, by omega, by simp only [maxLen]; omega, hr⟩⟩
end TL
end Go
namespace Go.Proofs.Ytolmejipggdodaa
open Go.RowKit Go.TL
set_option maxHeartbeats 2000000 in
theorem Tag_any (key text : ByteArray) (w : World) (hk : key.size ≤ 100000000000) (ht : text.size ≤ 100000000000) :
    Calls Try.prog 19 #[.string key, .string text] w fun e w' => e = .returned (.agg ((macL (bytesOf key) (bytesOf text)).map vb).toArray) ∧ Below w.heap.size w w' := by
  have z1 : (⟨(macPad (bytesOf key) 54).toArray⟩ : ByteArray).size = 64 := by rw [size_mk, macPad_length]
  have z2 : (⟨(macPad (bytesOf key) 92).toArray⟩ : ByteArray).size = 64 := by rw [size_mk, macPad_length]
  obtain ⟨s1, e1⟩ : ∃ s, s = (⟨(macPad (bytesOf key) 54).toArray⟩ : ByteArray) ++ text := ⟨_, rfl⟩
  have E1 := Lib.hid e1
  have e1' := e1.symm
  clear e1
  go_enter Try.func19, Try.ntmps19
  go_wp2_with (first | ((with_reducible show wpList _ _ _ (Oper.mk (some 4) (Op.alloc 23) _ _ _ _ :: _) _ _); go_must (refine wpList_newRow rfl _ rfl (Array.replicate 32 (.int .u8 0)) (by kernel_rfl) ?_; intro w1 hb1 hs1 hr1 ht1; have Hb1 := Lib.hid hb1; clear hb1 hr1; have Hs1 := Lib.hid hs1; clear hs1; have Ht1 := Lib.hid ht1; clear ht1)) | (go_at_call 31; go_must (refine (pad_any key 54 w1 (by omega)).mono ?_; rintro e w2 ⟨rfl, hb2⟩; have Hb2 := Lib.hid hb2; clear hb2)) | (go_at_call 16; go_must (refine (shaSum_any s1 w2 (by rw [E1.out, ByteArray.size_append, z1]; omega)).mono ?_; rintro e w3 ⟨rfl, hb3⟩; have Hb3 := Lib.hid hb3; clear hb3)) | ((with_reducible show wpList _ _ _ (Oper.mk (some 5) (Op.alloc 23) _ _ _ _ :: _) _ _); go_must (refine wpList_newRow rfl _ rfl (Array.replicate 32 (.int .u8 0)) (by kernel_rfl) ?_; intro w4 hb4 hs4 hr4 ht4; have Hb4 := Lib.hid hb4; clear hb4 hr4; have Hs4 := Lib.hid hs4; clear hs4; have Ht4 := Lib.hid ht4; clear ht4)) | ((with_reducible show wpList _ _ _ (Oper.mk none (Op.store 23 (.tmp 5) _) _ _ _ _ :: _) _ _); go_must (refine wpList_putRow rfl 23 _ _ rfl w3.heap.size 0 ((shaL (bytesOf s1)).map vb) rfl rfl (by exact Ht4.out) (by kernel_rfl) (vb_one _) ?_)))
  go_simp
  obtain ⟨lH, elH⟩ : ∃ l, l = shaL (bytesOf s1) := ⟨_, rfl⟩
  obtain ⟨w5, e5⟩ : ∃ w5, w5 = w4.setCells w3.heap.size 0 ((shaL (bytesOf s1)).map vb) := ⟨_, rfl⟩
  have h3 : Hid (w.heap.size + 1 ≤ w3.heap.size) := Lib.hid (by have := Hs1.out; have := Hb2.out.size; have := Hb3.out.size; omega)
  have S5 : Hid (SeesB w5 (.slice (some ⟨w3.heap.size, 0, none⟩) 32 32) lH) := Lib.hid (by rw [e5, elH]; exact seesB_row (shaL_length _) (by omega) (by rw [size_setCells]; have := Hs4.out; omega) (World.rangeAt_setCells_same _ _ _ _ (by exact Ht4.out)))
  have B5 : Hid (Below w.heap.size w w5) := Lib.hid (by
    have b2 := Hb1.out.trans (Hb2.out.mono Hb1.out.size)
    have b3 := b2.trans (Hb3.out.mono b2.size)
    rw [e5]; exact below_setCells b3.size _ _ _ (b3.trans (Hb4.out.mono b3.size)))
  have T5 : Hid (w5.there w.heap.size 0 32) := Lib.hid (by
    have b3 := Hb2.out.trans (Hb3.out.mono Hb2.out.size)
    have b4 := b3.trans (Hb4.out.mono b3.size)
    have l1 := Hs1.out
    rw [e5]
    refine World.there_setCells (there_of_block (by simpa using Ht1.out) (b4.block _ (by omega))) _ _ _)
  rw [← e5]
  have hlen : lH.length = 32 := by rw [elH]; rfl
  have z3 : (⟨lH.toArray⟩ : ByteArray).size = 32 := by rw [size_mk, hlen]
  have ElH := Lib.hid elH; clear elH
  clear e5 Hb1 Hb2 Hb3 Hb4 Hs1 Hs4 Ht1 Ht4 e1'
  obtain ⟨s2, e2⟩ : ∃ s, s = (⟨(macPad (bytesOf key) 92).toArray⟩ : ByteArray) ++ ⟨lH.toArray⟩ := ⟨_, rfl⟩
  have E2 := Lib.hid e2
  have e2' := e2.symm
  clear e2
  refine region_low [(0, false), (2, false), (3, false), (1, true), (4, false), (5, true), (6, true)] [(12, .str), (14, .str)] [(3, .slice (some ⟨w3.heap.size, 0, none⟩) 32 32)] (fun w' => SeesB w' (.slice (some ⟨w3.heap.size, 0, none⟩) 32 32) lH) (by kernel_rfl) (by kernel_rfl) rfl (by kernel_rfl)
    (lows_cons (stab_conv rfl _ lH (fun _ h => h) Try.underlying31 Try.underlying5 Try.underlying9) lows_nil) S5.out ?_
  simp only [planW, opAt, List.getElem?_toArray, List.getElem?_cons_zero, List.getElem?_cons_succ, Option.getD_some]
  have hrs := SeesB.run_string S5.out 31 9 5 Try.underlying31 Try.underlying5 Try.underlying9 w5.drew (grownBy_drew _ _)
  go_wp2_with (go_at_call 31; go_must (refine (pad_any key 92 w5.drew (by omega)).mono ?_; rintro e w6 ⟨rfl, hb6⟩; have B6 : Hid (Below w5.heap.size w5 w6) := Lib.hid ((Below.refl _ w5).drew.trans hb6); clear hb6))
  refine Seg.intro ⟨Sees.below S5.out B6.out, ?_⟩
  clear hrs
  go_wp2_with (go_at_call 16; go_must (refine (shaSum_any s2 w6 (by rw [E2.out, ByteArray.size_append, z2, z3]; omega)).mono ?_; rintro e w7 ⟨rfl, hb7⟩; have B7 : Hid (Below w5.heap.size w5 w7) := Lib.hid (B6.out.trans (hb7.mono B6.out.size)); clear hb7))
  refine Seg.intro ⟨Sees.below S5.out B7.out, ?_⟩
  have l0 : w.heap.size < w5.heap.size := by
    have h1 := h3.out
    obtain ⟨g, o, c, e, hg, _⟩ := (S5.out.2.resolve_left (by simp))
    injection e with e1 e2
    injection e1 with e1
    injection e1 with e1
    omega
  have T7 : Hid (w7.there w.heap.size 0 32) := Lib.hid (there_of_block T5.out (B7.out.block _ l0))
  go_wp2_with ((with_reducible show wpList _ _ _ (Oper.mk none (Op.store 23 (.tmp 4) _) _ _ _ _ :: _) _ _); go_must (refine wpList_putRow rfl 23 _ _ rfl w.heap.size 0 ((shaL (bytesOf s2)).map vb) rfl rfl (by exact T7.out) (by kernel_rfl) (vb_one _) ?_))
  refine Seg.intro ⟨Sees.kept (Sees.below S5.out B7.out) (grownBy_setCells _ _ _ _) (.inr (by simp only [Value.ownBlock]; intro e; injection e with e; have := h3.out; omega)), ?_⟩
  refine Seg.intro ⟨needs_cons rfl (needs_cons rfl needs_nil), ats_cons rfl ats_nil, ?_⟩
  go_wp2_with fail
  refine bodyPost_ret (results_row rfl _ _ w.heap.size 0 ((shaL (bytesOf s2)).map vb) _ rfl (World.rangeAt_setCells_same _ _ _ _ (by exact T7.out)) Try.underlying23 rfl (by kernel_rfl)) rfl ⟨?_, below_setCells (Nat.le_refl _) _ _ _ (B5.out.trans (B7.out.mono (Nat.le_of_lt l0)))⟩
  have e1 : bytesOf s1 = macPad (bytesOf key) 54 ++ bytesOf text := by rw [E1.out, bytesOf_append]; rfl
  have e2 : bytesOf s2 = macPad (bytesOf key) 92 ++ lH := by rw [E2.out, bytesOf_append]; rfl
  rw [macL, e2, ElH.out, e1]
end Go.Proofs.Ytolmejipggdodaa
