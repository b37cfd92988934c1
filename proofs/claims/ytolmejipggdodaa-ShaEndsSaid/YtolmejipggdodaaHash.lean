/- The walks of sha.Sum, hexOf and Digits: a text's hash, its digits. Conditions: the text is shorter than 10^12 bytes. -/
import Derived.Test.YtolmejipggdodaaSum
namespace Go
namespace TL
open Go.RowKit
def bytesOf (s : ByteArray) : List UInt8 := s.data.toList
/-- The hash of a text of n bytes. -/
def shaL (l : List UInt8) : List UInt8 := sumS (absorb (l.length / 64) H0 l) (l.drop (64 * (l.length / 64))) l.length
theorem shaL_length (l : List UInt8) : (shaL l).length = 32 := rfl
def hexTab : ByteArray := ⟨#[48, 49, 50, 51, 52, 53, 54, 55, 56, 57, 97, 98, 99, 100, 101, 102]⟩
/-- The digit of a number below 16. -/
def hexD (x : UInt8) : UInt8 := (hexTab[x.toNat]?).getD 0
@[go_sem high] theorem fold_hexTab : (⟨#[48, 49, 50, 51, 52, 53, 54, 55, 56, 57, 97, 98, 99, 100, 101, 102]⟩ : ByteArray) = hexTab := rfl
@[go_sem high] theorem run_index_hexTab {P : Program} (w : World) (t : TypeId) (k : IntKind) (x : UInt8) (h : P.underlying t = some .string) (h1 : I8 x ≤ 15) :
    (Instr.index t (.string hexTab) (.int k (I8 x))).run P w = .ok (.int .u8 (I8 (hexD x))) w := by
  rw [I8_eq] at h1 ⊢
  have hs : hexTab.size = 16 := rfl
  have hi : 0 ≤ (x.toNat : Int) ∧ (x.toNat : Int) < (hexTab.size : Int) := by rw [hs]; omega
  rw [run_index_string w t hexTab k _ h, dif_pos hi]
  have h2 : x.toNat < hexTab.size := by rw [hs]; omega
  simp [hexD, ByteArray.getElem?_lt' _ _ h2, I8_eq]
theorem shr4_le (x : UInt8) : I8 (x >>> 4) ≤ 15 := by
  rw [I8_eq]; have := UInt8.toNat_lt x; rw [UInt8.toNat_shiftRight]; simp [Nat.shiftRight_eq_div_pow]; omega
theorem and15_le (x : UInt8) : I8 (x &&& 15) ≤ 15 := by
  rw [I8_eq]; rw [UInt8.toNat_and]; exact Int.ofNat_le.2 (Nat.and_le_right)
def hexB (l : List UInt8) : List UInt8 := l.flatMap fun (b : UInt8) => [hexD (b >>> 4), hexD (b &&& 15)]
theorem hexB_length (l : List UInt8) : (hexB l).length = 2 * l.length := by
  induction l with
  | nil => rfl
  | cons a l ih => simp only [hexB, List.flatMap_cons, List.length_append] at ih ⊢; rw [ih]; simp; omega
theorem hexB_snoc (l : List UInt8) (b : UInt8) : hexB (l ++ [b]) = hexB l ++ [hexD (b >>> 4), hexD (b &&& 15)] := by simp [hexB]
theorem bytesOf_length (s : ByteArray) : (bytesOf s).length = s.size := by simp [bytesOf]
end TL
end Go
namespace Go.Proofs.Ytolmejipggdodaa
open Go.RowKit Go.TL
set_option maxHeartbeats 1000000 in
theorem shaSum_any (s : ByteArray) (w : World) (hs : s.size ≤ 1000000000000) :
    Calls Try.prog 16 #[.string s] w fun e w' => e = .returned (.agg ((shaL (bytesOf s)).map vb).toArray) ∧ Below w.heap.size w w' := by
  go_enter Try.func16, Try.ntmps16
  go_wp2_with (first | ((with_reducible show wpList _ _ _ (Oper.mk _ (Op.alloc 23) _ _ _ _ :: _) _ _); go_must (refine wpList_newRow rfl _ rfl (Array.replicate 32 (.int .u8 0)) (by kernel_rfl) ?_; intro w0 hb0 hs0 hr0 ht0; have Hb0 := Lib.hid hb0; clear hb0 hr0; have Hs0 := Lib.hid hs0; clear hs0; have Ht0 := Lib.hid ht0; clear ht0)) | (go_at_call 25; go_must (refine (New_any w0).mono ?_; rintro e w1 ⟨b, rfl, S1, hb1⟩; have S1' := Lib.hid S1; have hb1' := Lib.hid hb1; clear S1 hb1)) | (go_at_call 26; go_must (refine (Write_any w0.heap.size b s w1 hs hb1'.out.size S1'.out).mono ?_; rintro e w2 ⟨rfl, ⟨rv, S2⟩, hb2⟩; have S2' := Lib.hid S2; have hb2' := Lib.hid hb2; clear S2 hb2)) | (go_at_call 27; go_must (refine (Sum_any w0.heap.size b _ rv _ _ w2 S2'.out (by rw [List.length_drop]; have := bytesOf_length s; unfold bytesOf at this; omega)).mono ?_; rintro e w3 ⟨rfl, hb3⟩; have hb3' := Lib.hid hb3; have Ht3 : Hid (w3.there w.heap.size 0 32) := Lib.hid (by have e := (hb1'.out.trans (hb2'.out.trans (hb3'.out.mono (Nat.le_trans hb1'.out.size hb2'.out.size)))).block w.heap.size (by have := Hs0.out; omega); exact there_of_block (by simpa using Ht0.out) e); clear hb3)) | ((with_reducible show wpList _ _ _ (Oper.mk none (Op.store 23 _ _) _ _ _ _ :: _) _ _); go_must (refine wpList_putRow rfl 23 _ _ rfl w.heap.size 0 ((sumS (absorb (s.size / 64) H0 s.data.toList) (List.drop (64 * (s.size / 64)) s.data.toList) s.size).map vb) rfl rfl (by exact Ht3.out) (by kernel_rfl) (vb_one _) ?_)))
  refine bodyPost_ret (results_row rfl _ _ w.heap.size 0 ((shaL (bytesOf s)).map vb) _ rfl ?_ Try.underlying23 rfl (by kernel_rfl)) rfl ⟨rfl, ?_⟩
  · rw [shaL, bytesOf_length]; exact World.rangeAt_setCells_same _ _ _ _ Ht3.out
  · have hb := Hb0.out.trans ((hb1'.out.trans hb2'.out).mono (Nat.le_of_lt (by have := Hs0.out; omega)))
    exact below_setCells (Nat.le_refl _) _ _ _ (hb.trans (hb3'.out.mono hb.size))
set_option maxHeartbeats 1000000 in
theorem hexOf_any (s : ByteArray) (w : World) (hs : s.size ≤ 1000000000000) :
    Calls Try.prog 24 #[.string s] w fun e w' => e = .returned (.string ⟨(hexB (bytesOf s)).toArray⟩) ∧ Below w.heap.size w w' := by
  go_enter Try.func24, Try.ntmps24
  go_wp2
  go_loopw [3, 7] (fun v iv wr => ∃ k : Nat, k ≤ s.size ∧ iv = .int .i64 k ∧ OwnB wr w.heap.size v (hexB ((bytesOf s).take k)) ∧ Below w.heap.size w wr) (fun _ iv _ => s.size - (intOf iv).toNat)
  case atStart => exact ⟨0, by omega, rfl, Own_nil _ _ _, Below.refl _ _⟩
  case round =>
    obtain ⟨k, hk, rfl, ho, hb⟩ := hrel
    have Ho := Lib.hid ho; clear ho
    have Hb := Lib.hid hb; clear hb
    by_cases hlt : k < s.size
    · have H := Lib.hid (take_snoc s k hlt)
      have g1 := shr4_le s[k]
      have g2 := and15_le s[k]
      have hlen : (hexB ((bytesOf s).take k)).length = 2 * k := by rw [hexB_length, List.length_take, bytesOf_length]; omega
      go_wp2_with fail
      refine region_det [(0, false), (1, false), (2, false), (3, false), (4, false), (5, false), (6, false), (7, false), (8, false), (9, false), (10, false), (11, true), (12, true), (13, false)] [(13, .int), (18, .int)] (by kernel_rfl) (by kernel_rfl) rfl (by kernel_rfl) ?_
      simp only [reord, opAt, List.map_cons, List.map_nil, List.getElem?_toArray, List.getElem?_cons_zero, List.getElem?_cons_succ, Option.getD_some]
      go_wp2_with ((with_reducible show wpList _ _ _ (Oper.mk _ (Op.call ⟨Callee.builtin Builtin.append, _, _⟩) _ _ _ _ :: _) _ _); go_must (refine wpList_append_new bytesT rfl _ _ rfl w.heap.size wr.drew [hexD (s[k] >>> 4), hexD (s[k] &&& 15)] _ _ rfl u3 (hexB ((bytesOf s).take k)) rfl (by exact Ho.out.drew) rfl (by rw [hlen]; simp; omega) (by exact Hb.out.size) ?_; intro v1 w1 ho1 hg1 hf1; have Ho1 := Lib.hid ho1; have Hb1 := Lib.hid (Hb.out.drew.trans (below_of_grownBy hg1 Hb.out.size fun g e => (Own.base_le Ho.out e).1)); clear ho1 hg1 hf1))
      refine OnlyN.intro (by kernel_rfl) ?_
      go_wp2_with fail
      go_roundw
      case rel => exact ⟨k + 1, by omega, by go_num, by have e := H.out; unfold bytesOf; rw [e, hexB_snoc]; exact Ho1.out, Hb1.out⟩
      case measure => simp [intOf]; omega
    · have hk' : k = s.size := by omega
      subst hk'
      have hrs := SeesB.run_string Ho.out.sees 31 9 5 Try.underlying31 Try.underlying5 Try.underlying9 wr (grownBy_refl _ _)
      rw [show (bytesOf s).take s.size = bytesOf s from by rw [← bytesOf_length, List.take_length]] at hrs
      go_wp2_with fail
      go_ret
      exact ⟨rfl, Hb.out⟩
set_option maxHeartbeats 1000000 in
theorem Digits_any (l : List UInt8) (hl : l.length = 32) (w : World) :
    Calls Try.prog 14 #[.agg (l.map vb).toArray] w fun e w' => e = .returned (.string ⟨(hexB l).toArray⟩) ∧ Below w.heap.size w w' := by
  have hss : SeesB (w.alloc (.cells (l.map vb).toArray 23)) (.slice (some ⟨w.heap.size, 0, none⟩) 32 32) l := by
    refine ⟨by simp, .inr ⟨w.heap.size, 0, 32, by rw [hl], by simp, by omega, by simp [maxLen], ?_⟩⟩
    exact rangeAt_new w (l.map vb).toArray _ (0, 0)
  have hrs := SeesB.run_string hss 31 9 5 Try.underlying31 Try.underlying5 Try.underlying9 _ (grownBy_refl _ _)
  go_enter Try.func14, Try.ntmps14
  go_wp2_with (go_at_call 24; go_must (refine (hexOf_any _ _ (by show l.toArray.size ≤ _; simp; omega)).mono ?_; rintro e w1 ⟨rfl, hb1⟩))
  go_ret
  exact ⟨rfl, ((Below.refl _ w).alloc (Nat.le_refl _) _).trans (hb1.mono (by simp))⟩
end Go.Proofs.Ytolmejipggdodaa
