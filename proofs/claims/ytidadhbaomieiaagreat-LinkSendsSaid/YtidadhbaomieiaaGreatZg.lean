/- Texts of this seat, put together: PackY0, Ref12, Ref12T, BatA0, RowF, MsgF, TurnK, MsgG, InM, MsgH, MsgL, MsgE, PathN. Each begins with a remark that says what is proved in it, and under which conditions. -/
import Derived.Test.YtidadhbaomieiaaGreatY
import Derived.IntWalk
import Derived.OwnWalk
import Derived.Test.YtidadhbaomieiaaGreatZd
import Derived.Test.YtidadhbaomieiaaGreatZe
import Derived.Test.YtidadhbaomieiaaGreatZf
set_option maxRecDepth 100000
set_option maxHeartbeats 16000000
namespace Go.Proofs.YtidadhbaomieiaaGreat
open Go.RowKit Go.TL
section
variable (g : Nat) (x : InS) (w : World) (h : (Chunk.row g (inV x)).ok w)
include h
theorem In_Byte_c (hf : x.fit) :
  Calls Tryz.prog 61 #[.pointer (some ⟨g, 0, none⟩)] w fun e w' => e = .returned (.int .u8 x.byte.1) ∧ Upd w (.row g (inV x)) w' (.row g (inV x.byte.2)) := by
 obtain ⟨rest, read, err⟩ := x
 have M := Mem.start1 (c := .row g [.string (mkS rest), .int .i64 (read : Nat), .int .i64 (err : Nat)]) h
 by_cases h0 : err = 0
 ·subst h0
  cases rest with
  | nil =>
   go_enter Tryz.func61, Tryz.ntmps61
   go_wp2_with ((first | (go_at_call 94; (refine (reads_ok g _ _ h rfl).mono ?_; rintro e w1 ⟨rfl, rfl⟩)) | ((with_reducible refine tM rfl ?_); refine mB ?_; try (clear M; (first | intro g w1 M | intro w1 M); try simp only [setC] at M))) <;> (try conv => arg 5; simp only [apS, setC]))
   go_ret
   exact ⟨rfl, M.upd1 0 rfl⟩
  | cons b r =>
   have hb : ((b.toNat : Nat) : Int) = I8 b := (I8_eq b).symm
   have e : InS.byte ⟨b :: r, read, 0⟩ = (b.toNat, InS.take ⟨b :: r, read, 0⟩ 1 0) := rfl
   rw [e]; simp only [hb]; clear e hb
   go_enter Tryz.func61, Tryz.ntmps61
   go_wp2_with ((first | (go_at_call 94; (refine (reads_ok g _ _ h rfl).mono ?_; rintro e w1 ⟨rfl, rfl⟩)) | (go_at_call 96; (refine (takes_ok g _ _ (M.ok 0 _ rfl) hf 1 (by simp) _ _ rfl rfl).mono ?_; rintro e w1 ⟨rfl, U⟩; replace M := M.upd 0 rfl U; clear U)) | ((with_reducible refine tM rfl ?_); refine mB ?_; try (clear M; (first | intro g w1 M | intro w1 M); try simp only [setC] at M))) <;> (try conv => arg 5; simp only [apS, setC]))
   go_ret
   exact ⟨rfl, M.upd1 0 rfl⟩
 ·have e1 : InS.byte ⟨rest, read, err⟩ = (0, ⟨rest, read, err⟩) := by unfold InS.byte; rw [if_neg h0]
  rw [e1]; clear e1
  have H0 := Lib.hid h0
  clear h0
  go_enter Tryz.func61, Tryz.ntmps61
  go_wp2_with (first | (go_at_call 94; (refine (reads_no g _ _ h H0.out).mono ?_; rintro e w1 ⟨rfl, rfl⟩)))
  go_ret
  exact ⟨rfl, M.upd1 0 rfl⟩
end
section
variable (g : Nat) (x : InS) (w : World) (h : (Chunk.row g (inV x)).ok w)
include h
theorem In_Num_c (hf : x.fit) :
  Calls Tryz.prog 59 #[.pointer (some ⟨g, 0, none⟩)] w fun e w' => e = .returned (.int .u64 (x.most maxU).1) ∧ Upd w (.row g (inV x)) w' (.row g (inV (x.most maxU).2)) := by
 have M := Mem.start1 h
 have hl : x.rest.length ≤ 1000000000 := by unfold InS.fit at hf; omega
 by_cases h0 : x.err = 0
 ·have e1 : x.most maxU = ((readN x.rest maxU).1, x.take (readN x.rest maxU).2.1 (readN x.rest maxU).2.2) := by unfold InS.most; rw [if_pos h0]
  rw [e1]; clear e1
  obtain ⟨⟨n, b, er⟩, eR⟩ : ∃ R, R = readN x.rest maxU := ⟨_, rfl⟩
  have hb := (read_le eR.symm).1
  have hz := read_err x.rest maxU
  have B := number_c x.rest w hl
  rw [← eR] at B hz ⊢
  have B := Lib.hid B
  have HZ := Lib.hid hz
  clear eR hz
  simp only
  have H0 := Lib.hid h0
  clear h0
  by_cases he : er = 0
  ·subst he
   go_enter Tryz.func59, Tryz.ntmps59
   go_wp2_with ((first | (go_at_call 94; (refine (reads_ok g x _ h H0.out).mono ?_; rintro e w1 ⟨rfl, rfl⟩)) | (go_at_call 97; (refine (B.out).mono ?_; rintro e w1 ⟨rfl, rfl⟩)) | (go_at_call 96; (refine (takes_ok g x _ (M.ok 0 _ rfl) hf b hb _ _ rfl rfl).mono ?_; rintro e w1 ⟨rfl, U⟩; replace M := M.upd 0 rfl U; clear U)) | ((with_reducible refine tM rfl ?_); refine mB ?_; try (clear M; (first | intro g w1 M | intro w1 M); try simp only [setC] at M)) | ((with_reducible refine tGuard ?_); refine gdC ?_ ?_ <;> (intro hgd; rw [hgd]; try (exfalso; simp at hgd; omega)))) <;> (try conv => arg 5; simp only [apS, setC]))
   go_ret
   exact ⟨rfl, M.upd1 0 rfl⟩
  ·obtain ⟨rfl, rfl⟩ : n = 0 ∧ b = 0 := by
    have := HZ.out; simp at this; omega
   go_enter Tryz.func59, Tryz.ntmps59
   go_wp2_with ((first | (go_at_call 94; (refine (reads_ok g x _ h H0.out).mono ?_; rintro e w1 ⟨rfl, rfl⟩)) | (go_at_call 97; (refine (B.out).mono ?_; rintro e w1 ⟨rfl, rfl⟩)) | (go_at_call 96; (refine (takes_no g x _ (M.ok 0 _ rfl) 0 er he _ _ rfl).mono ?_; rintro e w1 ⟨rfl, U⟩; replace M := M.upd 0 rfl U; clear U)) | ((with_reducible refine tM rfl ?_); refine mB ?_; try (clear M; (first | intro g w1 M | intro w1 M); try simp only [setC] at M)) | ((with_reducible refine tGuard ?_); refine gdC ?_ ?_ <;> (intro hgd; rw [hgd]; try (exfalso; simp at hgd; omega)))) <;> (try conv => arg 5; simp only [apS, setC]))
   go_ret
   exact ⟨rfl, M.upd1 0 rfl⟩
 ·have e1 : x.most maxU = (0, x) := by unfold InS.most; rw [if_neg h0]
  rw [e1]; clear e1
  have H0 := Lib.hid h0
  clear h0
  go_enter Tryz.func59, Tryz.ntmps59
  go_wp2_with (first | (go_at_call 94; (refine (reads_no g x _ h H0.out).mono ?_; rintro e w1 ⟨rfl, rfl⟩)))
  go_ret
  exact ⟨rfl, M.upd1 0 rfl⟩
end
end Go.Proofs.YtidadhbaomieiaaGreat

namespace Go
namespace TL
open Go.RowKit
def irV (x : RS) : List Value := [.string (mkS x.rest), .int .i64 x.err]
theorem byte128 (m : Nat) : (w64 ((m : Int) % 128)).toUInt8 + 128 = UInt8.ofNat (m % 128 + 128) := by
 rw [show ((m : Int) % 128) = ((m % 128 : Nat) : Int) by omega, w64_nat]
 apply UInt8.toNat_inj.1
 simp
end TL
end Go
namespace Go.Proofs.YtidadhbaomieiaaGreat
open Go.RowKit Go.TL
theorem Num12_c (n : Nat) (a : Int) (ha : a = (n : Int)) (w : World) (h : n < 18446744073709551616) :
  Calls Tryz.prog 143 #[.int .u64 a] w fun e w' => e = .returned (.string (mkS (numL n))) ∧ Below w.heap.size w w' := by
 subst ha
 have M := Mem.start [] w
 have hn10 := numL_length_le n h
 go_enter Tryz.func143, Tryz.ntmps143
 go_wp2_with fail
 (try conv => arg 4; dsimp only [mkS_fold])
 go_loopw [0, 3] (fun nv sv wr => ∃ (m : Nat) (d : List UInt8), m < 18446744073709551616 ∧ nv = .int .u64 m ∧ sv = .string (mkS d) ∧ Hid (d ++ numL m = numL n) ∧ Mem [] w wr []) (fun nv _ _ => (intOf nv).toNat)
 case atStart => exact ⟨n, [], h, rfl, rfl, Lib.hid rfl, M⟩
 case round =>
  clear M
  obtain ⟨m, d, hm, rfl, rfl, HD, M⟩ := hrel
  have hdl : d.length ≤ 10 := by have := congrArg List.length HD.out; simp at this; omega
  by_cases h128 : m < 128
  ·have h127 : (m : Int) ≤ 127 := by omega
   go_wp2_with ((first | ((with_reducible refine tU 70 ?_); refine mU ?_; clear M; intro g w1 M) | ((with_reducible refine tM rfl ?_); refine mB ?_; try (clear M; (first | intro g w1 M | intro w1 M); try simp only [setC] at M)) | ((with_reducible refine tGuard ?_); refine gdC ?_ ?_ <;> (intro hgd; rw [hgd]; try (exfalso; simp at hgd; omega)))) <;> (try conv => arg 5; simp only [apS, setC]))
   go_ret
   refine ⟨?_, M.below⟩
   have e := HD.out
   rw [numL_small h128] at e
   rw [← e, ← w8_nat]; rfl
  ·have h127 : (127 : Int) < m := by omega
   go_wp2_with ((first | ((with_reducible refine tU 70 ?_); refine mU ?_; clear M; intro g w1 M) | ((with_reducible refine tM rfl ?_); refine mB ?_; try (clear M; (first | intro g w1 M | intro w1 M); try simp only [setC] at M)) | ((with_reducible refine tGuard ?_); refine gdC ?_ ?_ <;> (intro hgd; rw [hgd]; try (exfalso; simp at hgd; omega)))) <;> (try conv => arg 5; simp only [apS, setC]))
   go_roundw
   case rel => exact ⟨m / 128, d ++ [UInt8.ofNat (m % 128 + 128)], by omega, by rw [show ((m : Int) / 128) = ((m / 128 : Nat) : Int) by omega, I64_nat _ yE], by rw [byte128], Lib.hid (by rw [← HD.out, numL_big (n := m) yE]; simp), M.tail⟩
   case measure =>
    rw [show ((m : Int) / 128) = ((m / 128 : Nat) : Int) by omega, I64_nat _ yE]
    simp only [intOf]; omega
theorem Text12_c (t : List UInt8) (w : World) (ht : t.length ≤ 1000000000) :
  Calls Tryz.prog 144 #[.string (mkS t)] w fun e w' => e = .returned (.string (mkS (textL t))) ∧ Below w.heap.size w w' := by
 have M := Mem.start [] w
 have hn := numL_length_le t.length yE
 go_enter Tryz.func144, Tryz.ntmps144
 go_wp2_with ((go_at_call 143; (refine (Num12_c t.length _ (I64_nat _ yE) _ yE).mono ?_; rintro e w1 ⟨rfl, hb⟩; replace M := M.call hb; clear hb)))
 go_ret
 exact ⟨rfl, M.below⟩
section
variable (g : Nat) (x : RS) (w : World) (h : (Chunk.row g (irV x)).ok w)
include h
end
end Go.Proofs.YtidadhbaomieiaaGreat

namespace Go
namespace TL
end TL
end Go
namespace Go.Proofs.YtidadhbaomieiaaGreat
open Go.RowKit Go.TL
section
variable (g : Nat) (x : RS) (w : World) (h : (Chunk.row g (irV x)).ok w)
include h
end
end Go.Proofs.YtidadhbaomieiaaGreat

namespace Go
namespace TL
def RS.byte (x : RS) : Nat × RS := if x.err = 0 then (match x.rest with | [] => (0, ⟨[], 7⟩) | b :: r => (b.toNat, ⟨r, 0⟩)) else (0, x)
theorem Alike.byte {x : InS} {y : RS} (h : Alike x y) : x.byte.1 = y.byte.1 ∧ Alike x.byte.2 y.byte.2 := by
 obtain ⟨h1, h2⟩ := h
 unfold InS.byte RS.byte
 by_cases h0 : x.err = 0
 ·rw [if_pos h0, if_pos (h1 ▸ h0), h2 h0]
  cases e : y.rest with
  | nil => simp only []; unfold InS.take; rw [if_neg yN]; exact ⟨trivial, rfl, fun h => by cases h⟩
  | cons b r => simp only []; unfold InS.take; rw [if_pos rfl]; exact ⟨trivial, rfl, fun _ => by simp only [h2 h0, e]; rfl⟩
 ·rw [if_neg h0, if_neg (h1 ▸ h0)]
  exact ⟨rfl, h1, fun h => absurd h h0⟩
end TL
end Go
namespace Go.Proofs.YtidadhbaomieiaaGreat
open Go.RowKit Go.TL
theorem Out_Byte_c (g : Nat) (v : Value) (l : List UInt8) (b : UInt8) (w : World) (hl : l.length ≤ 1000000) (ho : (outC g v l).ok w) :
  Calls Tryz.prog 91 #[.pointer (some ⟨g, 0, none⟩), .int .u8 (I8 b)] w fun e w' => e = .returned (.tuple #[]) ∧ ∃ v', Upd w (outC g v l) w' (outC g v' (l ++ [b])) := by
 have M := Mem.start1 ho
 go_enter Tryz.func91, Tryz.ntmps91
 go_wp2_with ((first | ((with_reducible refine tU 70 ?_); refine mU ?_; clear M; intro g w1 M) | (go_at_call 114; (refine (put_c _ _ _ _ [_] _ (M.ok 1 _ rfl) (row_sees1 (M.ok 0 _ rfl)) (by simp; omega)).mono ?_; rintro e w2 ⟨rfl, v1, U⟩; replace M := (M.upd 1 rfl U).tail; clear U))) <;> (try conv => arg 5; simp only [apS, setC]))
 simp only [List.set_cons_zero] at M
 exact bodyPost_end (results_none rfl _ _ _) rfl ⟨rfl, _, M.upd1 0 rfl⟩
section
variable (g : Nat) (x : RS) (w : World) (h : (Chunk.row g (irV x)).ok w)
include h
end
end Go.Proofs.YtidadhbaomieiaaGreat

namespace Go
namespace TL
open Go.RowKit
section
variable {P : Program} {ops : Array Oper} {rest : List Oper} {o : Oper} {a : Act} {w w0 : World} {Q : Exit → Act → World → Prop} {F : List Nat} {L : List Chunk} {g : Nat}
theorem Mem.staysF {c : Chunk} (M : Mem F w0 w L) (R : c.ok w0) (hF : ∀ k ∈ c.fp, k ∉ F) : c.ok w := R.stay M.kept.size fun k hk => M.kept.block k (R.lt k hk) (hF k hk)
theorem w_rowF {cs : List Value} (M : Mem F w0 w L) (R : (Chunk.row g cs).ok w0) (hF : g ∉ F) (t : TypeId) (x : Operand) (ho : o.op = .load t x) {off : Nat} (hx : a.eval x = .pointer (some ⟨g, off, none⟩)) (hw : Region.wanted o (yielded ops a.tmps) = true)
  (ht : scalarT P t = true) {v : Value} (hv : cs[off]? = some v) (h : wpList P ops Q rest (a.put o.dst v) w) : wpList P ops Q (o :: rest) a w := by
 have R' := M.staysF R (by intro k hk; simp only [Chunk.fp, List.mem_singleton] at hk; subst hk; exact hF)
 exact wpW hw fun _ hK => by
  unfold Oper.wp execOp
  simp only [ho, hx, Instr.loadAt, Instr.sureAddr, Sem.run_bind, Sem.run_pure, Result.andThen_ok, run_loadVar_scalar ht w g _ _ (rowCell R' hv)]
  exact hK _ _ h
theorem w_rowFA {cs : List Value} (M : Mem F w0 w L) (R : (Chunk.row g cs).ok w0) (hF : g ∉ F) (t : TypeId) (x : Operand) (ho : o.op = .load t x) {off : Nat} (hx : a.eval x = .pointer (some ⟨g, off, none⟩)) (hw : Region.wanted o (yielded ops a.tmps) = true)
  (ht : rowT P t = true) (pre mid post : List Value) (hcs : cs = pre ++ (mid ++ post)) (hpre : pre.length = off) (hn : (P.info? t).map (·.size) = some mid.length) (h : wpList P ops Q rest (a.put o.dst (.agg mid.toArray)) w) : wpList P ops Q (o :: rest) a w := by
 have R' := M.staysF R (by intro k hk; simp only [Chunk.fp, List.mem_singleton] at hk; subst hk; exact hF)
 exact wpW hw fun _ hK => by
  unfold rowT at ht
  cases hu : P.underlying t with
  | none => simp [hu] at ht
  | some d =>
   simp only [hu] at ht
   refine wp_load_mid t x ho g off hx mid d ?_ hu ht hn (hK _ _ h)
   intro j v hv
   have hj : j < mid.length := (List.getElem?_eq_some_iff.1 hv).1
   refine rowCell R' ?_
   rw [hcs, ← hpre, List.getElem?_append_right yE, Nat.add_sub_cancel_left, List.getElem?_append_left hj]; exact hv
theorem stab_rowF {cs : List Value} (M : Mem F w0 w L) {is : List Nat} (R0 : (Chunk.row g cs).ok w0) (hF : g ∉ F) (off : Nat) {v : Value} {t : TypeId} {x : Operand} (ho : o.op = .load t x) (ht : scalarT P t = true) (hv : cs[off]? = some v) : Stab P (IxOk M is) o (.pointer (some ⟨g, off, none⟩)) := by
 unfold Stab; rw [ho]
 have R' : ∀ w' : World, Kept F w0 w' → (Chunk.row g cs).ok w' := fun w' k => R0.stay k.size fun j hj => k.block j (R0.lt j hj) (by simp only [Chunk.fp, List.mem_singleton] at hj; subst hj; exact hF)
 refine ⟨v, fun w' hw => ?_⟩
 simp only [Instr.loadAt, Instr.sureAddr, Sem.run_bind, Sem.run_pure, Result.andThen_ok, run_loadVar_scalar ht w' g off _ (rowCell (R' w' hw.1) hv)]
end
end TL
end Go

namespace Go.Proofs.YtidadhbaomieiaaGreat
open Go.RowKit Go.TL
def numF (g1 g2 : Nat) : Value := .agg #[.func (.func 164) #[] #[.pointer (some ⟨g2, 0, none⟩), .pointer (some ⟨g1, 0, none⟩)], .func (.func 165) #[] #[.pointer (some ⟨g1, 0, none⟩), .pointer (some ⟨g2, 0, none⟩)]]
def hashF (g : Nat) : Value := .agg #[.func (.func 166) #[] #[.pointer (some ⟨g, 0, none⟩)], .func (.func 167) #[] #[.pointer (some ⟨g, 0, none⟩)]]
theorem msgNumber_c (most : Int) (f : Nat) (w : World) : Calls Tryz.prog 122 #[.int .i64 most, .func (.func f) #[] #[]] w fun r w' => ∃ g1 g2, r = .returned (numF g1 g2) ∧ Mem [] w w' [.row g2 [.func (.func f) #[] #[]], .row g1 [.int .i64 most]] := by
 have M := Mem.start [] w
 have hmf : ∀ (fn : Fn) (first cap : Array Value) (w : World), (Instr.makeFunc fn first cap).run Tryz.prog w = .ok (.func fn first cap) w := fun _ _ _ _ => rfl
 go_enter Tryz.func122, Tryz.ntmps122
 go_wp2_with ((first | ((with_reducible refine tBox (some 2) ?_); refine w_box M _ _ rfl rfl _ rfl ([.int .i64 most]) rfl ?_; clear M; intro g1 w1 M) | ((with_reducible refine tBox (some 3) ?_); refine w_box M _ _ rfl rfl _ rfl ([.func (.func f) #[] #[]]) rfl ?_; clear M; intro g2 w1 M) | ((with_reducible refine tAlloc (some 4) 175 ?_); refine w_alloc M _ rfl rfl (.agg #[.nilFunc, .nilFunc]) ([.nilFunc, .nilFunc]) yC rfl ?_; clear M; intro gr w1 M) | ((with_reducible refine tM rfl ?_); refine mB ?_; try (clear M; (first | intro g w1 M | intro w1 M); try simp only [setC] at M)) | ((with_reducible refine tGuard ?_); refine gdC ?_ ?_ <;> (intro hgd; rw [hgd]; try (exfalso; simp at hgd; omega)))) <;> (try conv => arg 5; simp only [apS, setC]))
 exact bodyPost_ret (results_row rfl _ _ gr 0 [.func (.func 164) #[] #[.pointer (some ⟨g2, 0, none⟩), .pointer (some ⟨g1, 0, none⟩)], .func (.func 165) #[] #[.pointer (some ⟨g1, 0, none⟩), .pointer (some ⟨g2, 0, none⟩)]] _ rfl (M.ok 0 _ rfl).2.1 Tryz.underlying175 rfl yC) rfl ⟨g1, g2, rfl, M.tail⟩
theorem msgHash_c (f : Nat) (w : World) : Calls Tryz.prog 129 #[.func (.func f) #[] #[]] w fun r w' => ∃ g, r = .returned (hashF g) ∧ Mem [] w w' [.row g [.func (.func f) #[] #[]]] := by
 have M := Mem.start [] w
 have hmf : ∀ (fn : Fn) (first cap : Array Value) (w : World), (Instr.makeFunc fn first cap).run Tryz.prog w = .ok (.func fn first cap) w := fun _ _ _ _ => rfl
 go_enter Tryz.func129, Tryz.ntmps129
 go_wp2_with ((first | ((with_reducible refine tBox (some 1) ?_); refine w_box M _ _ rfl rfl _ rfl ([.func (.func f) #[] #[]]) rfl ?_; clear M; intro g1 w1 M) | ((with_reducible refine tAlloc (some 2) 175 ?_); refine w_alloc M _ rfl rfl (.agg #[.nilFunc, .nilFunc]) ([.nilFunc, .nilFunc]) yC rfl ?_; clear M; intro gr w1 M) | ((with_reducible refine tM rfl ?_); refine mB ?_; try (clear M; (first | intro g w1 M | intro w1 M); try simp only [setC] at M)) | ((with_reducible refine tGuard ?_); refine gdC ?_ ?_ <;> (intro hgd; rw [hgd]; try (exfalso; simp at hgd; omega)))) <;> (try conv => arg 5; simp only [apS, setC]))
 exact bodyPost_ret (results_row rfl _ _ gr 0 [.func (.func 166) #[] #[.pointer (some ⟨g1, 0, none⟩)], .func (.func 167) #[] #[.pointer (some ⟨g1, 0, none⟩)]] _ rfl (M.ok 0 _ rfl).2.1 Tryz.underlying175 rfl yC) rfl ⟨g1, rfl, M.tail⟩
theorem at1F_c (g : Nat) (w : World) : Calls Tryz.prog 123 #[.pointer (some ⟨g, 0, none⟩)] w fun e w' => e = .returned (.pointer (some ⟨g, 1, none⟩)) ∧ w = w' := by
 go_enter Tryz.func123, Tryz.ntmps123
 go_wp2_with fail
 go_ret
 exact ⟨rfl, rfl⟩
theorem at2F_c (g : Nat) (w : World) : Calls Tryz.prog 124 #[.pointer (some ⟨g, 0, none⟩)] w fun e w' => e = .returned (.pointer (some ⟨g, 2, none⟩)) ∧ w = w' := by
 go_enter Tryz.func124, Tryz.ntmps124
 go_wp2_with fail
 go_ret
 exact ⟨rfl, rfl⟩
theorem at3F_c (g : Nat) (w : World) : Calls Tryz.prog 125 #[.pointer (some ⟨g, 0, none⟩)] w fun e w' => e = .returned (.pointer (some ⟨g, 3, none⟩)) ∧ w = w' := by
 go_enter Tryz.func125, Tryz.ntmps125
 go_wp2_with fail
 go_ret
 exact ⟨rfl, rfl⟩
theorem at4F_c (g : Nat) (w : World) : Calls Tryz.prog 126 #[.pointer (some ⟨g, 0, none⟩)] w fun e w' => e = .returned (.pointer (some ⟨g, 7, none⟩)) ∧ w = w' := by
 go_enter Tryz.func126, Tryz.ntmps126
 go_wp2_with fail
 go_ret
 exact ⟨rfl, rfl⟩
theorem at5F_c (g : Nat) (w : World) : Calls Tryz.prog 127 #[.pointer (some ⟨g, 0, none⟩)] w fun e w' => e = .returned (.pointer (some ⟨g, 40, none⟩)) ∧ w = w' := by
 go_enter Tryz.func127, Tryz.ntmps127
 go_wp2_with fail
 go_ret
 exact ⟨rfl, rfl⟩
theorem at6F_c (g : Nat) (w : World) : Calls Tryz.prog 128 #[.pointer (some ⟨g, 0, none⟩)] w fun e w' => e = .returned (.pointer (some ⟨g, 41, none⟩)) ∧ w = w' := by
 go_enter Tryz.func128, Tryz.ntmps128
 go_wp2_with fail
 go_ret
 exact ⟨rfl, rfl⟩
theorem at7F_c (g : Nat) (w : World) : Calls Tryz.prog 130 #[.pointer (some ⟨g, 0, none⟩)] w fun e w' => e = .returned (.pointer (some ⟨g, 8, none⟩)) ∧ w = w' := by
 go_enter Tryz.func130, Tryz.ntmps130
 go_wp2_with fail
 go_ret
 exact ⟨rfl, rfl⟩
theorem at8F_c (g : Nat) (w : World) : Calls Tryz.prog 131 #[.pointer (some ⟨g, 0, none⟩)] w fun e w' => e = .returned (.pointer (some ⟨g, 42, none⟩)) ∧ w = w' := by
 go_enter Tryz.func131, Tryz.ntmps131
 go_wp2_with fail
 go_ret
 exact ⟨rfl, rfl⟩
theorem at9F_c (g : Nat) (w : World) : Calls Tryz.prog 132 #[.pointer (some ⟨g, 0, none⟩)] w fun e w' => e = .returned (.pointer (some ⟨g, 74, none⟩)) ∧ w = w' := by
 go_enter Tryz.func132, Tryz.ntmps132
 go_wp2_with fail
 go_ret
 exact ⟨rfl, rfl⟩
def mfFn : Mf → Nat
 | .e => 123 | .a => 124 | .o => 125 | .p => 126 | .v => 127 | .i => 128
theorem numPut_c (q : Mf) (most : Int) (gm g1 g2 go : Nat) (m : Ms) (v : Value) (l : List UInt8) (w : World) (hm : m.fit) (hn : 0 ≤ q.get m ∧ q.get m ≤ 9223372036854775807) (hl : l.length ≤ 1000000) (ho : (outC go v l).ok w)
  (R : (Chunk.row gm (msgC m)).ok w) (B1 : (Chunk.row g1 [.int .i64 most]).ok w) (B2 : (Chunk.row g2 [.func (.func (mfFn q)) #[] #[]]).ok w) (n0 : gm ∉ (outC go v l).fp) (n1 : g1 ∉ (outC go v l).fp) (n2 : g2 ∉ (outC go v l).fp) :
  Calls Tryz.prog 164 #[.pointer (some ⟨go, 0, none⟩), .pointer (some ⟨gm, 0, none⟩), .pointer (some ⟨g2, 0, none⟩), .pointer (some ⟨g1, 0, none⟩)] w fun e w' => e = .returned (.bool (decide (q.get m ≤ most))) ∧ ∃ v', Upd w (outC go v l) w' (outC go v' (l ++ numL (q.get m).toNat)) := by
 have M := Mem.start1 ho
 have HQ := msgC_num hm q
 obtain ⟨z, ez⟩ : ∃ z, z = q.get m := ⟨_, rfl⟩
 rw [← ez] at HQ hn ⊢
 clear ez
 obtain ⟨z, rfl⟩ : ∃ n : Nat, z = n := ⟨z.toNat, by omega⟩
 have e1 := I64_nat z yE
 replace HQ := Lib.hid HQ
 cases q
 all_goals
  simp only [mfFn] at B2
  go_enter Tryz.func164, Tryz.ntmps164
  go_wp2_with ((first | ((with_reducible refine tLoad ?_); (refine w_at _ _ rfl yI ?_; intro hx; (first | refine w_rowF M B2 n2 _ _ rfl hx rfl yA rfl ?_ | refine w_rowF M B1 n1 _ _ rfl hx rfl yA rfl ?_ | refine w_rowF M R n0 _ _ rfl hx rfl yA HQ.out ?_); clear hx)) | ((first | (go_at_call 123; refine (at1F_c _ _).mono ?_) | (go_at_call 124; refine (at2F_c _ _).mono ?_) | (go_at_call 125; refine (at3F_c _ _).mono ?_) | (go_at_call 126; refine (at4F_c _ _).mono ?_) | (go_at_call 127; refine (at5F_c _ _).mono ?_) | (go_at_call 128; refine (at6F_c _ _).mono ?_)); rintro e w1 ⟨rfl, rfl⟩) | (go_at_call 113; (refine (Num_c _ _ l z (z : Int) rfl _ yE yE (M.ok 0 _ rfl)).mono ?_; rintro r w2 ⟨rfl, v1, U⟩; replace M := M.upd 0 rfl U; clear U; simp only [setC] at M)) | ((with_reducible refine tM rfl ?_); refine mS ?_; try (clear M; (first | intro g w1 M | intro w1 M); try simp only [setC] at M))) <;> (try conv => arg 5; simp only [apS, setC]))
  go_ret
  exact ⟨rfl, _, M.upd1 0 rfl⟩
end Go.Proofs.YtidadhbaomieiaaGreat

namespace Go
namespace TL
open Go.RowKit
theorem mem_fps {K : List Chunk} {i : Nat} {c : Chunk} (h : K[i]? = some c) {k : Nat} (hk : k ∈ c.fp) : k ∈ K.flatMap Chunk.fp := List.mem_flatMap.2 ⟨c, List.mem_of_getElem? h, hk⟩
theorem Mem.again {F : List Nat} {w0 w : World} {K L : List Chunk} (M : Mem F w0 w (K ++ L)) : Mem (K.flatMap Chunk.fp) w w K := by
 have e : ∀ {i : Nat} {c : Chunk}, K[i]? = some c → (K ++ L)[i]? = some c := fun {i c} h => by rw [List.getElem?_append_left (List.getElem?_eq_some_iff.1 h).1]; exact h
 exact ⟨Kept.refl _ _, fun i c h => M.ok i c (e h), fun i c h k hk => .inl (mem_fps h hk), fun i j c d hij hi hj => M.nd i j c d hij (e hi) (e hj)⟩
theorem Mem.turn {F : List Nat} {w0 w w' : World} {K K' L : List Chunk} (M : Mem F w0 w (K ++ L)) (U : Mem (K.flatMap Chunk.fp) w w' K') : Mem F w0 w' (K' ++ L) := by
 have el : ∀ {i : Nat} {c : Chunk}, K[i]? = some c → (K ++ L)[i]? = some c := fun {i c} h => by rw [List.getElem?_append_left (List.getElem?_eq_some_iff.1 h).1]; exact h
 have er : ∀ {i : Nat} {c : Chunk}, L[i]? = some c → (K ++ L)[K.length + i]? = some c := fun {i c} h => by rw [List.getElem?_append_right yE, Nat.add_sub_cancel_left]; exact h
 have fpK : ∀ k, k ∈ K.flatMap Chunk.fp → ∃ (i : Nat) (c : Chunk), K[i]? = some c ∧ k ∈ c.fp := fun k hk => by
  obtain ⟨c, hc, hk⟩ := List.mem_flatMap.1 hk
  obtain ⟨i, hi⟩ := List.mem_iff_getElem?.1 hc
  exact ⟨i, c, hi, hk⟩
 have apart : ∀ {i : Nat} {d : Chunk}, L[i]? = some d → ∀ k ∈ d.fp, k ∉ K.flatMap Chunk.fp := fun {i d} hd k hk hK => by
  obtain ⟨j, c, hj, hk'⟩ := fpK k hK
  have hjl := (List.getElem?_eq_some_iff.1 hj).1
  exact M.nd (K.length + i) j d c yE (er hd) (el hj) k hk hk'
 have okL : ∀ {i : Nat} {d : Chunk}, L[i]? = some d → d.ok w' := fun {i d} hd => (M.ok _ d (er hd)).stay U.kept.size fun k hk => U.kept.block k ((M.ok _ d (er hd)).lt k hk) (apart hd k hk)
 have split : ∀ {i : Nat} {c : Chunk}, (K' ++ L)[i]? = some c → K'[i]? = some c ∨ (K'.length ≤ i ∧ L[i - K'.length]? = some c) := fun {i c} h => by
  by_cases hi : i < K'.length
  ·rw [List.getElem?_append_left hi] at h; exact .inl h
  ·rw [List.getElem?_append_right yE] at h; exact .inr ⟨by omega, h⟩
 have ownK : ∀ {i : Nat} {c : Chunk}, K'[i]? = some c → ∀ k ∈ c.fp, k ∈ K.flatMap Chunk.fp ∨ w.heap.size ≤ k := fun {i c} h => U.own i c h
 have xap : ∀ {i j : Nat} {c d : Chunk}, K'[i]? = some c → L[j]? = some d → ∀ k ∈ c.fp, k ∉ d.fp := fun {i j c d} hi hj k hk hk2 => by
  rcases ownK hi k hk with h | h
  ·exact apart hj k hk2 h
  ·have := (M.ok _ d (er hj)).lt k hk2; omega
 refine ⟨M.kept.trans U.kept fun x hx => ?_, ?_, ?_, ?_⟩
 ·obtain ⟨i, c, hi, hk⟩ := fpK x hx
  exact M.own i c (el hi) x hk
 ·intro i c h
  rcases split h with h | ⟨_, h⟩
  ·exact U.ok i c h
  ·exact okL h
 ·intro i c h k hk
  rcases split h with h | ⟨_, h⟩
  ·rcases ownK h k hk with h' | h'
   ·obtain ⟨j, d, hj, hkd⟩ := fpK k h'
    exact M.own j d (el hj) k hkd
   ·exact .inr (Nat.le_trans M.kept.size h')
  ·exact M.own _ c (er h) k hk
 ·intro i j c d hij hi hj k hk hk2
  rcases split hi with hi | ⟨li, hi⟩ <;> rcases split hj with hj | ⟨lj, hj⟩
  ·exact U.nd i j c d hij hi hj k hk hk2
  ·exact xap hi hj k hk hk2
  ·exact xap hj hi k hk2 hk
  ·exact M.nd _ _ c d yE (er hi) (er hj) k hk hk2
end TL
end Go

namespace Go.Proofs.YtidadhbaomieiaaGreat
open Go.RowKit Go.TL
theorem numGet_c (q : Mf) (N : Nat) (gm g1 g2 gi : Nat) (m : Ms) (x : InS) (F : List Nat) (w : World) (hm : m.fit) (hf : x.fit) (hN : N < 9223372036854775808) (M : Mem F w w [.row gi (inV x), .row gm (msgC m)])
  (B1 : (Chunk.row g1 [.int .i64 (N : Int)]).ok w) (B2 : (Chunk.row g2 [.func (.func (mfFn q)) #[] #[]]).ok w) (n1 : g1 ∉ F) (n2 : g2 ∉ F) :
  Calls Tryz.prog 165 #[.pointer (some ⟨gi, 0, none⟩), .pointer (some ⟨gm, 0, none⟩), .pointer (some ⟨g1, 0, none⟩), .pointer (some ⟨g2, 0, none⟩)] w fun e w' => e = .returned (.int .i64 0) ∧ Mem F w w' [.row gi (inV (x.most N).2), .row gm (msgC (q.set m ((x.most N).1 : Int)))] := by
 have TC := fun g (w : World) h => Most_c g x w h hf N (N : Int) rfl yE
 replace TC := Lib.hid TC
 cases q
 all_goals
  simp only [mfFn] at B2
  go_enter Tryz.func165, Tryz.ntmps165
  go_wp2_with ((first | ((with_reducible show Code.wp _ (Code.region 1 _ _) _ _ _); (have MR := M; refine region_lowc [(1, false), (3, false), (0, false), (4, false), (2, true), (5, true), (6, false), (7, true)] [(9, .ptr)] [(0, _), (4, _)] (IxOk MR []) 7 yC yC rfl yC (lows_cons (stab_rowF MR B2 n2 0 rfl yA rfl) (lows_cons (stab_rowF MR B1 n1 0 rfl yA rfl) lows_nil)) (ixOk_self MR _) ?_; replace M := M.drew; simp only [planC, opAt, List.getElem?_toArray, List.getElem?_cons_zero, List.getElem?_cons_succ, Option.getD_some])) | ((with_reducible refine tLoad ?_); (refine w_at _ _ rfl yI ?_; intro hx; (first | refine w_rowF M B2 n2 _ _ rfl hx rfl yA rfl ?_ | refine w_rowF M B1 n1 _ _ rfl hx rfl yA rfl ?_); clear hx)) | ((first | (go_at_call 123; refine (at1F_c _ _).mono ?_) | (go_at_call 124; refine (at2F_c _ _).mono ?_) | (go_at_call 125; refine (at3F_c _ _).mono ?_) | (go_at_call 126; refine (at4F_c _ _).mono ?_) | (go_at_call 127; refine (at5F_c _ _).mono ?_) | (go_at_call 128; refine (at6F_c _ _).mono ?_)); rintro e w1 ⟨rfl, rfl⟩) | (go_at_call 58; (refine (TC.out _ _ (M.ok 0 _ rfl)).mono ?_; rintro r w2 ⟨rfl, U⟩; replace M := M.upd 0 rfl U; clear U; simp only [setC] at M)) | ((with_reducible refine tStore ?_); (refine w_at2 _ _ _ rfl yI yF ?_; intro hx hy; (first | refine w_storeMf M 1 _ _ _ rfl rfl hx rfl hy yA hm .e rfl ?_ | refine w_storeMf M 1 _ _ _ rfl rfl hx rfl hy yA hm .a rfl ?_ | refine w_storeMf M 1 _ _ _ rfl rfl hx rfl hy yA hm .o rfl ?_ | refine w_storeMf M 1 _ _ _ rfl rfl hx rfl hy yA hm .p rfl ?_ | refine w_storeMf M 1 _ _ _ rfl rfl hx rfl hy yA hm .v rfl ?_ | refine w_storeMf M 1 _ _ _ rfl rfl hx rfl hy yA hm .i rfl ?_); clear hx hy M; intro w1 M; (try simp only [setC] at M))) | ((with_reducible refine tM rfl ?_); refine mS ?_; try (clear M; (first | intro g w1 M | intro w1 M); try simp only [setC] at M)) | ((with_reducible first | show Seg _ _ _ _ | show OnlyN _ _ _ _ _); refine rA ?_)) <;> (try conv => arg 5; simp only [apS, setC]))
  go_ret
  exact ⟨rfl, M⟩
end Go.Proofs.YtidadhbaomieiaaGreat

namespace Go
namespace TL
theorem readN_le (s : List UInt8) (m : Nat) : (readN s m).2.1 ≤ s.length ∧ (readN s m).2.1 ≤ 10 ∧ (readN s m).1 ≤ m := read_le (s := s) (most := m) rfl
def inStart (s : List UInt8) : InS := ⟨s, 0, 0⟩
/-! ### The reader stays within its bounds -/
theorem InS.take_fit {x : InS} {k e : Nat} (h : x.fit) (hk : k ≤ x.rest.length) : (x.take k e).fit := by
 unfold InS.take InS.fit at *
 split
 ·simp only [List.length_drop]; omega
 ·exact h
theorem InS.most_fit {x : InS} (h : x.fit) (m : Nat) : (x.most m).2.fit := by
 unfold InS.most
 split
 ·exact InS.take_fit h (read_le (s := x.rest) (most := m) rfl).1
 ·exact h
theorem InS.text_fit {x : InS} (h : x.fit) (m : Nat) : (x.text m).2.fit := by
 unfold InS.text
 split
 ·split
  ·split
   ·have := (readN_le x.rest m).1
    exact InS.take_fit h yE
   ·exact InS.take_fit h (Nat.zero_le _)
  ·exact InS.take_fit h (Nat.zero_le _)
 ·exact h
theorem InS.byte_fit {x : InS} (h : x.fit) : x.byte.2.fit := by
 unfold InS.byte
 split
 ·split
  ·exact InS.take_fit h (Nat.zero_le _)
  ·rename_i b l e; exact InS.take_fit h (by rw [e]; simp)
 ·exact h
theorem InS.most_le (x : InS) (m : Nat) : (x.most m).1 ≤ m := by
 unfold InS.most
 split
 ·exact (read_le (s := x.rest) (most := m) rfl).2.2
 ·exact Nat.zero_le _
theorem InS.text_len (x : InS) (m : Nat) : (x.text m).1.length ≤ m := by
 unfold InS.text
 split
 ·split
  ·split
   ·have := (readN_le x.rest m).2.2
    simp; omega
   ·simp
  ·simp
 ·simp
theorem InS.text_err {x : InS} (h : x.err ≠ 0) (m : Nat) : x.text m = ([], x) := by unfold InS.text; rw [if_neg h]
theorem InS.most_err {x : InS} (h : x.err ≠ 0) (m : Nat) : x.most m = (0, x) := by unfold InS.most; rw [if_neg h]
theorem fin_err {x : InS} (h : x.err ≠ 0) : x.fin = x.err := by unfold InS.fin; rw [if_neg h]
end TL
end Go

namespace Go
namespace TL
def hashS (h0 : List UInt8) (x0 : InS) : Nat → InS × List UInt8
 | 0 => (x0, h0)
 | n + 1 => ((hashS h0 x0 n).1.byte.2, (hashS h0 x0 n).2.set n (UInt8.ofNat (hashS h0 x0 n).1.byte.1))
theorem hashS_succ (h0 : List UInt8) (x0 : InS) (n : Nat) : hashS h0 x0 (n + 1) = ((hashS h0 x0 n).1.byte.2, (hashS h0 x0 n).2.set n (UInt8.ofNat (hashS h0 x0 n).1.byte.1)) := rfl
theorem hashS_len {h0 : List UInt8} (h : h0.length = 32) (x0 : InS) : ∀ n, (hashS h0 x0 n).2.length = 32
 | 0 => h
 | n + 1 => by rw [hashS_succ, List.length_set]; exact hashS_len h x0 n
theorem hashS_fit (h0 : List UInt8) {x0 : InS} (h : x0.fit) : ∀ n, (hashS h0 x0 n).1.fit
 | 0 => h
 | n + 1 => InS.byte_fit (hashS_fit h0 h n)
theorem Hf.get_set {m : Ms} (x : List UInt8) (f : Hf) : f.get (f.set m x) = x := by cases f <;> rfl
theorem Hf.set_set {m : Ms} (x y : List UInt8) (f : Hf) : f.set (f.set m x) y = f.set m y := by cases f <;> rfl
theorem byte_some (x : InS) : ∃ q : UInt8, x.byte.1 = q.toNat := by
 unfold InS.byte
 split
 ·split
  ·exact ⟨0, rfl⟩
  ·rename_i b _ _; exact ⟨b, rfl⟩
 ·exact ⟨0, rfl⟩
end TL
end Go
namespace Go.Proofs.YtidadhbaomieiaaGreat
open Go.RowKit Go.TL
def hfFn : Hf → Nat
 | .r => 130 | .lf => 131 | .rt => 132
theorem hashPut_c (q : Hf) (gm g1 go : Nat) (m : Ms) (v : Value) (l : List UInt8) (w : World) (hm : m.fit) (hl : l.length ≤ 900000) (ho : (outC go v l).ok w)
  (R : (Chunk.row gm (msgC m)).ok w) (B1 : (Chunk.row g1 [.func (.func (hfFn q)) #[] #[]]).ok w) (n0 : gm ∉ (outC go v l).fp) (n1 : g1 ∉ (outC go v l).fp) :
  Calls Tryz.prog 166 #[.pointer (some ⟨go, 0, none⟩), .pointer (some ⟨gm, 0, none⟩), .pointer (some ⟨g1, 0, none⟩)] w fun e w' => e = .returned (.bool true) ∧ ∃ v', Upd w (outC go v l) w' (outC go v' (l ++ q.get m)) := by
 have M := Mem.start1 ho
 have HG := msgC_get m q
 have HP := q.pre_len hm
 have hlen := q.len hm
 obtain ⟨x, ex⟩ : ∃ x, x = q.get m := ⟨_, rfl⟩
 rw [← ex] at HG hlen ⊢
 clear ex
 replace HG := Lib.hid HG
 replace HP := Lib.hid HP
 cases q
 all_goals
  simp only [hfFn] at B1
  go_enter Tryz.func166, Tryz.ntmps166
  go_wp2_with ((first | ((with_reducible refine tLoad ?_); (refine w_at _ _ rfl yI ?_; intro hx; (first | refine w_rowF M B1 n1 _ _ rfl hx rfl yA rfl ?_ | refine w_rowFA M R n0 _ _ rfl hx rfl yA _ _ _ HG.out HP.out (by rw [bs_length, hlen]; kernel_rfl) ?_); clear hx)) | ((first | (go_at_call 130; refine (at7F_c _ _).mono ?_) | (go_at_call 131; refine (at8F_c _ _).mono ?_) | (go_at_call 132; refine (at9F_c _ _).mono ?_)); rintro e w1 ⟨rfl, rfl⟩) | ((with_reducible refine tM rfl ?_); refine mS ?_; try (clear M; (first | intro g w1 M | intro w1 M); try simp only [setC] at M))) <;> (try conv => arg 5; simp only [apS, setC]))
  go_loopw [13] (fun iv wr => ∃ (j : Nat) (v1 : Value), j ≤ 32 ∧ iv = .int .i64 j ∧ Mem (outC go v l).fp w wr [outC go v1 (l ++ x.take j)]) (fun iv _ => 32 - (intOf iv).toNat)
  case atStart => exact ⟨0, v, by omega, rfl, by simpa using M⟩
  case round =>
   clear M
   obtain ⟨j, v1, hj, rfl, M⟩ := hrel
   by_cases hlt : j < 32
   ·have hix : ∀ w'', (Instr.index 64 (.agg (bs x).toArray) (.int .i64 j)).run Tryz.prog w'' = .ok (.int .u8 (I8 (x.getD j 0))) w'' := fun w'' => run_index_agg _ _ 32 _ Tryz.underlying64 _ Tryz.underlying5 rfl yC j hlt _ (by rw [List.getElem?_toArray]; exact getD_some yE) w''
    have EJ : l ++ x.take (j + 1) = l ++ x.take j ++ [x.getD j 0] := by
     rw [List.append_assoc, List.take_succ_eq_append_getElem yE, List.getD_eq_getElem?_getD, List.getElem?_eq_getElem yE]; rfl
    have hq : (l ++ x.take j).length ≤ 1000000 := by rw [List.length_append, List.length_take]; omega
    obtain ⟨b, eb⟩ : ∃ b, b = x.getD j 0 := ⟨_, rfl⟩
    rw [← eb] at hix EJ
    obtain ⟨y, ey⟩ : ∃ y, y = l ++ x.take j := ⟨_, rfl⟩
    rw [← ey] at M EJ hq
    replace EJ := Lib.hid EJ
    clear eb ey
    go_wp2_with ((first | (go_at_call 91; (refine (Out_Byte_c _ _ y b _ yE (M.ok 0 _ rfl)).mono ?_; rintro r w2 ⟨rfl, v2, U⟩; replace M := M.upd 0 rfl U; clear U; simp only [setC] at M)) | ((with_reducible refine tM rfl ?_); refine mS ?_; try (clear M; (first | intro g w1 M | intro w1 M); try simp only [setC] at M))) <;> (try conv => arg 5; simp only [apS, setC]))
    go_roundw
    case rel => exact ⟨j + 1, _, by omega, by go_num, by rw [EJ.out]; exact M⟩
    case measure => simp [intOf]; omega
   ·obtain rfl : j = 32 := by omega
    rw [List.take_of_length_le yE] at M
    go_wp2_with fail
    go_ret
    exact ⟨rfl, _, M.upd1 0 rfl⟩
theorem hashGet_c (q : Hf) (gm g1 gi : Nat) (m : Ms) (x : InS) (F : List Nat) (w : World) (hm : m.fit) (hf : x.fit) (M : Mem F w w [.row gi (inV x), .row gm (msgC m)])
  (B1 : (Chunk.row g1 [.func (.func (hfFn q)) #[] #[]]).ok w) (n1 : g1 ∉ F) :
  Calls Tryz.prog 167 #[.pointer (some ⟨gi, 0, none⟩), .pointer (some ⟨gm, 0, none⟩), .pointer (some ⟨g1, 0, none⟩)] w fun e w' => e = .returned (.int .i64 0) ∧ Mem F w w' [.row gi (inV (hashS (q.get m) x 32).1), .row gm (msgC (q.set m (hashS (q.get m) x 32).2))] := by
 have h0 := q.len hm
 obtain ⟨S, eS⟩ : ∃ S, S = hashS (q.get m) x := ⟨_, rfl⟩
 have s0 : (S 0).1 = x := by rw [eS]; rfl
 have sf : ∀ n, (S n).1.fit := fun n => by rw [eS]; exact hashS_fit _ hf n
 have sn : ∀ n, (S (n + 1)).1 = (S n).1.byte.2 := fun n => by rw [eS]; rfl
 obtain ⟨T, eT⟩ : ∃ T : Nat → Ms, T = fun n => q.set m (S n).2 := ⟨_, rfl⟩
 have t0 : T 0 = m := by rw [eT, eS]; exact q.set_get
 have tf : ∀ n, (T n).fit := fun n => by rw [eT, eS]; exact q.set_fit hm (hashS_len h0 x n)
 have tn : ∀ n (b : UInt8), (S n).1.byte.1 = b.toNat → q.set (T n) ((q.get (T n)).set n b) = T (n + 1) := fun n b hb => by
  rw [eT]
  simp only
  rw [Hf.get_set, Hf.set_set, eS, hashS_succ, ← eS, hb, UInt8.ofNat_toNat]
 have EX : q.set m (S 32).2 = T 32 := by rw [eT]
 rw [← eS, EX]
 rw [← s0, ← t0] at M
 clear eS eT EX s0 t0 hf hm h0
 replace sf := Lib.hid sf
 replace sn := Lib.hid sn
 replace tf := Lib.hid tf
 replace tn := Lib.hid tn
 cases q
 all_goals
  simp only [hfFn] at B1
  go_enter Tryz.func167, Tryz.ntmps167
  go_wp2_with ((first | ((with_reducible refine tLoad ?_); (refine w_at _ _ rfl yI ?_; intro hx; (first | refine w_rowF M B1 n1 _ _ rfl hx rfl yA rfl ?_); clear hx)) | ((first | (go_at_call 130; refine (at7F_c _ _).mono ?_) | (go_at_call 131; refine (at8F_c _ _).mono ?_) | (go_at_call 132; refine (at9F_c _ _).mono ?_)); rintro e w1 ⟨rfl, rfl⟩) | ((with_reducible refine tM rfl ?_); refine mS ?_; try (clear M; (first | intro g w1 M | intro w1 M); try simp only [setC] at M))) <;> (try conv => arg 5; simp only [apS, setC]))
  go_loopw [11] (fun iv wr => ∃ j : Nat, j ≤ 32 ∧ iv = .int .i64 j ∧ Mem F w wr [.row gi (inV (S j).1), .row gm (msgC (T j))]) (fun iv _ => 32 - (intOf iv).toNat)
  case atStart => exact ⟨0, by omega, rfl, M⟩
  case round =>
   clear M
   obtain ⟨j, hj, rfl, M⟩ := hrel
   by_cases hlt : j < 32
   ·obtain ⟨b, hb⟩ := byte_some (S j).1
    have TN := tn.out j b hb
    have hfit := tf.out j
    have YC := fun g (w : World) h => In_Byte_c g (S j).1 w h (sf.out j)
    rw [hb, ← I8_eq, ← sn.out j] at YC
    obtain ⟨y, ey⟩ : ∃ y, y = (S j).1 := ⟨_, rfl⟩
    obtain ⟨z, ez⟩ : ∃ z, z = (S (j + 1)).1 := ⟨_, rfl⟩
    obtain ⟨mj, emj⟩ : ∃ mj, mj = T j := ⟨_, rfl⟩
    rw [← ey] at M YC
    rw [← ez] at YC
    rw [← emj] at M hfit TN
    have EZ := Lib.hid fun _ : Unit => ez
    replace TN := Lib.hid TN
    replace YC := Lib.hid YC
    clear ey ez emj hb
    go_wp2_with ((first | ((with_reducible show Code.wp _ (Code.region 5 _ _) _ _ _); (refine region_det [(0, false), (1, false), (2, false), (4, false), (3, true), (5, false), (6, true)] [(14, .ptr)] yC yC rfl yC ?_; replace M := M.drew; simp only [reord, opAt, List.map_cons, List.map_nil, List.getElem?_toArray, List.getElem?_cons_zero, List.getElem?_cons_succ, Option.getD_some])) | (go_at_call 61; (refine (YC.out _ _ (M.ok 0 _ rfl)).mono ?_; rintro r w2 ⟨rfl, U⟩; replace M := M.upd 0 rfl U; clear U; simp only [setC] at M)) | ((with_reducible refine tStore ?_); (refine w_at2 _ _ _ rfl yI yF ?_; intro hx hy; (first | refine w_storeHb M 1 _ _ _ rfl rfl hx rfl hy yA hfit .r j rfl hlt ?_ | refine w_storeHb M 1 _ _ _ rfl rfl hx rfl hy yA hfit .lf j rfl hlt ?_ | refine w_storeHb M 1 _ _ _ rfl rfl hx rfl hy yA hfit .rt j rfl hlt ?_); clear hx hy M; intro w1 M; (try simp only [setC] at M))) | ((with_reducible refine tM rfl ?_); refine mS ?_; try (clear M; (first | intro g w1 M | intro w1 M); try simp only [setC] at M)) | ((with_reducible first | show Seg _ _ _ _ | show OnlyN _ _ _ _ _); refine rA ?_)) <;> (try conv => arg 5; simp only [apS, setC]))
    go_roundw
    case rel => exact ⟨j + 1, by omega, by go_num, by rw [← EZ.out (), ← TN.out]; exact M⟩
    case measure => simp [intOf]; omega
   ·obtain rfl : j = 32 := by omega
    go_wp2_with fail
    go_ret
    exact ⟨rfl, M⟩
end Go.Proofs.YtidadhbaomieiaaGreat

namespace Go
namespace TL
open Go.RowKit
structure Lm where
 k : UInt8
 e : Int
 a : Int
 o : Int
 bi : Int
 be : Int
 ops : List Opr
 p : Int
 r : List UInt8
 v : Int
 i : Int
 lf : List UInt8
 rt : List UInt8
 prs : List (List UInt8 × List UInt8)
 deriving DecidableEq
def Lm.ms (L : Lm) (ov pv : Value) : Ms := ⟨L.k, L.e, L.a, L.o, L.bi, L.be, ov, L.p, L.r, L.v, L.i, L.lf, L.rt, pv⟩
def Lm.fit (L : Lm) : Prop := L.r.length = 32 ∧ L.lf.length = 32 ∧ L.rt.length = 32
def zeroL : Lm := ⟨0, 0, 0, 0, 0, 0, [], 0, zeroH, 0, 0, zeroH, zeroH, []⟩
theorem zeroL_fit : zeroL.fit := ⟨zeroH_len, zeroH_len, zeroH_len⟩
def kindL (k : UInt8) : Lm := ⟨k, 0, 0, 0, 0, 0, [], 0, zeroH, 0, 0, zeroH, zeroH, []⟩
theorem kindL_fit (k : UInt8) : (kindL k).fit := ⟨zeroH_len, zeroH_len, zeroH_len⟩
def kindM (k : UInt8) : Ms := ⟨k, 0, 0, 0, 0, 0, .slice none 0 0, 0, zeroH, 0, 0, zeroH, zeroH, .slice none 0 0⟩
theorem kindM_fit (k : UInt8) : (kindM k).fit := ⟨zeroH_len, zeroH_len, zeroH_len, rfl, rfl⟩
theorem Lm.ms_fit {L : Lm} (h : L.fit) {ov pv : Value} (ho : ov.oneCell' = true) (hp : pv.oneCell' = true) : (L.ms ov pv).fit := ⟨h.1, h.2.1, h.2.2, ho, hp⟩
def Mf.gl (L : Lm) : Mf → Int
 | .e => L.e | .a => L.a | .o => L.o | .p => L.p | .v => L.v | .i => L.i
def Mf.sl (L : Lm) (x : Int) : Mf → Lm
 | .e => { L with e := x } | .a => { L with a := x } | .o => { L with o := x } | .p => { L with p := x } | .v => { L with v := x } | .i => { L with i := x }
def Hf.gl (L : Lm) : Hf → List UInt8
 | .r => L.r | .lf => L.lf | .rt => L.rt
def Hf.sl (L : Lm) (x : List UInt8) : Hf → Lm
 | .r => { L with r := x } | .lf => { L with lf := x } | .rt => { L with rt := x }
theorem Mf.get_ms (L : Lm) (ov pv : Value) (q : Mf) : q.get (L.ms ov pv) = q.gl L := by cases q <;> rfl
theorem Mf.set_ms (L : Lm) (ov pv : Value) (x : Int) (q : Mf) : q.set (L.ms ov pv) x = (q.sl L x).ms ov pv := by cases q <;> rfl
theorem Hf.get_ms (L : Lm) (ov pv : Value) (q : Hf) : q.get (L.ms ov pv) = q.gl L := by cases q <;> rfl
theorem Hf.set_ms (L : Lm) (ov pv : Value) (x : List UInt8) (q : Hf) : q.set (L.ms ov pv) x = (q.sl L x).ms ov pv := by cases q <;> rfl
theorem Mf.sl_fit {L : Lm} (h : L.fit) (x : Int) (q : Mf) : (q.sl L x).fit := by cases q <;> exact h
theorem Hf.sl_fit {L : Lm} (h : L.fit) {x : List UInt8} (hx : x.length = 32) (q : Hf) : (q.sl L x).fit := by
 obtain ⟨h1, h2, h3⟩ := h
 cases q
 ·exact ⟨hx, h2, h3⟩
 ·exact ⟨h1, hx, h3⟩
 ·exact ⟨h1, h2, hx⟩
theorem Hf.gl_len {L : Lm} (h : L.fit) (q : Hf) : (q.gl L).length = 32 := by
 obtain ⟨h1, h2, h3⟩ := h
 cases q <;> assumption
def Mf.most : Mf → Nat
 | .e => 9223372036854775807 | .a => 9223372036854775807 | .o => 9223372036854775807 | .p => 9223372036854775807 | .v => 4 | .i => 15
theorem Mf.most_le (q : Mf) : q.most ≤ 9223372036854775807 := by cases q <;> decide
inductive Fld where
 | num (q : Mf)
 | hash (q : Hf)
 | bat
 | prs
def fdsL (k : UInt8) : List Fld :=
 if k = 1 then [.num .e] else if k = 2 then [.num .e, .num .p, .bat] else if k = 3 then [.num .e, .num .a, .num .o]
 else if k = 4 then [.num .e, .num .a, .num .o, .hash .r] else if k = 5 then [.num .e, .num .a, .num .v, .num .i]
 else if k = 6 then [.num .e, .num .a, .num .v, .num .i, .hash .lf, .hash .rt] else if k = 7 then [.num .e, .num .a, .num .i, .prs] else []
def isK (k : UInt8) : Bool := decide (1 ≤ k.toNat ∧ k.toNat ≤ 7)
theorem kinds {k : UInt8} (h : isK k = true) : k = 1 ∨ k = 2 ∨ k = 3 ∨ k = 4 ∨ k = 5 ∨ k = 6 ∨ k = 7 := by
 unfold isK at h
 have h := of_decide_eq_true h
 have hk : k = UInt8.ofNat k.toNat := UInt8.ofNat_toNat.symm
 have : k.toNat = 1 ∨ k.toNat = 2 ∨ k.toNat = 3 ∨ k.toNat = 4 ∨ k.toNat = 5 ∨ k.toNat = 6 ∨ k.toNat = 7 := by omega
 rcases this with e | e | e | e | e | e | e <;> (rw [e] at hk; subst hk; decide)
theorem fds_len (k : UInt8) : (fdsL k).length ≤ 6 := by
 unfold fdsL
 repeat' split
 all_goals decide
/-! ### Fields that are written -/
def prBm (x : List UInt8 × List UInt8) : List UInt8 := textL x.1 ++ textL x.2
def okP (x : List UInt8 × List UInt8) : Bool := decide (x.1.length ≤ 33) && decide (x.2.length ≤ 32)
def Fld.ok (L : Lm) : Fld → Bool
 | .num q => decide (0 ≤ q.gl L ∧ q.gl L ≤ q.most)
 | .hash _ => true
 | .bat => ((bytesB L.bi L.be L.ops).2 == 0) && decide ((bytesB L.bi L.be L.ops).1.length ≤ 512)
 | .prs => decide (L.prs.length ≤ 48) && L.prs.all okP
def Fld.put (L : Lm) : Fld → List UInt8
 | .num q => numL (q.gl L).toNat
 | .hash q => q.gl L
 | .bat => textL (bytesB L.bi L.be L.ops).1
 | .prs => numL L.prs.length ++ L.prs.flatMap prBm
/-! ### Fields that are read -/
def prS (x0 : InS) : Nat → List (List UInt8 × List UInt8) × InS
 | 0 => ([], x0)
 | n + 1 => ((prS x0 n).1 ++ [(((prS x0 n).2.text 33).1, (((prS x0 n).2.text 33).2.text 32).1)], (((prS x0 n).2.text 33).2.text 32).2)
theorem prS_zero (x0 : InS) : prS x0 0 = ([], x0) := rfl
theorem prS_succ (x0 : InS) (n : Nat) : prS x0 (n + 1) = ((prS x0 n).1 ++ [(((prS x0 n).2.text 33).1, (((prS x0 n).2.text 33).2.text 32).1)], (((prS x0 n).2.text 33).2.text 32).2) := rfl
theorem prS_len (x0 : InS) : ∀ n, (prS x0 n).1.length = n
 | 0 => rfl
 | n + 1 => by rw [prS_succ, List.length_append, prS_len x0 n]; rfl
theorem prS_fit {x0 : InS} (h : x0.fit) : ∀ n, (prS x0 n).2.fit
 | 0 => h
 | n + 1 => InS.text_fit (InS.text_fit (prS_fit h n) 33) 32
def Fld.get (L : Lm) (x : InS) : Fld → Nat × Lm × InS
 | .num q => (0, q.sl L ((x.most q.most).1 : Int), (x.most q.most).2)
 | .hash q => (0, q.sl L (hashS (q.gl L) x 32).2, (hashS (q.gl L) x 32).1)
 | .bat => if (x.text 512).2.err = 0 then ((readB (x.text 512).1).2, { L with bi := (readB (x.text 512).1).1.1, be := (readB (x.text 512).1).1.2.1, ops := (readB (x.text 512).1).1.2.2 }, (x.text 512).2)
  else ((x.text 512).2.err, L, (x.text 512).2)
 | .prs => (0, { L with prs := L.prs ++ (prS (x.most 48).2 (x.most 48).1).1 }, (prS (x.most 48).2 (x.most 48).1).2)
theorem Lm.fit_bat {L : Lm} (h : L.fit) (a b : Int) (c : List Opr) : Lm.fit { L with bi := a, be := b, ops := c } := h
theorem Lm.fit_prs {L : Lm} (h : L.fit) (c : List (List UInt8 × List UInt8)) : Lm.fit { L with prs := c } := h
theorem Fld.get_fit {L : Lm} {x : InS} (h : L.fit) (hx : x.fit) (f : Fld) : (f.get L x).2.1.fit ∧ (f.get L x).2.2.fit := by
 cases f with
 | num q => exact ⟨q.sl_fit h _, InS.most_fit hx _⟩
 | hash q =>
  have h1 := hashS_len (q.gl_len h) x 32
  have h2 := hashS_fit (q.gl L) hx 32
  simp only [Fld.get]
  generalize hashS (q.gl L) x 32 = z at h1 h2 ⊢
  exact ⟨q.sl_fit h h1, h2⟩
 | bat =>
  have h1 := InS.text_fit hx 512
  simp only [Fld.get]
  generalize x.text 512 = z at h1 ⊢
  generalize readB z.1 = y
  split
  ·exact ⟨Lm.fit_bat h _ _ _, h1⟩
  ·exact ⟨h, h1⟩
 | prs =>
  have h1 := InS.most_fit hx 48
  simp only [Fld.get]
  generalize x.most 48 = z at h1 ⊢
  have h2 := prS_fit h1 z.1
  generalize prS z.2 z.1 = y at h2 ⊢
  exact ⟨Lm.fit_prs h _, h2⟩
def Fld.say (t : Nat × Lm × InS) : Nat := if t.2.2.err = 0 then t.1 else t.2.2.err
def runF : List Fld → Lm → InS → Nat × Lm × InS
 | [], L, x => (0, L, x)
 | f :: l, L, x => if Fld.say (f.get L x) = 0 then runF l (f.get L x).2.1 (f.get L x).2.2 else (Fld.say (f.get L x), f.get L x |>.2)
def readM (s : List UInt8) : Lm × Nat :=
 let y := (inStart s).byte
 if y.2.err = 0 then
  if isK (UInt8.ofNat y.1) = true then
   let t := runF (fdsL (UInt8.ofNat y.1)) (kindL (UInt8.ofNat y.1)) y.2
   if t.1 = 0 then (if t.2.2.fin = 0 then (t.2.1, 0) else (zeroL, t.2.2.fin)) else (zeroL, t.1)
  else (zeroL, 10)
 else (zeroL, y.2.err)
def bytesM (L : Lm) : List UInt8 × Nat :=
 if isK L.k = true then
  if (fdsL L.k).all (fun f => f.ok L) = true ∧ readM (L.k :: (fdsL L.k).flatMap (fun f => f.put L)) = (L, 0) then (L.k :: (fdsL L.k).flatMap (fun f => f.put L), 0)
  else ([], 1)
 else ([], 10)
end TL
end Go

namespace Go
namespace TL
theorem eqP_ne {l m : List (List UInt8 × List UInt8)} (k : Nat) (x y : List UInt8 × List UInt8) (h1 : l[k]? = some x) (h2 : m[k]? = some y) (h : x ≠ y) : (l == m) = false := by
 rw [beq_eq_false_iff_ne]; rintro rfl; rw [h1] at h2; cases h2; exact h rfl
theorem eqP_eq {l m : List (List UInt8 × List UInt8)} (h0 : l.length = m.length) (h : ∀ (k : Nat), k < l.length → l[k]? = m[k]?) : (l == m) = true := by
 rw [beq_iff_eq]
 apply List.ext_getElem?
 intro k
 by_cases hk : k < l.length
 ·exact h k hk
 ·rw [List.getElem?_eq_none yE, List.getElem?_eq_none yE]
theorem eqP_len {l m : List (List UInt8 × List UInt8)} (h : l.length ≠ m.length) : (l == m) = false := by
 rw [beq_eq_false_iff_ne]; rintro rfl; exact h rfl
theorem prV_ne {a b c d : List UInt8} (h : (a, b) ≠ (c, d)) : ¬ (a = c ∧ b = d) := by
 rintro ⟨rfl, rfl⟩; exact h rfl
end TL
end Go
namespace Go.Proofs.YtidadhbaomieiaaGreat
open Go.RowKit Go.TL
theorem EqualP_c (l m : List (List UInt8 × List UInt8)) (v u : Value) (w : World) (S : SeesL w 2 prV v l) (T : SeesL w 2 prV u m) (hl : l.length ≤ 1000000) (_hm : m.length ≤ 1000000) :
  Calls Tryz.prog 55 #[v, u] w fun e w' => e = .returned (.bool (l == m)) ∧ Below w.heap.size w w' := by
 obtain ⟨p, cap, rfl, hc⟩ := S.form
 obtain ⟨q, cap', rfl, hc'⟩ := T.form
 have hne := @eqP_ne l m
 have heq := @eqP_eq l m
 have hln := @eqP_len l m
 obtain ⟨R, eR⟩ : ∃ R, R = (l == m) := ⟨_, rfl⟩
 rw [← eR] at hne heq hln ⊢
 replace hne := Lib.hid hne
 replace heq := Lib.hid heq
 replace hln := Lib.hid hln
 clear eR
 have M := Mem.start [] w
 by_cases hn : l.length = m.length
 ·have hq : ((l.length : Int) != (m.length : Int)) = false := by simp; omega
  go_enter Tryz.func55, Tryz.ntmps55
  replace hn := Lib.hid hn
  go_wp2_with fail
  go_loopw [13] (fun iv wr => ∃ k : Nat, k ≤ l.length ∧ iv = .int .i64 k ∧ Hid (∀ (j : Nat), j < k → l[j]? = m[j]?) ∧ Mem [] w wr []) (fun iv _ => l.length - (intOf iv).toNat)
  case atStart => exact ⟨0, by omega, rfl, Lib.hid yE, M⟩
  case round =>
   clear M
   obtain ⟨k, hk, rfl, HK, M⟩ := hrel
   by_cases hlt : k < l.length
   ·obtain ⟨g, so, rfl⟩ := S.addr yE
    obtain ⟨g', so', rfl⟩ := T.addr (by have := hn.out; omega)
    have hkm : k < m.length := by have := hn.out; omega
    obtain ⟨⟨a, b⟩, hx⟩ : ∃ x, l[k]? = some x := ⟨_, List.getElem?_eq_getElem hlt⟩
    obtain ⟨⟨c, d⟩, hy⟩ : ∃ x, m[k]? = some x := ⟨_, List.getElem?_eq_getElem hkm⟩
    have HX := Lib.hid hx; clear hx
    have HY := Lib.hid hy; clear hy
    by_cases hab : (a, b) = (c, d)
    ·simp only [Prod.mk.injEq] at hab
     obtain ⟨rfl, rfl⟩ := hab
     go_wp2_with ((first | ((with_reducible refine tLoad ?_); refine w_at _ _ rfl yI ?_; intro hx; first | (refine w_seeA M S HX.out _ _ rfl hx rfl yA yD yC ?_; clear hx; (try conv => arg 5; simp only [Act.put, List.setIfInBounds_toArray, setC, prV_eq])) | (refine w_see M S HX.out _ _ rfl hx rfl yA 0 yD rfl ?_; clear hx) | (refine w_see M S HX.out _ _ rfl hx rfl yA 1 yD rfl ?_; clear hx) | (refine w_see M S HX.out _ _ rfl hx rfl yA 2 yD rfl ?_; clear hx) | (refine w_seeA M T HY.out _ _ rfl hx rfl yA yD yC ?_; clear hx; (try conv => arg 5; simp only [Act.put, List.setIfInBounds_toArray, setC, prV_eq])) | (refine w_see M T HY.out _ _ rfl hx rfl yA 0 yD rfl ?_; clear hx) | (refine w_see M T HY.out _ _ rfl hx rfl yA 1 yD rfl ?_; clear hx) | (refine w_see M T HY.out _ _ rfl hx rfl yA 2 yD rfl ?_; clear hx)) | ((with_reducible show Code.wp _ (Code.region 6 _ _) _ _ _); (refine region_det [(0, false), (1, false), (2, false), (4, false), (5, false), (6, false), (3, false), (7, false), (8, false)] [(19, .cells), (23, .cells)] yC yC rfl yC ?_; replace M := M.drew; simp only [reord, opAt, List.map_cons, List.map_nil, List.getElem?_toArray, List.getElem?_cons_zero, List.getElem?_cons_succ, Option.getD_some])) | ((with_reducible refine tM rfl ?_); refine mS ?_; try (clear M; (first | intro g w1 M | intro w1 M); try simp only [setC] at M)) | ((with_reducible first | show Seg _ _ _ _ | show OnlyN _ _ _ _ _); refine rA ?_)) <;> (try conv => arg 5; simp only [apS, setC]))
     go_roundw
     case rel => exact ⟨k + 1, by omega, by go_num, Lib.hid fun j hj => by
      rcases Nat.lt_succ_iff_lt_or_eq.1 hj with hj | rfl
      ·exact HK.out j hj
      ·exact HX.out.trans HY.out.symm, M⟩
     case measure => simp [intOf]; omega
    ·have e0 : R = false := hne.out k _ _ HX.out HY.out hab
     subst e0
     have hab := Lib.hid (prV_ne hab)
     go_wp2_with ((first | ((with_reducible refine tLoad ?_); refine w_at _ _ rfl yI ?_; intro hx; first | (refine w_seeA M S HX.out _ _ rfl hx rfl yA yD yC ?_; clear hx; (try conv => arg 5; simp only [Act.put, List.setIfInBounds_toArray, setC, prV_eq])) | (refine w_see M S HX.out _ _ rfl hx rfl yA 0 yD rfl ?_; clear hx) | (refine w_see M S HX.out _ _ rfl hx rfl yA 1 yD rfl ?_; clear hx) | (refine w_see M S HX.out _ _ rfl hx rfl yA 2 yD rfl ?_; clear hx) | (refine w_seeA M T HY.out _ _ rfl hx rfl yA yD yC ?_; clear hx; (try conv => arg 5; simp only [Act.put, List.setIfInBounds_toArray, setC, prV_eq])) | (refine w_see M T HY.out _ _ rfl hx rfl yA 0 yD rfl ?_; clear hx) | (refine w_see M T HY.out _ _ rfl hx rfl yA 1 yD rfl ?_; clear hx) | (refine w_see M T HY.out _ _ rfl hx rfl yA 2 yD rfl ?_; clear hx)) | ((with_reducible show Code.wp _ (Code.region 6 _ _) _ _ _); (refine region_det [(0, false), (1, false), (2, false), (4, false), (5, false), (6, false), (3, false), (7, false), (8, false)] [(19, .cells), (23, .cells)] yC yC rfl yC ?_; replace M := M.drew; simp only [reord, opAt, List.map_cons, List.map_nil, List.getElem?_toArray, List.getElem?_cons_zero, List.getElem?_cons_succ, Option.getD_some])) | ((with_reducible refine tM rfl ?_); refine mS ?_; try (clear M; (first | intro g w1 M | intro w1 M); try simp only [setC] at M)) | ((with_reducible first | show Seg _ _ _ _ | show OnlyN _ _ _ _ _); refine rA ?_)) <;> (try conv => arg 5; simp only [apS, setC]))
     all_goals (first | exact absurd ⟨‹a = c›, ‹b = d›⟩ hab.out | (go_ret; exact ⟨rfl, M.below⟩))
   ·obtain rfl : k = l.length := by omega
    have e0 : R = true := heq.out hn.out HK.out
    subst e0
    have hkm : ¬ l.length < m.length := by have := hn.out; omega
    go_wp2_with ((first | ((with_reducible refine tM rfl ?_); refine mS ?_; try (clear M; (first | intro g w1 M | intro w1 M); try simp only [setC] at M))) <;> (try conv => arg 5; simp only [apS, setC]))
    go_ret
    exact ⟨rfl, M.below⟩
 ·have e0 : R = false := hln.out hn
  subst e0
  have hq : ((l.length : Int) != (m.length : Int)) = true := by simp; omega
  go_enter Tryz.func55, Tryz.ntmps55
  go_wp2_with fail
  go_ret
  exact ⟨rfl, M.below⟩
end Go.Proofs.YtidadhbaomieiaaGreat

namespace Go
namespace TL
theorem goodN_of {b : UInt8} (h1 : ¬ I8 b < 97) (h2 : ¬ 122 < I8 b) : goodN b = true := by rw [I8_eq] at h1 h2; simp [goodN]; omega
theorem badN_lo {b : UInt8} (h1 : I8 b < 97) : goodN b = false := by rw [I8_eq] at h1; simp [goodN]; omega
theorem badN_hi {b : UInt8} (h1 : 122 < I8 b) : goodN b = false := by rw [I8_eq] at h1; simp [goodN]; omega
theorem goodK_of {b : UInt8} (h1 : ¬ I8 b = 0) (h2 : ¬ I8 b = 47) : goodK b = true := by rw [I8_eq] at h1 h2; simp [goodK]; omega
theorem badK_0 {b : UInt8} (h1 : I8 b = 0) : goodK b = false := by rw [I8_eq] at h1; simp [goodK]; omega
theorem badK_47 {b : UInt8} (h1 : I8 b = 47) : goodK b = false := by rw [I8_eq] at h1; simp [goodK]; omega
end TL
end Go
namespace Go.Proofs.YtidadhbaomieiaaGreat
open Go.RowKit Go.TL
theorem named_c (s : List UInt8) (w : World) (hs : s.length ≤ 1000000000) :
  Calls Tryz.prog 212 #[.string (mkS s)] w fun e w' => e = .returned (.bool (namedL s)) ∧ w = w' := by
 have hbad : ∀ k, k < s.length → goodN (s.getD k 0) = false → namedL s = false := fun k h hb => named_bad h hb
 have hgood : (∀ k, k < s.length → goodN (s.getD k 0) = true) → namedL s = decide (1 ≤ s.length ∧ s.length ≤ 8) := named_good
 obtain ⟨N, eN⟩ : ∃ N, N = namedL s := ⟨_, rfl⟩
 rw [← eN] at hbad hgood ⊢
 have HB := Lib.hid hbad
 have HG := Lib.hid hgood
 clear eN hbad hgood
 go_enter Tryz.func212, Tryz.ntmps212
 go_wp2_with fail
 go_loop [6] (fun iv => ∃ k : Nat, k ≤ s.length ∧ iv = .int .i64 k ∧ Hid (∀ j, j < k → goodN (s.getD j 0) = true)) (fun iv => s.length - (intOf iv).toNat)
 case atStart => exact ⟨0, by omega, rfl, Lib.hid yE⟩
 case round =>
  obtain ⟨k, hk, rfl, HK⟩ := hrel
  by_cases hlt : k < s.length
  ·by_cases h1 : I8 (bt s k) < 97
   ·have e : N = false := HB.out k hlt (badN_lo h1)
    subst e
    go_wp2_with fail
    go_ret
    exact ⟨rfl, rfl⟩
   ·by_cases h2 : 122 < I8 (bt s k)
    ·have e : N = false := HB.out k hlt (badN_hi h2)
     subst e
     replace h1 : 97 ≤ I8 (bt s k) := by omega
     go_wp2_with fail
     go_ret
     exact ⟨rfl, rfl⟩
    ·have hg := Lib.hid (goodN_of h1 h2)
     replace h1 : 97 ≤ I8 (bt s k) := by omega
     replace h2 : I8 (bt s k) ≤ 122 := by omega
     go_wp2_with fail
     go_round
     case rel => exact ⟨k + 1, by omega, by go_num, Lib.hid fun j hj => by
      rcases Nat.lt_succ_iff_lt_or_eq.1 hj with hj | rfl
      ·exact HK.out j hj
      ·exact hg.out⟩
     case measure => simp [intOf]; omega
  ·obtain rfl : k = s.length := by omega
   have e : N = decide (1 ≤ s.length ∧ s.length ≤ 8) := HG.out HK.out
   by_cases hl : 1 ≤ s.length ∧ s.length ≤ 8
   ·rw [decide_eq_true hl] at e
    subst e
    obtain ⟨hl1, hl2⟩ := hl
    go_wp2_with fail
    go_ret
    exact ⟨by first | rfl | (simp <;> omega), rfl⟩
   ·rw [decide_eq_false hl] at e
    subst e
    go_wp2_with fail
    all_goals
     go_ret
     exact ⟨by first | rfl | (simp <;> omega), rfl⟩
end Go.Proofs.YtidadhbaomieiaaGreat
