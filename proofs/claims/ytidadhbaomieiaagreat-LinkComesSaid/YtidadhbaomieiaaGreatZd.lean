/- Texts of this seat, put together: Str, HashE, ShaO, MacC, Reg, Row, Gives, MsgW, PathL, PackL, InL, RefInL, Sees. Each begins with a remark that says what is proved in it, and under which conditions. -/
import Derived.Test.YtidadhbaomieiaaGreatY
import Derived.Lib.ConvBytes
import Derived.Lib.Bytealg
import Derived.Lib.IndexLaws
import Derived.Lib.BitFns
import Derived.Test.YtidadhbaomieiaaGreatZb
import Derived.Test.YtidadhbaomieiaaGreatZc
set_option maxRecDepth 100000
set_option maxHeartbeats 16000000
namespace Go
namespace TL
open Go.RowKit
attribute [go_sem] qBu mkS_toList mkS_append
@[go_sem] theorem mkS_fold (l : List UInt8) : ByteArray.mk (List.toArray l) = mkS l := rfl
theorem qDi (l : List UInt8) (i j : Nat) : (mkS l).extract i j = mkS ((l.take j).drop i) := by
 apply ByteArray.ext; apply Array.ext'; simp [mkS, ByteArray.data_extract, List.extract, List.drop_take]
@[go_sem high] theorem mkS_extract0 (l : List UInt8) (j : Nat) : (mkS l).extract 0 j = mkS (l.take j) := by rw [qDi, List.drop_zero]
@[go_sem high] theorem mkS_extractE (l : List UInt8) (i : Nat) : (mkS l).extract i l.length = mkS (l.drop i) := by rw [qDi, List.take_length]
@[go_sem] theorem mkS_extractM (l : List UInt8) (i j : Nat) : (mkS l).extract i j = mkS ((l.take j).drop i) := qDi l i j
def bt (l : List UInt8) (i : Nat) : UInt8 := l.getD i 0
@[go_sem] theorem mkS_bt (l : List UInt8) (k : Nat) (h : k < (mkS l).size) : (mkS l)[k] = bt l k := by
 have hl : k < l.length := by rwa [qBu] at h
 rw [bt, List.getD_eq_getElem?_getD, List.getElem?_eq_getElem hl]; rfl
theorem I8_bt (l : List UInt8) (k : Nat) : I8 (bt l k) = ((l.getD k 0).toNat : Int) := rfl
@[go_sem ↓] theorem run_index_mkS {P : Program} (w : World) (t : TypeId) (l : List UInt8) (k : IntKind) (i : Int) (hu : P.underlying t = some .string) (h0 : 0 ≤ i) (h1 : i < l.length) :
  (Instr.index t (.string (mkS l)) (.int k i)).run P w = .ok (.int .u8 (I8 (bt l i.toNat))) w := by
 have hs : i.toNat < (mkS l).size := by rw [qBu]; omega
 have hl : i.toNat < l.length := by omega
 have e : (mkS l)[i.toNat]? = some (l.getD i.toNat 0) := by
  rw [getElem?_pos (mkS l) i.toNat hs, List.getD_eq_getElem?_getD, List.getElem?_eq_getElem hl]; rfl
 simp only [Instr.index, asIntOf, Sem.run_bind, Sem.run_pure, Result.andThen_ok, run_underlying hu]
 simp only [h0, if_true, e]
 rfl
section
variable {P : Program} {ops : Array Oper} {rest : List Oper} {o : Oper} {a : Act} {w w0 : World} {Q : Exit → Act → World → Prop} {F : List Nat} {L : List Chunk}
theorem w_makeB (M : Mem F w0 w L) (t : TypeId) (x y : Operand) (ho : o.op = .makeSlice t x y) (hw : Region.wanted o (yielded ops a.tmps) = true) (n : Nat) {kl kc : IntKind} {m m' : Int} (hx : a.eval x = .int kl m) (hy : a.eval y = .int kc m') (hm : m = (n : Nat)) (hm' : m' = (n : Nat)) {e : TypeId} (ht : P.underlying t = some (.slice e)) (hz : (P.info? e).bind (·.zero) = some (.int .u8 0)) (hs : (P.info? e).map (fun i => (i.size, i.bytes)) = some (1, 1)) (hn : n ≤ 16777216)
  (h : ∀ (g : Nat) (w' : World), Mem F w0 w' (.row g (bs (List.replicate n 0)) :: L) → wpList P ops Q rest (a.put o.dst (.slice (some ⟨g, 0, none⟩) n n)) w') : wpList P ops Q (o :: rest) a w :=
 wpW hw fun _ hK => by
  subst hm hm'
  cases hq : P.info? e with
  | none => simp [hq] at hz
  | some inf =>
   have hzz : inf.zero = some (.int .u8 0) := by simpa [hq] using hz
   have hss : inf.size = 1 ∧ inf.bytes = 1 := by simpa [hq] using hs
   have hr := run_makeSlice (P := P) (w := w) t e inf (.int .u8 0) ht hq hzz kl kc n n yF (Int.le_refl _) (by rw [hss.1]; simp; omega) (by rw [hss.2]; omega) yF
   have e1 : madeCells (Value.int .u8 0).cells ((n : Int).toNat * inf.size) = (bs (List.replicate n 0)).toArray := by
    rw [hss.1]
    apply Array.ext'
    simp [madeCells, bs, vb, I8, Value.cells]
    apply List.ext_getElem
    ·simp
    ·intro i h1 h2; simp [Nat.mod_one]
   rw [e1] at hr
   unfold Oper.wp execOp
   simp only [ho, hx, hy, Sem.run_bind, hr, Result.andThen_ok]
   refine hK _ _ ?_
   have := h _ _ (M.alloc (bs (List.replicate n 0)).toArray e)
   simpa using this
end
theorem eqInRow {P : Program} {t e : TypeId} {n : Nat} (hu : P.underlying t = some (.array n e)) (he : P.underlying e = some (.int .u8)) (hc : P.cellsOf e = 1) (l m : List UInt8) (hl : l.length = n) (hm : m.length = n) (w : World) : (Op.equalIn 10000 t (.agg (bs l).toArray) (.agg (bs m).toArray)).run P w = .ok (l == m) w := by
 obtain ⟨i, hi⟩ := info_of_underlying he
 have := run_equalIn_array w 9999 (bs l).toArray (bs m).toArray hu hi
 unfold bs at this ⊢
 rw [hc, qCx he 9998 l m yF w (List.range n) (fun i hi => by rw [hl]; exact List.mem_range.1 hi)] at this
 rw [← hl, all_range_eq l m yF] at this
 exact this
theorem setTake (l : List UInt8) (n k : Nat) (hl : l.length = n) (hk : k < n) : (l.take k ++ List.replicate (n - k) 0).set k (l.getD k 0) = l.take (k + 1) ++ List.replicate (n - (k + 1)) 0 := by
 rw [List.set_append_right _ _ yC1]
 simp only [List.length_take, Nat.min_eq_left (show k ≤ l.length by omega), Nat.sub_self]
 rw [List.take_succ_eq_append_getElem yF, List.append_assoc, show n - k = (n - (k + 1)) + 1 by omega, List.replicate_succ, List.set_cons_zero, List.getD_eq_getElem?_getD, List.getElem?_eq_getElem yF]
 rfl
end TL
end Go
namespace Go
namespace TL
open Go.RowKit
section
variable {P : Program} {ops : Array Oper} {rest : List Oper} {o : Oper} {a : Act} {w w0 : World} {Q : Exit → Act → World → Prop} {F : List Nat} {L : List Chunk}
theorem Mem.slAddr (M : Mem F w0 w L) (i : Nat) {size n cap : Nat} {q : Option Addr} {m : Nat} {xs : List Value} (hi : L[i]? = some (.sl size (.slice q m cap) n xs)) (hn : 0 < n) : ∃ g o, q = some ⟨g, o, none⟩ := by
 rcases (M.ok i _ hi).2 with ⟨_, h0⟩ | ⟨g, o, c, hv, _⟩
 ·omega
 ·injection hv with h1 h2 h3; exact ⟨g, o, h1⟩
theorem Mem.slCap (M : Mem F w0 w L) (i : Nat) {size n cap : Nat} {q : Option Addr} {m : Nat} {xs : List Value} (hi : L[i]? = some (.sl size (.slice q m cap) n xs)) : m = n ∧ n ≤ cap ∧ cap ≤ maxLen ∧ xs.length = n * size := by
 have h := M.ok i _ hi
 rcases h.2 with ⟨hv, h0⟩ | ⟨g, o, c, hv, _, _, h1, h2, _⟩
 ·injection hv with _ e1 e2; exact ⟨by omega, by omega, by omega, h.1⟩
 ·injection hv with _ e1 e2; exact ⟨e1, by omega, by omega, h.1⟩
theorem Mem.slCell (M : Mem F w0 w L) (i : Nat) {size n m cap g so : Nat} {xs : List Value} (hi : L[i]? = some (.sl size (.slice (some ⟨g, so, none⟩) m cap) n xs)) {j : Nat} {v : Value} (hv : xs[j]? = some v) : w.cell? ⟨g, so + j, none⟩ = some v := by
 rcases (M.ok i _ hi).2 with ⟨h0, _⟩ | ⟨g', o', c, hv', _, _, _, _, hr, _⟩
 ·cases h0
 ·injection hv' with h1 _ _; injection h1 with h1; injection h1 with h1 h2; subst h1; subst h2; exact hr j v hv
theorem w_loadS (M : Mem F w0 w L) (i : Nat) (t : TypeId) (x : Operand) (ho : o.op = .load t x) {size n m cap g so off : Nat} {xs : List Value} (hi : L[i]? = some (.sl size (.slice (some ⟨g, so, none⟩) m cap) n xs)) (hx : a.eval x = .pointer (some ⟨g, off, none⟩)) (hw : Region.wanted o (yielded ops a.tmps) = true)
  (ht : scalarT P t = true) (j : Nat) (hoff : off = so + j) {v : Value} (hv : xs[j]? = some v) (h : wpList P ops Q rest (a.put o.dst v) w) : wpList P ops Q (o :: rest) a w :=
 wpW hw fun _ hK => by
  subst hoff
  unfold Oper.wp execOp
  simp only [ho, hx, Instr.loadAt, Instr.sureAddr, Sem.run_bind, Sem.run_pure, Result.andThen_ok, qAX ht w g _ v (M.slCell i hi hv)]
  exact hK _ _ h
end
end TL
end Go
namespace Go
namespace TL
open Go.RowKit
section
variable {P : Program} {ops : Array Oper} {rest : List Oper} {o : Oper} {a : Act} {w w0 : World} {Q : Exit → Act → World → Prop} {F : List Nat} {L : List Chunk}
theorem w_bytes (M : Mem F w0 w L) (src dst e : TypeId) (x : Operand) (ho : o.op = .convert src dst x) (hw : Region.wanted o (yielded ops a.tmps) = true) {l : List UInt8} (hx : a.eval x = .string (mkS l))
  (hs : P.underlying src = some .string) (hd : P.underlying dst = some (.slice e)) (he : P.underlying e = some (.int .u8)) (hl : l.length ≤ 1000000000000)
  (h : ∀ (g cap : Nat) (w' : World), l.length ≤ cap → Mem F w0 w' (.sl 1 (.slice (some ⟨g, 0, none⟩) l.length cap) l.length (bs l) :: L) → wpList P ops Q rest (a.put o.dst (.slice (some ⟨g, 0, none⟩) l.length cap)) w') : wpList P ops Q (o :: rest) a w :=
 wpW hw fun _ hK => by
  have hr := Lib.run_convert_string_bytes (P := P) w src dst e (mkS l) hs hd he
  rw [qBu] at hr
  obtain ⟨cap, ec⟩ : ∃ cap, cap = grownCap w l.length 0 e := ⟨_, rfl⟩
  have hc1 : l.length ≤ cap := by rw [ec]; exact grownCap_ge _ _ _ _
  have hc2 : cap ≤ maxLen := by rw [ec]; exact grownCap_le_maxLen _ _ _ _ yZ
  have hsz : (Lib.bytesCells w e (mkS l)).size = cap := by
   simp only [Lib.bytesCells, Array.size_append, Array.size_map, Array.size_replicate, qBu, ← ec]
   show (mkS l).data.size + _ = _
   have : (mkS l).data.size = l.length := qBu l
   omega
  have hnew := Lib.bytesWorld_at_new w e (mkS l)
  have hk : Kept [] w (Lib.bytesWorld w e (mkS l)) := ⟨rfl, rfl, rfl, by rw [Lib.bytesWorld_size]; omega, fun k hk _ => Lib.bytesWorld_at_old w e (mkS l) k hk⟩
  have hok : (Chunk.sl 1 (.slice (some ⟨w.heap.size, 0, none⟩) l.length cap) l.length (bs l)).ok (Lib.bytesWorld w e (mkS l)) := by
   refine ⟨by simp [qAP], .inr ⟨w.heap.size, 0, cap, rfl, Nat.zero_le _, by rw [Lib.bytesWorld_size]; omega, hc1, hc2, ?_, ?_⟩⟩
   ·intro j v hv
    have hj : j < l.length := by have := (List.getElem?_eq_some_iff.1 hv).1; rwa [qAP] at this
    rw [Nat.zero_add, Lib.bytesWorld_cell w e (mkS l) j (by rw [qBu]; exact hj), mkS_data, ← hv, getD_some hj]; rfl
   ·intro j hj
    rw [Nat.mul_one] at hj
    rw [Nat.zero_add]
    constructor
    ·simp only [World.cell?, hnew]
     rw [if_neg yN, Array.getElem?_eq_getElem yF]; rfl
    ·simp only [World.frozen?, hnew]
     rw [hsz]; simp; omega
  rw [← ec] at hr
  unfold Oper.wp execOp
  simp only [ho, hx, Sem.run_bind, hr, Result.andThen_ok]
  exact hK _ _ (h _ cap _ hc1 (M.add _ hk hok (by simp [Chunk.fp, Value.ownBlock])))
end
end TL
end Go
namespace Go
namespace TL
open Go.RowKit
theorem w_buildSliceB {P : Program} {ops : Array Oper} {rest : List Oper} {o : Oper} {a : Act} {w w0 : World} {Q : Exit → Act → World → Prop} {F : List Nat} {L : List Chunk} (M : Mem F w0 w L) {t e : TypeId} (T : SliceT P t e 1 1) (x : Operand) (ho : o.op = .buildSlice t 1 #[(0, x)]) (hw : Region.wanted o (yielded ops a.tmps) = true) {b : UInt8} (hx : a.eval x = .int .u8 (I8 b))
  (h : ∀ (g : Nat) (w' : World), Mem F w0 w' (.row g (bs [b]) :: L) → wpList P ops Q rest (a.put o.dst (.slice (some ⟨g, 0, none⟩) 1 1)) w') : wpList P ops Q (o :: rest) a w :=
 qAV M T yN x ho hw hx (bs [b]) rfl rfl h
end TL
end Go

namespace Go.Proofs.YtidadhbaomieiaaGreat
open Go.RowKit Go.TL
theorem hashT : ∀ l m : List UInt8, l.length = 32 → m.length = 32 → EqRow Tryz.prog 64 l m := fun l m hl hm =>
 eqRow Tryz.underlying64 Tryz.underlying5 yD yD l m hl hm
section
variable (l m : List UInt8) (hl : l.length = 32) (hm : m.length = 32) (w : World)
include hl hm
@[go_sem ↓] theorem hash_in : (Op.equalIn 10000 64 (.agg (bs l).toArray) (.agg (bs m).toArray)).run Tryz.prog w = .ok (l == m) w := eqInRow Tryz.underlying64 Tryz.underlying5 yD l m hl hm w
@[go_sem ↓] theorem hash_eql : (binOp .eql 64 (.agg (bs l).toArray) (.agg (bs m).toArray)).run Tryz.prog w = .ok (.bool (l == m)) w := (hashT l m hl hm).eql w
@[go_sem ↓] theorem hash_guardE (x y : Operand) : (eqGuard .eql 64 x y (.agg (bs l).toArray) (.agg (bs m).toArray)).run Tryz.prog w = .ok () w := (hashT l m hl hm).guardE x y w
end
end Go.Proofs.YtidadhbaomieiaaGreat

namespace Go.Proofs.YtidadhbaomieiaaGreat
open Go.RowKit Go.TL
@[go_sem] theorem shaL_len (l : List UInt8) : (shaL l).length = 32 := by have := qBb l; omega
instance shaLen {l : List UInt8} : HXor (PLift (shaL l = shaL l)) Unit (PLift ((shaL l).length = 32)) := ⟨fun _ _ => ⟨shaL_len l⟩⟩
section
variable (l m : List UInt8) (hl : l.length = 32) (hm : m.length = 32) (w : World)
include hl hm
@[go_sem ↓] theorem hash_neq : (binOp .neq 64 (.agg (bs l).toArray) (.agg (bs m).toArray)).run Tryz.prog w = .ok (.bool (!(l == m))) w := (hashT l m hl hm).neq w
@[go_sem ↓] theorem hash_guardN (x y : Operand) : (eqGuard .neq 64 x y (.agg (bs l).toArray) (.agg (bs m).toArray)).run Tryz.prog w = .ok () w := (hashT l m hl hm).guardN x y w
end
end Go.Proofs.YtidadhbaomieiaaGreat

namespace Go.Proofs.YtidadhbaomieiaaGreat
open Go.RowKit Go.TL
theorem Tag_c (key text : List UInt8) (w : World) (hk : key.length ≤ 100000000000) (ht : text.length ≤ 100000000000) :
  Calls Tryz.prog 47 #[.string (mkS key), .string (mkS text)] w fun e w' => e = .returned (.agg (bs (macL key text)).toArray) ∧ Below w.heap.size w w' :=
 Tag_any (mkS key) (mkS text) w (by rw [qBu]; exact hk) (by rw [qBu]; exact ht)
theorem Equal_c (a b : List UInt8) (ha : a.length = 32) (hb : b.length = 32) (w : World) :
  Calls Tryz.prog 83 #[.agg (bs a).toArray, .agg (bs b).toArray] w fun e w' => e = .returned (.bool (a == b)) ∧ Below w.heap.size w w' := Equal_any a b ha hb w
@[go_sem] theorem qAq (k l : List UInt8) : (macL k l).length = 32 := by have := qCj k l; omega
instance macLen {k l : List UInt8} : HXor (PLift (macL k l = macL k l)) Unit (PLift ((macL k l).length = 32)) := ⟨fun _ _ => ⟨qAq k l⟩⟩
attribute [go_sem] qBN
theorem Key_c (k label : List UInt8) (w : World) (hk : k.length = 32) (hl : label.length ≤ 100000000000) :
  Calls Tryz.prog 110 #[.agg (bs k).toArray, .string (mkS label)] w fun e w' => e = .returned (.agg (bs (macL k label)).toArray) ∧ Below w.heap.size w w' := by
 have M := Mem.start [] w
 go_enter Tryz.func110, Tryz.ntmps110
 go_wp2_with ((first | ((with_reducible refine tM rfl ?_); refine mB ?_; try (clear M; (first | intro g w1 M | intro w1 M); try simp only [setC] at M)) | ((with_reducible refine tGuard ?_); refine gdC ?_ ?_ <;> (intro hgd; rw [hgd]; try (exfalso; simp at hgd; omega))) | ((with_reducible refine tAlloc _ 50 ?_); refine wal M _ rfl rfl (bs (List.replicate 32 (0 : UInt8))) yD ?_; clear M; intro g w1 M) | (go_at_call 47; (refine (Tag_c _ _ _ yF yF).mono ?_; rintro e w1 ⟨rfl, hb⟩; replace M := M.call hb; clear hb))) <;> (try conv => arg 5; simp only [apS, setC]))
 refine bodyPost_ret (qAS rfl _ _ _ 0 (bs (macL k label)) _ rfl (M.ok 0 _ rfl).2.1 Tryz.underlying50 rfl yD) rfl ⟨rfl, M.below⟩
end Go.Proofs.YtidadhbaomieiaaGreat

namespace Go
namespace TL
open Go.RowKit
/-! ### The walk of such a region: behind its last operation, c, nothing is asked, if it waits for all that was read -/
section
variable {P : Program} {ops : Array Oper} {Q : Exit → Act → World → Prop} {md : Region.Mode} {I : World → Prop} {c : Nat}
def wpAnyC (P : Program) (md : Region.Mode) (ops : Array Oper) (Q : Exit → Act → World → Prop) (I : World → Prop) (c : Nat) : Nat → Array Bool → Act → World → Prop
 | 0, listed, a, w => Region.ready md ops listed = [] ∧ Q .normal a w
 | fuel + 1, listed, a, w =>
  (Region.ready md ops listed = [] → Q .normal a w) ∧
  ∀ j ∈ Region.ready md ops listed, wpOp P ops Q j (fun a' w' => (j ≠ c → I w') ∧ wpAnyC P md ops Q I c fuel (listed.setIfInBounds j true) a' w') a w
theorem qES : ∀ (fuel : Nat) (listed : Array Bool) (a : Act) (w : World), wpAnyC P md ops Q I c fuel listed a w → wpAny P md ops Q fuel listed a w
 | 0, _, _, _, h => h
 | fuel + 1, _, _, _, h => ⟨h.1, fun j hj => wpOp_mono (fun a' w' h' => qES fuel _ a' w' h'.2) (h.2 j hj)⟩
theorem C_first {i : Nat} {oi : Oper} {v : Value} (hi : ops[i]? = some oi) (hsel : ∀ (j : Nat) (o : Oper) cs b, ops[j]? = some o → o.op ≠ .select cs b)
  (hQ : ∀ c a w, Q (.panic c) (a.put oi.dst v) w → Q (.panic c) a w) (hwait : ∀ oc, ops[c]? = some oc → ∃ e ∈ oc.after, Region.binds md e = true ∧ e.on = i) :
  ∀ (fuel : Nat) (listed : Array Bool) (a : Act) (w : World),
   (∀ j oj, ops[j]? = some oj → j ≠ i → listed.getD j true = false → (∀ e ∈ oj.after, Region.binds md e = true → e.on ≠ i) → oi.apart ops oj = true) →
   i ∈ Region.ready md ops listed → YieldsIf P ops I oi v a → I w →
   wpAnyC P md ops Q I c fuel (listed.setIfInBounds i true) (a.put oi.dst v) w → wpAnyC P md ops Q I c (fuel + 1) listed a w := by
 intro fuel
 induction fuel with
 | zero =>
  intro listed a w _ hr hy hw H
  refine ⟨fun h => (by rw [h] at hr; cases hr), fun j hj => ?_⟩
  by_cases hji : j = i
  ·subst hji; exact hy.wpOp hi hw ⟨fun _ => hw, H⟩
  ·have := ready_mono hj hji
   rw [H.1] at this
   cases this
 | succ fuel ih =>
  intro listed a w hfree hr hy hw H
  refine ⟨fun h => (by rw [h] at hr; cases hr), fun j hj => ?_⟩
  by_cases hji : j = i
  ·subst hji; exact hy.wpOp hi hw ⟨fun _ => hw, H⟩
  ·have h1 := H.2 j (ready_mono hj hji)
   obtain ⟨hjun, oj, hoj, hall⟩ := mem_ready.1 hj
   have hnot := qEF hr hoj hall
   have hjc : j ≠ c := fun e => by
    subst e
    obtain ⟨x, hx, hb, hxi⟩ := hwait oj hoj
    exact hnot x hx hb hxi
   have h2 := wpOp_putIf hoj (hfree j oj hoj hji hjun hnot) (fun cs b => hsel i oi cs b hi) (fun cs b => hsel j oj cs b hoj) hQ hy h1
   have hfree' : ∀ k ok, ops[k]? = some ok → k ≠ i → (listed.setIfInBounds j true).getD k true = false →
     (∀ e ∈ ok.after, Region.binds md e = true → e.on ≠ i) → oi.apart ops ok = true := fun k ok hk hki hun hno => by
    refine hfree k ok hk hki ?_ hno
    by_cases hjk : j = k
    ·subst hjk; exact hjun
    ·rw [getD_set_ne true hjk] at hun; exact hun
   refine wpOp_mono (fun a' w' h3 => ⟨fun _ => h3.2.1 hjc, ih (listed.setIfInBounds j true) a' w' hfree' (ready_mono hr (Ne.symm hji)) h3.1 (h3.2.1 hjc) ?_⟩) h2
   rw [Array.setIfInBounds_comm _ _ hji]; exact h3.2.2
end
/-! ### The walk -/
def planC (P : Program) (ops : Array Oper) (fin : Act → World → Prop) (I : World → Prop) (c : Nat) : Plan → List Oper × (Act → World → Prop)
 | [] => ([], fin)
 | (i, false) :: r => (opAt ops i :: (planC P ops fin I c r).1, (planC P ops fin I c r).2)
 | (i, true) :: r => ([opAt ops i], fun a w => (i ≠ c → I w) ∧ wpList P ops (Seg (planC P ops fin I c r).2) (planC P ops fin I c r).1 a w)
def waitsC (ops : Array Oper) (c i : Nat) : Bool := match ops[c]? with | none => true | some oc => oc.after.any fun e => Region.binds .any e && e.on == i
theorem qFD {ops : Array Oper} {c i : Nat} (h : waitsC ops c i = true) : ∀ oc, ops[c]? = some oc → ∃ e ∈ oc.after, Region.binds .any e = true ∧ e.on = i := fun oc hoc => by
 unfold waitsC at h; rw [hoc] at h
 simp only [Array.any_eq_true'] at h
 obtain ⟨e, he, h⟩ := h
 simp only [Bool.and_eq_true, beq_iff_eq] at h
 exact ⟨e, he, h.1, h.2⟩
def detC (P : Program) (ops : Array Oper) (need : Needs) (idx : List Nat) (c : Nat) : Array Bool → Plan → Bool
 | listed, [] => (Region.ready .any ops listed).isEmpty
 | listed, (i, false) :: r =>
  (Region.ready .any ops listed).contains i && Region.free .any ops listed i &&
   ((stays ops need (opAt ops i) ((i, false) :: r) && pureOp P (needOf need (opAt ops i)) (opAt ops i)) || (idx.contains i && staysLow ops (opAt ops i) ((i, false) :: r))) &&
   (waitsC ops c i && detC P ops need idx c (listed.setIfInBounds i true) r)
 | listed, (i, true) :: r => Region.ready .any ops listed == [i] && ((i != c || r.isEmpty) && detC P ops need idx c (listed.setIfInBounds i true) r)
section
variable {P : Program} {ops : Array Oper} {I : World → Prop} {fin : Act → World → Prop} {c : Nat}
theorem endsC : ∀ (plan : Plan) (a : Act) (w : World), wpList P ops (Seg (planC P ops fin I c plan).2) (planC P ops fin I c plan).1 a w →
  ∃ af wf, fin af wf ∧ ∀ t, (∀ x ∈ plan, (opAt ops x.1).dst ≠ some t) → af.tmps.getD t undef = a.tmps.getD t undef
 | [], a, w, h => ⟨a, w, h, fun _ _ => rfl⟩
 | (i, false) :: r, a, w, h => by
  obtain ⟨a', w', h1, h2⟩ := stepS h
  obtain ⟨af, wf, h3, h4⟩ := endsC r a' w' h1
  exact ⟨af, wf, h3, fun t ht => (h4 t fun x hx => ht x (List.mem_cons_of_mem _ hx)).trans (h2 t (ht (i, false) List.mem_cons_self))⟩
 | (i, true) :: r, a, w, h => by
  obtain ⟨a', w', h1, h2⟩ := stepS h
  obtain ⟨af, wf, h3, h4⟩ := endsC r a' w' h1.2
  exact ⟨af, wf, h3, fun t ht => (h4 t fun x hx => ht x (List.mem_cons_of_mem _ hx)).trans (h2 t (ht (i, true) List.mem_cons_self))⟩
theorem mainC {need : Needs} {low : List (Nat × Value)} {Q : Exit → Act → World → Prop} (hs : Region.noSelect ops = true) (hlow : ∀ x ∈ low, Stab P I (opAt ops x.1) x.2) :
  ∀ (plan : Plan) (listed : Array Bool) (a : Act) (w : World), detC P ops need (low.map (·.1)) c listed plan = true → I w →
   wpList P ops (Seg (planC P ops (finI ops need low Q) I c plan).2) (planC P ops (finI ops need low Q) I c plan).1 a w →
   wpAnyC P .any ops (Seg (finI ops need low Q)) I c plan.length listed a w
 | [], listed, a, w, hd, _, h => by
  have : Region.ready .any ops listed = [] := by simpa [detC] using hd
  exact ⟨this, h⟩
 | (i, false) :: r, listed, a, w, hd, hIw, h => by
  simp only [detC, Bool.and_eq_true] at hd
  obtain ⟨⟨⟨hr, hf⟩, hk⟩, hwt, hrest⟩ := hd
  have hwait := qFD hwt
  have hr' : i ∈ Region.ready .any ops listed := by simpa using hr
  obtain ⟨_, oi, hoi, _⟩ := mem_ready.1 hr'
  have hat : opAt ops i = oi := by simp [opAt, hoi]
  have hends := endsC ((i, false) :: r) a w h
  have h' : wpList P ops (Seg (planC P ops (finI ops need low Q) I c r).2) (oi :: (planC P ops (finI ops need low Q) I c r).1) a w := by
   rw [← hat]; exact h
  have hQ : ∀ v c a w, Seg (finI ops need low Q) (.panic c) (a.put oi.dst v) w → Seg (finI ops need low Q) (.panic c) a w := fun _ _ _ _ h => h.elim
  have hsel := fun j o cs b ho => Region.noSelect_spec hs j o cs b ho
  -- what it comes to, in every world that meets I
  have key : ∀ (s : Sem Value), execOp a.eval oi = (do Pure.pure (Next.value (← s))) → (∀ v w1, s.run P w = .ok v w1 → w1 = w ∧ ∀ w', I w' → s.run P w' = .ok v w') →
    wpAnyC P .any ops (Seg (finI ops need low Q)) I c (r.length + 1) listed a w := fun s hex hl => by
   cases hw : Region.wanted oi (yielded ops a.tmps) with
   | true =>
    unfold wpList at h'
    rw [if_pos hw] at h'
    rcases h' with h' | h'
    ·unfold Oper.wp at h'
     rw [hex, Sem.run_bind] at h'
     cases hrun : s.run P w with
     | ok v w1 =>
      obtain ⟨rfl, hall⟩ := hl _ _ hrun
      rw [hrun] at h'
      have hy : YieldsIf P ops I oi v a := .inl ⟨hw, fun w' hw' => by rw [hex, Sem.run_bind, hall w' hw']; rfl⟩
      exact C_first hoi hsel (hQ v) hwait r.length listed a w1 (Region.free_spec hoi hf) hr' hy hIw (mainC hs hlow r _ _ w1 hrest hIw h')
     | halt x w1 =>
      rw [hrun] at h'
      cases x <;> exact h'.elim
    ·exact (Seg.letsOut h'.2).elim
   | false =>
    unfold wpList at h'
    rw [if_neg (by rw [hw]; decide)] at h'
    exact C_first hoi hsel (hQ undef) hwait r.length listed a w (Region.free_spec hoi hf) hr' (.inr ⟨hw, rfl⟩) hIw (mainC hs hlow r _ _ w hrest hIw h')
  obtain ⟨af, wf, ⟨hneed, hlowf, _⟩, hsame⟩ := hends
  rcases (Bool.or_eq_true _ _).mp hk with hp | hp
  ·obtain ⟨hst, hp⟩ := (Bool.and_eq_true _ _).mp hp
   have hne : needOk (needOf need (opAt ops i)) a = true := by
    unfold needOk at hneed ⊢
    rw [List.all_eq_true] at hneed ⊢
    intro p hpm
    have hp0 := hpm
    simp only [needOf, List.mem_filter] at hpm
    have h3 := hneed p hpm.1
    rw [hsame p.1 (fun x hx hd => by
     have h5 := List.all_eq_true.1 hst x hx
     simp only [hd] at h5
     have h6 := List.all_eq_true.1 h5 p hp0
     simp at h6)] at h3
    exact h3
   rw [hat] at hp hne
   obtain ⟨s, hex, hloc⟩ := qBm hp hne
   exact key s hex fun v w1 hrun => ⟨(hloc _ _ _ hrun).1, fun w' _ => (hloc _ _ _ hrun).2 w'⟩
  ·obtain ⟨hix, hst⟩ := (Bool.and_eq_true _ _).mp hp
   simp only [List.contains_iff_mem, List.mem_map] at hix
   obtain ⟨⟨i', p⟩, hxm, hxi⟩ := hix
   have hxi' : i' = i := hxi
   subst hxi'
   have hev : a.eval (lowOpnd oi) = p := by
    have e := hlowf _ hxm
    simp only [hat] at e
    rw [← e]
    refine (qFt fun t ht => ?_).symm
    refine hsame t fun x hx hd => ?_
    have h5 := List.all_eq_true.1 hst x hx
    simp only [hd, hat] at h5
    have h6 := qEc oi ht
    simp [h6] at h5
   have hstab := hlow _ hxm
   simp only [hat] at hstab
   unfold Stab at hstab
   cases hop : oi.op <;> simp only [hop] at hstab
   case load t x =>
    have hev' : a.eval x = p := by simpa only [lowOpnd, hop] using hev
    obtain ⟨v, hv⟩ := hstab
    refine key (Instr.loadAt t p) (by simp only [execOp, hop, hev']) fun u w1 hrun => ?_
    rw [hv w hIw] at hrun
    cases hrun
    exact ⟨rfl, hv⟩
   case convert src d x =>
    have hev' : a.eval x = p := by simpa only [lowOpnd, hop] using hev
    obtain ⟨v, hv⟩ := hstab
    refine key (Go.convert src d p) (by simp only [execOp, hop, hev']) fun u w1 hrun => ?_
    rw [hv w hIw] at hrun
    cases hrun
    exact ⟨rfl, hv⟩
 | (i, true) :: r, listed, a, w, hd, hIw, h => by
  simp only [detC, Bool.and_eq_true] at hd
  have hr : Region.ready .any ops listed = [i] := by simpa using hd.1
  have hr' : i ∈ Region.ready .any ops listed := by rw [hr]; simp
  obtain ⟨_, oi, hoi, _⟩ := mem_ready.1 hr'
  have hat : opAt ops i = oi := by simp [opAt, hoi]
  refine ⟨fun h0 => (by rw [hr] at h0; cases h0), fun j hj => ?_⟩
  rw [hr] at hj
  obtain rfl : j = i := by simpa using hj
  have h1 : wpList P ops (Seg (planC P ops (finI ops need low Q) I c ((j, true) :: r)).2) [oi] a w := by rw [← hat]; exact h
  have cont : ∀ a' w', (j ≠ c → I w') ∧ wpList P ops (Seg (planC P ops (finI ops need low Q) I c r).2) (planC P ops (finI ops need low Q) I c r).1 a' w' →
    (j ≠ c → I w') ∧ wpAnyC P .any ops (Seg (finI ops need low Q)) I c r.length (listed.setIfInBounds j true) a' w' := fun a' w' ⟨h2, h3⟩ => by
   refine ⟨h2, ?_⟩
   by_cases e : j = c
   ·have hre := hd.2.1
    cases r with
    | nil =>
     have : Region.ready .any ops (listed.setIfInBounds j true) = [] := by simpa [detC] using hd.2.2
     exact ⟨this, h3⟩
    | cons x r => simp [e] at hre
   ·exact mainC hs hlow r _ a' w' hd.2.2 (h2 e) h3
  unfold wpOp
  rw [hoi]
  unfold wpList at h1
  dsimp only
  split
  ·rename_i hw
   rw [if_pos hw] at h1
   rcases h1 with h1 | h1
   ·exact .inl (Oper.wp_seg cont h1)
   ·exact (Seg.letsOut h1.2).elim
  ·rename_i hw
   rw [if_neg hw] at h1
   exact cont _ _ h1
theorem qAB {Q : Exit → Act → World → Prop} {id : Nat} {l : List Oper} {a : Act} {w : World} (plan : Plan) (need : Needs) (low : List (Nat × Value)) (I : World → Prop) (c : Nat) (hm : P.follows .mixedOrders = true)
  (hs : Region.noSelect l.toArray = true) (hn : plan.length = l.length) (hd : detC P l.toArray need (low.map (·.1)) c (Array.replicate l.length false) plan = true)
  (hlow : ∀ x ∈ low, Stab P I (opAt l.toArray x.1) x.2) (hI : I w.drew)
  (h : wpList P l.toArray (Seg (planC P l.toArray (finI l.toArray need low Q) I c plan).2) (planC P l.toArray (finI l.toArray need low Q) I c plan).1 a w.drew) : (Code.region id l.toArray true).wp P Q a w := by
 refine Code.wp_mono (Q := Seg (finI l.toArray need low Q)) (fun e a w h => ?_) ?_
 ·cases e <;> first | exact h.2.2 | exact h.elim
 ·refine wp_region_any hm (qES (I := I) (c := c) _ _ _ _ (?_ : wpAnyC P .any l.toArray (Seg (finI l.toArray need low Q)) I c l.toArray.size (Array.replicate l.toArray.size false) a w.drew))
  have := mainC (Q := Q) hs hlow plan (Array.replicate l.length false) a w.drew hd hI h
  rw [hn] at this
  exact this
end
def IxOk {F : List Nat} {w0 w : World} {L : List Chunk} (_ : Mem F w0 w L) (is : List Nat) (w' : World) : Prop := Kept F w0 w' ∧ ∀ i ∈ is, ∀ c, L[i]? = some c → Chunk.ok w' c
section
variable {P : Program} {o : Oper} {w w0 w' : World} {F : List Nat} {L : List Chunk} {M : Mem F w0 w L} {is : List Nat}
theorem qAJ (M : Mem F w0 w L) (is : List Nat) : IxOk M is w.drew := ⟨M.drew.kept, fun i _ c hc => M.drew.ok i c hc⟩
theorem ixOk_nil (hk : Kept F w0 w') : IxOk M [] w' := ⟨hk, fun _ h => by cases h⟩
theorem ixOk_cons {i : Nat} {c : Chunk} (hi : L[i]? = some c) (h : c.ok w') (r : IxOk M is w') : IxOk M (i :: is) w' := ⟨r.1, fun j hj d hd => by
 rcases List.mem_cons.1 hj with rfl | hj
 ·rw [hi] at hd; cases hd; exact h
 ·exact r.2 j hj d hd⟩
theorem rowCell {g : Nat} {cs : List Value} (h : (Chunk.row g cs).ok w') {off : Nat} {v : Value} (hv : cs[off]? = some v) : w'.cell? ⟨g, off, none⟩ = some v := by
 have := h.2.1 off v hv; rwa [Nat.zero_add] at this
theorem qCv (M : Mem F w0 w L) (i : Nat) (off : Nat) {t : TypeId} {x : Operand} (ho : o.op = .load t x) {g : Nat} {cs : List Value} (hi : L[i]? = some (.row g cs)) (hin : i ∈ is) (ht : scalarT P t = true) {v : Value} (hv : cs[off]? = some v) : Stab P (IxOk M is) o (.pointer (some ⟨g, off, none⟩)) := by
 unfold Stab; rw [ho]
 refine ⟨v, fun w' hw => ?_⟩
 simp only [Instr.loadAt, Instr.sureAddr, Sem.run_bind, Sem.run_pure, Result.andThen_ok, qAX ht w' g off v (rowCell (hw.2 i hin _ hi) hv)]
theorem stab_ixB (M : Mem F w0 w L) (i : Nat) (off : Nat) {t : TypeId} {x : Operand} (ho : o.op = .load t x) {g : Nat} {l : List UInt8} (hi : L[i]? = some (.row g (bs l))) (hin : i ∈ is) (ht : scalarT P t = true) (hlt : off < l.length) : Stab P (IxOk M is) o (.pointer (some ⟨g, off, none⟩)) :=
 qCv M i off ho hi hin ht (getD_some hlt)
theorem stab_ixA (M : Mem F w0 w L) (i : Nat) (off : Nat) {t : TypeId} {x : Operand} (ho : o.op = .load t x) {g : Nat} {cs : List Value} (hi : L[i]? = some (.row g cs)) (hin : i ∈ is) (ht : rowT P t = true) (pre mid post : List Value) (hcs : cs = pre ++ (mid ++ post)) (hpre : pre.length = off) (hn : (P.info? t).map (·.size) = some mid.length) : Stab P (IxOk M is) o (.pointer (some ⟨g, off, none⟩)) := by
 unfold rowT at ht
 cases hu : P.underlying t with
 | none => simp [hu] at ht
 | some d =>
  simp only [hu] at ht
  refine stab_load ho g off mid d (fun w' hw j v hv => rowCell (hw.2 i hin _ hi) ?_) hu ht hn
  have hj : j < mid.length := (List.getElem?_eq_some_iff.1 hv).1
  rw [hcs, ← hpre, List.getElem?_append_right yF, Nat.add_sub_cancel_left, List.getElem?_append_left hj]; exact hv
theorem qEv (M : Mem F w0 w L) (i : Nat) {t : TypeId} {x : Operand} (ho : o.op = .load t x) {g : Nat} {cs : List Value} (hi : L[i]? = some (.row g cs)) (hin : i ∈ is) (ht : rowT P t = true) (hn : (P.info? t).map (·.size) = some cs.length) : Stab P (IxOk M is) o (.pointer (some ⟨g, 0, none⟩)) :=
 stab_ixA M i 0 ho hi hin ht [] cs [] yB1 rfl hn
theorem stab_ixH (M : Mem F w0 w L) (i : Nat) {t : TypeId} {x : Operand} (ho : o.op = .load t x) {g : Nat} {l : List UInt8} (hi : L[i]? = some (.row g (bs l))) (hin : i ∈ is) (ht : rowT P t = true) {n : Nat} (hl : l.length = n) (hn : (P.info? t).map (·.size) = some n) : Stab P (IxOk M is) o (.pointer (some ⟨g, 0, none⟩)) :=
 qEv M i ho hi hin ht (by rw [qAP, hl]; exact hn)
theorem stab_ixW (M : Mem F w0 w L) (i : Nat) {src dst e : TypeId} {x : Operand} (ho : o.op = .convert src dst x) {g : Nat} {l : List UInt8} (hi : L[i]? = some (.row g (bs l))) (hin : i ∈ is) {n : Nat} (hl : l.length = n) (hm : n ≤ maxLen) (hs : P.underlying src = some (.slice e)) (he : P.underlying e = some (.int .u8)) (hd : P.underlying dst = some .string) : Stab P (IxOk M is) o (.slice (some ⟨g, 0, none⟩) n n) := by
 refine qDt ho _ l (fun w' hw => ?_) hs he hd
 have := qDH (off := 0) (n := n) (cap := n) (hw.2 i hin _ hi) yF (Nat.le_refl _) hm
 rwa [List.drop_zero, List.take_of_length_le yF] at this
theorem stab_ixS (M : Mem F w0 w L) (i : Nat) {src dst e : TypeId} {x : Operand} (ho : o.op = .convert src dst x) {v : Value} {n : Nat} {l : List UInt8} (hi : L[i]? = some (.sl 1 v n (bs l))) (hin : i ∈ is) (hl : n = l.length) (hs : P.underlying src = some (.slice e)) (he : P.underlying e = some (.int .u8)) (hd : P.underlying dst = some .string) : Stab P (IxOk M is) o v := by
 subst hl
 exact qDt ho v l (fun w' hw => Own.sees (hw.2 i hin _ hi)) hs he hd
def StabAt (P : Program) (M : Mem F w0 w L) (is : List Nat) (o : Oper) (_i _off : Nat) (va : Value) : Prop := Stab P (IxOk M is) o va
section
variable {i off : Nat} {t : TypeId} {x : Operand}
theorem sa_ix (ho : o.op = .load t x) {g : Nat} {cs : List Value} (hi : L[i]? = some (.row g cs)) (hin : i ∈ is) (ht : scalarT P t = true) {v : Value} (hv : cs[off]? = some v) : StabAt P M is o i off (.pointer (some ⟨g, off, none⟩)) := qCv M i off ho hi hin ht hv
theorem sa_ixB (ho : o.op = .load t x) {g : Nat} {l : List UInt8} (hi : L[i]? = some (.row g (bs l))) (hin : i ∈ is) (ht : scalarT P t = true) (hlt : off < l.length) : StabAt P M is o i off (.pointer (some ⟨g, off, none⟩)) := stab_ixB M i off ho hi hin ht hlt
theorem sa_ixH (ho : o.op = .load t x) {g : Nat} {l : List UInt8} (hi : L[i]? = some (.row g (bs l))) (hin : i ∈ is) (ht : rowT P t = true) {n : Nat} (hl : l.length = n) (hn : (P.info? t).map (·.size) = some n) : StabAt P M is o i off (.pointer (some ⟨g, 0, none⟩)) := stab_ixH M i ho hi hin ht hl hn
theorem sa_ixR (ho : o.op = .load t x) {g : Nat} {cs : List Value} (hi : L[i]? = some (.row g cs)) (hin : i ∈ is) (ht : rowT P t = true) (hn : (P.info? t).map (·.size) = some cs.length) : StabAt P M is o i off (.pointer (some ⟨g, 0, none⟩)) := qEv M i ho hi hin ht hn
theorem sa_ixW {src dst e : TypeId} (ho : o.op = .convert src dst x) {g : Nat} {l : List UInt8} (hi : L[i]? = some (.row g (bs l))) (hin : i ∈ is) {n : Nat} (hl : l.length = n) (hm : n ≤ maxLen) (hs : P.underlying src = some (.slice e)) (he : P.underlying e = some (.int .u8)) (hd : P.underlying dst = some .string) : StabAt P M is o i off (.slice (some ⟨g, 0, none⟩) n n) := stab_ixW M i ho hi hin hl hm hs he hd
theorem sa_ixS {src dst e : TypeId} (ho : o.op = .convert src dst x) {v : Value} {n : Nat} {l : List UInt8} (hi : L[i]? = some (.sl 1 v n (bs l))) (hin : i ∈ is) (hl : n = l.length) (hs : P.underlying src = some (.slice e)) (he : P.underlying e = some (.int .u8)) (hd : P.underlying dst = some .string) : StabAt P M is o i off v := stab_ixS M i ho hi hin hl hs he hd
end
theorem lowA {ops : Array Oper} {k : Nat} {va : Value} {low : List (Nat × Value)} (M : Mem F w0 w L) (i off : Nat)
  (r : ∀ x ∈ low, Stab P (IxOk M is) (opAt ops x.1) x.2)
  (h : StabAt P M is (opAt ops k) i off va := by first | exact sa_ix rfl rfl yN yB rfl | exact sa_ixB rfl rfl yN yB (by first | assumption | omega) | exact sa_ix32 rfl rfl yN yB yK | exact sa_ixH rfl rfl yN yB yO yB | exact sa_ixW32 rfl rfl yN yB yO yB | exact sa_ixR rfl rfl yN yB yD | exact sa_ixW rfl rfl yN yO yN Tryz.underlying70 Tryz.underlying5 Tryz.underlying9 | exact sa_ixS rfl rfl yN (by first | rfl | simp | assumption) Tryz.underlying70 Tryz.underlying5 Tryz.underlying9) : ∀ y ∈ (k, va) :: low, Stab P (IxOk M is) (opAt ops y.1) y.2 := qAa h r
theorem ixA {M0 : Mem F w0 w L} (h : IxOk M0 is w' := by (repeat' (first | exact ixOk_nil M.kept | refine ixOk_cons rfl (by first | exact M.ok 0 _ rfl | exact M.ok 1 _ rfl | exact M.ok 2 _ rfl | exact M.ok 3 _ rfl | exact M.ok 4 _ rfl | exact M.ok 5 _ rfl | exact M.ok 6 _ rfl | exact M.ok 7 _ rfl | exact M.ok 8 _ rfl | exact M.ok 9 _ rfl) ?_))) : IxOk M0 is w' := h
end
theorem needs_at {l : List Value} {d : List Deferred} {n : Nat} {s : Shape} {r : Needs} {v : Value} (h : l[n]? = some v) (hs : s.ok v = true) (k : needOk r ⟨l.toArray, d⟩ = true) : needOk ((n, s) :: r) ⟨l.toArray, d⟩ = true :=
 qEa (by simpa [h] using hs) k
theorem nums_bs (l : List UInt8) : Shape.ok .nums (.agg (bs l).toArray) = true := nums_vb l
theorem ndA {r : Needs} {a : Act} (h : needOk r a = true := by (repeat' (first | (with_reducible exact qFf) | refine needs_at rfl (by first | (show Shape.ok Shape.nums _ = true; exact nums_bs _) | rfl) ?_))) : needOk r a = true := h
theorem ndK {r : Needs} {a : Act} (h : needOk r a = true := by (repeat' (first | (with_reducible exact qFf) | refine needs_at rfl (by first | (show Shape.ok Shape.nums _ = true; exact nums_bs _) | rfl | (simp [Shape.ok, Shape.strict, aggV, plain1]; done)) ?_))) : needOk r a = true := h
theorem atA {ops : Array Oper} {a : Act} {low : List (Nat × Value)} (h : ∀ y ∈ low, a.eval (lowOpnd (opAt ops y.1)) = y.2 := by (repeat' (first | (with_reducible exact ats_nil) | refine ats_cons yR ?_))) : ∀ y ∈ low, a.eval (lowOpnd (opAt ops y.1)) = y.2 := h
end TL
end Go
namespace Go
namespace TL
section
variable {G R : Prop}
theorem rA (h : R) (hv : R → G := by first | exact fun h => Seg.intro ⟨fun h => absurd rfl h, h⟩ | exact fun h => Seg.intro ⟨fun _ => ixA, h⟩ | exact fun h => Seg.intro ⟨ndA, atA, h⟩ | exact OnlyN.intro yD) : G := hv h
theorem rK (h : R) (hv : R → G := by first | exact fun h => Seg.intro ⟨fun h => absurd rfl h, h⟩ | exact fun h => Seg.intro ⟨fun _ => ixA, h⟩ | exact fun h => Seg.intro ⟨ndK, atA, h⟩ | exact OnlyN.intro yD) : G := hv h
end
end TL
end Go

namespace Go
namespace TL
open Go.RowKit
section
variable {P : Program} {ops : Array Oper} {rest : List Oper} {o : Oper} {a : Act} {w w0 : World} {Q : Exit → Act → World → Prop} {F : List Nat} {L : List Chunk} {g : Nat} {l : List UInt8}
theorem Mem.stays {c : Chunk} (M : Mem [] w0 w L) (R : c.ok w0) : c.ok w := R.stay M.kept.size fun k hk => M.kept.block k (R.lt k hk) yB1
theorem w_rowB (M : Mem [] w0 w L) (R : (Chunk.row g (bs l)).ok w0) (t : TypeId) (x : Operand) (ho : o.op = .load t x) {off : Nat} (hx : a.eval x = .pointer (some ⟨g, off, none⟩)) (hw : Region.wanted o (yielded ops a.tmps) = true)
  (ht : scalarT P t = true) (hlt : off < l.length) (h : wpList P ops Q rest (a.put o.dst (.int .u8 (I8 (l.getD off 0)))) w) : wpList P ops Q (o :: rest) a w :=
 wpW hw fun _ hK => by
  unfold Oper.wp execOp
  simp only [ho, hx, Instr.loadAt, Instr.sureAddr, Sem.run_bind, Sem.run_pure, Result.andThen_ok, qAX ht w g _ _ (rowCell (M.stays R) (getD_some hlt))]
  exact hK _ _ h
theorem w_rowC {cs : List Value} (M : Mem [] w0 w L) (R : (Chunk.row g cs).ok w0) (t : TypeId) (x : Operand) (ho : o.op = .load t x) {off : Nat} (hx : a.eval x = .pointer (some ⟨g, off, none⟩)) (hw : Region.wanted o (yielded ops a.tmps) = true)
  (ht : scalarT P t = true) {v : Value} (hv : cs[off]? = some v) (h : wpList P ops Q rest (a.put o.dst v) w) : wpList P ops Q (o :: rest) a w :=
 wpW hw fun _ hK => by
  unfold Oper.wp execOp
  simp only [ho, hx, Instr.loadAt, Instr.sureAddr, Sem.run_bind, Sem.run_pure, Result.andThen_ok, qAX ht w g _ _ (rowCell (M.stays R) hv)]
  exact hK _ _ h
theorem stab_rowB (M : Mem [] w0 w L) {is : List Nat} (R : (Chunk.row g (bs l)).ok w0) (off : Nat) {t : TypeId} {x : Operand} (ho : o.op = .load t x) (ht : scalarT P t = true) (hlt : off < l.length) : Stab P (IxOk M is) o (.pointer (some ⟨g, off, none⟩)) := by
 unfold Stab; rw [ho]
 have R' : ∀ w' : World, Kept [] w0 w' → (Chunk.row g (bs l)).ok w' := fun w' k => R.stay k.size fun j hj => k.block j (R.lt j hj) yB1
 refine ⟨.int .u8 (I8 (l.getD off 0)), fun w' hw => ?_⟩
 simp only [Instr.loadAt, Instr.sureAddr, Sem.run_bind, Sem.run_pure, Result.andThen_ok, qAX ht w' g off _ (rowCell (R' w' hw.1) (getD_some hlt))]
theorem w_storeBc (M : Mem F w0 w L) (i : Nat) (t : TypeId) (x y : Operand) (ho : o.op = .store t x y) {off : Nat} (hi : L[i]? = some (.row g (bs l))) (hx : a.eval x = .pointer (some ⟨g, off, none⟩)) (hw : Region.wanted o (yielded ops a.tmps) = true)
  {n : Int} (hy : a.eval y = .int .u8 n) (hb : n = I8 (w8 n)) (hn : (P.info? t).map (·.size) = some 1) (hlt : off < l.length)
  (h : ∀ w' : World, Mem F w0 w' (L.set i (.row g (bs (l.set off (w8 n))))) → wpList P ops Q rest (a.put o.dst undef) w') : wpList P ops Q (o :: rest) a w :=
 w_storeB M i t x y ho hi hx hw (hy.trans (congrArg (Value.int .u8) hb)) hn hlt h
theorem StA.byteC {t : TypeId} {off i : Nat} (M : Mem F w0 w L) (hi : L[i]? = some (.row g (bs l))) {n : Int} (hb : n = I8 (w8 n)) (hn : (P.info? t).map (·.size) = some 1) (hlt : off < l.length) : StA P w t (.pointer (some ⟨g, off, none⟩)) (.int .u8 n) fun w' => Mem F w0 w' (L.set i (.row g (bs (l.set off (w8 n))))) := fun _ _ _ x y _ _ ho hx hy hw h => w_storeBc M i t x y ho hi hx hw hy hb hn hlt h
theorem w_slB (M : Mem F w0 w L) (i : Nat) (t : TypeId) (x : Operand) (ho : o.op = .load t x) {so n m cap : Nat} (hi : L[i]? = some (.sl 1 (.slice (some ⟨g, so, none⟩) m cap) n (bs l))) {at' : Nat} (hx : a.eval x = .pointer (some ⟨g, at', none⟩)) (hw : Region.wanted o (yielded ops a.tmps) = true)
  (ht : scalarT P t = true) (k : Nat) (hat : at' = so + k) (hlt : k < l.length) (h : wpList P ops Q rest (a.put o.dst (.int .u8 (I8 (l.getD k 0)))) w) : wpList P ops Q (o :: rest) a w :=
 wpW hw fun _ hK => by
  subst hat
  unfold Oper.wp execOp
  simp only [ho, hx, Instr.loadAt, Instr.sureAddr, Sem.run_bind, Sem.run_pure, Result.andThen_ok, qAX ht w g _ _ (M.slCell i hi (getD_some hlt))]
  exact hK _ _ h
theorem upd_slSet {size n m cap g so off : Nat} {cs : List Value} (h : (Chunk.sl size (.slice (some ⟨g, so, none⟩) m cap) n cs).ok w) (hlt : off < cs.length) (v : Value) :
  Upd w (.sl size (.slice (some ⟨g, so, none⟩) m cap) n cs) (w.setCell ⟨g, so + off, none⟩ v) (.sl size (.slice (some ⟨g, so, none⟩) m cap) n (cs.set off v)) := by
 obtain ⟨h1, h2⟩ := h
 rcases h2 with ⟨h0, _⟩ | ⟨g', o', c, hv, _, hg, hn, hc, hr, ht⟩
 ·cases h0
 ·injection hv with e1 e2 e3; injection e1 with e1; injection e1 with e1 e4; subst e1; subst e2; subst e3; subst e4
  have hle : cs.length ≤ cap * size := by rw [h1]; exact Nat.mul_le_mul_right _ hn
  refine ⟨Kept.grown (grownBy_setCell w ⟨g, so + off, none⟩ v), ⟨by rw [List.length_set]; exact h1, .inr ⟨g, so, cap, rfl, Nat.zero_le _, by rw [← setCells_one, size_setCells]; exact hg, hn, hc, ?_, ?_⟩⟩, fun k hk => .inl hk⟩
  ·rw [← setCells_one, List.set_eq_take_append_cons_drop, if_pos hlt]
   have hcs : cs = cs.take off ++ ([cs[off]] ++ cs.drop (off + 1)) := by simp
   refine qAv ?_ (qAv (xs := [v]) ?_ ?_)
   ·refine World.rangeAt_setCells_apart (qBA hr off) _ _ _ (.inr (.inl (by rw [List.length_take]; omega)))
   ·rw [List.length_take, Nat.min_eq_left yF]
    refine World.rangeAt_setCells_same _ _ _ _ ?_
    exact qAr (qBI ht off) yC1
   ·refine World.rangeAt_setCells_apart ?_ _ _ _ (.inr (.inr (by rw [List.length_take]; simp; omega)))
    have := qBF hr (off + 1)
    rw [List.length_take, Nat.min_eq_left yF]
    simpa [Nat.add_assoc] using this
  ·rw [← setCells_one]; exact World.there_setCells ht _ _ _
theorem w_slSet (M : Mem F w0 w L) (i : Nat) (t : TypeId) (x y : Operand) (ho : o.op = .store t x y) {size n m cap g so : Nat} {cs : List Value} (hi : L[i]? = some (.sl size (.slice (some ⟨g, so, none⟩) m cap) n cs)) {at' : Nat} (hx : a.eval x = .pointer (some ⟨g, at', none⟩)) (hw : Region.wanted o (yielded ops a.tmps) = true)
  {v : Value} (hy : a.eval y = v) (h1 : v.oneCell' = true) (hc : v.cells = #[v]) (hn : (P.info? t).map (·.size) = some 1) (off : Nat) (hat : at' = so + off) (hlt : off < cs.length)
  (h : ∀ w' : World, Mem F w0 w' (L.set i (.sl size (.slice (some ⟨g, so, none⟩) m cap) n (cs.set off v))) → wpList P ops Q rest (a.put o.dst undef) w') : wpList P ops Q (o :: rest) a w :=
 wpW hw fun _ hK => by
  subst hat
  have hok := M.ok i _ hi
  have hth : w.there g (so + off) 1 := by
   obtain ⟨k1, k2⟩ := hok
   rcases k2 with ⟨h0, _⟩ | ⟨g', o', c, hv, _, hg, hn', hc', hr, ht⟩
   ·cases h0
   ·injection hv with e1 e2 e3; injection e1 with e1; injection e1 with e1 e4; subst e1; subst e2; subst e3; subst e4
    have hle : cs.length ≤ cap * size := by rw [k1]; exact Nat.mul_le_mul_right _ hn'
    exact qAr (qBI ht off) yF
  have hst := qBL (P := P) (w := w) (g := g) (o := so + off) [v] hth (by simpa using h1)
  cases hq : P.info? t with
  | none => simp [hq] at hn
  | some inf =>
   have hs : inf.size = 1 := by simpa [hq] using hn
   unfold Oper.wp execOp
   simp only [ho, hx, hy, Instr.storeAt, Instr.sureAddr, storeVar, Sem.run_bind, Sem.run_pure, Result.andThen_ok, sizeOf, typeInfo, run_program, hq, hs, hc]
   simp only [List.size_toArray, List.length_cons, List.length_nil, Nat.zero_add, ne_eq, not_true_eq_false, if_false, hst, Result.andThen_ok]
   rw [setCells_one]
   exact hK _ _ (h _ (M.upd i hi (upd_slSet hok hlt v)))
theorem qCH (M : Mem F w0 w L) (i : Nat) (t : TypeId) (x y : Operand) (ho : o.op = .store t x y) {so n m cap : Nat} (hi : L[i]? = some (.sl 1 (.slice (some ⟨g, so, none⟩) m cap) n (bs l))) {at' : Nat} (hx : a.eval x = .pointer (some ⟨g, at', none⟩)) (hw : Region.wanted o (yielded ops a.tmps) = true)
  {b : UInt8} (hy : a.eval y = .int .u8 (I8 b)) (hn : (P.info? t).map (·.size) = some 1) (k : Nat) (hat : at' = so + k) (hlt : k < l.length)
  (h : ∀ w' : World, Mem F w0 w' (L.set i (.sl 1 (.slice (some ⟨g, so, none⟩) m cap) n (bs (l.set k b)))) → wpList P ops Q rest (a.put o.dst undef) w') : wpList P ops Q (o :: rest) a w :=
 w_slSet M i t x y ho hi hx hw hy rfl rfl hn k hat (by rw [qAP]; exact hlt) (fun w' M' => h w' (by rw [bs_set]; exact M'))
theorem w_copyB (M : Mem F w0 w L) (i : Nat) {t e : TypeId} {bytes : Nat} (T : SliceT P t e 1 bytes) (d x : Operand) (u : TypeId) (ho : o.op = .call { callee := .builtin .copy, args := #[d, x], argTypes := #[t, u] }) (hw : Region.wanted o (yielded ops a.tmps) = true)
  {off dl dc : Nat} (hi : L[i]? = some (.row g (bs l))) (hd : a.eval d = .slice (some ⟨g, off, none⟩) dl dc) {xv : Value} (hx : a.eval x = xv) {news : List UInt8} (hsee : SeesB w xv news) (k : Nat) (hk : k = min news.length dl) (hlen : off + k ≤ l.length)
  (h : ∀ w' : World, Mem F w0 w' (L.set i (.row g (bs (l.take off ++ (news.take k ++ l.drop (off + k)))))) → wpList P ops Q rest (a.put o.dst (.int .i64 k)) w') : wpList P ops Q (o :: rest) a w := by
 refine w_copy M i T d x u ho hw hi hd hx news.length (bs news) (qBg hsee (qEL _)) k hk (by rw [qAP]; omega) fun w' M' => h w' ?_
 rw [Nat.mul_one] at M'
 rw [qBa, qBa]
 simpa [bs, List.map_take, List.map_drop] using M'
theorem qFG (M : Mem F w0 w L) (i : Nat) (t : TypeId) (x : Operand) (ho : o.op = .load t x) {off : Nat} (hi : L[i]? = some (.row g (bs l))) (hx : a.eval x = .pointer (some ⟨g, off, none⟩)) (hw : Region.wanted o (yielded ops a.tmps) = true)
  (ht : rowT P t = true) (n : Nat) (hn : (P.info? t).map (·.size) = some n) (hle : off + n ≤ l.length) (h : wpList P ops Q rest (a.put o.dst (.agg (bs ((l.drop off).take n)).toArray)) w) : wpList P ops Q (o :: rest) a w := by
 refine qAR M i t x ho hi hx hw ht (bs (l.take off)) (bs ((l.drop off).take n)) (bs (l.drop (off + n))) ?_ ?_ ?_ h
 ·rw [← qBa, ← qBa, ← List.drop_drop, List.take_append_drop, List.take_append_drop]
 ·rw [qAP, List.length_take]; omega
 ·rw [qAP, List.length_take, List.length_drop]; rw [hn]; congr 1; omega
end
end TL
end Go

namespace Go
namespace TL
open Go.RowKit
theorem qAC {P : Program} {ops : Array Oper} {rest : List Oper} {a : Act} {w : World} {Q : Exit → Act → World → Prop} {dst : Option Tmp} {op : Op} {ty : TypeId} {pos : String} {after : Array Edge} {j : Nat} {want : Bool} (hb : ∃ b, yielded ops a.tmps j = some b ∧ b = want)
  (h : wpList P ops Q (Oper.mk dst op ty pos after none :: rest) a w) : wpList P ops Q (Oper.mk dst op ty pos after (some (j, want)) :: rest) a w :=
 let ⟨_, h1, h2⟩ := hb
 w_strip h1 h2 h
theorem qAH {P : Program} {ops : Array Oper} {rest : List Oper} {a : Act} {w : World} {Q : Exit → Act → World → Prop} {dst : Option Tmp} {op : Op} {ty : TypeId} {pos : String} {after : Array Edge} {j : Nat} (hb : ∃ b, yielded ops a.tmps j = some b ∧ b = false)
  (h : wpList P ops Q rest (a.put dst undef) w) : wpList P ops Q (Oper.mk dst op ty pos after (some (j, true)) :: rest) a w :=
 let ⟨_, h1, h2⟩ := hb
 w_guard h1 (fun e => by subst h2; cases e) (fun _ => h)
theorem qAI {P : Program} {ops : Array Oper} {rest : List Oper} {a : Act} {w : World} {Q : Exit → Act → World → Prop} {dst : Option Tmp} {op : Op} {ty : TypeId} {pos : String} {after : Array Edge} {j : Nat} (hb : ∃ b, yielded ops a.tmps j = some b ∧ b = true)
  (h : wpList P ops Q rest (a.put dst undef) w) : wpList P ops Q (Oper.mk dst op ty pos after (some (j, false)) :: rest) a w :=
 let ⟨_, h1, h2⟩ := hb
 w_guard h1 (fun e => by subst h2; cases e) (fun _ => h)
theorem Mem.join {F : List Nat} {w0 w w' : World} {L K : List Chunk} (M : Mem F w0 w L) (N : Mem [] w w' K) : Mem F w0 w' (K ++ L) := by
 have M' := M.call N.below
 have key : ∀ (i : Nat) (c : Chunk), K[i]? = some c → ∀ k ∈ c.fp, w.heap.size ≤ k := fun i c hc k hk => (N.own i c hc k hk).resolve_left yB1
 refine ⟨M'.kept, fun i c hc => ?_, fun i c hc k hk => ?_, fun i j c d hij hi hj k hk hk2 => ?_⟩
 ·rw [List.getElem?_append] at hc; split at hc
  ·exact N.ok i c hc
  ·exact M'.ok _ c hc
 ·rw [List.getElem?_append] at hc; split at hc
  ·exact .inr (Nat.le_trans M.kept.size (key i c hc k hk))
  ·exact M'.own _ c hc k hk
 ·rw [List.getElem?_append] at hi hj; split at hi <;> split at hj
  ·exact N.nd i j c d hij hi hj k hk hk2
  ·have := key i c hi k hk; have := (M.ok _ d hj).lt k hk2; omega
  ·have := key j d hj k hk2; have := (M.ok _ c hi).lt k hk; omega
  ·exact M.nd _ _ c d yF hi hj k hk hk2
def Gives {α : Type} (size : Nat) (f : α → List Value) (l : List α) (r : Value → Value) (w : World) (e : Ending) (w' : World) : Prop := ∃ p cap, e = .returned (r (.slice p l.length cap)) ∧ Mem [] w w' [.sl size (.slice p l.length cap) l.length (l.flatMap f)]
theorem Gives.intro {α : Type} {size : Nat} {f : α → List Value} {l : List α} {r : Value → Value} {w w' : World} {p : Option Addr} {cap : Nat} {L : List Chunk} (M : Mem [] w w' (.sl size (.slice p l.length cap) l.length (l.flatMap f) :: L)) : Gives size f l r w (.returned (r (.slice p l.length cap))) w' :=
 ⟨p, cap, rfl, M.pick _ id (fun _ _ _ _ h => h) (fun i c h => by cases i with | zero => exact h | succ i => simp at h)⟩
theorem Gives.below {α : Type} {size : Nat} {f : α → List Value} {l : List α} {r : Value → Value} {w w' : World} {e : Ending} (h : Gives size f l r w e w') : Below w.heap.size w w' := by
 obtain ⟨p, cap, _, M⟩ := h; exact M.below
theorem Gives.at {α : Type} {size : Nat} {f : α → List Value} {l : List α} {r : Value → Value} {w w' : World} {p : Option Addr} {cap : Nat} {L : List Chunk} (M : Mem [] w w' L) (i : Nat) (hi : L[i]? = some (.sl size (.slice p l.length cap) l.length (l.flatMap f))) : Gives size f l r w (.returned (r (.slice p l.length cap))) w' :=
 ⟨p, cap, rfl, M.pick _ (fun j => i + j) (fun _ _ _ _ h => by omega) (fun j c h => by cases j with | zero => simp at h; subst h; exact hi | succ j => simp at h)⟩
end TL
end Go

namespace Go
namespace TL
open Go.RowKit
structure Ms where
 k : UInt8
 e : Int
 a : Int
 o : Int
 bi : Int
 be : Int
 ov : Value
 p : Int
 r : List UInt8
 v : Int
 i : Int
 lf : List UInt8
 rt : List UInt8
 pv : Value
def Ms.fit (m : Ms) : Prop := m.r.length = 32 ∧ m.lf.length = 32 ∧ m.rt.length = 32 ∧ m.ov.oneCell' = true ∧ m.pv.oneCell' = true
def zeroH : List UInt8 := List.replicate 32 0
theorem qAi : zeroH.length = 32 := List.length_replicate
def zeroM : Ms := ⟨0, 0, 0, 0, 0, 0, .slice none 0 0, 0, zeroH, 0, 0, zeroH, zeroH, .slice none 0 0⟩
theorem qAA : zeroM.fit := ⟨qAi, qAi, qAi, rfl, rfl⟩
def msgC (m : Ms) : List Value := [.int .u8 (I8 m.k), .int .i64 m.e, .int .i64 m.a, .int .i64 m.o, .int .i64 m.bi, .int .i64 m.be, m.ov, .int .i64 m.p] ++ (bs m.r ++ ([.int .i64 m.v, .int .i64 m.i] ++ (bs m.lf ++ (bs m.rt ++ [m.pv]))))
theorem qAs {m : Ms} (h : m.fit) : (msgC m).length = 107 := by
 obtain ⟨h1, h2, h3, _⟩ := h
 unfold msgC; simp only [List.length_append, List.length_cons, List.length_nil, qAP, h1, h2, h3]
theorem msgC_one {m : Ms} (h : m.fit) : ∀ v ∈ msgC m, v.oneCell' = true := by
 obtain ⟨_, _, _, h4, h5⟩ := h
 intro v hv
 unfold msgC at hv
 simp only [List.mem_append, List.mem_cons, List.not_mem_nil, or_false] at hv
 rcases hv with (rfl | rfl | rfl | rfl | rfl | rfl | rfl | rfl) | hv | (rfl | rfl) | hv | hv | rfl
 all_goals first | rfl | assumption | exact qEL _ v hv
inductive Nf where
 | k | e | a | o | bi | be | ov | p | v | i | pv
def Nf.off : Nf → Nat
 | .k => 0 | .e => 1 | .a => 2 | .o => 3 | .bi => 4 | .be => 5 | .ov => 6 | .p => 7 | .v => 40 | .i => 41 | .pv => 106
def Nf.get (m : Ms) : Nf → Value
 | .k => .int .u8 (I8 m.k) | .e => .int .i64 m.e | .a => .int .i64 m.a | .o => .int .i64 m.o | .bi => .int .i64 m.bi | .be => .int .i64 m.be | .ov => m.ov | .p => .int .i64 m.p | .v => .int .i64 m.v | .i => .int .i64 m.i | .pv => m.pv
theorem qBo {m : Ms} (h : m.fit) (f : Nf) : (msgC m)[f.off]? = some (f.get m) := by
 obtain ⟨h1, h2, h3, _⟩ := h
 cases f
 case v | i | pv => simp [msgC, Nf.off, Nf.get, qAP, h1, h2, h3]
 all_goals rfl
inductive Mf where
 | e | a | o | p | v | i
def Mf.nf : Mf → Nf
 | .e => .e | .a => .a | .o => .o | .p => .p | .v => .v | .i => .i
def Mf.off (f : Mf) : Nat := f.nf.off
def Mf.get (m : Ms) : Mf → Int
 | .e => m.e | .a => m.a | .o => m.o | .p => m.p | .v => m.v | .i => m.i
def Mf.set (m : Ms) (x : Int) : Mf → Ms
 | .e => { m with e := x } | .a => { m with a := x } | .o => { m with o := x } | .p => { m with p := x } | .v => { m with v := x } | .i => { m with i := x }
theorem Mf.set_fit {m : Ms} (h : m.fit) (x : Int) (f : Mf) : (f.set m x).fit := by cases f <;> exact h
theorem msgC_num {m : Ms} (h : m.fit) (f : Mf) : (msgC m)[f.off]? = some (.int .i64 (f.get m)) := by
 have := qBo h f.nf
 cases f <;> exact this
theorem msgC_set {m : Ms} (h : m.fit) (x : Int) (f : Mf) : (msgC m).set f.off (.int .i64 x) = msgC (f.set m x) := by
 obtain ⟨h1, h2, h3, _⟩ := h
 cases f
 case v | i => simp [msgC, Mf.off, Mf.nf, Nf.off, Mf.set, qAP, h1]
 all_goals rfl
theorem msgC_setPv {m : Ms} (h : m.fit) (x : Value) : (msgC m).set 106 x = msgC { m with pv := x } := by
 obtain ⟨h1, h2, h3, _⟩ := h
 simp [msgC, qAP, h1, h2, h3]
inductive Hf where
 | r | lf | rt
def Hf.off : Hf → Nat
 | .r => 8 | .lf => 42 | .rt => 74
def Hf.get (m : Ms) : Hf → List UInt8
 | .r => m.r | .lf => m.lf | .rt => m.rt
def Hf.set (m : Ms) (x : List UInt8) : Hf → Ms
 | .r => { m with r := x } | .lf => { m with lf := x } | .rt => { m with rt := x }
theorem Hf.len {m : Ms} (h : m.fit) (f : Hf) : (f.get m).length = 32 := by
 obtain ⟨h1, h2, h3, _⟩ := h
 cases f <;> assumption
theorem Hf.set_fit {m : Ms} (h : m.fit) {x : List UInt8} (hx : x.length = 32) (f : Hf) : (f.set m x).fit := by
 obtain ⟨h1, h2, h3, h4, h5⟩ := h
 cases f
 ·exact ⟨hx, h2, h3, h4, h5⟩
 ·exact ⟨h1, hx, h3, h4, h5⟩
 ·exact ⟨h1, h2, hx, h4, h5⟩
theorem Hf.set_get {m : Ms} (f : Hf) : f.set m (f.get m) = m := by cases f <;> rfl
def Hf.pre (m : Ms) : Hf → List Value
 | .r => [.int .u8 (I8 m.k), .int .i64 m.e, .int .i64 m.a, .int .i64 m.o, .int .i64 m.bi, .int .i64 m.be, m.ov, .int .i64 m.p]
 | .lf => [.int .u8 (I8 m.k), .int .i64 m.e, .int .i64 m.a, .int .i64 m.o, .int .i64 m.bi, .int .i64 m.be, m.ov, .int .i64 m.p] ++ (bs m.r ++ [.int .i64 m.v, .int .i64 m.i])
 | .rt => [.int .u8 (I8 m.k), .int .i64 m.e, .int .i64 m.a, .int .i64 m.o, .int .i64 m.bi, .int .i64 m.be, m.ov, .int .i64 m.p] ++ (bs m.r ++ ([.int .i64 m.v, .int .i64 m.i] ++ bs m.lf))
def Hf.post (m : Ms) : Hf → List Value
 | .r => [.int .i64 m.v, .int .i64 m.i] ++ (bs m.lf ++ (bs m.rt ++ [m.pv]))
 | .lf => bs m.rt ++ [m.pv]
 | .rt => [m.pv]
theorem qFg (m : Ms) (x : List UInt8) (f : Hf) : msgC (f.set m x) = f.pre m ++ (bs x ++ f.post m) := by
 cases f <;> simp only [msgC, Hf.set, Hf.pre, Hf.post, List.append_assoc]
theorem Hf.pre_len {m : Ms} (h : m.fit) (f : Hf) : (f.pre m).length = f.off := by
 obtain ⟨h1, h2, h3, _⟩ := h
 cases f <;> simp only [Hf.pre, Hf.off, List.length_append, List.length_cons, List.length_nil, qAP, h1, h2]
theorem qDO (m : Ms) (f : Hf) : msgC m = f.pre m ++ (bs (f.get m) ++ f.post m) := by rw [← qFg, Hf.set_get]
section
variable {P : Program} {ops : Array Oper} {rest : List Oper} {o : Oper} {a : Act} {w w0 : World} {Q : Exit → Act → World → Prop} {F : List Nat} {L : List Chunk} {g : Nat} {m : Ms}
theorem qAQ (M : Mem F w0 w L) (i : Nat) (t : TypeId) (x : Operand) (ho : o.op = .load t x) (hi : L[i]? = some (.row g (msgC m))) (hx : a.eval x = .pointer (some ⟨g, 0, none⟩)) (hw : Region.wanted o (yielded ops a.tmps) = true)
  (ht : rowT P t = true) (hn : (P.info? t).map (·.size) = some 107) (hm : m.fit) (h : wpList P ops Q rest (a.put o.dst (.agg (msgC m).toArray)) w) : wpList P ops Q (o :: rest) a w :=
 qAm M i t x ho hi hx hw ht (by rw [qAs hm]; exact hn) h
theorem qAD (M : Mem F w0 w L) (i : Nat) (t : TypeId) (x y : Operand) (ho : o.op = .store t x y) {m' : Ms} (hi : L[i]? = some (.row g (msgC m'))) (hx : a.eval x = .pointer (some ⟨g, 0, none⟩)) (hw : Region.wanted o (yielded ops a.tmps) = true)
  {C : Array Value} (hy : a.eval y = .agg C) (hC : C = (msgC m).toArray) (hn : (P.info? t).map (·.size) = some 107) (hm : m.fit) (hm' : m'.fit)
  (h : ∀ w' : World, Mem F w0 w' (L.set i (.row g (msgC m))) → wpList P ops Q rest (a.put o.dst undef) w') : wpList P ops Q (o :: rest) a w :=
 qBK M i t x y ho hi hx hw (msgC m) hy hC (by rw [qAs hm]; exact hn) (msgC_one hm) (by rw [qAs hm, qAs hm']) h
theorem qAE (M : Mem F w0 w L) (i : Nat) (t : TypeId) (x y : Operand) (ho : o.op = .store t x y) (hi : L[i]? = some (.row g (msgC m))) {off : Nat} (hx : a.eval x = .pointer (some ⟨g, off, none⟩)) (hw : Region.wanted o (yielded ops a.tmps) = true)
  {z : Int} (hy : a.eval y = .int .i64 z) (hn : (P.info? t).map (·.size) = some 1) (hm : m.fit) (f : Mf) (hoff : off = f.off)
  (h : ∀ w' : World, Mem F w0 w' (L.set i (.row g (msgC (f.set m z)))) → wpList P ops Q rest (a.put o.dst undef) w') : wpList P ops Q (o :: rest) a w := by
 subst hoff
 refine qBn M i t x y ho hi hx hw hy rfl rfl hn (by rw [qAs hm]; cases f <;> decide) fun w' M' => h w' ?_
 rwa [msgC_set hm z f] at M'
theorem qCN (M : Mem F w0 w L) (i : Nat) (t : TypeId) (x y : Operand) (ho : o.op = .store t x y) (hi : L[i]? = some (.row g (msgC m))) (hx : a.eval x = .pointer (some ⟨g, 106, none⟩)) (hw : Region.wanted o (yielded ops a.tmps) = true)
  {z : Value} (hy : a.eval y = z) (h1 : z.oneCell' = true) (hc : z.cells = #[z]) (hn : (P.info? t).map (·.size) = some 1) (hm : m.fit)
  (h : ∀ w' : World, Mem F w0 w' (L.set i (.row g (msgC { m with pv := z }))) → wpList P ops Q rest (a.put o.dst undef) w') : wpList P ops Q (o :: rest) a w := by
 refine qBn M i t x y ho hi hx hw hy h1 hc hn (by rw [qAs hm]; omega) fun w' M' => h w' ?_
 rwa [msgC_setPv hm z] at M'
theorem qFF (M : Mem F w0 w L) (i : Nat) (t : TypeId) (x y : Operand) (ho : o.op = .store t x y) (hi : L[i]? = some (.row g (msgC m))) {off : Nat} (hx : a.eval x = .pointer (some ⟨g, off, none⟩)) (hw : Region.wanted o (yielded ops a.tmps) = true)
  {b : UInt8} (hy : a.eval y = .int .u8 (I8 b)) (hn : (P.info? t).map (·.size) = some 1) (hm : m.fit) (f : Hf) (j : Nat) (hoff : off = f.off + j) (hj : j < 32)
  (h : ∀ w' : World, Mem F w0 w' (L.set i (.row g (msgC (f.set m ((f.get m).set j b))))) → wpList P ops Q rest (a.put o.dst undef) w') : wpList P ops Q (o :: rest) a w := by
 subst hoff
 have hl := f.len hm
 have hp := f.pre_len hm
 refine qBn M i t x y ho hi hx hw hy rfl rfl hn ?_ fun w' M' => h w' ?_
 ·rw [qAs hm]; cases f <;> simp only [Hf.off] <;> omega
 ·have e : (msgC m).set (f.off + j) (.int .u8 (I8 b)) = msgC (f.set m ((f.get m).set j b)) := by
   rw [qFg, qDO m f, List.set_append_right _ _ yF, hp, Nat.add_sub_cancel_left, List.set_append_left _ _ (by rw [qAP]; omega)]
   simp only [bs, List.map_set]; rfl
  rwa [e] at M'
theorem qBW (M : Mem F w0 w L) (i : Nat) (t : TypeId) (x y : Operand) (ho : o.op = .store t x y) (hi : L[i]? = some (.row g (msgC m))) (hx : a.eval x = .pointer (some ⟨g, 4, none⟩)) (hw : Region.wanted o (yielded ops a.tmps) = true)
  {bi be : Int} {ov : Value} (hy : a.eval y = .agg #[.int .i64 bi, .int .i64 be, ov]) (hn : (P.info? t).map (·.size) = some 3) (hov : ov.oneCell' = true)
  (h : ∀ w' : World, Mem F w0 w' (L.set i (.row g (msgC { m with bi := bi, be := be, ov := ov }))) → wpList P ops Q rest (a.put o.dst undef) w') : wpList P ops Q (o :: rest) a w :=
 qDo M i t x y ho hi hx hw [.int .i64 bi, .int .i64 be, ov] hy rfl hn (by intro v hv; simp only [List.mem_cons, List.not_mem_nil, or_false] at hv; rcases hv with rfl | rfl | rfl <;> first | rfl | assumption) [.int .u8 (I8 m.k), .int .i64 m.e, .int .i64 m.a, .int .i64 m.o] [.int .i64 m.bi, .int .i64 m.be, m.ov] ([.int .i64 m.p] ++ (bs m.r ++ ([.int .i64 m.v, .int .i64 m.i] ++ (bs m.lf ++ (bs m.rt ++ [m.pv]))))) rfl rfl rfl fun w' M' => h w' M'
end
end TL
end Go

namespace Go
namespace TL
def goodN (b : UInt8) : Bool := decide (97 ≤ b.toNat ∧ b.toNat ≤ 122)
def goodK (b : UInt8) : Bool := decide (b.toNat ≠ 0 ∧ b.toNat ≠ 47)
def namedL (s : List UInt8) : Bool := decide (1 ≤ s.length ∧ s.length ≤ 8) && s.all goodN
def pkeyL (s : List UInt8) : Bool := decide (1 ≤ s.length ∧ s.length ≤ 24) && s.all goodK
def slash : List UInt8 → Nat
 | [] => 0
 | b :: l => if b.toNat = 47 then 0 else slash l + 1
def cutL (p : List UInt8) : List UInt8 × List UInt8 × Bool :=
 if slash p < p.length ∧ namedL (p.take (slash p)) = true ∧ pkeyL (p.drop (slash p + 1)) = true then (p.take (slash p), p.drop (slash p + 1), true) else ([], [], false)
def scutL (p : List UInt8) : List UInt8 × List UInt8 × Bool := if slash p < p.length then (p.take (slash p), p.drop (slash p + 1), true) else (p, [], false)
theorem scut_yes {p : List UInt8} (h : slash p < p.length) : scutL p = (p.take (slash p), p.drop (slash p + 1), true) := if_pos h
theorem scut_no {p : List UInt8} (h : ¬ slash p < p.length) : scutL p = (p, [], false) := if_neg h
theorem all_bad {f : UInt8 → Bool} {s : List UInt8} {k : Nat} (h : k < s.length) (hb : f (s.getD k 0) = false) : s.all f = false := by
 rw [List.all_eq_false]
 refine ⟨s[k], List.getElem_mem _, ?_⟩
 rw [List.getD_eq_getElem?_getD, List.getElem?_eq_getElem h] at hb
 simpa using hb
theorem all_good {f : UInt8 → Bool} {s : List UInt8} (h : ∀ k, k < s.length → f (s.getD k 0) = true) : s.all f = true := by
 rw [List.all_eq_true]
 intro x hx
 obtain ⟨k, hk, rfl⟩ := List.mem_iff_getElem.1 hx
 have := h k hk
 rwa [List.getD_eq_getElem?_getD, List.getElem?_eq_getElem hk] at this
theorem named_bad {s : List UInt8} {k : Nat} (h : k < s.length) (hb : goodN (s.getD k 0) = false) : namedL s = false := by unfold namedL; rw [all_bad h hb, Bool.and_false]
theorem qGR {s : List UInt8} (h : ∀ k, k < s.length → goodN (s.getD k 0) = true) : namedL s = decide (1 ≤ s.length ∧ s.length ≤ 8) := by unfold namedL; rw [all_good h, Bool.and_true]
theorem named_len {s : List UInt8} (h : ¬ (1 ≤ s.length ∧ s.length ≤ 8)) : namedL s = false := by unfold namedL; rw [decide_eq_false h, Bool.false_and]
theorem pkey_bad {s : List UInt8} {k : Nat} (h : k < s.length) (hb : goodK (s.getD k 0) = false) : pkeyL s = false := by unfold pkeyL; rw [all_bad h hb, Bool.and_false]
theorem pkey_good {s : List UInt8} (h : ∀ k, k < s.length → goodK (s.getD k 0) = true) : pkeyL s = decide (1 ≤ s.length ∧ s.length ≤ 24) := by unfold pkeyL; rw [all_good h, Bool.and_true]
theorem pkey_len {s : List UInt8} (h : ¬ (1 ≤ s.length ∧ s.length ≤ 24)) : pkeyL s = false := by unfold pkeyL; rw [decide_eq_false h, Bool.false_and]
theorem qEw : ∀ p, slash p ≤ p.length
 | [] => Nat.le_refl _
 | b :: l => by rw [slash]; split <;> have := qEw l <;> simp <;> omega
theorem qEk : ∀ (p : List UInt8) (k : Nat), k < slash p → (p.getD k 0).toNat ≠ 47
 | [], k, h => by simp [slash] at h
 | b :: l, k, h => by
  by_cases hb : b.toNat = 47
  ·rw [slash, if_pos hb] at h; omega
  ·rw [slash, if_neg hb] at h
   cases k with
   | zero => simpa using hb
   | succ k => simpa using qEk l k yF
theorem slash_at : ∀ (p : List UInt8), slash p < p.length → (p.getD (slash p) 0).toNat = 47
 | [], h => by simp at h
 | b :: l, h => by
  by_cases hb : b.toNat = 47
  ·rw [slash, if_pos hb]; simpa using hb
  ·rw [slash, if_neg hb] at h ⊢
   simpa using slash_at l yE1
theorem qDE : ∀ p : List UInt8, Lib.indexByte p 47 = if slash p < p.length then (slash p : Int) else -1
 | [] => rfl
 | b :: l => by
  have ih := qDE l
  by_cases hb : b.toNat = 47
  ·have e : b = 47 := UInt8.toNat_inj.1 hb
   subst e
   rw [Lib.indexByte, slash, if_pos hb]; simp
  ·have e : (b == 47) = false := by
    rw [beq_eq_false_iff_ne]; rintro rfl; exact hb rfl
   rw [Lib.indexByte, slash, if_neg hb, e, ih]
   by_cases h : slash l < l.length
   ·have h2 : slash l + 1 < (b :: l).length := by simpa using h
    rw [if_pos h, if_pos h2]
    have : (((slash l : Nat) : Int) == -1) = false := by simp
    rw [this]; simp
   ·have h2 : ¬ slash l + 1 < (b :: l).length := by simpa using h
    rw [if_neg h, if_neg h2]; simp
theorem indexByte_neg {l : List UInt8} {c : UInt8} : Lib.indexByte l c < 0 ↔ ∀ b ∈ l, b ≠ c := by
 have hge := Lib.indexByte_ge l c
 constructor
 ·intro h b hb e
  subst e
  obtain ⟨k, hk, e⟩ := List.mem_iff_getElem.1 hb
  exact Lib.indexByte_none (by omega : Lib.indexByte l b = -1) k (by rw [List.getElem?_eq_getElem hk, e])
 ·intro h
  by_cases h0 : Lib.indexByte l c < 0
  ·exact h0
  ·obtain ⟨o, ho⟩ := Int.eq_ofNat_of_zero_le (by omega : 0 ≤ Lib.indexByte l c)
   have := (Lib.indexByte_some ho).1
   exact absurd rfl (h c (List.mem_of_getElem? this))
theorem pkey_index (s : List UInt8) (h : 1 ≤ s.length ∧ s.length ≤ 24) : pkeyL s = (decide (Lib.indexByte s 0 < 0) && decide (Lib.indexByte s 47 < 0)) := by
 unfold pkeyL
 rw [decide_eq_true h, Bool.true_and, Bool.eq_iff_iff]
 simp only [Bool.and_eq_true, decide_eq_true_eq, indexByte_neg, List.all_eq_true, goodK]
 constructor
 ·intro h2
  refine ⟨fun b hb e => (h2 b hb).1 (by rw [e]; rfl), fun b hb e => (h2 b hb).2 (by rw [e]; rfl)⟩
 ·rintro ⟨h2, h3⟩ b hb
  exact ⟨fun e => h2 b hb (UInt8.toNat_inj.1 e), fun e => h3 b hb (UInt8.toNat_inj.1 e)⟩
theorem cut_ok {p m k : List UInt8} (h : cutL p = (m, k, true)) : p = m ++ 47 :: k ∧ namedL m = true ∧ pkeyL k = true ∧ m.length ≤ 8 ∧ k.length ≤ 24 ∧ 1 ≤ m.length ∧ 1 ≤ k.length := by
 unfold cutL at h
 split at h
 ·rename_i h1
  obtain ⟨h1, h2, h3⟩ := h1
  simp only [Prod.mk.injEq, and_true] at h
  obtain ⟨rfl, rfl⟩ := h
  have hs := slash_at p h1
  have e47 : p[slash p] = 47 := by
   apply UInt8.toNat_inj.1
   rw [List.getD_eq_getElem?_getD, List.getElem?_eq_getElem h1] at hs
   exact hs
  refine ⟨?_, h2, h3, ?_⟩
  ·rw [← e47, ← List.drop_eq_getElem_cons h1, List.take_append_drop]
  ·unfold namedL at h2; unfold pkeyL at h3
   simp only [Bool.and_eq_true, decide_eq_true_eq] at h2 h3
   omega
 ·simp at h
end TL
end Go

namespace Go
namespace TL
def numL (n : Nat) : List UInt8 := if n < 128 then [UInt8.ofNat n] else UInt8.ofNat (n % 128 + 128) :: numL (n / 128)
termination_by n
decreasing_by omega
theorem qBE {n : Nat} (h : n < 128) : numL n = [UInt8.ofNat n] := by rw [numL, if_pos h]
theorem qBY {n : Nat} (h : 128 ≤ n) : numL n = UInt8.ofNat (n % 128 + 128) :: numL (n / 128) := by rw [numL, if_neg yF]
theorem numL_pos (n : Nat) : 0 < (numL n).length := by
 by_cases h : n < 128
 ·rw [qBE h]; exact Nat.one_pos
 ·rw [qBY yF]; simp
theorem bitLenAux_zero : ∀ f, Lib.bitLenAux f 0 = 0
 | 0 => rfl
 | _ + 1 => rfl
theorem qEM : ∀ (f x : Nat), x ≠ 0 → x < 2 ^ f → Lib.bitLenAux f x = Nat.log2 x + 1
 | 0, x, h0, h => by simp at h; omega
 | f + 1, x, h0, h => by
  rw [Lib.bitLenAux, if_neg h0, Nat.log2_def]
  by_cases h2 : 2 ≤ x
  ·rw [if_pos h2, qEM f (x / 2) yF (by rw [Nat.pow_succ] at h; omega)]; omega
  ·rw [if_neg h2, show x / 2 = 0 by omega, bitLenAux_zero]
theorem log2_div128 {n : Nat} (h : 128 ≤ n) : Nat.log2 n = Nat.log2 (n / 128) + 7 := by
 have e : ∀ m : Nat, 2 ≤ m → Nat.log2 m = Nat.log2 (m / 2) + 1 := fun m hm => by rw [Nat.log2_def, if_pos hm]
 rw [e n yF, e (n / 2) yF, e (n / 2 / 2) yF, e (n / 2 / 2 / 2) yF, e (n / 2 / 2 / 2 / 2) yF, e (n / 2 / 2 / 2 / 2 / 2) yF, e (n / 2 / 2 / 2 / 2 / 2 / 2) yF]
 simp only [Nat.div_div_eq_div_mul]
theorem qFd (n : Nat) : (numL n).length = if n = 0 then 1 else Nat.log2 n / 7 + 1 := by
 induction n using Nat.strongRecOn with
 | ind n ih =>
  by_cases h : n < 128
  ·rw [qBE h]
   by_cases h0 : n = 0
   ·rw [if_pos h0]; rfl
   ·rw [if_neg h0]
    have : Nat.log2 n < 7 := (Nat.log2_lt h0).2 yF
    simp; omega
  ·rw [qBY yF, List.length_cons, ih (n / 128) yF, if_neg yF, if_neg yF, log2_div128 (n := n) yF]
   omega
theorem size_eq (n : Nat) (h : n < 18446744073709551616) : max 1 ((Lib.bitLen n + 6) / 7) = (numL n).length := by
 rw [qFd]
 by_cases h0 : n = 0
 ·subst h0; rfl
 ·rw [if_neg h0, Lib.bitLen, qEM 64 n h0 h]; omega
theorem qAG (n : Nat) (h : n < 18446744073709551616) : (numL n).length ≤ 10 := by
 rw [qFd]
 split
 ·omega
 ·rename_i h0
  have : Nat.log2 n < 64 := (Nat.log2_lt h0).2 yF
  omega
/-! ### Reading -/
def lead : List UInt8 → Nat
 | [] => 0
 | b :: l => if b.toNat < 128 then 0 else lead l + 1
def numV : List UInt8 → Nat
 | [] => 0
 | b :: l => b.toNat % 128 + 128 * numV l
def readN (s : List UInt8) (most : Nat) : Nat × Nat × Nat :=
 if 10 ≤ lead s then (0, 0, 8) else if s.length ≤ lead s then (0, 0, 7) else if lead s = 9 ∧ 1 < (s.getD 9 0).toNat then (0, 0, 8)
 else if 0 < lead s ∧ (s.getD (lead s) 0).toNat = 0 then (0, 0, 8)
 else if most < numV (s.take (lead s + 1)) then (0, 0, 8) else (numV (s.take (lead s + 1)), lead s + 1, 0)
theorem lead_le : ∀ s, lead s ≤ s.length
 | [] => Nat.le_refl _
 | b :: l => by rw [lead]; split <;> have := lead_le l <;> simp <;> omega
theorem ofNat_toNat {n : Nat} (h : n < 256) : (UInt8.ofNat n).toNat = n := by simp [UInt8.toNat_ofNat']; omega
theorem qEH (n : Nat) (r : List UInt8) : lead (numL n ++ r) + 1 = (numL n).length := by
 induction n using Nat.strongRecOn with
 | ind n ih =>
  by_cases h : n < 128
  ·rw [qBE h]; simp only [List.cons_append, List.nil_append, lead]; rw [if_pos (by rw [ofNat_toNat yF]; exact h)]; rfl
  ·rw [qBY yF]; simp only [List.cons_append, lead]
   rw [if_neg (by rw [ofNat_toNat yF]; omega), ih (n / 128) yF]; rfl
theorem numV_numL (n : Nat) : numV (numL n) = n := by
 induction n using Nat.strongRecOn with
 | ind n ih =>
  by_cases h : n < 128
  ·rw [qBE h]; simp only [numV]; rw [ofNat_toNat yF]; omega
  ·rw [qBY yF]; simp only [numV]; rw [ih (n / 128) yF, ofNat_toNat yF]; omega
theorem numL_last (n : Nat) (r : List UInt8) : ((numL n ++ r).getD (lead (numL n ++ r)) 0).toNat < 128 ∧ (0 < lead (numL n ++ r) → 0 < ((numL n ++ r).getD (lead (numL n ++ r)) 0).toNat) := by
 induction n using Nat.strongRecOn with
 | ind n ih =>
  by_cases h : n < 128
  ·rw [qBE h]; simp only [List.cons_append, List.nil_append, lead]; rw [if_pos (by rw [ofNat_toNat yF]; exact h)]
   simp only [List.getD_cons_zero]; rw [ofNat_toNat yF]; omega
  ·rw [qBY yF]; simp only [List.cons_append, lead]
   rw [if_neg (by rw [ofNat_toNat yF]; omega)]; simp only [List.getD_cons_succ]
   refine ⟨(ih (n / 128) yF).1, fun _ => ?_⟩
   by_cases h2 : n / 128 < 128
   ·have e : numL (n / 128) = [UInt8.ofNat (n / 128)] := qBE h2
    rw [e]; simp only [List.cons_append, List.nil_append, lead]; rw [if_pos (by rw [ofNat_toNat yF]; exact h2)]
    simp only [List.getD_cons_zero]; rw [ofNat_toNat yF]; omega
   ·refine (ih (n / 128) yF).2 ?_
    have := qEH (n / 128) r
    have : (numL (n / 128)).length = (numL (n / 128 / 128)).length + 1 := by rw [qBY yF]; rfl
    have := numL_pos (n / 128 / 128)
    omega
theorem take_numL (n : Nat) (r : List UInt8) : (numL n ++ r).take (lead (numL n ++ r) + 1) = numL n := by
 rw [qEH, List.take_left]
theorem numL_ten (n : Nat) (r : List UInt8) (k : Nat) (hk : lead (numL n ++ r) = k) : ((numL n ++ r).getD k 0).toNat * 128 ^ k ≤ n := by
 induction n using Nat.strongRecOn generalizing k with
 | ind n ih =>
  by_cases h : n < 128
  ·rw [qBE h] at hk ⊢; simp only [List.cons_append, List.nil_append, lead] at hk ⊢; rw [if_pos (by rw [ofNat_toNat yF]; exact h)] at hk
   subst hk
   simp only [List.getD_cons_zero]; rw [ofNat_toNat yF]; omega
  ·rw [qBY yF] at hk ⊢; simp only [List.cons_append, lead] at hk ⊢
   rw [if_neg (by rw [ofNat_toNat yF]; omega)] at hk
   subst hk
   simp only [List.getD_cons_succ]
   have := ih (n / 128) yF _ rfl
   rw [Nat.pow_succ, ← Nat.mul_assoc]; omega
theorem read_num (n most : Nat) (r : List UInt8) (h : n < 18446744073709551616) : readN (numL n ++ r) most = if most < n then (0, 0, 8) else (n, (numL n).length, 0) := by
 have h1 := qEH n r
 have h2 := qAG n h
 obtain ⟨h3, h4⟩ := numL_last n r
 unfold readN
 rw [if_neg yF, if_neg yC1, if_neg, if_neg (by rintro ⟨a, b⟩; have := h4 a; omega), take_numL, numV_numL, h1]
 rintro ⟨a, b⟩
 have := numL_ten n r 9 a
 omega
theorem toNat_lt' (b : UInt8) : b.toNat < 256 := b.toNat_lt
theorem qEn (b : UInt8) : UInt8.ofNat b.toNat = b := UInt8.ofNat_toNat
theorem qFb : ∀ s : List UInt8, lead s < s.length → (s.getD (lead s) 0).toNat * 128 ^ lead s ≤ numV (s.take (lead s + 1)) ∧ numV (s.take (lead s + 1)) < ((s.getD (lead s) 0).toNat + 1) * 128 ^ lead s
 | [], h => by simp at h
 | b :: l, h => by
  by_cases hb : b.toNat < 128
  ·have e : lead (b :: l) = 0 := by rw [lead, if_pos hb]
   rw [e]; simp [numV]; omega
  ·have e : lead (b :: l) = lead l + 1 := by rw [lead, if_neg hb]
   rw [e] at h ⊢
   have ih := qFb l yE1
   simp only [List.getD_cons_succ, List.take_succ_cons, numV]
   obtain ⟨i1, i2⟩ := ih
   have := toNat_lt' b
   rw [Nat.pow_succ, ← Nat.mul_assoc, ← Nat.mul_assoc]
   omega
theorem qCT : ∀ s : List UInt8, lead s < s.length → (s.getD (lead s) 0).toNat < 128
 | [], h => by simp at h
 | b :: l, h => by
  by_cases hb : b.toNat < 128
  ·have e : lead (b :: l) = 0 := by rw [lead, if_pos hb]
   rw [e]; simpa using hb
  ·have e : lead (b :: l) = lead l + 1 := by rw [lead, if_neg hb]
   rw [e] at h ⊢
   simpa using qCT l yE1
theorem canon : ∀ s : List UInt8, lead s < s.length → (0 < lead s → (s.getD (lead s) 0).toNat ≠ 0) → numL (numV (s.take (lead s + 1))) = s.take (lead s + 1)
 | [], h, _ => by simp at h
 | b :: l, h, hz => by
  by_cases hb : b.toNat < 128
  ·have e : lead (b :: l) = 0 := by rw [lead, if_pos hb]
   rw [e]
   simp only [List.take_succ_cons, List.take_zero, numV]
   rw [show b.toNat % 128 + 128 * 0 = b.toNat by omega, qBE hb, qEn]
  ·have e : lead (b :: l) = lead l + 1 := by rw [lead, if_neg hb]
   rw [e] at h hz ⊢
   have hl : lead l < l.length := by simpa using h
   have hz' := hz yF
   simp only [List.getD_cons_succ] at hz'
   have ih := canon l hl (fun _ => hz')
   have hv := (qFb l hl).1
   have hp : 0 < 128 ^ lead l := Nat.pow_pos yF
   have h1 : 1 * 1 ≤ (l.getD (lead l) 0).toNat * 128 ^ lead l := Nat.mul_le_mul yF hp
   simp only [List.take_succ_cons, numV]
   have := toNat_lt' b
   rw [qBY yF, show (b.toNat % 128 + 128 * numV (l.take (lead l + 1))) / 128 = numV (l.take (lead l + 1)) by omega, ih, show (b.toNat % 128 + 128 * numV (l.take (lead l + 1))) % 128 + 128 = b.toNat by omega, qEn]
theorem qFX {s : List UInt8} {most n k : Nat} (h : readN s most = (n, k, 0)) : s = numL n ++ s.drop k ∧ k = (numL n).length ∧ n ≤ most ∧ n < 18446744073709551616 := by
 unfold readN at h
 split at h
 ·simp at h
 split at h
 ·simp at h
 split at h
 ·simp at h
 split at h
 ·simp at h
 split at h
 ·simp at h
 rename_i h1 h2 h3 h4 h5
 simp only [Prod.mk.injEq, and_true] at h
 obtain ⟨rfl, rfl⟩ := h
 have c := canon s yF (fun h => fun e => h4 ⟨h, e⟩)
 rw [c]
 refine ⟨by rw [List.take_append_drop], by simp; omega, by omega, ?_⟩
 have v := (qFb s yF).2
 have l := qCT s yF
 by_cases h9 : lead s = 9
 ·rw [h9] at v ⊢
  have : (s.getD 9 0).toNat ≤ 1 := by omega
  have : ((s.getD 9 0).toNat + 1) * 128 ^ 9 ≤ 2 * 128 ^ 9 := Nat.mul_le_mul_right _ yF
  omega
 ·have h8 : 128 ^ lead s ≤ 128 ^ 8 := Nat.pow_le_pow_right yF yF
  have : ((s.getD (lead s) 0).toNat + 1) * 128 ^ lead s ≤ 128 * 128 ^ 8 := Nat.mul_le_mul yF h8
  omega
theorem qCK (s : List UInt8) (most : Nat) : (readN s most).2.2 = 0 ∨ readN s most = (0, 0, 7) ∨ readN s most = (0, 0, 8) := by
 unfold readN
 split
 ·simp
 split
 ·simp
 split
 ·simp
 split
 ·simp
 split
 ·simp
 ·simp
theorem qCh {s : List UInt8} {most n k e : Nat} (h : readN s most = (n, k, e)) : k ≤ s.length ∧ k ≤ 10 ∧ n ≤ most := by
 by_cases he : e = 0
 ·subst he
  obtain ⟨h1, h2, h3, h4⟩ := qFX h
  have h5 : s.length = (numL n).length + (s.length - k) := by have := congrArg List.length h1; rwa [List.length_append, List.length_drop] at this
  have := qAG n h4
  omega
 ·have := qCK s most
  rw [h] at this
  simp at this
  omega
end TL
end Go

namespace Go
namespace TL
def maxU : Nat := 18446744073709551615
theorem qDj : maxU = 18446744073709551615 := rfl
def textL (t : List UInt8) : List UInt8 := numL t.length ++ t
structure InS where
 rest : List UInt8
 read : Nat
 err : Nat
def InS.fit (x : InS) : Prop := x.read + x.rest.length ≤ 1000000000
def InS.take (x : InS) (k e : Nat) : InS := if e = 0 then ⟨x.rest.drop k, x.read + k, 0⟩ else ⟨x.rest, x.read, e⟩
def InS.most (x : InS) (m : Nat) : Nat × InS := if x.err = 0 then ((readN x.rest m).1, x.take (readN x.rest m).2.1 (readN x.rest m).2.2) else (0, x)
def InS.text (x : InS) (m : Nat) : List UInt8 × InS :=
 if x.err = 0 then
  if (readN x.rest m).2.2 = 0 then
   if (readN x.rest m).1 ≤ x.rest.length - (readN x.rest m).2.1 then ((x.rest.drop (readN x.rest m).2.1).take (readN x.rest m).1, x.take ((readN x.rest m).2.1 + (readN x.rest m).1) 0)
   else ([], x.take 0 7)
  else ([], x.take 0 (readN x.rest m).2.2)
 else ([], x)
def InS.byte (x : InS) : Nat × InS := if x.err = 0 then (match x.rest with | [] => (0, x.take 0 7) | b :: _ => (b.toNat, x.take 1 0)) else (0, x)
def InS.fin (x : InS) : Nat := if x.err = 0 then (if x.rest.length = 0 then 0 else 8) else x.err
theorem qFe : ∀ (k n : Nat), 0 < k → n < 128 ^ k → (numL n).length ≤ k
 | 0, _, h, _ => by omega
 | k + 1, n, _, h => by
  by_cases hn : n < 128
  ·rw [qBE hn]; simp
  ·rw [qBY yF, List.length_cons]
   have hk : 0 < k := by
    rcases Nat.eq_zero_or_pos k with rfl | h0
    ·simp at h; omega
    ·exact h0
   have := qFe k (n / 128) hk (by rw [Nat.pow_succ] at h; omega)
   omega
theorem size_canon (s : List UInt8) (h : lead s < s.length) : ((numL (numV (s.take (lead s + 1)))).length = lead s + 1) ↔ ¬ (0 < lead s ∧ (s.getD (lead s) 0).toNat = 0) := by
 constructor
 ·rintro h1 ⟨h2, h3⟩
  have hv := (qFb s h).2
  rw [h3, Nat.zero_add, Nat.one_mul] at hv
  have := qFe _ _ h2 hv
  omega
 ·intro h1
  rw [canon s h fun h2 h3 => h1 ⟨h2, h3⟩]; simp; omega
theorem qFa {s : List UInt8} (h : lead s < s.length) (h9 : lead s ≤ 9) (ht : lead s = 9 → (s.getD 9 0).toNat ≤ 1) : numV (s.take (lead s + 1)) < 18446744073709551616 := by
 have v := (qFb s h).2
 have l := qCT s h
 by_cases h9 : lead s = 9
 ·rw [h9] at v ⊢
  have := ht h9
  have : ((s.getD 9 0).toNat + 1) * 128 ^ 9 ≤ 2 * 128 ^ 9 := Nat.mul_le_mul_right _ yF
  omega
 ·have h8 : 128 ^ lead s ≤ 128 ^ 8 := Nat.pow_le_pow_right yF yF
  have : ((s.getD (lead s) 0).toNat + 1) * 128 ^ lead s ≤ 128 * 128 ^ 8 := Nat.mul_le_mul yF h8
  omega
theorem lead_ge : ∀ (s : List UInt8) (k : Nat), k < lead s → 128 ≤ (s.getD k 0).toNat
 | [], k, h => by simp [lead] at h
 | b :: l, k, h => by
  by_cases hb : b.toNat < 128
  ·rw [lead, if_pos hb] at h; omega
  ·rw [lead, if_neg hb] at h
   cases k with
   | zero => simpa using hb
   | succ k => simpa using lead_ge l k yF
theorem lead_stop (s : List UInt8) (k : Nat) (h : k ≤ lead s) (hb : (s.getD k 0).toNat < 128) : lead s = k := by
 by_cases e : k < lead s
 ·have := lead_ge s k e; omega
 ·omega
theorem qCQ (s : List UInt8) (h : 10 ≤ lead s) (m : Nat) : readN s m = (0, 0, 8) := by unfold readN; rw [if_pos h]
theorem qCA (s : List UInt8) (h : lead s < 10) (h1 : s.length ≤ lead s) (m : Nat) : readN s m = (0, 0, 7) := by unfold readN; rw [if_neg yF, if_pos h1]
theorem qCz (s : List UInt8) (h : lead s = 9) (h1 : lead s < s.length) (h2 : 1 < (s.getD 9 0).toNat) (m : Nat) : readN s m = (0, 0, 8) := by
 unfold readN; rw [if_neg yF, if_neg yF, if_pos ⟨h, h2⟩]
theorem qDJ (s : List UInt8) (h : lead s < 10) (h1 : lead s < s.length) (h2 : 0 < lead s) (h3 : (s.getD (lead s) 0).toNat = 0) (m : Nat) : readN s m = (0, 0, 8) := by
 unfold readN; rw [if_neg yF, if_neg yF]
 split
 ·rfl
 ·rw [if_pos ⟨h2, h3⟩]
theorem qDz (s : List UInt8) (h : lead s < 10) (h1 : lead s < s.length) (h9 : lead s = 9 → (s.getD 9 0).toNat ≤ 1) (h3 : ¬ (0 < lead s ∧ (s.getD (lead s) 0).toNat = 0)) (m : Nat) :
  readN s m = if m < numV (s.take (lead s + 1)) then (0, 0, 8) else (numV (s.take (lead s + 1)), lead s + 1, 0) := by
 unfold readN; rw [if_neg yF, if_neg yF, if_neg (by rintro ⟨a, b⟩; have := h9 a; omega), if_neg h3]
theorem readN_max (s : List UInt8) (m : Nat) : readN s m = if (readN s maxU).2.2 = 0 ∧ m < (readN s maxU).1 then (0, 0, 8) else readN s maxU := by
 rw [qDj] at *
 by_cases a : 10 ≤ lead s
 ·rw [qCQ s a, qCQ s a]; rfl
 by_cases b : s.length ≤ lead s
 ·rw [qCA s yF b, qCA s yF b]; rfl
 by_cases c : lead s = 9 ∧ 1 < (s.getD 9 0).toNat
 ·rw [qCz s c.1 yF c.2, qCz s c.1 yF c.2]; rfl
 by_cases d : 0 < lead s ∧ (s.getD (lead s) 0).toNat = 0
 ·rw [qDJ s yF yF d.1 d.2, qDJ s yF yF d.1 d.2]; rfl
 have h9 : lead s = 9 → (s.getD 9 0).toNat ≤ 1 := fun e => by
  have : ¬ 1 < (s.getD 9 0).toNat := fun h => c ⟨e, h⟩
  omega
 have hv := qFa (s := s) yF yF h9
 rw [qDz s yF yF h9 d, qDz s yF yF h9 d, if_neg (by omega : ¬ 18446744073709551615 < numV (s.take (lead s + 1)))]
 simp
theorem qFc : ∀ (s : List UInt8) (i : Nat), i < s.length → numV (s.drop i) = (s.getD i 0).toNat % 128 + 128 * numV (s.drop (i + 1))
 | [], i, h => by simp at h
 | b :: l, 0, _ => by simp [numV]
 | b :: l, i + 1, h => by simpa using qFc l i yE1
theorem numV_lt (s : List UInt8) : numV s < 128 ^ s.length := by
 induction s with
 | nil => simp [numV]
 | cons b l ih => rw [numV, List.length_cons, Nat.pow_succ]; omega
theorem numV_last : ∀ (n : Nat) (l : List UInt8), l.length = n + 1 → numV l < ((l.getD n 0).toNat % 128 + 1) * 128 ^ n
 | _, [], h => by simp at h
 | 0, [b], _ => by simp [numV]
 | 0, b :: c :: l, h => by simp at h
 | n + 1, b :: l, h => by
  have := numV_last n l yE1
  rw [numV, List.getD_cons_succ, Nat.pow_succ, ← Nat.mul_assoc]; omega
theorem numV_drop_lt (s : List UInt8) (hl : lead s < s.length) (h9 : lead s ≤ 9) (ht : lead s = 9 → (s.getD 9 0).toNat ≤ 1) (j : Nat) (hj : 1 ≤ j) : numV ((s.take (lead s + 1)).drop j) < 144115188075855872 := by
 by_cases hjl : j ≤ lead s
 ·have e : ((s.take (lead s + 1)).drop j).length = (lead s - j) + 1 := by simp; omega
  have h := numV_last _ _ e
  have g : ((s.take (lead s + 1)).drop j).getD (lead s - j) 0 = s.getD (lead s) 0 := by
   simp only [List.getD_eq_getElem?_getD, List.getElem?_drop, List.getElem?_take]
   rw [show j + (lead s - j) = lead s by omega, if_pos yF]
  rw [g] at h
  by_cases e9 : lead s = 9
  ·have h8 : 128 ^ (lead s - j) ≤ 128 ^ 8 := Nat.pow_le_pow_right yF yF
   have t := ht e9
   rw [← e9] at t
   have := Nat.mul_le_mul (show (s.getD (lead s) 0).toNat % 128 + 1 ≤ 2 by omega) h8
   omega
  ·have h8 : 128 ^ (lead s - j) ≤ 128 ^ 7 := Nat.pow_le_pow_right yF yF
   have := Nat.mul_le_mul (show (s.getD (lead s) 0).toNat % 128 + 1 ≤ 128 by omega) h8
   omega
 ·rw [List.drop_of_length_le yC1]; simp [numV]
theorem qGL (s : List UInt8) (h : lead s ≤ 9) (h1 : lead s < s.length) (h9 : lead s = 9 → (s.getD 9 0).toNat ≤ 1) :
  readN s maxU = if (numL (numV (s.take (lead s + 1)))).length = lead s + 1 then (numV (s.take (lead s + 1)), lead s + 1, 0) else (0, 0, 8) := by
 have hc := size_canon s h1
 have hv := qFa h1 h h9
 by_cases d : 0 < lead s ∧ (s.getD (lead s) 0).toNat = 0
 ·rw [qDJ s yF h1 d.1 d.2, if_neg (fun e => hc.1 e d)]
 ·rw [qDz s yF h1 h9 d, if_pos (hc.2 d), qDj, if_neg yF]
end TL
end Go

namespace Go
namespace TL
structure RS where
 rest : List UInt8
 err : Nat
def RS.num (x : RS) (m : Nat) : Nat × RS :=
 if x.err = 0 then ((readN x.rest m).1, if (readN x.rest m).2.2 = 0 then ⟨x.rest.drop (readN x.rest m).2.1, 0⟩ else ⟨x.rest, (readN x.rest m).2.2⟩) else (0, x)
def RS.text (x : RS) (m : Nat) : List UInt8 × RS :=
 if (x.num m).2.err = 0 then
  if (x.num m).1 ≤ (x.num m).2.rest.length then ((x.num m).2.rest.take (x.num m).1, ⟨(x.num m).2.rest.drop (x.num m).1, 0⟩) else ([], ⟨(x.num m).2.rest, 7⟩)
 else ([], (x.num m).2)
def Alike (x : InS) (y : RS) : Prop := x.err = y.err ∧ (x.err = 0 → x.rest = y.rest)
theorem Alike.most {x : InS} {y : RS} (h : Alike x y) (m : Nat) : (x.most m).1 = (y.num m).1 ∧ Alike (x.most m).2 (y.num m).2 := by
 obtain ⟨h1, h2⟩ := h
 unfold InS.most RS.num
 by_cases h0 : x.err = 0
 ·rw [if_pos h0, if_pos (h1 ▸ h0), h2 h0]
  refine ⟨rfl, ?_⟩
  unfold InS.take
  by_cases e : (readN y.rest m).2.2 = 0
  ·rw [if_pos e]; simp only [if_pos e]; exact ⟨rfl, fun _ => by rw [h2 h0]⟩
  ·rw [if_neg e]; simp only [if_neg e]; exact ⟨rfl, fun h => absurd h e⟩
 ·rw [if_neg h0, if_neg (h1 ▸ h0)]
  exact ⟨rfl, h1, fun h => absurd h h0⟩
theorem Alike.text {x : InS} {y : RS} (h : Alike x y) (m : Nat) : (x.text m).1 = (y.text m).1 ∧ Alike (x.text m).2 (y.text m).2 := by
 obtain ⟨h1, h2⟩ := h
 unfold InS.text RS.text RS.num
 by_cases h0 : x.err = 0
 ·rw [if_pos h0]
  simp only [if_pos (h1 ▸ h0 : y.err = 0), h2 h0]
  unfold InS.take
  have hl := (qCh (s := y.rest) (most := m) rfl).1
  by_cases e : (readN y.rest m).2.2 = 0
  ·simp only [if_pos e, if_true]
   rw [List.length_drop]
   by_cases g : (readN y.rest m).1 ≤ y.rest.length - (readN y.rest m).2.1
   ·simp only [if_pos g]
    refine ⟨trivial, rfl, fun _ => ?_⟩
    simp only [List.drop_drop, h2 h0]
   ·simp only [if_neg g]
    exact ⟨trivial, rfl, fun h => by simp at h⟩
  ·simp only [if_neg e]
   exact ⟨trivial, rfl, fun h => absurd h e⟩
 ·rw [if_neg h0]
  simp only [if_neg (h1 ▸ h0 : ¬ y.err = 0)]
  exact ⟨trivial, h1, fun h => absurd h h0⟩
theorem numV_snoc (l : List UInt8) (b : UInt8) : numV (l ++ [b]) = numV l + b.toNat % 128 * 128 ^ l.length := by
 induction l with
 | nil => simp [numV]
 | cons c l ih =>
  simp only [List.cons_append, numV, ih, List.length_cons, Nat.pow_succ]
  have e : 128 * (b.toNat % 128 * 128 ^ l.length) = b.toNat % 128 * (128 ^ l.length * 128) := by rw [Nat.mul_comm 128, Nat.mul_assoc]
  omega
theorem numV_take (s : List UInt8) (k : Nat) (h : k < s.length) : numV (s.take (k + 1)) = numV (s.take k) + (s.getD k 0).toNat % 128 * 128 ^ k := by
 rw [List.take_succ_eq_append_getElem h, numV_snoc, List.length_take, Nat.min_eq_left yF, List.getD_eq_getElem?_getD, List.getElem?_eq_getElem h]; rfl
theorem qEo (s : List UInt8) (k : Nat) (h : k ≤ s.length) : numV (s.take k) < 128 ^ k := by
 have := numV_lt (s.take k)
 rwa [List.length_take, Nat.min_eq_left h] at this
theorem or_shl (n b k : Nat) (hn : n < 128 ^ k) : n ||| b * 2 ^ (7 * k) = n + b * 128 ^ k := by
 have e : (128 : Nat) ^ k = 2 ^ (7 * k) := by rw [show (128 : Nat) = 2 ^ 7 from rfl, ← Nat.pow_mul]
 rw [e] at hn ⊢
 rw [Nat.or_comm, ← Nat.shiftLeft_eq, ← Nat.shiftLeft_add_eq_or_of_lt hn, Nat.add_comm]
end TL
end Go

namespace Go
namespace TL
open Go.RowKit
theorem flat_len {α : Type} {f : α → List Value} {size : Nat} (hf : ∀ x, (f x).length = size) (l : List α) : (l.flatMap f).length = l.length * size := by
 induction l with
 | nil => simp
 | cons a l ih => simp only [List.flatMap_cons, List.length_append, ih, hf, List.length_cons, Nat.succ_mul]; omega
theorem flat_get {α : Type} {f : α → List Value} {size : Nat} (hf : ∀ x, (f x).length = size) : ∀ (l : List α) (k : Nat) (x : α), l[k]? = some x → ∀ j, j < size → (l.flatMap f)[k * size + j]? = (f x)[j]?
 | [], k, x, h, _, _ => by simp at h
 | a :: l, 0, x, h, j, hj => by
  simp only [List.getElem?_cons_zero, Option.some.injEq] at h; subst h
  rw [List.flatMap_cons, Nat.zero_mul, Nat.zero_add, List.getElem?_append_left (by rw [hf]; exact hj)]
 | a :: l, k + 1, x, h, j, hj => by
  rw [List.flatMap_cons, List.getElem?_append_right (by rw [hf, Nat.succ_mul]; omega), hf, Nat.succ_mul, show k * size + size + j - size = k * size + j by omega]
  exact flat_get hf l k x yE1 j hj
structure SeesL {α : Type} (w : World) (size : Nat) (f : α → List Value) (v : Value) (l : List α) : Prop where
 sees : Sees w size v l.length (l.flatMap f)
 size : ∀ x, (f x).length = size
section
variable {α : Type} {P : Program} {ops : Array Oper} {rest : List Oper} {o : Oper} {a : Act} {w w0 : World} {Q : Exit → Act → World → Prop} {L : List Chunk} {size : Nat} {f : α → List Value} {v : Value} {l : List α}
theorem SeesL.form (S : SeesL w size f v l) : ∃ p cap, v = .slice p l.length cap ∧ l.length ≤ cap := S.sees.form
theorem SeesL.addr {p : Option Addr} {n cap : Nat} (S : SeesL w size f (.slice p n cap) l) (h : 0 < l.length) : ∃ g so, p = some ⟨g, so, none⟩ := by
 rcases S.sees.2 with ⟨_, h0⟩ | ⟨g, so, c, hv, _⟩
 ·omega
 ·injection hv with h1 h2 h3; exact ⟨g, so, h1⟩
theorem SeesL.cell {g so n cap : Nat} (S : SeesL w size f (.slice (some ⟨g, so, none⟩) n cap) l) {k : Nat} {x : α} (hk : l[k]? = some x) {j : Nat} {val : Value} (hv : (f x)[j]? = some val) : w.cell? ⟨g, so + (k * size + j), none⟩ = some val := by
 have hj : j < size := by rw [← S.size x]; exact (List.getElem?_eq_some_iff.1 hv).1
 rcases S.sees.2 with ⟨_, h0⟩ | ⟨g', o', c, hv', _, _, _, hr⟩
 ·rw [List.eq_nil_of_length_eq_zero h0] at hk; simp at hk
 ·injection hv' with h1 _ _; injection h1 with h1; injection h1 with h1 h2; subst h1; subst h2
  exact hr _ _ ((flat_get S.size l k x hk j hj).trans hv)
theorem SeesL.kept {G : List Nat} {w' : World} (S : SeesL w size f v l) (h : Kept G w w') (hG : ∀ k, v.ownBlock = some k → k ∉ G) : SeesL w' size f v l := by
 refine ⟨⟨S.sees.1, S.sees.2.imp id ?_⟩, S.size⟩
 rintro ⟨g, so, cap, rfl, hlt, hn, hc, hr⟩
 exact ⟨g, so, cap, rfl, Nat.lt_of_lt_of_le hlt h.size, hn, hc, rangeAt_of_block hr (h.block g hlt (hG g rfl))⟩
theorem SeesL.kept0 {G : List Nat} {w' : World} (S : SeesL w size f v l) (h : Kept G w w') (hG : 0 < l.length → ∀ k, v.ownBlock = some k → k ∉ G) : SeesL w' size f v l := by
 by_cases hl : 0 < l.length
 ·exact S.kept h (hG hl)
 ·refine ⟨⟨S.sees.1, S.sees.2.imp id ?_⟩, S.size⟩
  rintro ⟨g, so, cap, rfl, hlt, hn, hc, _⟩
  refine ⟨g, so, cap, rfl, Nat.lt_of_lt_of_le hlt h.size, hn, hc, ?_⟩
  rw [List.eq_nil_of_length_eq_zero (by omega : l.length = 0)]
  exact qCC _ _ _
theorem SeesL.below {w' : World} (S : SeesL w size f v l) (h : Below w.heap.size w w') : SeesL w' size f v l := S.kept (Kept.of_below h []) yB1
theorem SeesL.now (M : Mem [] w0 w L) (S : SeesL w0 size f v l) : SeesL w size f v l := S.kept M.kept yB1
theorem qBz (size : Nat) (f : α → List Value) (hf : ∀ x, (f x).length = size) (w : World) : SeesL w size f (.slice none 0 0) [] := ⟨Sees_nil _ _, hf⟩
theorem SeesL.own {F : List Nat} (M : Mem F w0 w L) (i : Nat) {n : Nat} (hi : L[i]? = some (.sl size v n (l.flatMap f))) (hn : n = l.length) (hf : ∀ x, (f x).length = size) : SeesL w size f v l := by
 subst hn; exact ⟨Own.sees (M.ok i _ hi), hf⟩
theorem w_see (M : Mem [] w0 w L) {g so n cap : Nat} (S : SeesL w0 size f (.slice (some ⟨g, so, none⟩) n cap) l) {k : Nat} {x : α} (hk : l[k]? = some x) (t : TypeId) (op : Operand) (ho : o.op = .load t op) {off : Nat} (hx : a.eval op = .pointer (some ⟨g, off, none⟩)) (hw : Region.wanted o (yielded ops a.tmps) = true)
  (ht : scalarT P t = true) (j : Nat) (hoff : off = so + (k * size + j)) {val : Value} (hv : (f x)[j]? = some val) (h : wpList P ops Q rest (a.put o.dst val) w) : wpList P ops Q (o :: rest) a w :=
 wpW hw fun _ hK => by
  subst hoff
  unfold Oper.wp execOp
  simp only [ho, hx, Instr.loadAt, Instr.sureAddr, Sem.run_bind, Sem.run_pure, Result.andThen_ok, qAX ht w g _ val ((S.now M).cell hk hv)]
  exact hK _ _ h
theorem qBD (M : Mem [] w0 w L) {g so n cap : Nat} (S : SeesL w0 size f (.slice (some ⟨g, so, none⟩) n cap) l) {k : Nat} {x : α} (hk : l[k]? = some x) (t : TypeId) (op : Operand) (ho : o.op = .load t op) {off : Nat} (hx : a.eval op = .pointer (some ⟨g, off, none⟩)) (hw : Region.wanted o (yielded ops a.tmps) = true)
  (ht : rowT P t = true) (hoff : off = so + k * size) (hn : (P.info? t).map (·.size) = some (f x).length) (h : wpList P ops Q rest (a.put o.dst (.agg (f x).toArray)) w) : wpList P ops Q (o :: rest) a w :=
 wpW hw fun _ hK => by
  subst hoff
  unfold rowT at ht
  cases hu : P.underlying t with
  | none => simp [hu] at ht
  | some d =>
   simp only [hu] at ht
   refine wp_load_mid t op ho g _ hx (f x) d ?_ hu ht hn (hK _ _ h)
   intro j val hv
   rw [Nat.add_assoc]
   exact (S.now M).cell hk hv
theorem qDs (M : Mem [] w0 w L) {is : List Nat} {g so n cap : Nat} (S : SeesL w0 size f (.slice (some ⟨g, so, none⟩) n cap) l) {k : Nat} {x : α} (hk : l[k]? = some x) {t : TypeId} {op : Operand} (ho : o.op = .load t op) (ht : rowT P t = true) (hn : (P.info? t).map (·.size) = some (f x).length) :
  Stab P (IxOk M is) o (.pointer (some ⟨g, so + k * size, none⟩)) := by
 unfold rowT at ht
 cases hu : P.underlying t with
 | none => simp [hu] at ht
 | some d =>
  simp only [hu] at ht
  refine stab_load ho g _ (f x) d (fun w' hw j val hv => ?_) hu ht hn
  rw [Nat.add_assoc]
  exact (S.kept hw.1 yB1).cell hk hv
end
def prV (x : List UInt8 × List UInt8) : List Value := [.string (mkS x.1), .string (mkS x.2)]
@[go_sem] theorem qEB (a b : List UInt8) : prV (a, b) = [.string (mkS a), .string (mkS b)] := rfl
theorem qDh (x : List UInt8 × List UInt8) : (prV x).length = 2 := rfl
end TL
end Go
