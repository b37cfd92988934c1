/- Texts of this seat, put together: MsgN, MsgK, MsgT, MsgR, MsgU. Each begins with a remark that says what is proved in it, and under which conditions. -/
import Derived.Test.YtidadhbaomieiaaGreatY
import Derived.Test.YtidadhbaomieiaaGreatZf
import Derived.Test.YtidadhbaomieiaaGreatZm
set_option maxRecDepth 100000
set_option maxHeartbeats 16000000
namespace Go.Proofs.YtidadhbaomieiaaGreat
open Go.RowKit Go.TL
theorem numPutN_c (q : Mf) (_most : Int) (gm g1 g2 go : Nat) (m : Ms) (v : Value) (l : List UInt8) (w : World) (hm : m.fit) (hn : -9223372036854775808 ≤ q.get m ∧ q.get m < 0) (hl : l.length ≤ 1000000) (ho : (outC go v l).ok w)
  (R : (Chunk.row gm (msgC m)).ok w) (B2 : (Chunk.row g2 [.func (.func (mfFn q)) #[] #[]]).ok w) (n0 : gm ∉ (outC go v l).fp) (n2 : g2 ∉ (outC go v l).fp) :
  Calls Tryz.prog 164 #[.pointer (some ⟨go, 0, none⟩), .pointer (some ⟨gm, 0, none⟩), .pointer (some ⟨g2, 0, none⟩), .pointer (some ⟨g1, 0, none⟩)] w fun e w' => e = .returned (.bool false) ∧ ∃ v' l', Upd w (outC go v l) w' (outC go v' l') := by
 have M := Mem.start1 ho
 have HQ := msgC_num hm q
 obtain ⟨z, ez⟩ : ∃ z, z = q.get m := ⟨_, rfl⟩
 rw [← ez] at HQ hn
 clear ez
 replace HQ := Lib.hid HQ
 obtain ⟨hn1, hn2⟩ := hn
 cases q
 all_goals
  simp only [mfFn] at B2
  go_enter Tryz.func164, Tryz.ntmps164
  go_wp2_with ((first | ((with_reducible refine tGuard ?_); first | ((with_reducible refine qAC ?_ ?_); exact dcd) | ((with_reducible refine qAH ?_ ?_); exact dcd) | ((with_reducible refine qAI ?_ ?_); exact dcd)) | ((with_reducible refine tLoad ?_); (refine w_at _ _ rfl yI ?_; intro hx; (first | refine qBk M B2 n2 _ _ rfl hx rfl yB rfl ?_ | refine qBk M R n0 _ _ rfl hx rfl yB HQ.out ?_); clear hx)) | ((first | (go_at_call 123; refine (at1F_c _ _).mono ?_) | (go_at_call 124; refine (at2F_c _ _).mono ?_) | (go_at_call 125; refine (at3F_c _ _).mono ?_) | (go_at_call 126; refine (at4F_c _ _).mono ?_) | (go_at_call 127; refine (at5F_c _ _).mono ?_) | (go_at_call 128; refine (at6F_c _ _).mono ?_)); rintro e w1 ⟨rfl, rfl⟩) | (go_at_call 113; (refine (Num_c _ _ l (w64 z).toNat (I64 (w64 z)) rfl _ (w64 z).toNat_lt yF (M.ok 0 _ rfl)).mono ?_; rintro r w2 ⟨rfl, v1, U⟩; replace M := M.upd 0 rfl U; clear U; simp only [setC] at M)) | ((with_reducible refine tM rfl ?_); refine mS ?_; try (clear M; (first | intro g w1 M | intro w1 M); try simp only [setC] at M))) <;> (try conv => arg 5; simp only [apS, setC]))
  go_ret
  exact ⟨rfl, _, _, M.upd1 0 rfl⟩
end Go.Proofs.YtidadhbaomieiaaGreat

namespace Go
namespace TL
open Go.RowKit
def tagLk : Nat → List (List Value) → List (Nat × Value)
 | _, [] => []
 | k, x :: l => (k, .agg x.toArray) :: tagLk (k + 1) l
theorem fill_tag (size : Nat) : ∀ (l : List (List Value)) (k : Nat) (C : Array Value), (∀ x ∈ l, x.length = size) → C.size = (k + l.length) * size →
    Instr.fill (fun i => some (i * size, size)) C (tagLk k l) = some (C.toList.take (k * size) ++ l.flatten).toArray
  | [], k, C, _, hC => by
    simp only [tagLk, Instr.fill, List.flatten_nil, List.append_nil]
    rw [List.take_of_length_le (by rw [Array.length_toList, hC]; simp)]
  | x :: l, k, C, h, hC => by
    have hx := h x List.mem_cons_self
    rw [tagLk, Instr.fill]
    simp only
    have hs : (Value.agg x.toArray).cells = x.toArray := rfl
    simp only [List.length_cons] at hC
    have hsz : k * size + size ≤ C.size := by rw [hC]; have : (k + (l.length + 1)) * size = k * size + size + l.length * size := by rw [← Nat.add_assoc, Nat.succ_mul, Nat.add_mul]; omega
                                              omega
    rw [hs, if_neg (by simp [hx]; omega)]
    have e : (x.toArray.zipIdx.foldl (fun cs (c, j) => cs.setIfInBounds (k * size + j) c) C) = (C.toList.take (k * size) ++ x ++ C.toList.drop (k * size + size)).toArray := by
      have e1 := foldl_set x (k * size) C (by rw [hx]; exact hsz)
      apply Array.ext'
      rw [← Array.foldl_toList, hx] at *
      rw [← e1]
      rw [Array.toList_zipIdx]
      have : x.zipIdx (k * size) = (x.zipIdx 0).map fun p => (p.1, k * size + p.2) := by
        rw [List.zipIdx_eq_map_add]
      rw [this, List.foldl_map]
    rw [e]
    rw [fill_tag size l (k + 1) _ (fun y hy => h y (List.mem_cons_of_mem _ hy)) (by
      simp only [List.size_toArray, List.length_append, List.length_take, List.length_drop, Array.length_toList, hx]
      rw [Nat.min_eq_left yF]
      have : k + (l.length + 1) = k + 1 + l.length := by omega
      rw [this] at hC
      omega)]
    congr 2
    rw [List.flatten_cons, ← List.append_assoc]
    congr 1
    have h1 : (List.take (k * size) C.toList ++ x).length = (k + 1) * size := by rw [List.length_append, List.length_take, Array.length_toList, hx, Nat.min_eq_left yF, Nat.succ_mul]
    rw [List.take_append_of_le_length (by rw [h1]; exact Nat.le_refl _), List.take_of_length_le (by rw [h1]; exact Nat.le_refl _)]
section
variable {P : Program} {ops : Array Oper} {rest : List Oper} {o : Oper} {a : Act} {w w0 : World} {Q : Exit → Act → World → Prop} {F : List Nat} {L : List Chunk}
theorem qBs (M : Mem F w0 w L) {t e : TypeId} {size bytes : Nat} (T : SliceT P t e size bytes) (len : Nat) (parts : Array (Nat × Operand)) (ho : o.op = .buildSlice t len parts) (hw : Region.wanted o (yielded ops a.tmps) = true) (hlen : 0 < len ∧ len * size ≤ 16777216)
  (l : List (List Value)) (hl : l.length = len) (hx : ∀ x ∈ l, x.length = size) (hp : (parts.map fun (i, x) => (i, a.eval x)).toList = tagLk 0 l)
  (h : ∀ (g : Nat) (w' : World), Mem F w0 w' (.row g l.flatten :: L) → wpList P ops Q rest (a.put o.dst (.slice (some ⟨g, 0, none⟩) len len)) w') : wpList P ops Q (o :: rest) a w := by
 have T' := T
 obtain ⟨ht, ⟨i, z', hi, hz', hsize, hby, hzs⟩, hsz⟩ := T'
 refine qCI M T len parts ho hw hlen z' (by simp [hi, hz']) l.flatten ?_ h
 rw [hp, fill_tag size l 0 _ hx (by simp [hl])]
 simp
theorem w_buildA (M : Mem F w0 w L) {t e : TypeId} {bytes : Nat} (T : SliceT P t e 2 bytes) (x0 : Operand) (ho : o.op = .buildSlice t 1 #[(0, x0)]) (hw : Region.wanted o (yielded ops a.tmps) = true)
  {a0 b0 : Value} (h0 : a.eval x0 = .agg #[a0, b0])
  (h : ∀ (g : Nat) (w' : World), Mem F w0 w' (.row g [a0, b0] :: L) → wpList P ops Q rest (a.put o.dst (.slice (some ⟨g, 0, none⟩) 1 1)) w') : wpList P ops Q (o :: rest) a w :=
 qBs M T 1 _ ho hw ⟨by omega, by omega⟩ [[a0, b0]] rfl yB1 (by simp [tagLk, h0]) h
theorem w_buildC (M : Mem F w0 w L) {t e : TypeId} {bytes : Nat} (T : SliceT P t e 2 bytes) (x0 x1 x2 : Operand) (ho : o.op = .buildSlice t 3 #[(0, x0), (1, x1), (2, x2)]) (hw : Region.wanted o (yielded ops a.tmps) = true)
  {a0 b0 a1 b1 a2 b2 : Value} (h0 : a.eval x0 = .agg #[a0, b0]) (h1 : a.eval x1 = .agg #[a1, b1]) (h2 : a.eval x2 = .agg #[a2, b2])
  (h : ∀ (g : Nat) (w' : World), Mem F w0 w' (.row g [a0, b0, a1, b1, a2, b2] :: L) → wpList P ops Q rest (a.put o.dst (.slice (some ⟨g, 0, none⟩) 3 3)) w') : wpList P ops Q (o :: rest) a w :=
 qBs M T 3 _ ho hw ⟨by omega, by omega⟩ [[a0, b0], [a1, b1], [a2, b2]] rfl yB1 (by simp [tagLk, h0, h1, h2]) h
theorem w_buildD (M : Mem F w0 w L) {t e : TypeId} {bytes : Nat} (T : SliceT P t e 2 bytes) (x0 x1 x2 x3 : Operand) (ho : o.op = .buildSlice t 4 #[(0, x0), (1, x1), (2, x2), (3, x3)]) (hw : Region.wanted o (yielded ops a.tmps) = true)
  {a0 b0 a1 b1 a2 b2 a3 b3 : Value} (h0 : a.eval x0 = .agg #[a0, b0]) (h1 : a.eval x1 = .agg #[a1, b1]) (h2 : a.eval x2 = .agg #[a2, b2]) (h3 : a.eval x3 = .agg #[a3, b3])
  (h : ∀ (g : Nat) (w' : World), Mem F w0 w' (.row g [a0, b0, a1, b1, a2, b2, a3, b3] :: L) → wpList P ops Q rest (a.put o.dst (.slice (some ⟨g, 0, none⟩) 4 4)) w') : wpList P ops Q (o :: rest) a w :=
 qBs M T 4 _ ho hw ⟨by omega, by omega⟩ [[a0, b0], [a1, b1], [a2, b2], [a3, b3]] rfl yB1 (by simp [tagLk, h0, h1, h2, h3]) h
theorem w_buildF (M : Mem F w0 w L) {t e : TypeId} {bytes : Nat} (T : SliceT P t e 2 bytes) (x0 x1 x2 x3 x4 x5 : Operand) (ho : o.op = .buildSlice t 6 #[(0, x0), (1, x1), (2, x2), (3, x3), (4, x4), (5, x5)]) (hw : Region.wanted o (yielded ops a.tmps) = true)
  {a0 b0 a1 b1 a2 b2 a3 b3 a4 b4 a5 b5 : Value} (h0 : a.eval x0 = .agg #[a0, b0]) (h1 : a.eval x1 = .agg #[a1, b1]) (h2 : a.eval x2 = .agg #[a2, b2]) (h3 : a.eval x3 = .agg #[a3, b3]) (h4 : a.eval x4 = .agg #[a4, b4]) (h5 : a.eval x5 = .agg #[a5, b5])
  (h : ∀ (g : Nat) (w' : World), Mem F w0 w' (.row g [a0, b0, a1, b1, a2, b2, a3, b3, a4, b4, a5, b5] :: L) → wpList P ops Q rest (a.put o.dst (.slice (some ⟨g, 0, none⟩) 6 6)) w') : wpList P ops Q (o :: rest) a w :=
 qBs M T 6 _ ho hw ⟨by omega, by omega⟩ [[a0, b0], [a1, b1], [a2, b2], [a3, b3], [a4, b4], [a5, b5]] rfl yB1 (by simp [tagLk, h0, h1, h2, h3, h4, h5]) h
end
theorem row_seesL {α : Type} {w : World} {g size : Nat} {f : α → List Value} {l : List α} (h : (Chunk.row g (l.flatMap f)).ok w) (hf : ∀ x, (f x).length = size) (hl : l.length ≤ 1000000) : SeesL w size f (.slice (some ⟨g, 0, none⟩) l.length l.length) l :=
 ⟨⟨flat_len hf l, .inr ⟨g, 0, l.length, rfl, h.1, Nat.le_refl _, by simp only [maxLen]; omega, h.2.1⟩⟩, hf⟩
end TL
end Go
namespace Go.Proofs.YtidadhbaomieiaaGreat
open Go.RowKit Go.TL
theorem fieldT : SliceT Tryz.prog 168 175 2 16 := ⟨Tryz.underlying168, ⟨_, _, rfl, rfl, rfl, rfl, rfl⟩, by omega⟩
def fdV (b1 b2 : Mf → Nat) (b3 : Hf → Nat) : Fld → List Value
 | .num q => [.func (.func 164) #[] #[.pointer (some ⟨b2 q, 0, none⟩), .pointer (some ⟨b1 q, 0, none⟩)], .func (.func 165) #[] #[.pointer (some ⟨b1 q, 0, none⟩), .pointer (some ⟨b2 q, 0, none⟩)]]
 | .hash q => [.func (.func 166) #[] #[.pointer (some ⟨b3 q, 0, none⟩)], .func (.func 167) #[] #[.pointer (some ⟨b3 q, 0, none⟩)]]
 | .bat => [.func (.func 133) #[] #[], .func (.func 134) #[] #[]]
 | .prs => [.func (.func 135) #[] #[], .func (.func 136) #[] #[]]
theorem fdV_len (b1 b2 : Mf → Nat) (b3 : Hf → Nat) (f : Fld) : (fdV b1 b2 b3 f).length = 2 := by cases f <;> rfl
structure Boxes (b1 b2 : Mf → Nat) (b3 : Hf → Nat) (n : Nat) (w : World) : Prop where
 m : ∀ q, (Chunk.row (b1 q) [.int .i64 (q.most : Int)]).ok w ∧ n ≤ b1 q
 f : ∀ q, (Chunk.row (b2 q) [.func (.func (mfFn q)) #[] #[]]).ok w ∧ n ≤ b2 q
 h : ∀ q, (Chunk.row (b3 q) [.func (.func (hfFn q)) #[] #[]]).ok w ∧ n ≤ b3 q
def Fields (k : UInt8) (w : World) (e : Ending) (w' : World) : Prop := ∃ (b1 b2 : Mf → Nat) (b3 : Hf → Nat) (p : Option Addr) (c : Nat), e = .returned (.tuple #[.slice p (fdsL k).length c, .bool (isK k)]) ∧ Below w.heap.size w w' ∧ Boxes b1 b2 b3 w.heap.size w' ∧
 SeesL w' 2 (fdV b1 b2 b3) (.slice p (fdsL k).length c) (fdsL k) ∧ ∀ g, (Value.slice p (fdsL k).length c).ownBlock = some g → w.heap.size ≤ g
theorem fields_c (k : UInt8) (w : World) : Calls Tryz.prog 90 #[.int .u8 (I8 k)] w (Fields k w) := by
 have M := Mem.start [] w
 by_cases hk : isK k = true
 ·rcases kinds hk with rfl | rfl | rfl | rfl | rfl | rfl | rfl
  all_goals
   clear hk
   go_enter Tryz.func90, Tryz.ntmps90
   go_wp2_with ((first | (go_at_call 122; (first | ((with_reducible refine (qAt 9223372036854775807 123 _).mono ?_); rintro e w1 ⟨e1, e2, rfl, N⟩; simp only [numF]; replace M := M.join N; clear N; simp only [List.cons_append, List.nil_append] at M) | ((with_reducible refine (qAt 9223372036854775807 124 _).mono ?_); rintro e w1 ⟨a1, a2, rfl, N⟩; simp only [numF]; replace M := M.join N; clear N; simp only [List.cons_append, List.nil_append] at M) | ((with_reducible refine (qAt 9223372036854775807 125 _).mono ?_); rintro e w1 ⟨o1, o2, rfl, N⟩; simp only [numF]; replace M := M.join N; clear N; simp only [List.cons_append, List.nil_append] at M) | ((with_reducible refine (qAt 9223372036854775807 126 _).mono ?_); rintro e w1 ⟨p1, p2, rfl, N⟩; simp only [numF]; replace M := M.join N; clear N; simp only [List.cons_append, List.nil_append] at M) | ((with_reducible refine (qAt 4 127 _).mono ?_); rintro e w1 ⟨v1, v2, rfl, N⟩; simp only [numF]; replace M := M.join N; clear N; simp only [List.cons_append, List.nil_append] at M) | ((with_reducible refine (qAt 15 128 _).mono ?_); rintro e w1 ⟨i1, i2, rfl, N⟩; simp only [numF]; replace M := M.join N; clear N; simp only [List.cons_append, List.nil_append] at M))) | (go_at_call 129; (first | ((with_reducible refine (qCS 130 _).mono ?_); rintro e w1 ⟨r1, rfl, N⟩; simp only [hashF]; replace M := M.join N; clear N; simp only [List.cons_append, List.nil_append] at M) | ((with_reducible refine (qCS 131 _).mono ?_); rintro e w1 ⟨l1, rfl, N⟩; simp only [hashF]; replace M := M.join N; clear N; simp only [List.cons_append, List.nil_append] at M) | ((with_reducible refine (qCS 132 _).mono ?_); rintro e w1 ⟨t1, rfl, N⟩; simp only [hashF]; replace M := M.join N; clear N; simp only [List.cons_append, List.nil_append] at M))) | ((with_reducible refine tAlloc (some 4) 175 ?_); refine wal M _ rfl rfl ([.nilFunc, .nilFunc]) yD ?_; clear M; intro z0 w1 M) | ((with_reducible refine tAlloc (some 5) 175 ?_); refine wal M _ rfl rfl ([.nilFunc, .nilFunc]) yD ?_; clear M; intro z1 w1 M) | ((with_reducible refine tAlloc (some 6) 175 ?_); refine wal M _ rfl rfl ([.nilFunc, .nilFunc]) yD ?_; clear M; intro z2 w1 M) | ((with_reducible refine tAlloc (some 7) 175 ?_); refine wal M _ rfl rfl ([.nilFunc, .nilFunc]) yD ?_; clear M; intro z3 w1 M) | ((with_reducible refine tAlloc (some 8) 175 ?_); refine wal M _ rfl rfl ([.nilFunc, .nilFunc]) yD ?_; clear M; intro z4 w1 M) | ((with_reducible refine tAlloc (some 9) 175 ?_); refine wal M _ rfl rfl ([.nilFunc, .nilFunc]) yD ?_; clear M; intro z5 w1 M) | ((with_reducible refine tAlloc (some 10) 175 ?_); refine wal M _ rfl rfl ([.nilFunc, .nilFunc]) yD ?_; clear M; intro z6 w1 M) | ((with_reducible refine tAlloc (some 11) 175 ?_); refine wal M _ rfl rfl ([.nilFunc, .nilFunc]) yD ?_; clear M; intro z7 w1 M) | ((with_reducible refine tAlloc (some 12) 175 ?_); refine wal M _ rfl rfl ([.nilFunc, .nilFunc]) yD ?_; clear M; intro z8 w1 M) | ((with_reducible show wpList _ _ _ (Oper.mk _ (Op.buildSlice _ 1 _) _ _ _ _ :: _) _ _); (refine w_buildA M fieldT _ rfl rfl yR ?_; clear M; intro gs w1 M)) | ((with_reducible show wpList _ _ _ (Oper.mk _ (Op.buildSlice _ 3 _) _ _ _ _ :: _) _ _); (refine w_buildC M fieldT _ _ _ rfl rfl yR yR yR ?_; clear M; intro gs w1 M)) | ((with_reducible show wpList _ _ _ (Oper.mk _ (Op.buildSlice _ 4 _) _ _ _ _ :: _) _ _); (refine w_buildD M fieldT _ _ _ _ rfl rfl yR yR yR yR ?_; clear M; intro gs w1 M)) | ((with_reducible show wpList _ _ _ (Oper.mk _ (Op.buildSlice _ 6 _) _ _ _ _ :: _) _ _); (refine w_buildF M fieldT _ _ _ _ _ _ rfl rfl yR yR yR yR yR yR ?_; clear M; intro gs w1 M)) | ((with_reducible refine tLoad ?_); (refine w_at _ _ rfl yI ?_; intro hx; (first | refine qAm M 21 _ _ rfl rfl hx rfl yB yD ?_ | refine qAm M 18 _ _ rfl rfl hx rfl yB yD ?_ | refine qAm M 15 _ _ rfl rfl hx rfl yB yD ?_ | refine qAm M 12 _ _ rfl rfl hx rfl yB yD ?_ | refine qAm M 9 _ _ rfl rfl hx rfl yB yD ?_ | refine qAm M 6 _ _ rfl rfl hx rfl yB yD ?_ | refine qAm M 4 _ _ rfl rfl hx rfl yB yD ?_ | refine qAm M 2 _ _ rfl rfl hx rfl yB yD ?_ | refine qAm M 0 _ _ rfl rfl hx rfl yB yD ?_); clear hx)) | ((with_reducible refine tM rfl ?_); refine mS ?_; try (clear M; (first | intro g w1 M | intro w1 M); try simp only [setC] at M))) <;> (try conv => arg 5; simp only [apS, setC]))
   go_ret2
   have own : ∀ (i : Nat) (g : Nat) (cs : List Value), _ → w.heap.size ≤ g := fun i g cs h => (M.own i (.row g cs) h g yG1).resolve_left yB1
   exact ⟨fun q => match q with | .e => e1 | .a => a1 | .o => o1 | .p => p1 | .v => v1 | .i => i1, fun q => match q with | .e => e2 | .a => a2 | .o => o2 | .p => p2 | .v => v2 | .i => i2, fun q => match q with | .r => r1 | .lf => l1 | .rt => t1, some ⟨gs, 0, none⟩, _, rfl, M.below, ⟨fun q => by cases q <;> first | exact ⟨M.ok 24 _ rfl, own 24 _ _ rfl⟩ | exact ⟨M.ok 21 _ rfl, own 21 _ _ rfl⟩ | exact ⟨M.ok 18 _ rfl, own 18 _ _ rfl⟩ | exact ⟨M.ok 15 _ rfl, own 15 _ _ rfl⟩ | exact ⟨M.ok 12 _ rfl, own 12 _ _ rfl⟩ | exact ⟨M.ok 9 _ rfl, own 9 _ _ rfl⟩, fun q => by cases q <;> first | exact ⟨M.ok 23 _ rfl, own 23 _ _ rfl⟩ | exact ⟨M.ok 20 _ rfl, own 20 _ _ rfl⟩ | exact ⟨M.ok 17 _ rfl, own 17 _ _ rfl⟩ | exact ⟨M.ok 14 _ rfl, own 14 _ _ rfl⟩ | exact ⟨M.ok 11 _ rfl, own 11 _ _ rfl⟩ | exact ⟨M.ok 8 _ rfl, own 8 _ _ rfl⟩, fun q => by cases q <;> first | exact ⟨M.ok 6 _ rfl, own 6 _ _ rfl⟩ | exact ⟨M.ok 4 _ rfl, own 4 _ _ rfl⟩ | exact ⟨M.ok 2 _ rfl, own 2 _ _ rfl⟩⟩, row_seesL (l := fdsL _) (M.ok 0 _ rfl) (fdV_len _ _ _) yN, fun g h => by cases h; exact own 0 _ _ rfl⟩
 ·have h0 : fdsL k = [] := by
   unfold fdsL
   have : ∀ j : UInt8, isK j = true → ¬ k = j := fun j hj e => hk (e ▸ hj)
   rw [if_neg (this 1 yN), if_neg (this 2 yN), if_neg (this 3 yN), if_neg (this 4 yN), if_neg (this 5 yN), if_neg (this 6 yN), if_neg (this 7 yN)]
  have h1 : isK k = false := by cases h : isK k <;> simp_all
  have hne : ∀ j : UInt8, isK j = true → (I8 k == I8 j) = false := fun j hj => by
   rw [beq_eq_false_iff_ne]; intro e; rw [I8_inj] at e; exact hk (e ▸ hj)
  have n1 : (I8 k == 1) = false := hne 1 yN
  have n2 : (I8 k == 2) = false := hne 2 yN
  have n3 : (I8 k == 3) = false := hne 3 yN
  have n4 : (I8 k == 4) = false := hne 4 yN
  have n5 : (I8 k == 5) = false := hne 5 yN
  have n6 : (I8 k == 6) = false := hne 6 yN
  have n7 : (I8 k == 7) = false := hne 7 yN
  unfold Fields
  rw [h0, h1]
  clear h0 h1 hk hne
  go_enter Tryz.func90, Tryz.ntmps90
  go_wp2_with ((first | (go_at_call 122; (first | ((with_reducible refine (qAt 9223372036854775807 123 _).mono ?_); rintro e w1 ⟨e1, e2, rfl, N⟩; simp only [numF]; replace M := M.join N; clear N; simp only [List.cons_append, List.nil_append] at M) | ((with_reducible refine (qAt 9223372036854775807 124 _).mono ?_); rintro e w1 ⟨a1, a2, rfl, N⟩; simp only [numF]; replace M := M.join N; clear N; simp only [List.cons_append, List.nil_append] at M) | ((with_reducible refine (qAt 9223372036854775807 125 _).mono ?_); rintro e w1 ⟨o1, o2, rfl, N⟩; simp only [numF]; replace M := M.join N; clear N; simp only [List.cons_append, List.nil_append] at M) | ((with_reducible refine (qAt 9223372036854775807 126 _).mono ?_); rintro e w1 ⟨p1, p2, rfl, N⟩; simp only [numF]; replace M := M.join N; clear N; simp only [List.cons_append, List.nil_append] at M) | ((with_reducible refine (qAt 4 127 _).mono ?_); rintro e w1 ⟨v1, v2, rfl, N⟩; simp only [numF]; replace M := M.join N; clear N; simp only [List.cons_append, List.nil_append] at M) | ((with_reducible refine (qAt 15 128 _).mono ?_); rintro e w1 ⟨i1, i2, rfl, N⟩; simp only [numF]; replace M := M.join N; clear N; simp only [List.cons_append, List.nil_append] at M))) | (go_at_call 129; (first | ((with_reducible refine (qCS 130 _).mono ?_); rintro e w1 ⟨r1, rfl, N⟩; simp only [hashF]; replace M := M.join N; clear N; simp only [List.cons_append, List.nil_append] at M) | ((with_reducible refine (qCS 131 _).mono ?_); rintro e w1 ⟨l1, rfl, N⟩; simp only [hashF]; replace M := M.join N; clear N; simp only [List.cons_append, List.nil_append] at M) | ((with_reducible refine (qCS 132 _).mono ?_); rintro e w1 ⟨t1, rfl, N⟩; simp only [hashF]; replace M := M.join N; clear N; simp only [List.cons_append, List.nil_append] at M))) | ((with_reducible refine tAlloc (some 4) 175 ?_); refine wal M _ rfl rfl ([.nilFunc, .nilFunc]) yD ?_; clear M; intro z0 w1 M) | ((with_reducible refine tAlloc (some 5) 175 ?_); refine wal M _ rfl rfl ([.nilFunc, .nilFunc]) yD ?_; clear M; intro z1 w1 M) | ((with_reducible refine tAlloc (some 6) 175 ?_); refine wal M _ rfl rfl ([.nilFunc, .nilFunc]) yD ?_; clear M; intro z2 w1 M) | ((with_reducible refine tAlloc (some 7) 175 ?_); refine wal M _ rfl rfl ([.nilFunc, .nilFunc]) yD ?_; clear M; intro z3 w1 M) | ((with_reducible refine tAlloc (some 8) 175 ?_); refine wal M _ rfl rfl ([.nilFunc, .nilFunc]) yD ?_; clear M; intro z4 w1 M) | ((with_reducible refine tAlloc (some 9) 175 ?_); refine wal M _ rfl rfl ([.nilFunc, .nilFunc]) yD ?_; clear M; intro z5 w1 M) | ((with_reducible refine tAlloc (some 10) 175 ?_); refine wal M _ rfl rfl ([.nilFunc, .nilFunc]) yD ?_; clear M; intro z6 w1 M) | ((with_reducible refine tAlloc (some 11) 175 ?_); refine wal M _ rfl rfl ([.nilFunc, .nilFunc]) yD ?_; clear M; intro z7 w1 M) | ((with_reducible refine tAlloc (some 12) 175 ?_); refine wal M _ rfl rfl ([.nilFunc, .nilFunc]) yD ?_; clear M; intro z8 w1 M) | ((with_reducible show wpList _ _ _ (Oper.mk _ (Op.buildSlice _ 1 _) _ _ _ _ :: _) _ _); (refine w_buildA M fieldT _ rfl rfl yR ?_; clear M; intro gs w1 M)) | ((with_reducible show wpList _ _ _ (Oper.mk _ (Op.buildSlice _ 3 _) _ _ _ _ :: _) _ _); (refine w_buildC M fieldT _ _ _ rfl rfl yR yR yR ?_; clear M; intro gs w1 M)) | ((with_reducible show wpList _ _ _ (Oper.mk _ (Op.buildSlice _ 4 _) _ _ _ _ :: _) _ _); (refine w_buildD M fieldT _ _ _ _ rfl rfl yR yR yR yR ?_; clear M; intro gs w1 M)) | ((with_reducible show wpList _ _ _ (Oper.mk _ (Op.buildSlice _ 6 _) _ _ _ _ :: _) _ _); (refine w_buildF M fieldT _ _ _ _ _ _ rfl rfl yR yR yR yR yR yR ?_; clear M; intro gs w1 M)) | ((with_reducible refine tLoad ?_); (refine w_at _ _ rfl yI ?_; intro hx; (first | refine qAm M 21 _ _ rfl rfl hx rfl yB yD ?_ | refine qAm M 18 _ _ rfl rfl hx rfl yB yD ?_ | refine qAm M 15 _ _ rfl rfl hx rfl yB yD ?_ | refine qAm M 12 _ _ rfl rfl hx rfl yB yD ?_ | refine qAm M 9 _ _ rfl rfl hx rfl yB yD ?_ | refine qAm M 6 _ _ rfl rfl hx rfl yB yD ?_ | refine qAm M 4 _ _ rfl rfl hx rfl yB yD ?_ | refine qAm M 2 _ _ rfl rfl hx rfl yB yD ?_ | refine qAm M 0 _ _ rfl rfl hx rfl yB yD ?_); clear hx)) | ((with_reducible refine tM rfl ?_); refine mS ?_; try (clear M; (first | intro g w1 M | intro w1 M); try simp only [setC] at M))) <;> (try conv => arg 5; simp only [apS, setC]))
  go_ret2
  have own : ∀ (i : Nat) (g : Nat) (cs : List Value), _ → w.heap.size ≤ g := fun i g cs h => (M.own i (.row g cs) h g yG1).resolve_left yB1
  exact ⟨fun q => match q with | .e => e1 | .a => a1 | .o => o1 | .p => p1 | .v => v1 | .i => i1, fun q => match q with | .e => e2 | .a => a2 | .o => o2 | .p => p2 | .v => v2 | .i => i2, fun q => match q with | .r => r1 | .lf => l1 | .rt => t1, none, 0, rfl, M.below, ⟨fun q => by cases q <;> first | exact ⟨M.ok 23 _ rfl, own 23 _ _ rfl⟩ | exact ⟨M.ok 20 _ rfl, own 20 _ _ rfl⟩ | exact ⟨M.ok 17 _ rfl, own 17 _ _ rfl⟩ | exact ⟨M.ok 14 _ rfl, own 14 _ _ rfl⟩ | exact ⟨M.ok 11 _ rfl, own 11 _ _ rfl⟩ | exact ⟨M.ok 8 _ rfl, own 8 _ _ rfl⟩, fun q => by cases q <;> first | exact ⟨M.ok 22 _ rfl, own 22 _ _ rfl⟩ | exact ⟨M.ok 19 _ rfl, own 19 _ _ rfl⟩ | exact ⟨M.ok 16 _ rfl, own 16 _ _ rfl⟩ | exact ⟨M.ok 13 _ rfl, own 13 _ _ rfl⟩ | exact ⟨M.ok 10 _ rfl, own 10 _ _ rfl⟩ | exact ⟨M.ok 7 _ rfl, own 7 _ _ rfl⟩, fun q => by cases q <;> first | exact ⟨M.ok 5 _ rfl, own 5 _ _ rfl⟩ | exact ⟨M.ok 3 _ rfl, own 3 _ _ rfl⟩ | exact ⟨M.ok 1 _ rfl, own 1 _ _ rfl⟩⟩, qBz _ _ (fdV_len _ _ _) _, fun g h => by cases h⟩
end Go.Proofs.YtidadhbaomieiaaGreat

namespace Go
namespace TL
open Go.RowKit
def msK (gi gm : Nat) (x : InS) (L : Lm) (ov pv : Value) : List Chunk := [.row gi (inV x), .row gm (msgC (L.ms ov pv)), .sl 3 ov L.ops.length (L.ops.flatMap opV), .sl 2 pv L.prs.length (L.prs.flatMap prV)]
def GetP (gi gm : Nat) (F : List Nat) (w : World) (t : Nat × Lm × InS) (e : Ending) (w' : World) : Prop := e = .returned (.int .i64 t.1) ∧ ∃ ov pv, Mem F w w' (msK gi gm t.2.2 t.2.1 ov pv)
theorem Mem.apart {F : List Nat} {w0 w : World} {L : List Chunk} (M : Mem F w0 w L) {b : Nat} (hb : b < w0.heap.size) (hF : b ∉ F) {i : Nat} {c : Chunk} (hc : L[i]? = some c) : b ∉ c.fp := fun h => by
 rcases M.own i c hc b h with h | h
 ·exact hF h
 ·omega
theorem Mem.aparts {F : List Nat} {w0 w : World} {L : List Chunk} (M : Mem F w0 w L) {b : Nat} (hb : b < w0.heap.size) (hF : b ∉ F) : b ∉ L.flatMap Chunk.fp := fun h => by
 obtain ⟨c, hc, h⟩ := List.mem_flatMap.1 h
 obtain ⟨i, hi⟩ := List.mem_iff_getElem?.1 hc
 exact M.apart hb hF hi h
theorem Mem.again0 {F : List Nat} {w0 w : World} {K : List Chunk} (M : Mem F w0 w K) : Mem (K.flatMap Chunk.fp) w w K := Mem.again (L := []) (by rw [List.append_nil]; exact M)
theorem Mem.turn0 {F : List Nat} {w0 w w' : World} {K K' : List Chunk} (M : Mem F w0 w K) (U : Mem (K.flatMap Chunk.fp) w w' K') : Mem F w0 w' K' := by
 have := Mem.turn (L := []) (by rw [List.append_nil]; exact M) U
 rwa [List.append_nil] at this
theorem sl_fit {L : Lm} (hL : L.fit) {gi gm : Nat} {x : InS} {ov pv : Value} {F : List Nat} {w0 w : World} (M : Mem F w0 w (msK gi gm x L ov pv)) : (L.ms ov pv).fit := by
 obtain ⟨op, oc, rfl⟩ := qCw (M.ok 2 _ rfl)
 obtain ⟨pp, pc, rfl⟩ := qCw (M.ok 3 _ rfl)
 exact Lm.ms_fit hL rfl rfl
theorem Fld.get_prs {L : Lm} {x : InS} (f : Fld) : (f.get L x).2.1.prs.length ≤ L.prs.length + 48 := by
 cases f with
 | num q =>
  have : (q.sl L ((x.most q.most).1 : Int)).prs = L.prs := by cases q <;> rfl
  show (q.sl L ((x.most q.most).1 : Int)).prs.length ≤ _
  rw [this]; omega
 | hash q =>
  simp only [Fld.get]
  generalize hashS (q.gl L) x 32 = z
  have : (q.sl L z.2).prs = L.prs := by cases q <;> rfl
  rw [this]; omega
 | bat =>
  simp only [Fld.get]
  split
  ·exact Nat.le_add_right _ _
  ·exact Nat.le_add_right _ _
 | prs =>
  have h := InS.most_le x 48
  simp only [Fld.get]
  generalize x.most 48 = z at h ⊢
  rw [List.length_append, prS_len]; omega
end TL
end Go
namespace Go.Proofs.YtidadhbaomieiaaGreat
open Go.RowKit Go.TL
section
variable (L : Lm) (ov pv : Value) (gm gi : Nat) (x : InS) (F : List Nat) (w : World) (hL : L.fit) (hf : x.fit) (M : Mem F w w (msK gi gm x L ov pv))
include hL hf M
theorem numGetP (q : Mf) (g1 g2 : Nat) (B1 : (Chunk.row g1 [.int .i64 (q.most : Int)]).ok w) (B2 : (Chunk.row g2 [.func (.func (mfFn q)) #[] #[]]).ok w) (n1 : g1 ∉ F) (n2 : g2 ∉ F) :
  Calls Tryz.prog 165 #[.pointer (some ⟨gi, 0, none⟩), .pointer (some ⟨gm, 0, none⟩), .pointer (some ⟨g1, 0, none⟩), .pointer (some ⟨g2, 0, none⟩)] w (GetP gi gm F w ((Fld.num q).get L x)) := by
 have hm := sl_fit hL M
 have A := Mem.again (K := [.row gi (inV x), .row gm (msgC (L.ms ov pv))]) (L := [.sl 3 ov L.ops.length (L.ops.flatMap opV), .sl 2 pv L.prs.length (L.prs.flatMap prV)]) M
 have ap : ∀ b, b < w.heap.size → b ∉ F → b ∉ [Chunk.row gi (inV x), .row gm (msgC (L.ms ov pv))].flatMap Chunk.fp := fun b hb hF h => by
  refine M.aparts hb hF ?_
  simp only [msK, List.flatMap_cons, List.flatMap_nil, List.mem_append, List.not_mem_nil, or_false] at h ⊢
  rcases h with h | h
  ·exact .inl h
  ·exact .inr (.inl h)
 have hq := q.most_le
 refine (numGet_c q q.most gm g1 g2 gi (L.ms ov pv) x _ w hm hf yF A B1 B2 (ap _ B1.1 n1) (ap _ B2.1 n2)).mono ?_
 rintro e w' ⟨rfl, U⟩
 refine ⟨rfl, ov, pv, ?_⟩
 have T := Mem.turn (L := [.sl 3 ov L.ops.length (L.ops.flatMap opV), .sl 2 pv L.prs.length (L.prs.flatMap prV)]) M U
 rw [Mf.set_ms] at T
 simp only [Fld.get]
 cases q <;> exact T
theorem hashGetP (q : Hf) (g1 : Nat) (B1 : (Chunk.row g1 [.func (.func (hfFn q)) #[] #[]]).ok w) (n1 : g1 ∉ F) :
  Calls Tryz.prog 167 #[.pointer (some ⟨gi, 0, none⟩), .pointer (some ⟨gm, 0, none⟩), .pointer (some ⟨g1, 0, none⟩)] w (GetP gi gm F w ((Fld.hash q).get L x)) := by
 have hm := sl_fit hL M
 have A := Mem.again (K := [.row gi (inV x), .row gm (msgC (L.ms ov pv))]) (L := [.sl 3 ov L.ops.length (L.ops.flatMap opV), .sl 2 pv L.prs.length (L.prs.flatMap prV)]) M
 have ap : ∀ b, b < w.heap.size → b ∉ F → b ∉ [Chunk.row gi (inV x), .row gm (msgC (L.ms ov pv))].flatMap Chunk.fp := fun b hb hF h => by
  refine M.aparts hb hF ?_
  simp only [msK, List.flatMap_cons, List.flatMap_nil, List.mem_append, List.not_mem_nil, or_false] at h ⊢
  rcases h with h | h
  ·exact .inl h
  ·exact .inr (.inl h)
 have C := hashGet_c q gm g1 gi (L.ms ov pv) x _ w hm hf A B1 (ap _ B1.1 n1)
 simp only [Fld.get]
 rw [Hf.get_ms] at C
 generalize hashS (q.gl L) x 32 = z at C ⊢
 rw [Hf.set_ms] at C
 refine C.mono ?_
 rintro e w' ⟨rfl, U⟩
 refine ⟨rfl, ov, pv, ?_⟩
 have T := Mem.turn (L := [.sl 3 ov L.ops.length (L.ops.flatMap opV), .sl 2 pv L.prs.length (L.prs.flatMap prV)]) M U
 cases q <;> exact T
theorem batGetP : Calls Tryz.prog 134 #[.pointer (some ⟨gi, 0, none⟩), .pointer (some ⟨gm, 0, none⟩)] w (GetP gi gm F w (Fld.bat.get L x)) :=
 (getBatch_c L ov pv gm gi x F w hL hf M).mono fun _ _ ⟨h, ov', U⟩ => ⟨h, ov', pv, U⟩
theorem prsGetP (hp : L.prs.length ≤ 1000) : Calls Tryz.prog 136 #[.pointer (some ⟨gi, 0, none⟩), .pointer (some ⟨gm, 0, none⟩)] w (GetP gi gm F w (Fld.prs.get L x)) :=
 (getPairs_c L ov pv gm gi x F w hL hf hp M).mono fun _ _ ⟨h, pv', U⟩ => ⟨h, ov, pv', U⟩
end
end Go.Proofs.YtidadhbaomieiaaGreat

namespace Go
namespace TL
open Go.RowKit
theorem readM_err {s : List UInt8} {kb : UInt8} {y : InS} (h : (inStart s).byte = (kb.toNat, y)) (hy : y.err ≠ 0) : readM s = (zeroL, y.err) := by
 unfold readM; rw [h]; simp only; rw [if_neg hy]
theorem qGM {s : List UInt8} {kb : UInt8} {y : InS} (h : (inStart s).byte = (kb.toNat, y)) (hy : y.err = 0) (hk : isK kb = false) : readM s = (zeroL, 10) := by
 unfold readM; rw [h]; simp only [UInt8.ofNat_toNat]; rw [if_pos hy, if_neg (by rw [hk]; decide)]
theorem qDA {s : List UInt8} {kb : UInt8} {y : InS} (h : (inStart s).byte = (kb.toNat, y)) (hy : y.err = 0) (hk : isK kb = true) (r : Nat) (L : Lm) (x : InS) (hr : runF (fdsL kb) (kindL kb) y = (r, L, x)) :
  readM s = if r = 0 then (if x.fin = 0 then (L, 0) else (zeroL, x.fin)) else (zeroL, r) := by
 unfold readM; rw [h]; simp only [UInt8.ofNat_toNat]; rw [if_pos hy, if_pos hk, hr]
theorem runF_nil (L : Lm) (x : InS) : runF [] L x = (0, L, x) := rfl
theorem runF_go {f : Fld} {l : List Fld} {L : Lm} {x : InS} {r : Nat} {L' : Lm} {x' : InS} (h : f.get L x = (r, L', x')) (h0 : r = 0) (h1 : x'.err = 0) : runF (f :: l) L x = runF l L' x' := by
 rw [runF, h, Fld.say]; simp only; rw [if_pos h1, if_pos h0]
theorem runF_say {f : Fld} {l : List Fld} {L : Lm} {x : InS} {r : Nat} {L' : Lm} {x' : InS} (h : f.get L x = (r, L', x')) (h0 : r ≠ 0) (h1 : x'.err = 0) : runF (f :: l) L x = (r, L', x') := by
 rw [runF, h, Fld.say]; simp only; rw [if_pos h1, if_neg h0]
theorem runF_err {f : Fld} {l : List Fld} {L : Lm} {x : InS} {r : Nat} {L' : Lm} {x' : InS} (h : f.get L x = (r, L', x')) (h1 : x'.err ≠ 0) : runF (f :: l) L x = (x'.err, L', x') := by
 rw [runF, h, Fld.say]; simp only; rw [if_neg h1, if_neg h1]
def GivesM (t : Lm × Nat) (w : World) (e : Ending) (w' : World) : Prop := ∃ ov pv, e = .returned (.tuple #[.agg (msgC (t.1.ms ov pv)).toArray, .int .i64 t.2]) ∧ Mem [] w w' [.sl 3 ov t.1.ops.length (t.1.ops.flatMap opV), .sl 2 pv t.1.prs.length (t.1.prs.flatMap prV)]
theorem GivesM.zero {w w' : World} {r : Nat} {L : List Chunk} (M : Mem [] w w' L) : GivesM (zeroL, r) w (.returned (.tuple #[.agg (msgC zeroM).toArray, .int .i64 r])) w' :=
 ⟨.slice none 0 0, .slice none 0 0, rfl, ((M.nil 2).nil 3).sel [0, 1] _ yN rfl⟩
theorem zeroM_len : (msgC zeroM).length = 107 := qAs qAA
end TL
end Go
namespace Go.Proofs.YtidadhbaomieiaaGreat
open Go.RowKit Go.TL
theorem qFr (b1 b2 : Mf → Nat) (b3 : Hf → Nat) (q : Mf) : fdV b1 b2 b3 (.num q) = [.func (.func 164) #[] #[.pointer (some ⟨b2 q, 0, none⟩), .pointer (some ⟨b1 q, 0, none⟩)], .func (.func 165) #[] #[.pointer (some ⟨b1 q, 0, none⟩), .pointer (some ⟨b2 q, 0, none⟩)]] := rfl
theorem qEK (b1 b2 : Mf → Nat) (b3 : Hf → Nat) (q : Hf) : fdV b1 b2 b3 (.hash q) = [.func (.func 166) #[] #[.pointer (some ⟨b3 q, 0, none⟩)], .func (.func 167) #[] #[.pointer (some ⟨b3 q, 0, none⟩)]] := rfl
theorem qFs (b1 b2 : Mf → Nat) (b3 : Hf → Nat) : fdV b1 b2 b3 .bat = [.func (.func 133) #[] #[], .func (.func 134) #[] #[]] := rfl
theorem qFq (b1 b2 : Mf → Nat) (b3 : Hf → Nat) : fdV b1 b2 b3 .prs = [.func (.func 135) #[] #[], .func (.func 136) #[] #[]] := rfl
def getN : Fld → Nat
 | .num _ => 165 | .hash _ => 167 | .bat => 134 | .prs => 136
def getA (b1 b2 : Mf → Nat) (b3 : Hf → Nat) : Fld → List Value
 | .num q => [.pointer (some ⟨b1 q, 0, none⟩), .pointer (some ⟨b2 q, 0, none⟩)] | .hash q => [.pointer (some ⟨b3 q, 0, none⟩)] | _ => []
theorem get_all {n : Nat} {w5 : World} {b1 b2 : Mf → Nat} {b3 : Hf → Nat} (BX : Boxes b1 b2 b3 n w5) {F : List Nat} (hF : ∀ b, n ≤ b → b ∉ F) {L : Lm} {x : InS} (hL : L.fit) (hf : x.fit) (hp : L.prs.length ≤ 1000) (gi gm : Nat) (ov pv : Value) (R : List Chunk) (f : Fld) (w : World) (M : Mem F w5 w (msK gi gm x L ov pv ++ R)) :
  Calls Tryz.prog (getN f) (.pointer (some ⟨gi, 0, none⟩) :: .pointer (some ⟨gm, 0, none⟩) :: getA b1 b2 b3 f).toArray w fun e w' => e = .returned (.int .i64 (f.get L x).1) ∧ ∃ ov' pv', Mem F w5 w' (msK gi gm (f.get L x).2.2 (f.get L x).2.1 ov' pv' ++ R) := by
 have N := Mem.again M
 have ap : ∀ b, b < w5.heap.size → n ≤ b → b ∉ (msK gi gm x L ov pv).flatMap Chunk.fp := fun b hb hn h => by
  refine M.aparts hb (hF b hn) ?_
  rw [List.flatMap_append]
  exact List.mem_append_left _ h
 have st : ∀ (b : Nat) (cs : List Value), (Chunk.row b cs).ok w5 → n ≤ b → (Chunk.row b cs).ok w := fun b cs h hn => M.staysF h fun k hk => by
  simp only [Chunk.fp, List.mem_singleton] at hk; subst hk; exact hF _ hn
 cases f with
 | num q => exact (numGetP L ov pv gm gi x _ w hL hf N q (b1 q) (b2 q) (st _ _ (BX.m q).1 (BX.m q).2) (st _ _ (BX.f q).1 (BX.f q).2) (ap _ (BX.m q).1.1 (BX.m q).2) (ap _ (BX.f q).1.1 (BX.f q).2)).mono fun e w' ⟨h, ov', pv', U⟩ => ⟨h, ov', pv', Mem.turn M U⟩
 | hash q => exact (hashGetP L ov pv gm gi x _ w hL hf N q (b3 q) (st _ _ (BX.h q).1 (BX.h q).2) (ap _ (BX.h q).1.1 (BX.h q).2)).mono fun e w' ⟨h, ov', pv', U⟩ => ⟨h, ov', pv', Mem.turn M U⟩
 | bat => exact (batGetP L ov pv gm gi x _ w hL hf N).mono fun e w' ⟨h, ov', pv', U⟩ => ⟨h, ov', pv', Mem.turn M U⟩
 | prs => exact (prsGetP L ov pv gm gi x _ w hL hf N hp).mono fun e w' ⟨h, ov', pv', U⟩ => ⟨h, ov', pv', Mem.turn M U⟩
end Go.Proofs.YtidadhbaomieiaaGreat

namespace Go
namespace TL
open Go.RowKit
structure Lm.rng (L : Lm) : Prop where
 num : ∀ q : Mf, -9223372036854775808 ≤ q.gl L ∧ q.gl L ≤ 9223372036854775807
 be : L.be ≤ 9223372036854775807
 o1 : L.ops.length ≤ 1000
 o2 : ∀ x ∈ L.ops, x.2.1.length ≤ 100000 ∧ x.2.2.length ≤ 100000
 p1 : L.prs.length ≤ 1000
 p2 : ∀ x ∈ L.prs, x.1.length ≤ 100000 ∧ x.2.length ≤ 100000
 p3 : (L.prs.flatMap prBm).length ≤ 100000
theorem SeesL.old {α : Type} {w : World} {size : Nat} {f : α → List Value} {v : Value} {l : List α} (S : SeesL w size f v l) (h0 : 0 < l.length) : ∀ k, v.ownBlock = some k → k < w.heap.size := fun k hk => by
 rcases S.sees.2 with ⟨_, hn⟩ | ⟨g, so, c, rfl, hlt, _⟩
 ·omega
 ·cases hk; exact hlt
theorem Fld.put_len {L : Lm} (h : L.rng) (hL : L.fit) (f : Fld) : (f.put L).length ≤ 100100 := by
 cases f with
 | num q =>
  have := qAG (q.gl L).toNat (by have := (h.num q).2; omega)
  simp only [Fld.put]; omega
 | hash q =>
  have := q.gl_len hL
  simp only [Fld.put]; omega
 | bat =>
  have h1 := qGU (i := L.bi) h.be L.ops
  have h2 := qAG (bytesB L.bi L.be L.ops).1.length yF
  simp only [Fld.put, textL, List.length_append]; omega
 | prs =>
  have h1 := h.p3
  have h2 := qAG L.prs.length (by have := h.p1; omega)
  simp only [Fld.put, List.length_append]; omega
end TL
end Go
namespace Go.Proofs.YtidadhbaomieiaaGreat
open Go.RowKit Go.TL
def putN : Fld → Nat
 | .num _ => 164 | .hash _ => 166 | .bat => 133 | .prs => 135
def putA (b1 b2 : Mf → Nat) (b3 : Hf → Nat) : Fld → List Value
 | .num q => [.pointer (some ⟨b2 q, 0, none⟩), .pointer (some ⟨b1 q, 0, none⟩)] | .hash q => [.pointer (some ⟨b3 q, 0, none⟩)] | _ => []
theorem put_all {n : Nat} {w5 : World} {b1 b2 : Mf → Nat} {b3 : Hf → Nat} (BX : Boxes b1 b2 b3 n w5) {F : List Nat} (hF : ∀ b, n ≤ b → b ∉ F) {L : Lm} (hL : L.fit) (hr : L.rng) (go gm : Nat) {ov pv : Value} (S : SeesL w5 3 opV ov L.ops) (T : SeesL w5 2 prV pv L.prs)
  (hS : 0 < L.ops.length → ∀ k, ov.ownBlock = some k → k ∉ F) (hT : 0 < L.prs.length → ∀ k, pv.ownBlock = some k → k ∉ F) (R : List Chunk) (f : Fld) (v : Value) (l : List UInt8) (hl : l.length ≤ 700000) (w : World) (M : Mem F w5 w (outC go v l :: .row gm (msgC (L.ms ov pv)) :: R)) :
  Calls Tryz.prog (putN f) (.pointer (some ⟨go, 0, none⟩) :: .pointer (some ⟨gm, 0, none⟩) :: putA b1 b2 b3 f).toArray w fun e w' => ∃ v' l', e = .returned (.bool (f.ok L)) ∧ (f.ok L = true → l' = l ++ f.put L) ∧ Mem F w5 w' (outC go v' l' :: .row gm (msgC (L.ms ov pv)) :: R) := by
 obtain ⟨op, oc, rfl, _⟩ := S.form
 obtain ⟨pp, pc, rfl, _⟩ := T.form
 have hm : (L.ms (.slice op L.ops.length oc) (.slice pp L.prs.length pc)).fit := Lm.ms_fit hL rfl rfl
 have ap : ∀ b, b < w5.heap.size → n ≤ b → b ∉ (outC go v l).fp := fun b hb hn => M.apart hb (hF b hn) (i := 0) rfl
 have st : ∀ (b : Nat) (cs : List Value), (Chunk.row b cs).ok w5 → n ≤ b → (Chunk.row b cs).ok w := fun b cs h hn => M.staysF h fun k hk => by
  simp only [Chunk.fp, List.mem_singleton] at hk; subst hk; exact hF _ hn
 have n0 : gm ∉ (outC go v l).fp := fun h => M.nd 0 1 _ _ yN rfl rfl gm h yG1
 have R0 := M.ok 1 _ rfl
 have ho := M.ok 0 _ rfl
 cases f with
 | num q =>
  have hq := q.most_le
  have hn := hr.num q
  by_cases h0 : 0 ≤ q.gl L
  ·refine (numPut_c q (q.most : Int) gm (b1 q) (b2 q) go _ v l w hm (by rw [Mf.get_ms]; exact ⟨h0, hn.2⟩) yF ho R0 (st _ _ (BX.m q).1 (BX.m q).2) (st _ _ (BX.f q).1 (BX.f q).2) n0 (ap _ (BX.m q).1.1 (BX.m q).2) (ap _ (BX.f q).1.1 (BX.f q).2)).mono ?_
   rintro e w' ⟨rfl, v', U⟩
   rw [Mf.get_ms] at U ⊢
   refine ⟨v', _, ?_, fun _ => rfl, M.upd 0 rfl U⟩
   simp only [Fld.ok]
   congr 2
   by_cases h : q.gl L ≤ (q.most : Int)
   ·rw [decide_eq_true h, decide_eq_true ⟨h0, h⟩]
   ·rw [decide_eq_false h, decide_eq_false (fun hh => h hh.2)]
  ·refine (numPutN_c q (q.most : Int) gm (b1 q) (b2 q) go _ v l w hm (by rw [Mf.get_ms]; exact ⟨hn.1, by omega⟩) yF ho R0 (st _ _ (BX.f q).1 (BX.f q).2) n0 (ap _ (BX.f q).1.1 (BX.f q).2)).mono ?_
   rintro e w' ⟨rfl, v', l', U⟩
   have hk : (Fld.num q).ok L = false := by simp only [Fld.ok]; exact decide_eq_false (fun hh => h0 hh.1)
   rw [hk]
   exact ⟨v', l', rfl, fun h => (by cases h), M.upd 0 rfl U⟩
 | hash q =>
  refine (hashPut_c q gm (b3 q) go _ v l w hm yF ho R0 (st _ _ (BX.h q).1 (BX.h q).2) n0 (ap _ (BX.h q).1.1 (BX.h q).2)).mono ?_
  rintro e w' ⟨rfl, v', U⟩
  rw [Hf.get_ms] at U
  exact ⟨v', _, rfl, fun _ => rfl, M.upd 0 rfl U⟩
 | bat =>
  refine (putBatch_c L _ _ gm go v l w hm hr.be yF ho R0 n0 (S.nowF M hS) hr.o1 (fun x hx => by have := hr.o2 x hx; omega)).mono ?_
  rintro e w' ⟨rfl, v', U⟩
  exact ⟨v', _, rfl, fun _ => rfl, M.upd 0 rfl U⟩
 | prs =>
  refine (putPairs_c L _ _ gm go v l w hm hl ho R0 n0 (T.nowF M hT) (fun h0 k hk => M.apart (T.old h0 k hk) (hT h0 k hk) (i := 0) rfl) hr.p1 hr.p2 hr.p3).mono ?_
  rintro e w' ⟨rfl, v', U⟩
  exact ⟨v', _, rfl, fun _ => rfl, M.upd 0 rfl U⟩
end Go.Proofs.YtidadhbaomieiaaGreat
