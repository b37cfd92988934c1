/- Texts of this seat, put together: MsgK, MsgT, MsgR, MsgU, RegF, MsgO, FrameZ, Once, Grp, MapP, Mark, AesL, AesA. Each begins with a remark that says what is proved in it, and under which conditions. -/
import Derived.Defers
import Derived.Laws.LoneSync
import Derived.RegionCalls
import Derived.ChangeAlike
import Derived.Lib.SlBytesConst
import Derived.Test.YtidadhbaomieiaaGreatZa
import Derived.Test.YtidadhbaomieiaaGreatZb
import Derived.Test.YtidadhbaomieiaaGreatZc
import Derived.Test.YtidadhbaomieiaaGreatZd
/- The walk of msg.fields: the fields of a kind, each with its two functions. No conditions. -/
namespace Go
namespace TL
open Go.RowKit
def tagLk : Nat → List (List Value) → List (Nat × Value)
  | _, [] => []
  | k, x :: l => (k, .agg x.toArray) :: tagLk (k + 1) l
theorem fill_tag (size : Nat) : ∀ (l : List (List Value)) (k : Nat) (C : Array Value), (∀ x ∈ l, x.length = size) → C.size = (k + l.length) * size →
    Instr.fill (fun i => some (i * size, size)) C (tagLk k l) = some (C.toList.take (k * size) ++ l.flatten).toArray
  | [], k, C, _, hC => by
    simp only [tagLk, Instr.fill, List.flatten_nil, List.append_nil]
    rw [List.take_of_length_le (by rw [Array.length_toList, hC]; simp)]
  | x :: l, k, C, h, hC => by
    have hx := h x List.mem_cons_self
    rw [tagLk, Instr.fill]
    simp only
    have hs : (Value.agg x.toArray).cells = x.toArray := rfl
    simp only [List.length_cons] at hC
    have hsz : k * size + size ≤ C.size := by rw [hC]; have : (k + (l.length + 1)) * size = k * size + size + l.length * size := by rw [← Nat.add_assoc, Nat.succ_mul, Nat.add_mul]; omega
                                              omega
    rw [hs, if_neg (by simp [hx]; omega)]
    have e : (x.toArray.zipIdx.foldl (fun cs (c, j) => cs.setIfInBounds (k * size + j) c) C) = (C.toList.take (k * size) ++ x ++ C.toList.drop (k * size + size)).toArray := by
      have e1 := foldl_set x (k * size) C (by rw [hx]; exact hsz)
      apply Array.ext'
      rw [← Array.foldl_toList, hx] at *
      rw [← e1]
      rw [Array.toList_zipIdx]
      have : x.zipIdx (k * size) = (x.zipIdx 0).map fun p => (p.1, k * size + p.2) := by
        rw [List.zipIdx_eq_map_add]
      rw [this, List.foldl_map]
    rw [e]
    rw [fill_tag size l (k + 1) _ (fun y hy => h y (List.mem_cons_of_mem _ hy)) (by
      simp only [List.size_toArray, List.length_append, List.length_take, List.length_drop, Array.length_toList, hx]
      rw [Nat.min_eq_left (by omega)]
      have : k + (l.length + 1) = k + 1 + l.length := by omega
      rw [this] at hC
      omega)]
    congr 2
    rw [List.flatten_cons, ← List.append_assoc]
    congr 1
    have h1 : (List.take (k * size) C.toList ++ x).length = (k + 1) * size := by rw [List.length_append, List.length_take, Array.length_toList, hx, Nat.min_eq_left (by omega), Nat.succ_mul]
    rw [List.take_append_of_le_length (by rw [h1]; exact Nat.le_refl _), List.take_of_length_le (by rw [h1]; exact Nat.le_refl _)]
section
variable {P : Program} {ops : Array Oper} {rest : List Oper} {o : Oper} {a : Act} {w w0 : World} {Q : Exit → Act → World → Prop} {F : List Nat} {L : List Chunk}
theorem w_buildSliceN (M : Mem F w0 w L) {t e : TypeId} {size bytes : Nat} (T : SliceT P t e size bytes) (len : Nat) (parts : Array (Nat × Operand)) (ho : o.op = .buildSlice t len parts) (hw : Region.wanted o (yielded ops a.tmps) = true) (hlen : 0 < len ∧ len * size ≤ 16777216)
    (l : List (List Value)) (hl : l.length = len) (hx : ∀ x ∈ l, x.length = size) (hp : (parts.map fun (i, x) => (i, a.eval x)).toList = tagLk 0 l)
    (h : ∀ (g : Nat) (w' : World), Mem F w0 w' (.row g l.flatten :: L) → wpList P ops Q rest (a.put o.dst (.slice (some ⟨g, 0, none⟩) len len)) w') : wpList P ops Q (o :: rest) a w := by
  have T' := T
  obtain ⟨ht, ⟨i, z', hi, hz', hsize, hby, hzs⟩, hsz⟩ := T'
  refine w_buildSlice M T len parts ho hw hlen z' (by simp [hi, hz']) l.flatten ?_ h
  rw [hp, fill_tag size l 0 _ hx (by simp [hl])]
  simp
theorem w_buildA (M : Mem F w0 w L) {t e : TypeId} {bytes : Nat} (T : SliceT P t e 2 bytes) (x0 : Operand) (ho : o.op = .buildSlice t 1 #[(0, x0)]) (hw : Region.wanted o (yielded ops a.tmps) = true)
    {a0 b0 : Value} (h0 : a.eval x0 = .agg #[a0, b0])
    (h : ∀ (g : Nat) (w' : World), Mem F w0 w' (.row g [a0, b0] :: L) → wpList P ops Q rest (a.put o.dst (.slice (some ⟨g, 0, none⟩) 1 1)) w') : wpList P ops Q (o :: rest) a w :=
  w_buildSliceN M T 1 _ ho hw ⟨by omega, by omega⟩ [[a0, b0]] rfl (by simp) (by simp [tagLk, h0]) h
theorem w_buildC (M : Mem F w0 w L) {t e : TypeId} {bytes : Nat} (T : SliceT P t e 2 bytes) (x0 x1 x2 : Operand) (ho : o.op = .buildSlice t 3 #[(0, x0), (1, x1), (2, x2)]) (hw : Region.wanted o (yielded ops a.tmps) = true)
    {a0 b0 a1 b1 a2 b2 : Value} (h0 : a.eval x0 = .agg #[a0, b0]) (h1 : a.eval x1 = .agg #[a1, b1]) (h2 : a.eval x2 = .agg #[a2, b2])
    (h : ∀ (g : Nat) (w' : World), Mem F w0 w' (.row g [a0, b0, a1, b1, a2, b2] :: L) → wpList P ops Q rest (a.put o.dst (.slice (some ⟨g, 0, none⟩) 3 3)) w') : wpList P ops Q (o :: rest) a w :=
  w_buildSliceN M T 3 _ ho hw ⟨by omega, by omega⟩ [[a0, b0], [a1, b1], [a2, b2]] rfl (by simp) (by simp [tagLk, h0, h1, h2]) h
theorem w_buildD (M : Mem F w0 w L) {t e : TypeId} {bytes : Nat} (T : SliceT P t e 2 bytes) (x0 x1 x2 x3 : Operand) (ho : o.op = .buildSlice t 4 #[(0, x0), (1, x1), (2, x2), (3, x3)]) (hw : Region.wanted o (yielded ops a.tmps) = true)
    {a0 b0 a1 b1 a2 b2 a3 b3 : Value} (h0 : a.eval x0 = .agg #[a0, b0]) (h1 : a.eval x1 = .agg #[a1, b1]) (h2 : a.eval x2 = .agg #[a2, b2]) (h3 : a.eval x3 = .agg #[a3, b3])
    (h : ∀ (g : Nat) (w' : World), Mem F w0 w' (.row g [a0, b0, a1, b1, a2, b2, a3, b3] :: L) → wpList P ops Q rest (a.put o.dst (.slice (some ⟨g, 0, none⟩) 4 4)) w') : wpList P ops Q (o :: rest) a w :=
  w_buildSliceN M T 4 _ ho hw ⟨by omega, by omega⟩ [[a0, b0], [a1, b1], [a2, b2], [a3, b3]] rfl (by simp) (by simp [tagLk, h0, h1, h2, h3]) h
theorem w_buildF (M : Mem F w0 w L) {t e : TypeId} {bytes : Nat} (T : SliceT P t e 2 bytes) (x0 x1 x2 x3 x4 x5 : Operand) (ho : o.op = .buildSlice t 6 #[(0, x0), (1, x1), (2, x2), (3, x3), (4, x4), (5, x5)]) (hw : Region.wanted o (yielded ops a.tmps) = true)
    {a0 b0 a1 b1 a2 b2 a3 b3 a4 b4 a5 b5 : Value} (h0 : a.eval x0 = .agg #[a0, b0]) (h1 : a.eval x1 = .agg #[a1, b1]) (h2 : a.eval x2 = .agg #[a2, b2]) (h3 : a.eval x3 = .agg #[a3, b3]) (h4 : a.eval x4 = .agg #[a4, b4]) (h5 : a.eval x5 = .agg #[a5, b5])
    (h : ∀ (g : Nat) (w' : World), Mem F w0 w' (.row g [a0, b0, a1, b1, a2, b2, a3, b3, a4, b4, a5, b5] :: L) → wpList P ops Q rest (a.put o.dst (.slice (some ⟨g, 0, none⟩) 6 6)) w') : wpList P ops Q (o :: rest) a w :=
  w_buildSliceN M T 6 _ ho hw ⟨by omega, by omega⟩ [[a0, b0], [a1, b1], [a2, b2], [a3, b3], [a4, b4], [a5, b5]] rfl (by simp) (by simp [tagLk, h0, h1, h2, h3, h4, h5]) h
end
theorem row_seesL {α : Type} {w : World} {g size : Nat} {f : α → List Value} {l : List α} (h : (Chunk.row g (l.flatMap f)).ok w) (hf : ∀ x, (f x).length = size) (hl : l.length ≤ 1000000) : SeesL w size f (.slice (some ⟨g, 0, none⟩) l.length l.length) l :=
  ⟨⟨flat_len hf l, .inr ⟨g, 0, l.length, rfl, h.1, Nat.le_refl _, by simp only [maxLen]; omega, h.2.1⟩⟩, hf⟩
end TL
end Go
namespace Go.Proofs.YtidadhbaomieiaaGreat
open Go.RowKit Go.TL
set_option maxRecDepth 100000 in
theorem fieldT : SliceT Tryz.prog 168 175 2 16 := ⟨Tryz.underlying168, ⟨_, _, rfl, rfl, rfl, rfl, rfl⟩, by omega⟩
def fdV (b1 b2 : Mf → Nat) (b3 : Hf → Nat) : Fld → List Value
  | .num q => [.func (.func 164) #[] #[.pointer (some ⟨b2 q, 0, none⟩), .pointer (some ⟨b1 q, 0, none⟩)], .func (.func 165) #[] #[.pointer (some ⟨b1 q, 0, none⟩), .pointer (some ⟨b2 q, 0, none⟩)]]
  | .hash q => [.func (.func 166) #[] #[.pointer (some ⟨b3 q, 0, none⟩)], .func (.func 167) #[] #[.pointer (some ⟨b3 q, 0, none⟩)]]
  | .bat => [.func (.func 133) #[] #[], .func (.func 134) #[] #[]]
  | .prs => [.func (.func 135) #[] #[], .func (.func 136) #[] #[]]
theorem fdV_len (b1 b2 : Mf → Nat) (b3 : Hf → Nat) (f : Fld) : (fdV b1 b2 b3 f).length = 2 := by cases f <;> rfl
structure Boxes (b1 b2 : Mf → Nat) (b3 : Hf → Nat) (n : Nat) (w : World) : Prop where
  m : ∀ q, (Chunk.row (b1 q) [.int .i64 (q.most : Int)]).ok w ∧ n ≤ b1 q
  f : ∀ q, (Chunk.row (b2 q) [.func (.func (mfFn q)) #[] #[]]).ok w ∧ n ≤ b2 q
  h : ∀ q, (Chunk.row (b3 q) [.func (.func (hfFn q)) #[] #[]]).ok w ∧ n ≤ b3 q
def Fields (k : UInt8) (w : World) (e : Ending) (w' : World) : Prop := ∃ (b1 b2 : Mf → Nat) (b3 : Hf → Nat) (p : Option Addr) (c : Nat), e = .returned (.tuple #[.slice p (fdsL k).length c, .bool (isK k)]) ∧ Below w.heap.size w w' ∧ Boxes b1 b2 b3 w.heap.size w' ∧
  SeesL w' 2 (fdV b1 b2 b3) (.slice p (fdsL k).length c) (fdsL k) ∧ ∀ g, (Value.slice p (fdsL k).length c).ownBlock = some g → w.heap.size ≤ g
set_option maxRecDepth 100000 in
set_option maxHeartbeats 16000000 in
theorem fields_c (k : UInt8) (w : World) : Calls Tryz.prog 90 #[.int .u8 (I8 k)] w (Fields k w) := by
  have M := Mem.start [] w
  by_cases hk : isK k = true
  · rcases kinds hk with rfl | rfl | rfl | rfl | rfl | rfl | rfl
    all_goals
      clear hk
      go_enter Tryz.func90, Tryz.ntmps90
      go_wp2_with ((first | (go_at_call 122; go_must (first | ((with_reducible refine (msgNumber_c 9223372036854775807 123 _).mono ?_); rintro e w1 ⟨e1, e2, rfl, N⟩; simp only [numF]; replace M := M.join N; clear N; simp only [List.cons_append, List.nil_append] at M) | ((with_reducible refine (msgNumber_c 9223372036854775807 124 _).mono ?_); rintro e w1 ⟨a1, a2, rfl, N⟩; simp only [numF]; replace M := M.join N; clear N; simp only [List.cons_append, List.nil_append] at M) | ((with_reducible refine (msgNumber_c 9223372036854775807 125 _).mono ?_); rintro e w1 ⟨o1, o2, rfl, N⟩; simp only [numF]; replace M := M.join N; clear N; simp only [List.cons_append, List.nil_append] at M) | ((with_reducible refine (msgNumber_c 9223372036854775807 126 _).mono ?_); rintro e w1 ⟨p1, p2, rfl, N⟩; simp only [numF]; replace M := M.join N; clear N; simp only [List.cons_append, List.nil_append] at M) | ((with_reducible refine (msgNumber_c 4 127 _).mono ?_); rintro e w1 ⟨v1, v2, rfl, N⟩; simp only [numF]; replace M := M.join N; clear N; simp only [List.cons_append, List.nil_append] at M) | ((with_reducible refine (msgNumber_c 15 128 _).mono ?_); rintro e w1 ⟨i1, i2, rfl, N⟩; simp only [numF]; replace M := M.join N; clear N; simp only [List.cons_append, List.nil_append] at M))) | (go_at_call 129; go_must (first | ((with_reducible refine (msgHash_c 130 _).mono ?_); rintro e w1 ⟨r1, rfl, N⟩; simp only [hashF]; replace M := M.join N; clear N; simp only [List.cons_append, List.nil_append] at M) | ((with_reducible refine (msgHash_c 131 _).mono ?_); rintro e w1 ⟨l1, rfl, N⟩; simp only [hashF]; replace M := M.join N; clear N; simp only [List.cons_append, List.nil_append] at M) | ((with_reducible refine (msgHash_c 132 _).mono ?_); rintro e w1 ⟨t1, rfl, N⟩; simp only [hashF]; replace M := M.join N; clear N; simp only [List.cons_append, List.nil_append] at M))) | ((with_reducible refine tAlloc (some 4) 175 ?_); refine w_alloc M _ rfl rfl (.agg #[.nilFunc, .nilFunc]) ([.nilFunc, .nilFunc]) (by kernel_rfl) rfl ?_; clear M; intro z0 w1 M) | ((with_reducible refine tAlloc (some 5) 175 ?_); refine w_alloc M _ rfl rfl (.agg #[.nilFunc, .nilFunc]) ([.nilFunc, .nilFunc]) (by kernel_rfl) rfl ?_; clear M; intro z1 w1 M) | ((with_reducible refine tAlloc (some 6) 175 ?_); refine w_alloc M _ rfl rfl (.agg #[.nilFunc, .nilFunc]) ([.nilFunc, .nilFunc]) (by kernel_rfl) rfl ?_; clear M; intro z2 w1 M) | ((with_reducible refine tAlloc (some 7) 175 ?_); refine w_alloc M _ rfl rfl (.agg #[.nilFunc, .nilFunc]) ([.nilFunc, .nilFunc]) (by kernel_rfl) rfl ?_; clear M; intro z3 w1 M) | ((with_reducible refine tAlloc (some 8) 175 ?_); refine w_alloc M _ rfl rfl (.agg #[.nilFunc, .nilFunc]) ([.nilFunc, .nilFunc]) (by kernel_rfl) rfl ?_; clear M; intro z4 w1 M) | ((with_reducible refine tAlloc (some 9) 175 ?_); refine w_alloc M _ rfl rfl (.agg #[.nilFunc, .nilFunc]) ([.nilFunc, .nilFunc]) (by kernel_rfl) rfl ?_; clear M; intro z5 w1 M) | ((with_reducible refine tAlloc (some 10) 175 ?_); refine w_alloc M _ rfl rfl (.agg #[.nilFunc, .nilFunc]) ([.nilFunc, .nilFunc]) (by kernel_rfl) rfl ?_; clear M; intro z6 w1 M) | ((with_reducible refine tAlloc (some 11) 175 ?_); refine w_alloc M _ rfl rfl (.agg #[.nilFunc, .nilFunc]) ([.nilFunc, .nilFunc]) (by kernel_rfl) rfl ?_; clear M; intro z7 w1 M) | ((with_reducible refine tAlloc (some 12) 175 ?_); refine w_alloc M _ rfl rfl (.agg #[.nilFunc, .nilFunc]) ([.nilFunc, .nilFunc]) (by kernel_rfl) rfl ?_; clear M; intro z8 w1 M) | ((with_reducible show wpList _ _ _ (Oper.mk _ (Op.buildSlice _ 1 _) _ _ _ _ :: _) _ _); go_must (refine w_buildA M fieldT _ rfl rfl (by first | exact ev_tmp rfl | rfl) ?_; clear M; intro gs w1 M)) | ((with_reducible show wpList _ _ _ (Oper.mk _ (Op.buildSlice _ 3 _) _ _ _ _ :: _) _ _); go_must (refine w_buildC M fieldT _ _ _ rfl rfl (by first | exact ev_tmp rfl | rfl) (by first | exact ev_tmp rfl | rfl) (by first | exact ev_tmp rfl | rfl) ?_; clear M; intro gs w1 M)) | ((with_reducible show wpList _ _ _ (Oper.mk _ (Op.buildSlice _ 4 _) _ _ _ _ :: _) _ _); go_must (refine w_buildD M fieldT _ _ _ _ rfl rfl (by first | exact ev_tmp rfl | rfl) (by first | exact ev_tmp rfl | rfl) (by first | exact ev_tmp rfl | rfl) (by first | exact ev_tmp rfl | rfl) ?_; clear M; intro gs w1 M)) | ((with_reducible show wpList _ _ _ (Oper.mk _ (Op.buildSlice _ 6 _) _ _ _ _ :: _) _ _); go_must (refine w_buildF M fieldT _ _ _ _ _ _ rfl rfl (by first | exact ev_tmp rfl | rfl) (by first | exact ev_tmp rfl | rfl) (by first | exact ev_tmp rfl | rfl) (by first | exact ev_tmp rfl | rfl) (by first | exact ev_tmp rfl | rfl) (by first | exact ev_tmp rfl | rfl) ?_; clear M; intro gs w1 M)) | ((with_reducible refine tLoad ?_); go_must (refine w_at _ _ rfl (by exact ev_tmp rfl) ?_; intro hx; (first | refine w_loadR M 21 _ _ rfl rfl hx rfl (by decide +kernel) (by kernel_rfl) ?_ | refine w_loadR M 18 _ _ rfl rfl hx rfl (by decide +kernel) (by kernel_rfl) ?_ | refine w_loadR M 15 _ _ rfl rfl hx rfl (by decide +kernel) (by kernel_rfl) ?_ | refine w_loadR M 12 _ _ rfl rfl hx rfl (by decide +kernel) (by kernel_rfl) ?_ | refine w_loadR M 9 _ _ rfl rfl hx rfl (by decide +kernel) (by kernel_rfl) ?_ | refine w_loadR M 6 _ _ rfl rfl hx rfl (by decide +kernel) (by kernel_rfl) ?_ | refine w_loadR M 4 _ _ rfl rfl hx rfl (by decide +kernel) (by kernel_rfl) ?_ | refine w_loadR M 2 _ _ rfl rfl hx rfl (by decide +kernel) (by kernel_rfl) ?_ | refine w_loadR M 0 _ _ rfl rfl hx rfl (by decide +kernel) (by kernel_rfl) ?_); clear hx)) | ((with_reducible refine tGuard ?_); refine gdS ?_) | fail | ((with_reducible refine tLoad ?_); go_must (refine ldS ?_)) | ((with_reducible refine tStore ?_); go_must (refine stS ?_; clear M; intro w1 M; (try simp only [setC] at M))) | ((with_reducible refine tBox _ ?_); (refine bxA M ?_; clear M; intro g w1 M))) <;> (try conv => arg 5; simp only [Act.put, List.setIfInBounds_toArray, setC]))
      go_ret2
      have own : ∀ (i : Nat) (g : Nat) (cs : List Value), _ → w.heap.size ≤ g := fun i g cs h => (M.own i (.row g cs) h g (by simp [Chunk.fp])).resolve_left (by simp)
      exact ⟨fun q => match q with | .e => e1 | .a => a1 | .o => o1 | .p => p1 | .v => v1 | .i => i1, fun q => match q with | .e => e2 | .a => a2 | .o => o2 | .p => p2 | .v => v2 | .i => i2, fun q => match q with | .r => r1 | .lf => l1 | .rt => t1, some ⟨gs, 0, none⟩, _, rfl, M.below, ⟨fun q => by cases q <;> first | exact ⟨M.ok 24 _ rfl, own 24 _ _ rfl⟩ | exact ⟨M.ok 21 _ rfl, own 21 _ _ rfl⟩ | exact ⟨M.ok 18 _ rfl, own 18 _ _ rfl⟩ | exact ⟨M.ok 15 _ rfl, own 15 _ _ rfl⟩ | exact ⟨M.ok 12 _ rfl, own 12 _ _ rfl⟩ | exact ⟨M.ok 9 _ rfl, own 9 _ _ rfl⟩, fun q => by cases q <;> first | exact ⟨M.ok 23 _ rfl, own 23 _ _ rfl⟩ | exact ⟨M.ok 20 _ rfl, own 20 _ _ rfl⟩ | exact ⟨M.ok 17 _ rfl, own 17 _ _ rfl⟩ | exact ⟨M.ok 14 _ rfl, own 14 _ _ rfl⟩ | exact ⟨M.ok 11 _ rfl, own 11 _ _ rfl⟩ | exact ⟨M.ok 8 _ rfl, own 8 _ _ rfl⟩, fun q => by cases q <;> first | exact ⟨M.ok 6 _ rfl, own 6 _ _ rfl⟩ | exact ⟨M.ok 4 _ rfl, own 4 _ _ rfl⟩ | exact ⟨M.ok 2 _ rfl, own 2 _ _ rfl⟩⟩, row_seesL (l := fdsL _) (M.ok 0 _ rfl) (fdV_len _ _ _) (by decide), fun g h => by cases h; exact own 0 _ _ rfl⟩
  · have h0 : fdsL k = [] := by
      unfold fdsL
      have : ∀ j : UInt8, isK j = true → ¬ k = j := fun j hj e => hk (e ▸ hj)
      rw [if_neg (this 1 (by decide)), if_neg (this 2 (by decide)), if_neg (this 3 (by decide)), if_neg (this 4 (by decide)), if_neg (this 5 (by decide)), if_neg (this 6 (by decide)), if_neg (this 7 (by decide))]
    have h1 : isK k = false := by cases h : isK k <;> simp_all
    have hne : ∀ j : UInt8, isK j = true → (I8 k == I8 j) = false := fun j hj => by
      rw [beq_eq_false_iff_ne]; intro e; rw [I8_inj] at e; exact hk (e ▸ hj)
    have n1 : (I8 k == 1) = false := hne 1 (by decide)
    have n2 : (I8 k == 2) = false := hne 2 (by decide)
    have n3 : (I8 k == 3) = false := hne 3 (by decide)
    have n4 : (I8 k == 4) = false := hne 4 (by decide)
    have n5 : (I8 k == 5) = false := hne 5 (by decide)
    have n6 : (I8 k == 6) = false := hne 6 (by decide)
    have n7 : (I8 k == 7) = false := hne 7 (by decide)
    unfold Fields
    rw [h0, h1]
    clear h0 h1 hk hne
    go_enter Tryz.func90, Tryz.ntmps90
    go_wp2_with ((first | (go_at_call 122; go_must (first | ((with_reducible refine (msgNumber_c 9223372036854775807 123 _).mono ?_); rintro e w1 ⟨e1, e2, rfl, N⟩; simp only [numF]; replace M := M.join N; clear N; simp only [List.cons_append, List.nil_append] at M) | ((with_reducible refine (msgNumber_c 9223372036854775807 124 _).mono ?_); rintro e w1 ⟨a1, a2, rfl, N⟩; simp only [numF]; replace M := M.join N; clear N; simp only [List.cons_append, List.nil_append] at M) | ((with_reducible refine (msgNumber_c 9223372036854775807 125 _).mono ?_); rintro e w1 ⟨o1, o2, rfl, N⟩; simp only [numF]; replace M := M.join N; clear N; simp only [List.cons_append, List.nil_append] at M) | ((with_reducible refine (msgNumber_c 9223372036854775807 126 _).mono ?_); rintro e w1 ⟨p1, p2, rfl, N⟩; simp only [numF]; replace M := M.join N; clear N; simp only [List.cons_append, List.nil_append] at M) | ((with_reducible refine (msgNumber_c 4 127 _).mono ?_); rintro e w1 ⟨v1, v2, rfl, N⟩; simp only [numF]; replace M := M.join N; clear N; simp only [List.cons_append, List.nil_append] at M) | ((with_reducible refine (msgNumber_c 15 128 _).mono ?_); rintro e w1 ⟨i1, i2, rfl, N⟩; simp only [numF]; replace M := M.join N; clear N; simp only [List.cons_append, List.nil_append] at M))) | (go_at_call 129; go_must (first | ((with_reducible refine (msgHash_c 130 _).mono ?_); rintro e w1 ⟨r1, rfl, N⟩; simp only [hashF]; replace M := M.join N; clear N; simp only [List.cons_append, List.nil_append] at M) | ((with_reducible refine (msgHash_c 131 _).mono ?_); rintro e w1 ⟨l1, rfl, N⟩; simp only [hashF]; replace M := M.join N; clear N; simp only [List.cons_append, List.nil_append] at M) | ((with_reducible refine (msgHash_c 132 _).mono ?_); rintro e w1 ⟨t1, rfl, N⟩; simp only [hashF]; replace M := M.join N; clear N; simp only [List.cons_append, List.nil_append] at M))) | ((with_reducible refine tAlloc (some 4) 175 ?_); refine w_alloc M _ rfl rfl (.agg #[.nilFunc, .nilFunc]) ([.nilFunc, .nilFunc]) (by kernel_rfl) rfl ?_; clear M; intro z0 w1 M) | ((with_reducible refine tAlloc (some 5) 175 ?_); refine w_alloc M _ rfl rfl (.agg #[.nilFunc, .nilFunc]) ([.nilFunc, .nilFunc]) (by kernel_rfl) rfl ?_; clear M; intro z1 w1 M) | ((with_reducible refine tAlloc (some 6) 175 ?_); refine w_alloc M _ rfl rfl (.agg #[.nilFunc, .nilFunc]) ([.nilFunc, .nilFunc]) (by kernel_rfl) rfl ?_; clear M; intro z2 w1 M) | ((with_reducible refine tAlloc (some 7) 175 ?_); refine w_alloc M _ rfl rfl (.agg #[.nilFunc, .nilFunc]) ([.nilFunc, .nilFunc]) (by kernel_rfl) rfl ?_; clear M; intro z3 w1 M) | ((with_reducible refine tAlloc (some 8) 175 ?_); refine w_alloc M _ rfl rfl (.agg #[.nilFunc, .nilFunc]) ([.nilFunc, .nilFunc]) (by kernel_rfl) rfl ?_; clear M; intro z4 w1 M) | ((with_reducible refine tAlloc (some 9) 175 ?_); refine w_alloc M _ rfl rfl (.agg #[.nilFunc, .nilFunc]) ([.nilFunc, .nilFunc]) (by kernel_rfl) rfl ?_; clear M; intro z5 w1 M) | ((with_reducible refine tAlloc (some 10) 175 ?_); refine w_alloc M _ rfl rfl (.agg #[.nilFunc, .nilFunc]) ([.nilFunc, .nilFunc]) (by kernel_rfl) rfl ?_; clear M; intro z6 w1 M) | ((with_reducible refine tAlloc (some 11) 175 ?_); refine w_alloc M _ rfl rfl (.agg #[.nilFunc, .nilFunc]) ([.nilFunc, .nilFunc]) (by kernel_rfl) rfl ?_; clear M; intro z7 w1 M) | ((with_reducible refine tAlloc (some 12) 175 ?_); refine w_alloc M _ rfl rfl (.agg #[.nilFunc, .nilFunc]) ([.nilFunc, .nilFunc]) (by kernel_rfl) rfl ?_; clear M; intro z8 w1 M) | ((with_reducible show wpList _ _ _ (Oper.mk _ (Op.buildSlice _ 1 _) _ _ _ _ :: _) _ _); go_must (refine w_buildA M fieldT _ rfl rfl (by first | exact ev_tmp rfl | rfl) ?_; clear M; intro gs w1 M)) | ((with_reducible show wpList _ _ _ (Oper.mk _ (Op.buildSlice _ 3 _) _ _ _ _ :: _) _ _); go_must (refine w_buildC M fieldT _ _ _ rfl rfl (by first | exact ev_tmp rfl | rfl) (by first | exact ev_tmp rfl | rfl) (by first | exact ev_tmp rfl | rfl) ?_; clear M; intro gs w1 M)) | ((with_reducible show wpList _ _ _ (Oper.mk _ (Op.buildSlice _ 4 _) _ _ _ _ :: _) _ _); go_must (refine w_buildD M fieldT _ _ _ _ rfl rfl (by first | exact ev_tmp rfl | rfl) (by first | exact ev_tmp rfl | rfl) (by first | exact ev_tmp rfl | rfl) (by first | exact ev_tmp rfl | rfl) ?_; clear M; intro gs w1 M)) | ((with_reducible show wpList _ _ _ (Oper.mk _ (Op.buildSlice _ 6 _) _ _ _ _ :: _) _ _); go_must (refine w_buildF M fieldT _ _ _ _ _ _ rfl rfl (by first | exact ev_tmp rfl | rfl) (by first | exact ev_tmp rfl | rfl) (by first | exact ev_tmp rfl | rfl) (by first | exact ev_tmp rfl | rfl) (by first | exact ev_tmp rfl | rfl) (by first | exact ev_tmp rfl | rfl) ?_; clear M; intro gs w1 M)) | ((with_reducible refine tLoad ?_); go_must (refine w_at _ _ rfl (by exact ev_tmp rfl) ?_; intro hx; (first | refine w_loadR M 21 _ _ rfl rfl hx rfl (by decide +kernel) (by kernel_rfl) ?_ | refine w_loadR M 18 _ _ rfl rfl hx rfl (by decide +kernel) (by kernel_rfl) ?_ | refine w_loadR M 15 _ _ rfl rfl hx rfl (by decide +kernel) (by kernel_rfl) ?_ | refine w_loadR M 12 _ _ rfl rfl hx rfl (by decide +kernel) (by kernel_rfl) ?_ | refine w_loadR M 9 _ _ rfl rfl hx rfl (by decide +kernel) (by kernel_rfl) ?_ | refine w_loadR M 6 _ _ rfl rfl hx rfl (by decide +kernel) (by kernel_rfl) ?_ | refine w_loadR M 4 _ _ rfl rfl hx rfl (by decide +kernel) (by kernel_rfl) ?_ | refine w_loadR M 2 _ _ rfl rfl hx rfl (by decide +kernel) (by kernel_rfl) ?_ | refine w_loadR M 0 _ _ rfl rfl hx rfl (by decide +kernel) (by kernel_rfl) ?_); clear hx)) | ((with_reducible refine tGuard ?_); refine gdS ?_) | fail | ((with_reducible refine tLoad ?_); go_must (refine ldS ?_)) | ((with_reducible refine tStore ?_); go_must (refine stS ?_; clear M; intro w1 M; (try simp only [setC] at M))) | ((with_reducible refine tBox _ ?_); (refine bxA M ?_; clear M; intro g w1 M))) <;> (try conv => arg 5; simp only [Act.put, List.setIfInBounds_toArray, setC]))
    go_ret2
    have own : ∀ (i : Nat) (g : Nat) (cs : List Value), _ → w.heap.size ≤ g := fun i g cs h => (M.own i (.row g cs) h g (by simp [Chunk.fp])).resolve_left (by simp)
    exact ⟨fun q => match q with | .e => e1 | .a => a1 | .o => o1 | .p => p1 | .v => v1 | .i => i1, fun q => match q with | .e => e2 | .a => a2 | .o => o2 | .p => p2 | .v => v2 | .i => i2, fun q => match q with | .r => r1 | .lf => l1 | .rt => t1, none, 0, rfl, M.below, ⟨fun q => by cases q <;> first | exact ⟨M.ok 23 _ rfl, own 23 _ _ rfl⟩ | exact ⟨M.ok 20 _ rfl, own 20 _ _ rfl⟩ | exact ⟨M.ok 17 _ rfl, own 17 _ _ rfl⟩ | exact ⟨M.ok 14 _ rfl, own 14 _ _ rfl⟩ | exact ⟨M.ok 11 _ rfl, own 11 _ _ rfl⟩ | exact ⟨M.ok 8 _ rfl, own 8 _ _ rfl⟩, fun q => by cases q <;> first | exact ⟨M.ok 22 _ rfl, own 22 _ _ rfl⟩ | exact ⟨M.ok 19 _ rfl, own 19 _ _ rfl⟩ | exact ⟨M.ok 16 _ rfl, own 16 _ _ rfl⟩ | exact ⟨M.ok 13 _ rfl, own 13 _ _ rfl⟩ | exact ⟨M.ok 10 _ rfl, own 10 _ _ rfl⟩ | exact ⟨M.ok 7 _ rfl, own 7 _ _ rfl⟩, fun q => by cases q <;> first | exact ⟨M.ok 5 _ rfl, own 5 _ _ rfl⟩ | exact ⟨M.ok 3 _ rfl, own 3 _ _ rfl⟩ | exact ⟨M.ok 1 _ rfl, own 1 _ _ rfl⟩⟩, seesL_nil _ _ (fdV_len _ _ _) _, fun g h => by cases h⟩
end Go.Proofs.YtidadhbaomieiaaGreat

/- Layer 18's fields that are read, each under one form. Conditions: lengths. -/
namespace Go
namespace TL
open Go.RowKit
def msK (gi gm : Nat) (x : InS) (L : Lm) (ov pv : Value) : List Chunk := [.row gi (inV x), .row gm (msgC (L.ms ov pv)), .sl 3 ov L.ops.length (L.ops.flatMap opV), .sl 2 pv L.prs.length (L.prs.flatMap prV)]
def GetP (gi gm : Nat) (F : List Nat) (w : World) (t : Nat × Lm × InS) (e : Ending) (w' : World) : Prop := e = .returned (.int .i64 t.1) ∧ ∃ ov pv, Mem F w w' (msK gi gm t.2.2 t.2.1 ov pv)
theorem Mem.apart {F : List Nat} {w0 w : World} {L : List Chunk} (M : Mem F w0 w L) {b : Nat} (hb : b < w0.heap.size) (hF : b ∉ F) {i : Nat} {c : Chunk} (hc : L[i]? = some c) : b ∉ c.fp := fun h => by
  rcases M.own i c hc b h with h | h
  · exact hF h
  · omega
theorem Mem.aparts {F : List Nat} {w0 w : World} {L : List Chunk} (M : Mem F w0 w L) {b : Nat} (hb : b < w0.heap.size) (hF : b ∉ F) : b ∉ L.flatMap Chunk.fp := fun h => by
  obtain ⟨c, hc, h⟩ := List.mem_flatMap.1 h
  obtain ⟨i, hi⟩ := List.mem_iff_getElem?.1 hc
  exact M.apart hb hF hi h
theorem Mem.again0 {F : List Nat} {w0 w : World} {K : List Chunk} (M : Mem F w0 w K) : Mem (K.flatMap Chunk.fp) w w K := Mem.again (L := []) (by rw [List.append_nil]; exact M)
theorem Mem.turn0 {F : List Nat} {w0 w w' : World} {K K' : List Chunk} (M : Mem F w0 w K) (U : Mem (K.flatMap Chunk.fp) w w' K') : Mem F w0 w' K' := by
  have := Mem.turn (L := []) (by rw [List.append_nil]; exact M) U
  rwa [List.append_nil] at this
theorem sl_fit {L : Lm} (hL : L.fit) {gi gm : Nat} {x : InS} {ov pv : Value} {F : List Nat} {w0 w : World} (M : Mem F w0 w (msK gi gm x L ov pv)) : (L.ms ov pv).fit := by
  obtain ⟨op, oc, rfl⟩ := sl_form (M.ok 2 _ rfl)
  obtain ⟨pp, pc, rfl⟩ := sl_form (M.ok 3 _ rfl)
  exact Lm.ms_fit hL rfl rfl
theorem Fld.get_prs {L : Lm} {x : InS} (f : Fld) : (f.get L x).2.1.prs.length ≤ L.prs.length + 48 := by
  cases f with
  | num q =>
    have : (q.sl L ((x.most q.most).1 : Int)).prs = L.prs := by cases q <;> rfl
    show (q.sl L ((x.most q.most).1 : Int)).prs.length ≤ _
    rw [this]; omega
  | hash q =>
    simp only [Fld.get]
    generalize hashS (q.gl L) x 32 = z
    have : (q.sl L z.2).prs = L.prs := by cases q <;> rfl
    rw [this]; omega
  | bat =>
    simp only [Fld.get]
    split
    · exact Nat.le_add_right _ _
    · exact Nat.le_add_right _ _
  | prs =>
    have h := InS.most_le x 48
    simp only [Fld.get]
    generalize x.most 48 = z at h ⊢
    rw [List.length_append, prS_len]; omega
end TL
end Go
namespace Go.Proofs.YtidadhbaomieiaaGreat
open Go.RowKit Go.TL
section
variable (L : Lm) (ov pv : Value) (gm gi : Nat) (x : InS) (F : List Nat) (w : World) (hL : L.fit) (hf : x.fit) (M : Mem F w w (msK gi gm x L ov pv))
include hL hf M
theorem numGetP (q : Mf) (g1 g2 : Nat) (B1 : (Chunk.row g1 [.int .i64 (q.most : Int)]).ok w) (B2 : (Chunk.row g2 [.func (.func (mfFn q)) #[] #[]]).ok w) (n1 : g1 ∉ F) (n2 : g2 ∉ F) :
    Calls Tryz.prog 165 #[.pointer (some ⟨gi, 0, none⟩), .pointer (some ⟨gm, 0, none⟩), .pointer (some ⟨g1, 0, none⟩), .pointer (some ⟨g2, 0, none⟩)] w (GetP gi gm F w ((Fld.num q).get L x)) := by
  have hm := sl_fit hL M
  have A := Mem.again (K := [.row gi (inV x), .row gm (msgC (L.ms ov pv))]) (L := [.sl 3 ov L.ops.length (L.ops.flatMap opV), .sl 2 pv L.prs.length (L.prs.flatMap prV)]) M
  have ap : ∀ b, b < w.heap.size → b ∉ F → b ∉ [Chunk.row gi (inV x), .row gm (msgC (L.ms ov pv))].flatMap Chunk.fp := fun b hb hF h => by
    refine M.aparts hb hF ?_
    simp only [msK, List.flatMap_cons, List.flatMap_nil, List.mem_append, List.not_mem_nil, or_false] at h ⊢
    rcases h with h | h
    · exact .inl h
    · exact .inr (.inl h)
  have hq := q.most_le
  refine (numGet_c q q.most gm g1 g2 gi (L.ms ov pv) x _ w hm hf (by omega) A B1 B2 (ap _ B1.1 n1) (ap _ B2.1 n2)).mono ?_
  rintro e w' ⟨rfl, U⟩
  refine ⟨rfl, ov, pv, ?_⟩
  have T := Mem.turn (L := [.sl 3 ov L.ops.length (L.ops.flatMap opV), .sl 2 pv L.prs.length (L.prs.flatMap prV)]) M U
  rw [Mf.set_ms] at T
  simp only [Fld.get]
  cases q <;> exact T
theorem hashGetP (q : Hf) (g1 : Nat) (B1 : (Chunk.row g1 [.func (.func (hfFn q)) #[] #[]]).ok w) (n1 : g1 ∉ F) :
    Calls Tryz.prog 167 #[.pointer (some ⟨gi, 0, none⟩), .pointer (some ⟨gm, 0, none⟩), .pointer (some ⟨g1, 0, none⟩)] w (GetP gi gm F w ((Fld.hash q).get L x)) := by
  have hm := sl_fit hL M
  have A := Mem.again (K := [.row gi (inV x), .row gm (msgC (L.ms ov pv))]) (L := [.sl 3 ov L.ops.length (L.ops.flatMap opV), .sl 2 pv L.prs.length (L.prs.flatMap prV)]) M
  have ap : ∀ b, b < w.heap.size → b ∉ F → b ∉ [Chunk.row gi (inV x), .row gm (msgC (L.ms ov pv))].flatMap Chunk.fp := fun b hb hF h => by
    refine M.aparts hb hF ?_
    simp only [msK, List.flatMap_cons, List.flatMap_nil, List.mem_append, List.not_mem_nil, or_false] at h ⊢
    rcases h with h | h
    · exact .inl h
    · exact .inr (.inl h)
  have C := hashGet_c q gm g1 gi (L.ms ov pv) x _ w hm hf A B1 (ap _ B1.1 n1)
  simp only [Fld.get]
  rw [Hf.get_ms] at C
  generalize hashS (q.gl L) x 32 = z at C ⊢
  rw [Hf.set_ms] at C
  refine C.mono ?_
  rintro e w' ⟨rfl, U⟩
  refine ⟨rfl, ov, pv, ?_⟩
  have T := Mem.turn (L := [.sl 3 ov L.ops.length (L.ops.flatMap opV), .sl 2 pv L.prs.length (L.prs.flatMap prV)]) M U
  cases q <;> exact T
theorem batGetP : Calls Tryz.prog 134 #[.pointer (some ⟨gi, 0, none⟩), .pointer (some ⟨gm, 0, none⟩)] w (GetP gi gm F w (Fld.bat.get L x)) :=
  (getBatch_c L ov pv gm gi x F w hL hf M).mono fun _ _ ⟨h, ov', U⟩ => ⟨h, ov', pv, U⟩
theorem prsGetP (hp : L.prs.length ≤ 1000) : Calls Tryz.prog 136 #[.pointer (some ⟨gi, 0, none⟩), .pointer (some ⟨gm, 0, none⟩)] w (GetP gi gm F w (Fld.prs.get L x)) :=
  (getPairs_c L ov pv gm gi x F w hL hf hp M).mono fun _ _ ⟨h, pv', U⟩ => ⟨h, ov, pv', U⟩
end
end Go.Proofs.YtidadhbaomieiaaGreat

/- The walk of msg.Read. Conditions: lengths. -/
namespace Go
namespace TL
open Go.RowKit
theorem readM_err {s : List UInt8} {kb : UInt8} {y : InS} (h : (inStart s).byte = (kb.toNat, y)) (hy : y.err ≠ 0) : readM s = (zeroL, y.err) := by
  unfold readM; rw [h]; simp only; rw [if_neg hy]
theorem readM_kind {s : List UInt8} {kb : UInt8} {y : InS} (h : (inStart s).byte = (kb.toNat, y)) (hy : y.err = 0) (hk : isK kb = false) : readM s = (zeroL, 10) := by
  unfold readM; rw [h]; simp only [UInt8.ofNat_toNat]; rw [if_pos hy, if_neg (by rw [hk]; decide)]
theorem readM_run {s : List UInt8} {kb : UInt8} {y : InS} (h : (inStart s).byte = (kb.toNat, y)) (hy : y.err = 0) (hk : isK kb = true) (r : Nat) (L : Lm) (x : InS) (hr : runF (fdsL kb) (kindL kb) y = (r, L, x)) :
    readM s = if r = 0 then (if x.fin = 0 then (L, 0) else (zeroL, x.fin)) else (zeroL, r) := by
  unfold readM; rw [h]; simp only [UInt8.ofNat_toNat]; rw [if_pos hy, if_pos hk, hr]
theorem runF_nil (L : Lm) (x : InS) : runF [] L x = (0, L, x) := rfl
theorem runF_go {f : Fld} {l : List Fld} {L : Lm} {x : InS} {r : Nat} {L' : Lm} {x' : InS} (h : f.get L x = (r, L', x')) (h0 : r = 0) (h1 : x'.err = 0) : runF (f :: l) L x = runF l L' x' := by
  rw [runF, h, Fld.say]; simp only; rw [if_pos h1, if_pos h0]
theorem runF_say {f : Fld} {l : List Fld} {L : Lm} {x : InS} {r : Nat} {L' : Lm} {x' : InS} (h : f.get L x = (r, L', x')) (h0 : r ≠ 0) (h1 : x'.err = 0) : runF (f :: l) L x = (r, L', x') := by
  rw [runF, h, Fld.say]; simp only; rw [if_pos h1, if_neg h0]
theorem runF_err {f : Fld} {l : List Fld} {L : Lm} {x : InS} {r : Nat} {L' : Lm} {x' : InS} (h : f.get L x = (r, L', x')) (h1 : x'.err ≠ 0) : runF (f :: l) L x = (x'.err, L', x') := by
  rw [runF, h, Fld.say]; simp only; rw [if_neg h1, if_neg h1]
def GivesM (t : Lm × Nat) (w : World) (e : Ending) (w' : World) : Prop := ∃ ov pv, e = .returned (.tuple #[.agg (msgC (t.1.ms ov pv)).toArray, .int .i64 t.2]) ∧ Mem [] w w' [.sl 3 ov t.1.ops.length (t.1.ops.flatMap opV), .sl 2 pv t.1.prs.length (t.1.prs.flatMap prV)]
theorem GivesM.zero {w w' : World} {r : Nat} {L : List Chunk} (M : Mem [] w w' L) : GivesM (zeroL, r) w (.returned (.tuple #[.agg (msgC zeroM).toArray, .int .i64 r])) w' :=
  ⟨.slice none 0 0, .slice none 0 0, rfl, ((M.nil 2).nil 3).sel [0, 1] _ (by decide) rfl⟩
theorem zeroM_len : (msgC zeroM).length = 107 := msgC_len zeroM_fit
end TL
end Go
namespace Go.Proofs.YtidadhbaomieiaaGreat
open Go.RowKit Go.TL
theorem fdV_num (b1 b2 : Mf → Nat) (b3 : Hf → Nat) (q : Mf) : fdV b1 b2 b3 (.num q) = [.func (.func 164) #[] #[.pointer (some ⟨b2 q, 0, none⟩), .pointer (some ⟨b1 q, 0, none⟩)], .func (.func 165) #[] #[.pointer (some ⟨b1 q, 0, none⟩), .pointer (some ⟨b2 q, 0, none⟩)]] := rfl
theorem fdV_hash (b1 b2 : Mf → Nat) (b3 : Hf → Nat) (q : Hf) : fdV b1 b2 b3 (.hash q) = [.func (.func 166) #[] #[.pointer (some ⟨b3 q, 0, none⟩)], .func (.func 167) #[] #[.pointer (some ⟨b3 q, 0, none⟩)]] := rfl
theorem fdV_bat (b1 b2 : Mf → Nat) (b3 : Hf → Nat) : fdV b1 b2 b3 .bat = [.func (.func 133) #[] #[], .func (.func 134) #[] #[]] := rfl
theorem fdV_prs (b1 b2 : Mf → Nat) (b3 : Hf → Nat) : fdV b1 b2 b3 .prs = [.func (.func 135) #[] #[], .func (.func 136) #[] #[]] := rfl
def getN : Fld → Nat
  | .num _ => 165 | .hash _ => 167 | .bat => 134 | .prs => 136
def getA (b1 b2 : Mf → Nat) (b3 : Hf → Nat) : Fld → List Value
  | .num q => [.pointer (some ⟨b1 q, 0, none⟩), .pointer (some ⟨b2 q, 0, none⟩)] | .hash q => [.pointer (some ⟨b3 q, 0, none⟩)] | _ => []
theorem get_all {n : Nat} {w5 : World} {b1 b2 : Mf → Nat} {b3 : Hf → Nat} (BX : Boxes b1 b2 b3 n w5) {F : List Nat} (hF : ∀ b, n ≤ b → b ∉ F) {L : Lm} {x : InS} (hL : L.fit) (hf : x.fit) (hp : L.prs.length ≤ 1000) (gi gm : Nat) (ov pv : Value) (R : List Chunk) (f : Fld) (w : World) (M : Mem F w5 w (msK gi gm x L ov pv ++ R)) :
    Calls Tryz.prog (getN f) (.pointer (some ⟨gi, 0, none⟩) :: .pointer (some ⟨gm, 0, none⟩) :: getA b1 b2 b3 f).toArray w fun e w' => e = .returned (.int .i64 (f.get L x).1) ∧ ∃ ov' pv', Mem F w5 w' (msK gi gm (f.get L x).2.2 (f.get L x).2.1 ov' pv' ++ R) := by
  have N := Mem.again M
  have ap : ∀ b, b < w5.heap.size → n ≤ b → b ∉ (msK gi gm x L ov pv).flatMap Chunk.fp := fun b hb hn h => by
    refine M.aparts hb (hF b hn) ?_
    rw [List.flatMap_append]
    exact List.mem_append_left _ h
  have st : ∀ (b : Nat) (cs : List Value), (Chunk.row b cs).ok w5 → n ≤ b → (Chunk.row b cs).ok w := fun b cs h hn => M.staysF h fun k hk => by
    simp only [Chunk.fp, List.mem_singleton] at hk; subst hk; exact hF _ hn
  cases f with
  | num q => exact (numGetP L ov pv gm gi x _ w hL hf N q (b1 q) (b2 q) (st _ _ (BX.m q).1 (BX.m q).2) (st _ _ (BX.f q).1 (BX.f q).2) (ap _ (BX.m q).1.1 (BX.m q).2) (ap _ (BX.f q).1.1 (BX.f q).2)).mono fun e w' ⟨h, ov', pv', U⟩ => ⟨h, ov', pv', Mem.turn M U⟩
  | hash q => exact (hashGetP L ov pv gm gi x _ w hL hf N q (b3 q) (st _ _ (BX.h q).1 (BX.h q).2) (ap _ (BX.h q).1.1 (BX.h q).2)).mono fun e w' ⟨h, ov', pv', U⟩ => ⟨h, ov', pv', Mem.turn M U⟩
  | bat => exact (batGetP L ov pv gm gi x _ w hL hf N).mono fun e w' ⟨h, ov', pv', U⟩ => ⟨h, ov', pv', Mem.turn M U⟩
  | prs => exact (prsGetP L ov pv gm gi x _ w hL hf N hp).mono fun e w' ⟨h, ov', pv', U⟩ => ⟨h, ov', pv', Mem.turn M U⟩
end Go.Proofs.YtidadhbaomieiaaGreat

/- Layer 18's fields that are written, under one form. Conditions: lengths; the numbers are int's. -/
namespace Go
namespace TL
open Go.RowKit
structure Lm.rng (L : Lm) : Prop where
  num : ∀ q : Mf, -9223372036854775808 ≤ q.gl L ∧ q.gl L ≤ 9223372036854775807
  be : L.be ≤ 9223372036854775807
  o1 : L.ops.length ≤ 1000
  o2 : ∀ x ∈ L.ops, x.2.1.length ≤ 100000 ∧ x.2.2.length ≤ 100000
  p1 : L.prs.length ≤ 1000
  p2 : ∀ x ∈ L.prs, x.1.length ≤ 100000 ∧ x.2.length ≤ 100000
  p3 : (L.prs.flatMap prBm).length ≤ 100000
theorem SeesL.old {α : Type} {w : World} {size : Nat} {f : α → List Value} {v : Value} {l : List α} (S : SeesL w size f v l) (h0 : 0 < l.length) : ∀ k, v.ownBlock = some k → k < w.heap.size := fun k hk => by
  rcases S.sees.2 with ⟨_, hn⟩ | ⟨g, so, c, rfl, hlt, _⟩
  · omega
  · cases hk; exact hlt
theorem Fld.put_len {L : Lm} (h : L.rng) (hL : L.fit) (f : Fld) : (f.put L).length ≤ 100100 := by
  cases f with
  | num q =>
    have := numL_length_le (q.gl L).toNat (by have := (h.num q).2; omega)
    simp only [Fld.put]; omega
  | hash q =>
    have := q.gl_len hL
    simp only [Fld.put]; omega
  | bat =>
    have h1 := bytesB_len (i := L.bi) h.be L.ops
    have h2 := numL_length_le (bytesB L.bi L.be L.ops).1.length (by omega)
    simp only [Fld.put, textL, List.length_append]; omega
  | prs =>
    have h1 := h.p3
    have h2 := numL_length_le L.prs.length (by have := h.p1; omega)
    simp only [Fld.put, List.length_append]; omega
end TL
end Go
namespace Go.Proofs.YtidadhbaomieiaaGreat
open Go.RowKit Go.TL
def putN : Fld → Nat
  | .num _ => 164 | .hash _ => 166 | .bat => 133 | .prs => 135
def putA (b1 b2 : Mf → Nat) (b3 : Hf → Nat) : Fld → List Value
  | .num q => [.pointer (some ⟨b2 q, 0, none⟩), .pointer (some ⟨b1 q, 0, none⟩)] | .hash q => [.pointer (some ⟨b3 q, 0, none⟩)] | _ => []
theorem put_all {n : Nat} {w5 : World} {b1 b2 : Mf → Nat} {b3 : Hf → Nat} (BX : Boxes b1 b2 b3 n w5) {F : List Nat} (hF : ∀ b, n ≤ b → b ∉ F) {L : Lm} (hL : L.fit) (hr : L.rng) (go gm : Nat) {ov pv : Value} (S : SeesL w5 3 opV ov L.ops) (T : SeesL w5 2 prV pv L.prs)
    (hS : 0 < L.ops.length → ∀ k, ov.ownBlock = some k → k ∉ F) (hT : 0 < L.prs.length → ∀ k, pv.ownBlock = some k → k ∉ F) (R : List Chunk) (f : Fld) (v : Value) (l : List UInt8) (hl : l.length ≤ 700000) (w : World) (M : Mem F w5 w (outC go v l :: .row gm (msgC (L.ms ov pv)) :: R)) :
    Calls Tryz.prog (putN f) (.pointer (some ⟨go, 0, none⟩) :: .pointer (some ⟨gm, 0, none⟩) :: putA b1 b2 b3 f).toArray w fun e w' => ∃ v' l', e = .returned (.bool (f.ok L)) ∧ (f.ok L = true → l' = l ++ f.put L) ∧ Mem F w5 w' (outC go v' l' :: .row gm (msgC (L.ms ov pv)) :: R) := by
  obtain ⟨op, oc, rfl, _⟩ := S.form
  obtain ⟨pp, pc, rfl, _⟩ := T.form
  have hm : (L.ms (.slice op L.ops.length oc) (.slice pp L.prs.length pc)).fit := Lm.ms_fit hL rfl rfl
  have ap : ∀ b, b < w5.heap.size → n ≤ b → b ∉ (outC go v l).fp := fun b hb hn => M.apart hb (hF b hn) (i := 0) rfl
  have st : ∀ (b : Nat) (cs : List Value), (Chunk.row b cs).ok w5 → n ≤ b → (Chunk.row b cs).ok w := fun b cs h hn => M.staysF h fun k hk => by
    simp only [Chunk.fp, List.mem_singleton] at hk; subst hk; exact hF _ hn
  have n0 : gm ∉ (outC go v l).fp := fun h => M.nd 0 1 _ _ (by decide) rfl rfl gm h (by simp [Chunk.fp])
  have R0 := M.ok 1 _ rfl
  have ho := M.ok 0 _ rfl
  cases f with
  | num q =>
    have hq := q.most_le
    have hn := hr.num q
    by_cases h0 : 0 ≤ q.gl L
    · refine (numPut_c q (q.most : Int) gm (b1 q) (b2 q) go _ v l w hm (by rw [Mf.get_ms]; exact ⟨h0, hn.2⟩) (by omega) ho R0 (st _ _ (BX.m q).1 (BX.m q).2) (st _ _ (BX.f q).1 (BX.f q).2) n0 (ap _ (BX.m q).1.1 (BX.m q).2) (ap _ (BX.f q).1.1 (BX.f q).2)).mono ?_
      rintro e w' ⟨rfl, v', U⟩
      rw [Mf.get_ms] at U ⊢
      refine ⟨v', _, ?_, fun _ => rfl, M.upd 0 rfl U⟩
      simp only [Fld.ok]
      congr 2
      by_cases h : q.gl L ≤ (q.most : Int)
      · rw [decide_eq_true h, decide_eq_true ⟨h0, h⟩]
      · rw [decide_eq_false h, decide_eq_false (fun hh => h hh.2)]
    · refine (numPutN_c q (q.most : Int) gm (b1 q) (b2 q) go _ v l w hm (by rw [Mf.get_ms]; exact ⟨hn.1, by omega⟩) (by omega) ho R0 (st _ _ (BX.f q).1 (BX.f q).2) n0 (ap _ (BX.f q).1.1 (BX.f q).2)).mono ?_
      rintro e w' ⟨rfl, v', l', U⟩
      have hk : (Fld.num q).ok L = false := by simp only [Fld.ok]; exact decide_eq_false (fun hh => h0 hh.1)
      rw [hk]
      exact ⟨v', l', rfl, fun h => (by cases h), M.upd 0 rfl U⟩
  | hash q =>
    refine (hashPut_c q gm (b3 q) go _ v l w hm (by omega) ho R0 (st _ _ (BX.h q).1 (BX.h q).2) n0 (ap _ (BX.h q).1.1 (BX.h q).2)).mono ?_
    rintro e w' ⟨rfl, v', U⟩
    rw [Hf.get_ms] at U
    exact ⟨v', _, rfl, fun _ => rfl, M.upd 0 rfl U⟩
  | bat =>
    refine (putBatch_c L _ _ gm go v l w hm hr.be (by omega) ho R0 n0 (S.nowF M hS) hr.o1 (fun x hx => by have := hr.o2 x hx; omega)).mono ?_
    rintro e w' ⟨rfl, v', U⟩
    exact ⟨v', _, rfl, fun _ => rfl, M.upd 0 rfl U⟩
  | prs =>
    refine (putPairs_c L _ _ gm go v l w hm hl ho R0 n0 (T.nowF M hT) (fun h0 k hk => M.apart (T.old h0 k hk) (hT h0 k hk) (i := 0) rfl) hr.p1 hr.p2 hr.p3).mono ?_
    rintro e w' ⟨rfl, v', U⟩
    exact ⟨v', _, rfl, fun _ => rfl, M.upd 0 rfl U⟩
end Go.Proofs.YtidadhbaomieiaaGreat

/- A region that draws its order and in which two operations that write may come in either order: walked once for each. No conditions but those each law names. -/
namespace Go
namespace TL
open Go.RowKit
inductive PT where
  | nil
  | rd (i : Nat) (r : PT)
  | wr (i : Nat) (r : PT)
  | alt (i : Nat) (r s : PT)
def PT.flat : PT → Plan
  | .nil => []
  | .rd i r => (i, false) :: r.flat
  | .wr i r => (i, true) :: r.flat
  | .alt i r _ => (i, true) :: r.flat
def PT.heads : PT → List Nat
  | .wr i _ => [i]
  | .alt i _ s => i :: s.heads
  | _ => []
def planT (P : Program) (ops : Array Oper) (fin : Act → World → Prop) (I : World → Prop) (c : Nat) : PT → List Oper × (Act → World → Prop)
  | .nil => ([], fin)
  | .rd i r => (opAt ops i :: (planT P ops fin I c r).1, (planT P ops fin I c r).2)
  | .wr i r => ([opAt ops i], fun a w => (i ≠ c → I w) ∧ wpList P ops (Seg (planT P ops fin I c r).2) (planT P ops fin I c r).1 a w)
  | .alt i r s => ([], fun a w => wpList P ops (Seg fun a w => (i ≠ c → I w) ∧ wpList P ops (Seg (planT P ops fin I c r).2) (planT P ops fin I c r).1 a w) [opAt ops i] a w ∧
      wpList P ops (Seg (planT P ops fin I c s).2) (planT P ops fin I c s).1 a w)
def detT (P : Program) (ops : Array Oper) (need : Needs) (idx : List Nat) (c : Nat) : Bool → Array Bool → PT → Bool
  | chk, listed, .nil => chk && (Region.ready .any ops listed).isEmpty
  | chk, listed, .rd i r =>
    chk && ((Region.ready .any ops listed).contains i && Region.free .any ops listed i &&
      ((stays ops need (opAt ops i) ((i, false) :: r.flat) && pureOp P (needOf need (opAt ops i)) (opAt ops i)) || (idx.contains i && staysLow ops (opAt ops i) ((i, false) :: r.flat))) &&
      (waitsC ops c i && detT P ops need idx c true (listed.setIfInBounds i true) r))
  | chk, listed, .wr i r => (!chk || Region.ready .any ops listed == [i]) && ((i != c || r.flat.isEmpty) && detT P ops need idx c true (listed.setIfInBounds i true) r)
  | chk, listed, .alt i r s => (!chk || Region.ready .any ops listed == i :: s.heads) && (((i != c || r.flat.isEmpty) && detT P ops need idx c true (listed.setIfInBounds i true) r) && ((r.flat.length + 1 == s.flat.length) && detT P ops need idx c false listed s))
section
variable {P : Program} {ops : Array Oper} {I : World → Prop} {fin : Act → World → Prop} {c : Nat}
theorem Seg.alt {Q1 Q2 : Exit → Act → World → Prop} {l1 l2 : List Oper} {a : Act} {w : World} (h : wpList P ops Q1 l1 a w) (h' : wpList P ops Q2 l2 a w) : Seg (fun a w => wpList P ops Q1 l1 a w ∧ wpList P ops Q2 l2 a w) .normal a w := ⟨h, h'⟩
theorem endsT : ∀ (t : PT) (a : Act) (w : World), wpList P ops (Seg (planT P ops fin I c t).2) (planT P ops fin I c t).1 a w →
    ∃ af wf, fin af wf ∧ ∀ p, (∀ x ∈ t.flat, (opAt ops x.1).dst ≠ some p) → af.tmps.getD p undef = a.tmps.getD p undef
  | .nil, a, w, h => ⟨a, w, h, fun _ _ => rfl⟩
  | .rd i r, a, w, h => by
    obtain ⟨a', w', h1, h2⟩ := stepS h
    obtain ⟨af, wf, h3, h4⟩ := endsT r a' w' h1
    exact ⟨af, wf, h3, fun t ht => (h4 t fun x hx => ht x (List.mem_cons_of_mem _ hx)).trans (h2 t (ht (i, false) List.mem_cons_self))⟩
  | .wr i r, a, w, h => by
    obtain ⟨a', w', h1, h2⟩ := stepS h
    obtain ⟨af, wf, h3, h4⟩ := endsT r a' w' h1.2
    exact ⟨af, wf, h3, fun t ht => (h4 t fun x hx => ht x (List.mem_cons_of_mem _ hx)).trans (h2 t (ht (i, true) List.mem_cons_self))⟩
  | .alt i r s, a, w, h => by
    obtain ⟨a', w', h1, h2⟩ := stepS h.1
    obtain ⟨af, wf, h3, h4⟩ := endsT r a' w' h1.2
    exact ⟨af, wf, h3, fun t ht => (h4 t fun x hx => ht x (List.mem_cons_of_mem _ hx)).trans (h2 t (ht (i, true) List.mem_cons_self))⟩
theorem writeT {F G K : Act → World → Prop} {i : Nat} {listed : Array Bool} {a : Act} {w : World} (hr : i ∈ Region.ready .any ops listed) (h : wpList P ops (Seg G) [opAt ops i] a w) (cont : ∀ a' w', G a' w' → K a' w') : wpOp P ops (Seg F) i K a w := by
  obtain ⟨_, oi, hoi, _⟩ := mem_ready.1 hr
  have hat : opAt ops i = oi := by simp [opAt, hoi]
  rw [hat] at h
  unfold wpOp
  rw [hoi]
  unfold wpList at h
  dsimp only
  split
  · rename_i hw
    rw [if_pos hw] at h
    rcases h with h | h
    · exact .inl (Oper.wp_seg cont h)
    · exact (Seg.letsOut h.2).elim
  · rename_i hw
    rw [if_neg hw] at h
    exact cont _ _ h
theorem flat_nil {t : PT} (h : t.flat.isEmpty = true) : t = .nil := by cases t <;> simp [PT.flat] at h ⊢
theorem mainT {need : Needs} {low : List (Nat × Value)} {Q : Exit → Act → World → Prop} (hs : Region.noSelect ops = true) (hlow : ∀ x ∈ low, Stab P I (opAt ops x.1) x.2) : ∀ t : PT,
    (∀ (listed : Array Bool) (a : Act) (w : World), detT P ops need (low.map (·.1)) c true listed t = true → I w →
      wpList P ops (Seg (planT P ops (finI ops need low Q) I c t).2) (planT P ops (finI ops need low Q) I c t).1 a w →
      wpAnyC P .any ops (Seg (finI ops need low Q)) I c t.flat.length listed a w) ∧
    (∀ (listed : Array Bool) (a : Act) (w : World) (m : Nat), t.flat.length = m + 1 → detT P ops need (low.map (·.1)) c false listed t = true → I w →
      wpList P ops (Seg (planT P ops (finI ops need low Q) I c t).2) (planT P ops (finI ops need low Q) I c t).1 a w →
      ∀ j ∈ t.heads, j ∈ Region.ready .any ops listed → wpOp P ops (Seg (finI ops need low Q)) j (fun a' w' => (j ≠ c → I w') ∧ wpAnyC P .any ops (Seg (finI ops need low Q)) I c m (listed.setIfInBounds j true) a' w') a w) := by
  intro t
  induction t with
  | nil =>
    refine ⟨fun listed a w hd _ h => ?_, fun _ _ _ _ _ _ _ _ j hj => by simp [PT.heads] at hj⟩
    have : Region.ready .any ops listed = [] := by simpa [detT] using hd
    exact ⟨this, h⟩
  | rd i r ih =>
    refine ⟨fun listed a w hd hIw h => ?_, fun _ _ _ _ _ _ _ _ j hj => by simp [PT.heads] at hj⟩
    simp only [detT, Bool.true_and, Bool.and_eq_true] at hd
    obtain ⟨⟨⟨hr, hf⟩, hk⟩, hwt, hrest⟩ := hd
    have hwait := waitsC_spec hwt
    have hr' : i ∈ Region.ready .any ops listed := by simpa using hr
    obtain ⟨_, oi, hoi, _⟩ := mem_ready.1 hr'
    have hat : opAt ops i = oi := by simp [opAt, hoi]
    have hends := endsT (.rd i r) a w h
    have h' : wpList P ops (Seg (planT P ops (finI ops need low Q) I c r).2) (oi :: (planT P ops (finI ops need low Q) I c r).1) a w := by
      rw [← hat]; exact h
    have hQ : ∀ v c a w, Seg (finI ops need low Q) (.panic c) (a.put oi.dst v) w → Seg (finI ops need low Q) (.panic c) a w := fun _ _ _ _ h => h.elim
    have hsel := fun j o cs b ho => Region.noSelect_spec hs j o cs b ho
    have key : ∀ (s : Sem Value), execOp a.eval oi = (do Pure.pure (Next.value (← s))) → (∀ v w1, s.run P w = .ok v w1 → w1 = w ∧ ∀ w', I w' → s.run P w' = .ok v w') →
        wpAnyC P .any ops (Seg (finI ops need low Q)) I c (r.flat.length + 1) listed a w := fun s hex hl => by
      cases hw : Region.wanted oi (yielded ops a.tmps) with
      | true =>
        unfold wpList at h'
        rw [if_pos hw] at h'
        rcases h' with h' | h'
        · unfold Oper.wp at h'
          rw [hex, Sem.run_bind] at h'
          cases hrun : s.run P w with
          | ok v w1 =>
            obtain ⟨rfl, hall⟩ := hl _ _ hrun
            rw [hrun] at h'
            have hy : YieldsIf P ops I oi v a := .inl ⟨hw, fun w' hw' => by rw [hex, Sem.run_bind, hall w' hw']; rfl⟩
            exact C_first hoi hsel (hQ v) hwait r.flat.length listed a w1 (Region.free_spec hoi hf) hr' hy hIw (ih.1 _ _ w1 hrest hIw h')
          | halt x w1 =>
            rw [hrun] at h'
            cases x <;> exact h'.elim
        · exact (Seg.letsOut h'.2).elim
      | false =>
        unfold wpList at h'
        rw [if_neg (by rw [hw]; decide)] at h'
        exact C_first hoi hsel (hQ undef) hwait r.flat.length listed a w (Region.free_spec hoi hf) hr' (.inr ⟨hw, rfl⟩) hIw (ih.1 _ _ w hrest hIw h')
    obtain ⟨af, wf, ⟨hneed, hlowf, _⟩, hsame⟩ := hends
    rcases (Bool.or_eq_true _ _).mp hk with hp | hp
    · obtain ⟨hst, hp⟩ := (Bool.and_eq_true _ _).mp hp
      have hne : needOk (needOf need (opAt ops i)) a = true := by
        unfold needOk at hneed ⊢
        rw [List.all_eq_true] at hneed ⊢
        intro p hpm
        have hp0 := hpm
        simp only [needOf, List.mem_filter] at hpm
        have h3 := hneed p hpm.1
        rw [hsame p.1 (fun x hx hd => by
          have h5 := List.all_eq_true.1 hst x hx
          simp only [hd] at h5
          have h6 := List.all_eq_true.1 h5 p hp0
          simp at h6)] at h3
        exact h3
      rw [hat] at hp hne
      obtain ⟨s, hex, hloc⟩ := pureOp_local hp hne
      exact key s hex fun v w1 hrun => ⟨(hloc _ _ _ hrun).1, fun w' _ => (hloc _ _ _ hrun).2 w'⟩
    · obtain ⟨hix, hst⟩ := (Bool.and_eq_true _ _).mp hp
      simp only [List.contains_iff_mem, List.mem_map] at hix
      obtain ⟨⟨i', p⟩, hxm, hxi⟩ := hix
      have hxi' : i' = i := hxi
      subst hxi'
      have hev : a.eval (lowOpnd oi) = p := by
        have e := hlowf _ hxm
        simp only [hat] at e
        rw [← e]
        refine (eval_same fun t ht => ?_).symm
        refine hsame t fun x hx hd => ?_
        have h5 := List.all_eq_true.1 hst x hx
        simp only [hd, hat] at h5
        have h6 := lowOpnd_in oi ht
        simp [h6] at h5
      have hstab := hlow _ hxm
      simp only [hat] at hstab
      unfold Stab at hstab
      cases hop : oi.op <;> simp only [hop] at hstab
      case load t x =>
        have hev' : a.eval x = p := by simpa only [lowOpnd, hop] using hev
        obtain ⟨v, hv⟩ := hstab
        refine key (Instr.loadAt t p) (by simp only [execOp, hop, hev']) fun u w1 hrun => ?_
        rw [hv w hIw] at hrun
        cases hrun
        exact ⟨rfl, hv⟩
      case convert src d x =>
        have hev' : a.eval x = p := by simpa only [lowOpnd, hop] using hev
        obtain ⟨v, hv⟩ := hstab
        refine key (Go.convert src d p) (by simp only [execOp, hop, hev']) fun u w1 hrun => ?_
        rw [hv w hIw] at hrun
        cases hrun
        exact ⟨rfl, hv⟩
  | wr i r ih =>
    have B : ∀ (listed : Array Bool) (a : Act) (w : World), ((i != c || r.flat.isEmpty) && detT P ops need (low.map (·.1)) c true (listed.setIfInBounds i true) r) = true →
        wpList P ops (Seg (planT P ops (finI ops need low Q) I c (.wr i r)).2) (planT P ops (finI ops need low Q) I c (.wr i r)).1 a w → i ∈ Region.ready .any ops listed →
        wpOp P ops (Seg (finI ops need low Q)) i (fun a' w' => (i ≠ c → I w') ∧ wpAnyC P .any ops (Seg (finI ops need low Q)) I c r.flat.length (listed.setIfInBounds i true) a' w') a w := fun listed a w hd h hr => by
      simp only [Bool.and_eq_true] at hd
      refine writeT hr h fun a' w' ⟨h2, h3⟩ => ⟨h2, ?_⟩
      by_cases e : i = c
      · have hre := hd.1
        simp only [e, bne_self_eq_false, Bool.false_or] at hre
        have hn := flat_nil hre
        subst hn
        have : Region.ready .any ops (listed.setIfInBounds i true) = [] := by simpa [detT] using hd.2
        exact ⟨this, h3⟩
      · exact ih.1 _ a' w' hd.2 (h2 e) h3
    refine ⟨fun listed a w hd hIw h => ?_, fun listed a w m hm hd hIw h j hj hr => ?_⟩
    · unfold detT at hd
      rw [Bool.not_true, Bool.false_or, Bool.and_eq_true] at hd
      have hr : Region.ready .any ops listed = [i] := by simpa using hd.1
      refine ⟨fun h0 => (by rw [hr] at h0; cases h0), fun j hj => ?_⟩
      have hj' := hj
      rw [hr] at hj'
      obtain rfl : j = i := by simpa using hj'
      exact B listed a w hd.2 h hj
    · unfold detT at hd
      rw [Bool.not_false, Bool.true_or, Bool.true_and] at hd
      obtain rfl : j = i := by simpa [PT.heads] using hj
      obtain rfl : m = r.flat.length := by simp [PT.flat] at hm; omega
      exact B listed a w hd h hr
  | alt i r s ihr ihs =>
    have B : ∀ (listed : Array Bool) (a : Act) (w : World), (((i != c || r.flat.isEmpty) && detT P ops need (low.map (·.1)) c true (listed.setIfInBounds i true) r) && ((r.flat.length + 1 == s.flat.length) && detT P ops need (low.map (·.1)) c false listed s)) = true → I w →
        wpList P ops (Seg (planT P ops (finI ops need low Q) I c (.alt i r s)).2) (planT P ops (finI ops need low Q) I c (.alt i r s)).1 a w → ∀ j ∈ i :: s.heads, j ∈ Region.ready .any ops listed →
        wpOp P ops (Seg (finI ops need low Q)) j (fun a' w' => (j ≠ c → I w') ∧ wpAnyC P .any ops (Seg (finI ops need low Q)) I c r.flat.length (listed.setIfInBounds j true) a' w') a w := fun listed a w hd hIw h j hj hr => by
      rw [Bool.and_eq_true, Bool.and_eq_true, Bool.and_eq_true] at hd
      obtain ⟨⟨hd1, hd2⟩, hd3, hd4⟩ := hd
      rcases List.mem_cons.1 hj with rfl | hj
      · refine writeT hr h.1 fun a' w' ⟨h2, h3⟩ => ⟨h2, ?_⟩
        by_cases e : j = c
        · simp only [e, bne_self_eq_false, Bool.false_or] at hd1
          have hn := flat_nil hd1
          subst hn
          have : Region.ready .any ops (listed.setIfInBounds j true) = [] := by simpa [detT] using hd2
          exact ⟨this, h3⟩
        · exact ihr.1 _ a' w' hd2 (h2 e) h3
      · exact ihs.2 listed a w r.flat.length (by have := beq_iff_eq.1 hd3; omega) hd4 hIw h.2 j hj hr
    refine ⟨fun listed a w hd hIw h => ?_, fun listed a w m hm hd hIw h j hj hr => ?_⟩
    · unfold detT at hd
      rw [Bool.not_true, Bool.false_or, Bool.and_eq_true] at hd
      have hr : Region.ready .any ops listed = i :: s.heads := by simpa using hd.1
      refine ⟨fun h0 => (by rw [hr] at h0; cases h0), fun j hj => ?_⟩
      have hj' := hj
      rw [hr] at hj'
      exact B listed a w hd.2 hIw h j hj' hj
    · unfold detT at hd
      rw [Bool.not_false, Bool.true_or, Bool.true_and] at hd
      obtain rfl : m = r.flat.length := by simp [PT.flat] at hm; omega
      exact B listed a w hd hIw h j hj hr
theorem region_fork {Q : Exit → Act → World → Prop} {id : Nat} {l : List Oper} {a : Act} {w : World} (t : PT) (need : Needs) (low : List (Nat × Value)) (I : World → Prop) (c : Nat) (hm : P.follows .mixedOrders = true)
    (hs : Region.noSelect l.toArray = true) (hn : t.flat.length = l.length) (hd : detT P l.toArray need (low.map (·.1)) c true (Array.replicate l.length false) t = true)
    (hlow : ∀ x ∈ low, Stab P I (opAt l.toArray x.1) x.2) (hI : I w.drew)
    (h : wpList P l.toArray (Seg (planT P l.toArray (finI l.toArray need low Q) I c t).2) (planT P l.toArray (finI l.toArray need low Q) I c t).1 a w.drew) : (Code.region id l.toArray true).wp P Q a w := by
  refine Code.wp_mono (Q := Seg (finI l.toArray need low Q)) (fun e a w h => ?_) ?_
  · cases e <;> first | exact h.2.2 | exact h.elim
  · refine wp_region_any hm (wpAny_of_C (I := I) (c := c) _ _ _ _ (?_ : wpAnyC P .any l.toArray (Seg (finI l.toArray need low Q)) I c l.toArray.size (Array.replicate l.toArray.size false) a w.drew))
    have := (mainT (Q := Q) (c := c) hs hlow t).1 (Array.replicate l.length false) a w.drew hd hI h
    rw [hn] at this
    exact this
end
end TL
end Go

/- The walk of the laws' Great, of messages. Conditions: lengths. -/
namespace Go
namespace TL
open Go.RowKit
def sumP : List (List UInt8 × List UInt8) → Nat
  | [] => 0
  | x :: l => min x.1.length 30001 + min x.2.length 30001 + sumP l
def sumO : List Opr → Nat
  | [] => 0
  | x :: l => min x.2.1.length 30001 + min x.2.2.length 30001 + sumO l
theorem sumP_app : ∀ (l m : List (List UInt8 × List UInt8)), sumP (l ++ m) = sumP l + sumP m
  | [], m => by simp [sumP]
  | x :: l, m => by rw [List.cons_append, sumP, sumP, sumP_app l m]; omega
theorem sumO_app : ∀ (l m : List Opr), sumO (l ++ m) = sumO l + sumO m
  | [], m => by simp [sumO]
  | x :: l, m => by rw [List.cons_append, sumO, sumO, sumO_app l m]; omega
theorem sumP_take {l : List (List UInt8 × List UInt8)} {k : Nat} {x : List UInt8 × List UInt8} (h : l[k]? = some x) : sumP (l.take (k + 1)) = sumP (l.take k) + (min x.1.length 30001 + min x.2.length 30001) := by
  obtain ⟨hk, rfl⟩ := List.getElem?_eq_some_iff.1 h
  rw [List.take_succ_eq_append_getElem hk, sumP_app]; simp [sumP]
theorem sumO_take {l : List Opr} {k : Nat} {x : Opr} (h : l[k]? = some x) : sumO (l.take (k + 1)) = sumO (l.take k) + (min x.2.1.length 30001 + min x.2.2.length 30001) := by
  obtain ⟨hk, rfl⟩ := List.getElem?_eq_some_iff.1 h
  rw [List.take_succ_eq_append_getElem hk, sumO_app]; simp [sumO]
theorem sumP_le : ∀ (l : List (List UInt8 × List UInt8)), sumP l ≤ l.length * 60002
  | [] => by simp [sumP]
  | x :: l => by have := sumP_le l; rw [sumP, List.length_cons]; omega
theorem sumO_le : ∀ (l : List Opr), sumO l ≤ l.length * 60002
  | [] => by simp [sumO]
  | x :: l => by have := sumO_le l; rw [sumO, List.length_cons]; omega
def greatL (L : Lm) : Bool := decide (300 < L.prs.length) || (decide (300 < L.ops.length) || decide (30000 < sumP (L.prs.take 301) + sumO (L.ops.take 301)))
end TL
end Go
namespace Go.Proofs.YtidadhbaomieiaaGreat
open Go.RowKit Go.TL
set_option maxRecDepth 100000 in
set_option maxHeartbeats 16000000 in
theorem Great_c (L : Lm) (ov pv : Value) (w : World) (hL : L.fit) (S : SeesL w 3 opV ov L.ops) (T : SeesL w 2 prV pv L.prs) (ho : ∀ x ∈ L.ops, x.2.1.length ≤ maxLen ∧ x.2.2.length ≤ maxLen) (hp : ∀ x ∈ L.prs, x.1.length ≤ maxLen ∧ x.2.length ≤ maxLen) :
    Calls Tryz.prog 56 #[.agg (msgC (L.ms ov pv)).toArray] w fun e w' => e = .returned (.bool (greatL L)) ∧ Below w.heap.size w w' := by
  have M := Mem.start [] w
  obtain ⟨op, oc, rfl, _⟩ := S.form
  obtain ⟨pp, pc, rfl, _⟩ := T.form
  have X := msg_cells (Lm.ms_fit hL (ov := .slice op L.ops.length oc) (pv := .slice pp L.prs.length pc) rfl rfl)
  have HO : (msgC (L.ms (.slice op L.ops.length oc) (.slice pp L.prs.length pc)))[6]? = some (.slice op L.ops.length oc) := rfl
  have HP := X.pv
  have HO := Lib.hid HO
  replace HP := Lib.hid HP
  obtain ⟨C, eC⟩ : ∃ C, C = msgC (L.ms (.slice op L.ops.length oc) (.slice pp L.prs.length pc)) := ⟨_, rfl⟩
  rw [← eC] at HO HP ⊢
  clear X eC
  simp only [Lm.ms] at HO HP
  have G1 : 300 < L.prs.length → greatL L = true := fun h => by unfold greatL; rw [decide_eq_true h]; rfl
  have G2 : 300 < L.ops.length → greatL L = true := fun h => by unfold greatL; rw [decide_eq_true h]; simp
  have G3 : L.prs.length ≤ 300 → L.ops.length ≤ 300 → greatL L = decide (30000 < sumP (L.prs.take 301) + sumO (L.ops.take 301)) := fun h h' => by unfold greatL; rw [decide_eq_false (by omega), decide_eq_false (by omega)]; rfl
  obtain ⟨R, eR⟩ : ∃ R, R = greatL L := ⟨_, rfl⟩
  rw [← eR] at G1 G2 G3 ⊢
  clear eR
  obtain ⟨ops, eo⟩ : ∃ o, o = L.ops := ⟨_, rfl⟩
  obtain ⟨prs, ep⟩ : ∃ o, o = L.prs := ⟨_, rfl⟩
  rw [← eo] at S ho HO G2 G3
  rw [← ep] at T hp HP G1 G3
  clear eo ep hL
  replace G3 := Lib.hid G3
  go_enter Tryz.func56, Tryz.ntmps56
  go_wp2_with ((first | ((with_reducible refine tBox (some 1) ?_); refine w_box M _ _ rfl rfl _ rfl (C) rfl ?_; clear M; intro gm w1 M) | ((with_reducible refine tLoad ?_); go_must (refine w_at _ _ rfl (by exact ev_tmp rfl) ?_; intro hx; (first | refine w_load M 0 _ _ rfl rfl hx rfl (by decide +kernel) (by with_reducible first | exact HP.out | exact HO.out) ?_); clear hx)) | ((with_reducible refine tGuard ?_); refine gdS ?_) | fail | ((with_reducible refine tLoad ?_); go_must (refine ldS ?_)) | ((with_reducible refine tStore ?_); go_must (refine stS ?_; clear M; intro w1 M; (try simp only [setC] at M))) | ((with_reducible refine tBox _ ?_); (refine bxA M ?_; clear M; intro g w1 M))) <;> (try conv => arg 5; simp only [Act.put, List.setIfInBounds_toArray, setC]))
  go_loopw [3, 4] (fun nv iv wr => ∃ k : Nat, k ≤ prs.length ∧ k ≤ 301 ∧ iv = .int .i64 k ∧ nv = .int .i64 (sumP (prs.take k)) ∧ Mem [] w wr [.row gm C]) (fun _ iv _ => prs.length - (intOf iv).toNat)
  case atStart => exact ⟨0, by omega, by omega, rfl, rfl, M⟩
  case round =>
    clear M
    obtain ⟨k, hk, hk1, rfl, rfl, M⟩ := hrel
    by_cases hlt : k < prs.length ∧ k ≤ 300
    · obtain ⟨hlt, hk3⟩ := hlt
      obtain ⟨g, so, rfl⟩ := T.addr (by omega)
      obtain ⟨⟨a, b⟩, hx⟩ : ∃ x, prs[k]? = some x := ⟨_, List.getElem?_eq_getElem hlt⟩
      obtain ⟨ha, hb⟩ := hp (a, b) (List.mem_of_getElem? hx)
      unfold maxLen at ha hb
      simp only at ha hb
      have HS := sumP_take hx
      have hsl := sumP_le (prs.take k)
      rw [List.length_take] at hsl
      obtain ⟨s, es⟩ : ∃ s, s = sumP (prs.take k) := ⟨_, rfl⟩
      rw [← es] at HS hsl ⊢
      simp only at HS
      replace hsl : s ≤ 18060602 := by have : min k prs.length ≤ 301 := by omega
                                       omega
      have HX := Lib.hid hx
      replace HS := Lib.hid HS
      clear hx es
      have e1 := I64_nat (s + (min a.length 30001)) (by omega)
      have e2 := I64_nat (s + (min a.length 30001 + min b.length 30001)) (by omega)
      go_wp2_with ((first | ((with_reducible refine tGuard ?_); (with_reducible refine w_stripE ?_ ?_); (focus (refine ⟨_, rfl, ?_⟩; first | (with_reducible rfl) | exact decide_eq_false (by omega) | exact decide_eq_true (by omega)))) | ((with_reducible refine tGuard ?_); first | ((with_reducible refine w_skip1 ?_ ?_); (focus (refine ⟨_, rfl, ?_⟩; first | (with_reducible rfl) | exact decide_eq_false (by omega) | exact decide_eq_true (by omega)))) | ((with_reducible refine w_skip0 ?_ ?_); (focus (refine ⟨_, rfl, ?_⟩; first | (with_reducible rfl) | exact decide_eq_false (by omega) | exact decide_eq_true (by omega))))) | ((with_reducible show Code.wp _ (Code.region 5 _ _) _ _ _); go_must (have MR := M; refine region_fork (.rd 0 (.rd 1 (.rd 3 (.rd 10 (.rd 12 (.rd 2 (.rd 4 (.rd 5 (.rd 6 (.rd 7 (.rd 11 (.rd 13 (.rd 14 (.rd 15 (.rd 16 (.alt 8 (.rd 9 (.wr 17 (.rd 18 (.rd 19 .nil)))) (.wr 17 (.wr 8 (.rd 9 (.rd 18 (.rd 19 .nil))))))))))))))))))))) [(17, .int), (25, .int), (26, .int), (34, .int)] [(2, _), (6, _), (11, _), (15, _)] (IxOk MR [0]) 20 (by kernel_rfl) (by kernel_rfl) rfl (by kernel_rfl) (lows_cons (stab_ix MR 0 106 rfl rfl (by decide) (by decide +kernel) HP.out) (lows_cons (stab_see MR T HX.out 0 rfl (by decide +kernel) rfl) (lows_cons (stab_ix MR 0 106 rfl rfl (by decide) (by decide +kernel) HP.out) (lows_cons (stab_see MR T HX.out 1 rfl (by decide +kernel) rfl) lows_nil)))) (ixOk_self MR _) ?_; replace M := M.drew; simp only [planT, opAt, List.getElem?_toArray, List.getElem?_cons_zero, List.getElem?_cons_succ, Option.getD_some])) | ((with_reducible refine tLoad ?_); go_must (refine w_at _ _ rfl (by exact ev_tmp rfl) ?_; intro hx; (first | refine w_load M 0 _ _ rfl rfl hx rfl (by decide +kernel) (by with_reducible first | exact HP.out | exact HO.out) ?_ | refine w_see M T HX.out _ _ rfl hx rfl (by decide +kernel) 0 (by first | (with_reducible rfl) | omega) rfl ?_ | refine w_see M T HX.out _ _ rfl hx rfl (by decide +kernel) 1 (by first | (with_reducible rfl) | omega) rfl ?_); clear hx)) | (with_reducible refine Seg.alt ?_ ?_) | ((with_reducible show Seg _ _ _ _); go_must (first | refine Seg.intro ⟨fun h => absurd rfl h, ?_⟩ | refine Seg.intro ⟨fun _ => ixA, ?_⟩ | refine Seg.intro ⟨ndA, atA, ?_⟩)) | ((with_reducible show OnlyN _ _ _ _ _); refine OnlyN.intro (by kernel_rfl) ?_) | ((with_reducible refine tGuard ?_); refine gdS ?_) | fail | ((with_reducible refine tLoad ?_); go_must (refine ldS ?_)) | ((with_reducible refine tStore ?_); go_must (refine stS ?_; clear M; intro w1 M; (try simp only [setC] at M))) | ((with_reducible refine tBox _ ?_); (refine bxA M ?_; clear M; intro g w1 M))) <;> (try conv => arg 5; simp only [Act.put, List.setIfInBounds_toArray, setC]))
      all_goals
        refine ⟨⟨k + 1, by omega, by omega, by go_num, by rw [HS.out]; congr 1; omega, M⟩, ?_⟩
        simp [intOf]; omega
    · have hT : prs.take k = prs.take 301 := by
        by_cases h : k < prs.length
        · rw [show k = 301 by omega]
        · rw [List.take_of_length_le (by omega), List.take_of_length_le (by omega)]
      rw [hT]
      clear hT
      have hsp := sumP_le (prs.take 301)
      rw [List.length_take] at hsp
      obtain ⟨sp, esp⟩ : ∃ s, s = sumP (prs.take 301) := ⟨_, rfl⟩
      rw [← esp] at hsp ⊢
      replace hsp : sp ≤ 18060602 := by have : min 301 prs.length ≤ 301 := by omega
                                        omega
      have ESP := Lib.hid esp
      clear esp
      by_cases hkl : k < prs.length
      · have hk3 : ¬ k ≤ 300 := by omega
        clear hlt
        go_wp2_with ((first | ((with_reducible refine tGuard ?_); (with_reducible refine w_stripE ?_ ?_); (focus (refine ⟨_, rfl, ?_⟩; first | (with_reducible rfl) | exact decide_eq_false (by omega) | exact decide_eq_true (by omega)))) | ((with_reducible refine tGuard ?_); first | ((with_reducible refine w_skip1 ?_ ?_); (focus (refine ⟨_, rfl, ?_⟩; first | (with_reducible rfl) | exact decide_eq_false (by omega) | exact decide_eq_true (by omega)))) | ((with_reducible refine w_skip0 ?_ ?_); (focus (refine ⟨_, rfl, ?_⟩; first | (with_reducible rfl) | exact decide_eq_false (by omega) | exact decide_eq_true (by omega))))) | ((with_reducible refine tLoad ?_); go_must (refine w_at _ _ rfl (by exact ev_tmp rfl) ?_; intro hx; (first | refine w_load M 0 _ _ rfl rfl hx rfl (by decide +kernel) (by with_reducible first | exact HP.out | exact HO.out) ?_); clear hx)) | ((with_reducible refine tGuard ?_); refine gdS ?_) | fail | ((with_reducible refine tLoad ?_); go_must (refine ldS ?_)) | ((with_reducible refine tStore ?_); go_must (refine stS ?_; clear M; intro w1 M; (try simp only [setC] at M))) | ((with_reducible refine tBox _ ?_); (refine bxA M ?_; clear M; intro g w1 M))) <;> (try conv => arg 5; simp only [Act.put, List.setIfInBounds_toArray, setC]))
        go_loopw [3, 5] (fun nv iv wr => ∃ j : Nat, j ≤ ops.length ∧ j ≤ 301 ∧ iv = .int .i64 j ∧ nv = .int .i64 ((sp + sumO (ops.take j) : Nat) : Int) ∧ Mem [] w wr [.row gm C]) (fun _ iv _ => ops.length - (intOf iv).toNat)
        case atStart => exact ⟨0, by omega, by omega, rfl, rfl, M⟩
        case round =>
          clear M
          obtain ⟨j, hj, hj1, rfl, rfl, M⟩ := hrel
          by_cases hjl : j < ops.length ∧ j ≤ 300
          · obtain ⟨hjl, hj3⟩ := hjl
            obtain ⟨g, so, rfl⟩ := S.addr (by omega)
            obtain ⟨⟨q, a, b⟩, hx⟩ : ∃ x, ops[j]? = some x := ⟨_, List.getElem?_eq_getElem hjl⟩
            obtain ⟨ha, hb⟩ := ho (q, a, b) (List.mem_of_getElem? hx)
            unfold maxLen at ha hb
            simp only at ha hb
            have HS := sumO_take hx
            have hsl := sumO_le (ops.take j)
            rw [List.length_take] at hsl
            obtain ⟨s, es⟩ : ∃ s, s = sumO (ops.take j) := ⟨_, rfl⟩
            rw [← es] at HS hsl ⊢
            simp only at HS
            replace hsl : s ≤ 18060602 := by have : min j ops.length ≤ 301 := by omega
                                             omega
            have HX := Lib.hid hx
            replace HS := Lib.hid HS
            clear hx es
            have e1 := I64_nat (sp + s + (min a.length 30001)) (by omega)
            have e2 := I64_nat (sp + s + (min a.length 30001 + min b.length 30001)) (by omega)
            go_wp2_with ((first | ((with_reducible refine tGuard ?_); (with_reducible refine w_stripE ?_ ?_); (focus (refine ⟨_, rfl, ?_⟩; first | (with_reducible rfl) | exact decide_eq_false (by omega) | exact decide_eq_true (by omega)))) | ((with_reducible refine tGuard ?_); first | ((with_reducible refine w_skip1 ?_ ?_); (focus (refine ⟨_, rfl, ?_⟩; first | (with_reducible rfl) | exact decide_eq_false (by omega) | exact decide_eq_true (by omega)))) | ((with_reducible refine w_skip0 ?_ ?_); (focus (refine ⟨_, rfl, ?_⟩; first | (with_reducible rfl) | exact decide_eq_false (by omega) | exact decide_eq_true (by omega))))) | ((with_reducible show Code.wp _ (Code.region 9 _ _) _ _ _); go_must (have MR := M; refine region_fork (.rd 0 (.rd 1 (.rd 2 (.rd 4 (.rd 11 (.rd 12 (.rd 14 (.rd 3 (.rd 5 (.rd 6 (.rd 7 (.rd 8 (.rd 13 (.rd 15 (.rd 16 (.rd 17 (.rd 18 (.alt 9 (.rd 10 (.wr 19 (.rd 20 (.rd 21 .nil)))) (.wr 19 (.wr 9 (.rd 10 (.rd 20 (.rd 21 .nil))))))))))))))))))))))) [(48, .int), (57, .int), (58, .int), (67, .int)] [(3, _), (7, _), (13, _), (17, _)] (IxOk MR [0]) 22 (by kernel_rfl) (by kernel_rfl) rfl (by kernel_rfl) (lows_cons (stab_ix MR 0 6 rfl rfl (by decide) (by decide +kernel) HO.out) (lows_cons (stab_see MR S HX.out 1 rfl (by decide +kernel) rfl) (lows_cons (stab_ix MR 0 6 rfl rfl (by decide) (by decide +kernel) HO.out) (lows_cons (stab_see MR S HX.out 2 rfl (by decide +kernel) rfl) lows_nil)))) (ixOk_self MR _) ?_; replace M := M.drew; simp only [planT, opAt, List.getElem?_toArray, List.getElem?_cons_zero, List.getElem?_cons_succ, Option.getD_some])) | ((with_reducible refine tLoad ?_); go_must (refine w_at _ _ rfl (by exact ev_tmp rfl) ?_; intro hx; (first | refine w_load M 0 _ _ rfl rfl hx rfl (by decide +kernel) (by with_reducible first | exact HP.out | exact HO.out) ?_ | refine w_see M S HX.out _ _ rfl hx rfl (by decide +kernel) 1 (by first | (with_reducible rfl) | omega) rfl ?_ | refine w_see M S HX.out _ _ rfl hx rfl (by decide +kernel) 2 (by first | (with_reducible rfl) | omega) rfl ?_); clear hx)) | (with_reducible refine Seg.alt ?_ ?_) | ((with_reducible show Seg _ _ _ _); go_must (first | refine Seg.intro ⟨fun h => absurd rfl h, ?_⟩ | refine Seg.intro ⟨fun _ => ixA, ?_⟩ | refine Seg.intro ⟨ndA, atA, ?_⟩)) | ((with_reducible show OnlyN _ _ _ _ _); refine OnlyN.intro (by kernel_rfl) ?_) | ((with_reducible refine tGuard ?_); refine gdS ?_) | fail | ((with_reducible refine tLoad ?_); go_must (refine ldS ?_)) | ((with_reducible refine tStore ?_); go_must (refine stS ?_; clear M; intro w1 M; (try simp only [setC] at M))) | ((with_reducible refine tBox _ ?_); (refine bxA M ?_; clear M; intro g w1 M))) <;> (try conv => arg 5; simp only [Act.put, List.setIfInBounds_toArray, setC]))
            all_goals
              refine ⟨⟨j + 1, by omega, by omega, by go_num, by rw [HS.out]; congr 1; omega, M⟩, ?_⟩
              simp [intOf]; omega
          · have hT : ops.take j = ops.take 301 := by
              by_cases h : j < ops.length
              · rw [show j = 301 by omega]
              · rw [List.take_of_length_le (by omega), List.take_of_length_le (by omega)]
            rw [hT]
            clear hT
            obtain ⟨s, es⟩ : ∃ s, s = sumO (ops.take 301) := ⟨_, rfl⟩
            rw [← es]
            have ES := Lib.hid es
            clear es
            by_cases hjl2 : j < ops.length
            · have hj3 : ¬ j ≤ 300 := by omega
              clear hjl
              by_cases hp3 : 300 < prs.length
              · first | (exfalso; omega) | (have e0 := G1 hp3; subst e0; go_wp2_with ((first | ((with_reducible refine tGuard ?_); (with_reducible refine w_stripE ?_ ?_); (focus (refine ⟨_, rfl, ?_⟩; first | (with_reducible rfl) | exact decide_eq_false (by omega) | exact decide_eq_true (by omega)))) | ((with_reducible refine tGuard ?_); first | ((with_reducible refine w_skip1 ?_ ?_); (focus (refine ⟨_, rfl, ?_⟩; first | (with_reducible rfl) | exact decide_eq_false (by omega) | exact decide_eq_true (by omega)))) | ((with_reducible refine w_skip0 ?_ ?_); (focus (refine ⟨_, rfl, ?_⟩; first | (with_reducible rfl) | exact decide_eq_false (by omega) | exact decide_eq_true (by omega))))) | ((with_reducible refine tLoad ?_); go_must (refine w_at _ _ rfl (by exact ev_tmp rfl) ?_; intro hx; (first | refine w_load M 0 _ _ rfl rfl hx rfl (by decide +kernel) (by with_reducible first | exact HP.out | exact HO.out) ?_); clear hx)) | ((with_reducible refine tGuard ?_); refine gdS ?_) | fail | ((with_reducible refine tLoad ?_); go_must (refine ldS ?_)) | ((with_reducible refine tStore ?_); go_must (refine stS ?_; clear M; intro w1 M; (try simp only [setC] at M))) | ((with_reducible refine tBox _ ?_); (refine bxA M ?_; clear M; intro g w1 M))) <;> (try conv => arg 5; simp only [Act.put, List.setIfInBounds_toArray, setC])); go_ret; exact ⟨rfl, M.below⟩)
              · by_cases ho3 : 300 < ops.length
                · first | (exfalso; omega) | (have e0 := G2 ho3; subst e0; go_wp2_with ((first | ((with_reducible refine tGuard ?_); (with_reducible refine w_stripE ?_ ?_); (focus (refine ⟨_, rfl, ?_⟩; first | (with_reducible rfl) | exact decide_eq_false (by omega) | exact decide_eq_true (by omega)))) | ((with_reducible refine tGuard ?_); first | ((with_reducible refine w_skip1 ?_ ?_); (focus (refine ⟨_, rfl, ?_⟩; first | (with_reducible rfl) | exact decide_eq_false (by omega) | exact decide_eq_true (by omega)))) | ((with_reducible refine w_skip0 ?_ ?_); (focus (refine ⟨_, rfl, ?_⟩; first | (with_reducible rfl) | exact decide_eq_false (by omega) | exact decide_eq_true (by omega))))) | ((with_reducible refine tLoad ?_); go_must (refine w_at _ _ rfl (by exact ev_tmp rfl) ?_; intro hx; (first | refine w_load M 0 _ _ rfl rfl hx rfl (by decide +kernel) (by with_reducible first | exact HP.out | exact HO.out) ?_); clear hx)) | ((with_reducible refine tGuard ?_); refine gdS ?_) | fail | ((with_reducible refine tLoad ?_); go_must (refine ldS ?_)) | ((with_reducible refine tStore ?_); go_must (refine stS ?_; clear M; intro w1 M; (try simp only [setC] at M))) | ((with_reducible refine tBox _ ?_); (refine bxA M ?_; clear M; intro g w1 M))) <;> (try conv => arg 5; simp only [Act.put, List.setIfInBounds_toArray, setC])); go_ret; exact ⟨rfl, M.below⟩)
                · first | (exfalso; omega) | (have e0 := G3.out (by omega) (by omega); rw [← ESP.out, ← ES.out] at e0; subst e0; go_wp2_with ((first | ((with_reducible refine tGuard ?_); (with_reducible refine w_stripE ?_ ?_); (focus (refine ⟨_, rfl, ?_⟩; first | (with_reducible rfl) | exact decide_eq_false (by omega) | exact decide_eq_true (by omega)))) | ((with_reducible refine tGuard ?_); first | ((with_reducible refine w_skip1 ?_ ?_); (focus (refine ⟨_, rfl, ?_⟩; first | (with_reducible rfl) | exact decide_eq_false (by omega) | exact decide_eq_true (by omega)))) | ((with_reducible refine w_skip0 ?_ ?_); (focus (refine ⟨_, rfl, ?_⟩; first | (with_reducible rfl) | exact decide_eq_false (by omega) | exact decide_eq_true (by omega))))) | ((with_reducible refine tLoad ?_); go_must (refine w_at _ _ rfl (by exact ev_tmp rfl) ?_; intro hx; (first | refine w_load M 0 _ _ rfl rfl hx rfl (by decide +kernel) (by with_reducible first | exact HP.out | exact HO.out) ?_); clear hx)) | ((with_reducible refine tGuard ?_); refine gdS ?_) | fail | ((with_reducible refine tLoad ?_); go_must (refine ldS ?_)) | ((with_reducible refine tStore ?_); go_must (refine stS ?_; clear M; intro w1 M; (try simp only [setC] at M))) | ((with_reducible refine tBox _ ?_); (refine bxA M ?_; clear M; intro g w1 M))) <;> (try conv => arg 5; simp only [Act.put, List.setIfInBounds_toArray, setC])); go_ret; exact ⟨congrArg (fun b => Ending.returned (.bool b)) (by first | exact decide_eq_decide.2 (by omega) | (rw [decide_eq_false (show ¬ (300 : Int) < (prs.length : Int) by omega), decide_eq_false (show ¬ (300 : Int) < (ops.length : Int) by omega), Bool.false_or, Bool.false_or]; exact decide_eq_decide.2 (by omega))), M.below⟩)
            · clear hjl
              by_cases hp3 : 300 < prs.length
              · first | (exfalso; omega) | (have e0 := G1 hp3; subst e0; go_wp2_with ((first | ((with_reducible refine tGuard ?_); (with_reducible refine w_stripE ?_ ?_); (focus (refine ⟨_, rfl, ?_⟩; first | (with_reducible rfl) | exact decide_eq_false (by omega) | exact decide_eq_true (by omega)))) | ((with_reducible refine tGuard ?_); first | ((with_reducible refine w_skip1 ?_ ?_); (focus (refine ⟨_, rfl, ?_⟩; first | (with_reducible rfl) | exact decide_eq_false (by omega) | exact decide_eq_true (by omega)))) | ((with_reducible refine w_skip0 ?_ ?_); (focus (refine ⟨_, rfl, ?_⟩; first | (with_reducible rfl) | exact decide_eq_false (by omega) | exact decide_eq_true (by omega))))) | ((with_reducible refine tLoad ?_); go_must (refine w_at _ _ rfl (by exact ev_tmp rfl) ?_; intro hx; (first | refine w_load M 0 _ _ rfl rfl hx rfl (by decide +kernel) (by with_reducible first | exact HP.out | exact HO.out) ?_); clear hx)) | ((with_reducible refine tGuard ?_); refine gdS ?_) | fail | ((with_reducible refine tLoad ?_); go_must (refine ldS ?_)) | ((with_reducible refine tStore ?_); go_must (refine stS ?_; clear M; intro w1 M; (try simp only [setC] at M))) | ((with_reducible refine tBox _ ?_); (refine bxA M ?_; clear M; intro g w1 M))) <;> (try conv => arg 5; simp only [Act.put, List.setIfInBounds_toArray, setC])); go_ret; exact ⟨rfl, M.below⟩)
              · by_cases ho3 : 300 < ops.length
                · first | (exfalso; omega) | (have e0 := G2 ho3; subst e0; go_wp2_with ((first | ((with_reducible refine tGuard ?_); (with_reducible refine w_stripE ?_ ?_); (focus (refine ⟨_, rfl, ?_⟩; first | (with_reducible rfl) | exact decide_eq_false (by omega) | exact decide_eq_true (by omega)))) | ((with_reducible refine tGuard ?_); first | ((with_reducible refine w_skip1 ?_ ?_); (focus (refine ⟨_, rfl, ?_⟩; first | (with_reducible rfl) | exact decide_eq_false (by omega) | exact decide_eq_true (by omega)))) | ((with_reducible refine w_skip0 ?_ ?_); (focus (refine ⟨_, rfl, ?_⟩; first | (with_reducible rfl) | exact decide_eq_false (by omega) | exact decide_eq_true (by omega))))) | ((with_reducible refine tLoad ?_); go_must (refine w_at _ _ rfl (by exact ev_tmp rfl) ?_; intro hx; (first | refine w_load M 0 _ _ rfl rfl hx rfl (by decide +kernel) (by with_reducible first | exact HP.out | exact HO.out) ?_); clear hx)) | ((with_reducible refine tGuard ?_); refine gdS ?_) | fail | ((with_reducible refine tLoad ?_); go_must (refine ldS ?_)) | ((with_reducible refine tStore ?_); go_must (refine stS ?_; clear M; intro w1 M; (try simp only [setC] at M))) | ((with_reducible refine tBox _ ?_); (refine bxA M ?_; clear M; intro g w1 M))) <;> (try conv => arg 5; simp only [Act.put, List.setIfInBounds_toArray, setC])); go_ret; exact ⟨rfl, M.below⟩)
                · first | (exfalso; omega) | (have e0 := G3.out (by omega) (by omega); rw [← ESP.out, ← ES.out] at e0; subst e0; go_wp2_with ((first | ((with_reducible refine tGuard ?_); (with_reducible refine w_stripE ?_ ?_); (focus (refine ⟨_, rfl, ?_⟩; first | (with_reducible rfl) | exact decide_eq_false (by omega) | exact decide_eq_true (by omega)))) | ((with_reducible refine tGuard ?_); first | ((with_reducible refine w_skip1 ?_ ?_); (focus (refine ⟨_, rfl, ?_⟩; first | (with_reducible rfl) | exact decide_eq_false (by omega) | exact decide_eq_true (by omega)))) | ((with_reducible refine w_skip0 ?_ ?_); (focus (refine ⟨_, rfl, ?_⟩; first | (with_reducible rfl) | exact decide_eq_false (by omega) | exact decide_eq_true (by omega))))) | ((with_reducible refine tLoad ?_); go_must (refine w_at _ _ rfl (by exact ev_tmp rfl) ?_; intro hx; (first | refine w_load M 0 _ _ rfl rfl hx rfl (by decide +kernel) (by with_reducible first | exact HP.out | exact HO.out) ?_); clear hx)) | ((with_reducible refine tGuard ?_); refine gdS ?_) | fail | ((with_reducible refine tLoad ?_); go_must (refine ldS ?_)) | ((with_reducible refine tStore ?_); go_must (refine stS ?_; clear M; intro w1 M; (try simp only [setC] at M))) | ((with_reducible refine tBox _ ?_); (refine bxA M ?_; clear M; intro g w1 M))) <;> (try conv => arg 5; simp only [Act.put, List.setIfInBounds_toArray, setC])); go_ret; exact ⟨congrArg (fun b => Ending.returned (.bool b)) (by first | exact decide_eq_decide.2 (by omega) | (rw [decide_eq_false (show ¬ (300 : Int) < (prs.length : Int) by omega), decide_eq_false (show ¬ (300 : Int) < (ops.length : Int) by omega), Bool.false_or, Bool.false_or]; exact decide_eq_decide.2 (by omega))), M.below⟩)
      · clear hlt
        go_wp2_with ((first | ((with_reducible refine tGuard ?_); (with_reducible refine w_stripE ?_ ?_); (focus (refine ⟨_, rfl, ?_⟩; first | (with_reducible rfl) | exact decide_eq_false (by omega) | exact decide_eq_true (by omega)))) | ((with_reducible refine tGuard ?_); first | ((with_reducible refine w_skip1 ?_ ?_); (focus (refine ⟨_, rfl, ?_⟩; first | (with_reducible rfl) | exact decide_eq_false (by omega) | exact decide_eq_true (by omega)))) | ((with_reducible refine w_skip0 ?_ ?_); (focus (refine ⟨_, rfl, ?_⟩; first | (with_reducible rfl) | exact decide_eq_false (by omega) | exact decide_eq_true (by omega))))) | ((with_reducible refine tLoad ?_); go_must (refine w_at _ _ rfl (by exact ev_tmp rfl) ?_; intro hx; (first | refine w_load M 0 _ _ rfl rfl hx rfl (by decide +kernel) (by with_reducible first | exact HP.out | exact HO.out) ?_); clear hx)) | ((with_reducible refine tGuard ?_); refine gdS ?_) | fail | ((with_reducible refine tLoad ?_); go_must (refine ldS ?_)) | ((with_reducible refine tStore ?_); go_must (refine stS ?_; clear M; intro w1 M; (try simp only [setC] at M))) | ((with_reducible refine tBox _ ?_); (refine bxA M ?_; clear M; intro g w1 M))) <;> (try conv => arg 5; simp only [Act.put, List.setIfInBounds_toArray, setC]))
        go_loopw [3, 5] (fun nv iv wr => ∃ j : Nat, j ≤ ops.length ∧ j ≤ 301 ∧ iv = .int .i64 j ∧ nv = .int .i64 ((sp + sumO (ops.take j) : Nat) : Int) ∧ Mem [] w wr [.row gm C]) (fun _ iv _ => ops.length - (intOf iv).toNat)
        case atStart => exact ⟨0, by omega, by omega, rfl, rfl, M⟩
        case round =>
          clear M
          obtain ⟨j, hj, hj1, rfl, rfl, M⟩ := hrel
          by_cases hjl : j < ops.length ∧ j ≤ 300
          · obtain ⟨hjl, hj3⟩ := hjl
            obtain ⟨g, so, rfl⟩ := S.addr (by omega)
            obtain ⟨⟨q, a, b⟩, hx⟩ : ∃ x, ops[j]? = some x := ⟨_, List.getElem?_eq_getElem hjl⟩
            obtain ⟨ha, hb⟩ := ho (q, a, b) (List.mem_of_getElem? hx)
            unfold maxLen at ha hb
            simp only at ha hb
            have HS := sumO_take hx
            have hsl := sumO_le (ops.take j)
            rw [List.length_take] at hsl
            obtain ⟨s, es⟩ : ∃ s, s = sumO (ops.take j) := ⟨_, rfl⟩
            rw [← es] at HS hsl ⊢
            simp only at HS
            replace hsl : s ≤ 18060602 := by have : min j ops.length ≤ 301 := by omega
                                             omega
            have HX := Lib.hid hx
            replace HS := Lib.hid HS
            clear hx es
            have e1 := I64_nat (sp + s + (min a.length 30001)) (by omega)
            have e2 := I64_nat (sp + s + (min a.length 30001 + min b.length 30001)) (by omega)
            go_wp2_with ((first | ((with_reducible refine tGuard ?_); (with_reducible refine w_stripE ?_ ?_); (focus (refine ⟨_, rfl, ?_⟩; first | (with_reducible rfl) | exact decide_eq_false (by omega) | exact decide_eq_true (by omega)))) | ((with_reducible refine tGuard ?_); first | ((with_reducible refine w_skip1 ?_ ?_); (focus (refine ⟨_, rfl, ?_⟩; first | (with_reducible rfl) | exact decide_eq_false (by omega) | exact decide_eq_true (by omega)))) | ((with_reducible refine w_skip0 ?_ ?_); (focus (refine ⟨_, rfl, ?_⟩; first | (with_reducible rfl) | exact decide_eq_false (by omega) | exact decide_eq_true (by omega))))) | ((with_reducible show Code.wp _ (Code.region 9 _ _) _ _ _); go_must (have MR := M; refine region_fork (.rd 0 (.rd 1 (.rd 2 (.rd 4 (.rd 11 (.rd 12 (.rd 14 (.rd 3 (.rd 5 (.rd 6 (.rd 7 (.rd 8 (.rd 13 (.rd 15 (.rd 16 (.rd 17 (.rd 18 (.alt 9 (.rd 10 (.wr 19 (.rd 20 (.rd 21 .nil)))) (.wr 19 (.wr 9 (.rd 10 (.rd 20 (.rd 21 .nil))))))))))))))))))))))) [(48, .int), (57, .int), (58, .int), (67, .int)] [(3, _), (7, _), (13, _), (17, _)] (IxOk MR [0]) 22 (by kernel_rfl) (by kernel_rfl) rfl (by kernel_rfl) (lows_cons (stab_ix MR 0 6 rfl rfl (by decide) (by decide +kernel) HO.out) (lows_cons (stab_see MR S HX.out 1 rfl (by decide +kernel) rfl) (lows_cons (stab_ix MR 0 6 rfl rfl (by decide) (by decide +kernel) HO.out) (lows_cons (stab_see MR S HX.out 2 rfl (by decide +kernel) rfl) lows_nil)))) (ixOk_self MR _) ?_; replace M := M.drew; simp only [planT, opAt, List.getElem?_toArray, List.getElem?_cons_zero, List.getElem?_cons_succ, Option.getD_some])) | ((with_reducible refine tLoad ?_); go_must (refine w_at _ _ rfl (by exact ev_tmp rfl) ?_; intro hx; (first | refine w_load M 0 _ _ rfl rfl hx rfl (by decide +kernel) (by with_reducible first | exact HP.out | exact HO.out) ?_ | refine w_see M S HX.out _ _ rfl hx rfl (by decide +kernel) 1 (by first | (with_reducible rfl) | omega) rfl ?_ | refine w_see M S HX.out _ _ rfl hx rfl (by decide +kernel) 2 (by first | (with_reducible rfl) | omega) rfl ?_); clear hx)) | (with_reducible refine Seg.alt ?_ ?_) | ((with_reducible show Seg _ _ _ _); go_must (first | refine Seg.intro ⟨fun h => absurd rfl h, ?_⟩ | refine Seg.intro ⟨fun _ => ixA, ?_⟩ | refine Seg.intro ⟨ndA, atA, ?_⟩)) | ((with_reducible show OnlyN _ _ _ _ _); refine OnlyN.intro (by kernel_rfl) ?_) | ((with_reducible refine tGuard ?_); refine gdS ?_) | fail | ((with_reducible refine tLoad ?_); go_must (refine ldS ?_)) | ((with_reducible refine tStore ?_); go_must (refine stS ?_; clear M; intro w1 M; (try simp only [setC] at M))) | ((with_reducible refine tBox _ ?_); (refine bxA M ?_; clear M; intro g w1 M))) <;> (try conv => arg 5; simp only [Act.put, List.setIfInBounds_toArray, setC]))
            all_goals
              refine ⟨⟨j + 1, by omega, by omega, by go_num, by rw [HS.out]; congr 1; omega, M⟩, ?_⟩
              simp [intOf]; omega
          · have hT : ops.take j = ops.take 301 := by
              by_cases h : j < ops.length
              · rw [show j = 301 by omega]
              · rw [List.take_of_length_le (by omega), List.take_of_length_le (by omega)]
            rw [hT]
            clear hT
            obtain ⟨s, es⟩ : ∃ s, s = sumO (ops.take 301) := ⟨_, rfl⟩
            rw [← es]
            have ES := Lib.hid es
            clear es
            by_cases hjl2 : j < ops.length
            · have hj3 : ¬ j ≤ 300 := by omega
              clear hjl
              by_cases hp3 : 300 < prs.length
              · first | (exfalso; omega) | (have e0 := G1 hp3; subst e0; go_wp2_with ((first | ((with_reducible refine tGuard ?_); (with_reducible refine w_stripE ?_ ?_); (focus (refine ⟨_, rfl, ?_⟩; first | (with_reducible rfl) | exact decide_eq_false (by omega) | exact decide_eq_true (by omega)))) | ((with_reducible refine tGuard ?_); first | ((with_reducible refine w_skip1 ?_ ?_); (focus (refine ⟨_, rfl, ?_⟩; first | (with_reducible rfl) | exact decide_eq_false (by omega) | exact decide_eq_true (by omega)))) | ((with_reducible refine w_skip0 ?_ ?_); (focus (refine ⟨_, rfl, ?_⟩; first | (with_reducible rfl) | exact decide_eq_false (by omega) | exact decide_eq_true (by omega))))) | ((with_reducible refine tLoad ?_); go_must (refine w_at _ _ rfl (by exact ev_tmp rfl) ?_; intro hx; (first | refine w_load M 0 _ _ rfl rfl hx rfl (by decide +kernel) (by with_reducible first | exact HP.out | exact HO.out) ?_); clear hx)) | ((with_reducible refine tGuard ?_); refine gdS ?_) | fail | ((with_reducible refine tLoad ?_); go_must (refine ldS ?_)) | ((with_reducible refine tStore ?_); go_must (refine stS ?_; clear M; intro w1 M; (try simp only [setC] at M))) | ((with_reducible refine tBox _ ?_); (refine bxA M ?_; clear M; intro g w1 M))) <;> (try conv => arg 5; simp only [Act.put, List.setIfInBounds_toArray, setC])); go_ret; exact ⟨rfl, M.below⟩)
              · by_cases ho3 : 300 < ops.length
                · first | (exfalso; omega) | (have e0 := G2 ho3; subst e0; go_wp2_with ((first | ((with_reducible refine tGuard ?_); (with_reducible refine w_stripE ?_ ?_); (focus (refine ⟨_, rfl, ?_⟩; first | (with_reducible rfl) | exact decide_eq_false (by omega) | exact decide_eq_true (by omega)))) | ((with_reducible refine tGuard ?_); first | ((with_reducible refine w_skip1 ?_ ?_); (focus (refine ⟨_, rfl, ?_⟩; first | (with_reducible rfl) | exact decide_eq_false (by omega) | exact decide_eq_true (by omega)))) | ((with_reducible refine w_skip0 ?_ ?_); (focus (refine ⟨_, rfl, ?_⟩; first | (with_reducible rfl) | exact decide_eq_false (by omega) | exact decide_eq_true (by omega))))) | ((with_reducible refine tLoad ?_); go_must (refine w_at _ _ rfl (by exact ev_tmp rfl) ?_; intro hx; (first | refine w_load M 0 _ _ rfl rfl hx rfl (by decide +kernel) (by with_reducible first | exact HP.out | exact HO.out) ?_); clear hx)) | ((with_reducible refine tGuard ?_); refine gdS ?_) | fail | ((with_reducible refine tLoad ?_); go_must (refine ldS ?_)) | ((with_reducible refine tStore ?_); go_must (refine stS ?_; clear M; intro w1 M; (try simp only [setC] at M))) | ((with_reducible refine tBox _ ?_); (refine bxA M ?_; clear M; intro g w1 M))) <;> (try conv => arg 5; simp only [Act.put, List.setIfInBounds_toArray, setC])); go_ret; exact ⟨rfl, M.below⟩)
                · first | (exfalso; omega) | (have e0 := G3.out (by omega) (by omega); rw [← ESP.out, ← ES.out] at e0; subst e0; go_wp2_with ((first | ((with_reducible refine tGuard ?_); (with_reducible refine w_stripE ?_ ?_); (focus (refine ⟨_, rfl, ?_⟩; first | (with_reducible rfl) | exact decide_eq_false (by omega) | exact decide_eq_true (by omega)))) | ((with_reducible refine tGuard ?_); first | ((with_reducible refine w_skip1 ?_ ?_); (focus (refine ⟨_, rfl, ?_⟩; first | (with_reducible rfl) | exact decide_eq_false (by omega) | exact decide_eq_true (by omega)))) | ((with_reducible refine w_skip0 ?_ ?_); (focus (refine ⟨_, rfl, ?_⟩; first | (with_reducible rfl) | exact decide_eq_false (by omega) | exact decide_eq_true (by omega))))) | ((with_reducible refine tLoad ?_); go_must (refine w_at _ _ rfl (by exact ev_tmp rfl) ?_; intro hx; (first | refine w_load M 0 _ _ rfl rfl hx rfl (by decide +kernel) (by with_reducible first | exact HP.out | exact HO.out) ?_); clear hx)) | ((with_reducible refine tGuard ?_); refine gdS ?_) | fail | ((with_reducible refine tLoad ?_); go_must (refine ldS ?_)) | ((with_reducible refine tStore ?_); go_must (refine stS ?_; clear M; intro w1 M; (try simp only [setC] at M))) | ((with_reducible refine tBox _ ?_); (refine bxA M ?_; clear M; intro g w1 M))) <;> (try conv => arg 5; simp only [Act.put, List.setIfInBounds_toArray, setC])); go_ret; exact ⟨congrArg (fun b => Ending.returned (.bool b)) (by first | exact decide_eq_decide.2 (by omega) | (rw [decide_eq_false (show ¬ (300 : Int) < (prs.length : Int) by omega), decide_eq_false (show ¬ (300 : Int) < (ops.length : Int) by omega), Bool.false_or, Bool.false_or]; exact decide_eq_decide.2 (by omega))), M.below⟩)
            · clear hjl
              by_cases hp3 : 300 < prs.length
              · first | (exfalso; omega) | (have e0 := G1 hp3; subst e0; go_wp2_with ((first | ((with_reducible refine tGuard ?_); (with_reducible refine w_stripE ?_ ?_); (focus (refine ⟨_, rfl, ?_⟩; first | (with_reducible rfl) | exact decide_eq_false (by omega) | exact decide_eq_true (by omega)))) | ((with_reducible refine tGuard ?_); first | ((with_reducible refine w_skip1 ?_ ?_); (focus (refine ⟨_, rfl, ?_⟩; first | (with_reducible rfl) | exact decide_eq_false (by omega) | exact decide_eq_true (by omega)))) | ((with_reducible refine w_skip0 ?_ ?_); (focus (refine ⟨_, rfl, ?_⟩; first | (with_reducible rfl) | exact decide_eq_false (by omega) | exact decide_eq_true (by omega))))) | ((with_reducible refine tLoad ?_); go_must (refine w_at _ _ rfl (by exact ev_tmp rfl) ?_; intro hx; (first | refine w_load M 0 _ _ rfl rfl hx rfl (by decide +kernel) (by with_reducible first | exact HP.out | exact HO.out) ?_); clear hx)) | ((with_reducible refine tGuard ?_); refine gdS ?_) | fail | ((with_reducible refine tLoad ?_); go_must (refine ldS ?_)) | ((with_reducible refine tStore ?_); go_must (refine stS ?_; clear M; intro w1 M; (try simp only [setC] at M))) | ((with_reducible refine tBox _ ?_); (refine bxA M ?_; clear M; intro g w1 M))) <;> (try conv => arg 5; simp only [Act.put, List.setIfInBounds_toArray, setC])); go_ret; exact ⟨rfl, M.below⟩)
              · by_cases ho3 : 300 < ops.length
                · first | (exfalso; omega) | (have e0 := G2 ho3; subst e0; go_wp2_with ((first | ((with_reducible refine tGuard ?_); (with_reducible refine w_stripE ?_ ?_); (focus (refine ⟨_, rfl, ?_⟩; first | (with_reducible rfl) | exact decide_eq_false (by omega) | exact decide_eq_true (by omega)))) | ((with_reducible refine tGuard ?_); first | ((with_reducible refine w_skip1 ?_ ?_); (focus (refine ⟨_, rfl, ?_⟩; first | (with_reducible rfl) | exact decide_eq_false (by omega) | exact decide_eq_true (by omega)))) | ((with_reducible refine w_skip0 ?_ ?_); (focus (refine ⟨_, rfl, ?_⟩; first | (with_reducible rfl) | exact decide_eq_false (by omega) | exact decide_eq_true (by omega))))) | ((with_reducible refine tLoad ?_); go_must (refine w_at _ _ rfl (by exact ev_tmp rfl) ?_; intro hx; (first | refine w_load M 0 _ _ rfl rfl hx rfl (by decide +kernel) (by with_reducible first | exact HP.out | exact HO.out) ?_); clear hx)) | ((with_reducible refine tGuard ?_); refine gdS ?_) | fail | ((with_reducible refine tLoad ?_); go_must (refine ldS ?_)) | ((with_reducible refine tStore ?_); go_must (refine stS ?_; clear M; intro w1 M; (try simp only [setC] at M))) | ((with_reducible refine tBox _ ?_); (refine bxA M ?_; clear M; intro g w1 M))) <;> (try conv => arg 5; simp only [Act.put, List.setIfInBounds_toArray, setC])); go_ret; exact ⟨rfl, M.below⟩)
                · first | (exfalso; omega) | (have e0 := G3.out (by omega) (by omega); rw [← ESP.out, ← ES.out] at e0; subst e0; go_wp2_with ((first | ((with_reducible refine tGuard ?_); (with_reducible refine w_stripE ?_ ?_); (focus (refine ⟨_, rfl, ?_⟩; first | (with_reducible rfl) | exact decide_eq_false (by omega) | exact decide_eq_true (by omega)))) | ((with_reducible refine tGuard ?_); first | ((with_reducible refine w_skip1 ?_ ?_); (focus (refine ⟨_, rfl, ?_⟩; first | (with_reducible rfl) | exact decide_eq_false (by omega) | exact decide_eq_true (by omega)))) | ((with_reducible refine w_skip0 ?_ ?_); (focus (refine ⟨_, rfl, ?_⟩; first | (with_reducible rfl) | exact decide_eq_false (by omega) | exact decide_eq_true (by omega))))) | ((with_reducible refine tLoad ?_); go_must (refine w_at _ _ rfl (by exact ev_tmp rfl) ?_; intro hx; (first | refine w_load M 0 _ _ rfl rfl hx rfl (by decide +kernel) (by with_reducible first | exact HP.out | exact HO.out) ?_); clear hx)) | ((with_reducible refine tGuard ?_); refine gdS ?_) | fail | ((with_reducible refine tLoad ?_); go_must (refine ldS ?_)) | ((with_reducible refine tStore ?_); go_must (refine stS ?_; clear M; intro w1 M; (try simp only [setC] at M))) | ((with_reducible refine tBox _ ?_); (refine bxA M ?_; clear M; intro g w1 M))) <;> (try conv => arg 5; simp only [Act.put, List.setIfInBounds_toArray, setC])); go_ret; exact ⟨congrArg (fun b => Ending.returned (.bool b)) (by first | exact decide_eq_decide.2 (by omega) | (rw [decide_eq_false (show ¬ (300 : Int) < (prs.length : Int) by omega), decide_eq_false (show ¬ (300 : Int) < (ops.length : Int) by omega), Bool.false_or, Bool.false_or]; exact decide_eq_decide.2 (by omega))), M.below⟩)
end Go.Proofs.YtidadhbaomieiaaGreat

/- Frames of statements about slices of messages: a slice with room is read up to its room, so its place is a place; one without room may point anywhere. No conditions but those each lemma names. -/
namespace Go
namespace TL
open Go.RowKit Go.ChangeShapes Go.WideShapes Go.Deep
section
variable {H : Type} {enc : TypeId × Value → H} {P : Program} {w : World} {base : Nat} {spare : Nat → Bool} {held : Bool}
theorem open_slz {α : Type} {f : α → List Value} {size : Nat} {good : α → Prop} {t e : TypeId} {v : Value} {d : DataW H} {p : List MemPlace} (hsp : ∀ b, spare b = true) (ht : P.underlying t = some (.slice e)) (hc : P.cellsOf e = size) (hpos : 0 < size) (hf : ∀ x, (f x).length = size)
    (hdec : ∀ n cs y, cs.length = size → DataW.trod enc P w base spare held n e cs = some y → ∃ x, cs = f x ∧ good x) (hsh : v = .slice none 0 0 ∨ ∃ a len cap, v = .slice (some a) len cap) (h : DataW.Trod enc P w base spare held t v d p) : ∃ l : List α, SeesL w size f v l ∧ ∀ x ∈ l, good x := by
  obtain ⟨fuel, hh⟩ := h
  rcases hsh with rfl | ⟨a0, len, cap, rfl⟩
  · exact ⟨[], seesL_nil size f hf w, by simp⟩
  · rcases open_slice ht hh with ⟨h0, _⟩ | ⟨a, len', cap', m, n, D, Pl, hcs, hb, hl, hm, hmm, hx, hi⟩
    · simp [Value.cells] at h0
    · simp only [Value.cells, List.cons.injEq, and_true, Value.slice.injEq, Option.some.injEq] at hcs
      obtain ⟨rfl, rfl, rfl⟩ := hcs
      rw [if_pos (hsp _)] at hmm
      subst hmm
      by_cases h0 : m = 0
      · have h1 : len = 0 := by omega
        subst h0; subst h1
        exact ⟨[], seesL_bare size f hf w _, by simp⟩
      · have hat0 : ∃ u, w.cell? a0 = some u := by
          obtain ⟨cs, hcells, _⟩ := hi 0 (by omega)
          rw [hc] at hcells
          obtain ⟨_, hlen, hat⟩ := World.cells?_some hcells
          have := hat 0 hpos
          rw [List.getElem?_eq_getElem (by omega)] at this
          exact ⟨_, by simpa [Addr.add] using this⟩
        obtain ⟨g, o, s⟩ := a0
        obtain ⟨u, hu⟩ := hat0
        have hs : s = none := by
          unfold World.cell? at hu
          split at hu
          · split at hu
            · cases hu
            · rename_i hh; simpa using hh
          · cases hu
        subst hs
        have hlt : g < w.heap.size := World.block_lt_of_cell? _ _ hu
        obtain ⟨l, h1, h2⟩ := listOf (p := fun i x => good x ∧ ∀ j, j < size → w.cell? ⟨g, o + (i * size + j), none⟩ = (f x)[j]?) len fun i hil => by
          obtain ⟨cs, hcells, htrod⟩ := hi i (by omega)
          rw [hc] at hcells
          obtain ⟨_, hlen, hat⟩ := World.cells?_some hcells
          obtain ⟨x, rfl, hg⟩ := hdec n cs _ hlen htrod
          refine ⟨x, hg, fun j hj => ?_⟩
          rw [← hat j hj]
          congr 1
          unfold Addr.add
          by_cases hi0 : i * size = 0 <;> by_cases hj0 : j = 0 <;> simp [hi0, hj0]
          omega
        refine ⟨l, ⟨⟨by rw [flat_len hf], .inr ⟨g, o, m, by rw [h1], hlt, by omega, hm, ?_⟩⟩, hf⟩, fun x hx => ?_⟩
        · intro j v hv
          have hjl : j < l.length * size := by have := (List.getElem?_eq_some_iff.1 hv).1; rwa [flat_len hf] at this
          have hk : j / size < l.length := Nat.div_lt_of_lt_mul (by rw [Nat.mul_comm]; exact hjl)
          obtain ⟨x, hx⟩ : ∃ x, l[j / size]? = some x := ⟨_, List.getElem?_eq_getElem hk⟩
          have hmod : j % size < size := Nat.mod_lt _ hpos
          have e : j / size * size + j % size = j := by rw [Nat.mul_comm]; exact Nat.div_add_mod j size
          have := (h2 _ x hx).2 (j % size) hmod
          rw [e] at this
          rw [this, ← flat_get hf l (j / size) x hx (j % size) hmod, e]
          exact hv
        · obtain ⟨k, hk⟩ := List.getElem?_of_mem hx
          exact (h2 k x hk).1
end
theorem part_at {cl : List Value} {j : Nat} {c : Value} (h : cl[j]? = some c) : (cl.drop j).take 1 = [c] := by
  obtain ⟨hj, rfl⟩ := List.getElem?_eq_some_iff.1 h
  rw [List.drop_eq_getElem_cons hj]; rfl
theorem part_split (cl : List Value) (a n b : Nat) (h : a + n = b) : cl.drop a = (cl.drop a).take n ++ cl.drop b := by
  rw [← h, ← List.drop_drop, List.take_append_drop]
structure Mx where
  L : Lm
  ov : Value
  pv : Value
  fit : (L.ms ov pv).fit
def mxV (x : Mx) : List Value := msgC (x.L.ms x.ov x.pv)
theorem mxV_len (x : Mx) : (mxV x).length = 107 := msgC_len x.fit
structure MxOk (w : World) (x : Mx) : Prop where
  lfit : x.L.fit
  num : ∀ q : Mf, -9223372036854775808 ≤ q.gl x.L ∧ q.gl x.L ≤ 9223372036854775807
  be : x.L.be ≤ 9223372036854775807
  so : SeesL w 3 opV x.ov x.L.ops
  sp : SeesL w 2 prV x.pv x.L.prs
  lo : ∀ y ∈ x.L.ops, y.2.1.length ≤ maxLen ∧ y.2.2.length ≤ maxLen
  lp : ∀ y ∈ x.L.prs, y.1.length ≤ maxLen ∧ y.2.length ≤ maxLen
end TL
end Go
namespace Go.Proofs.YtidadhbaomieiaaGreat
open Go.RowKit Go.TL Go.ChangeShapes Go.WideShapes Go.Deep
section
variable {H : Type} {enc : TypeId × Value → H} {w : World} {base : Nat} {spare : Nat → Bool} {held : Bool}
theorem open_hash {m : Nat} {cs : List Value} {x : DataW H × List MemPlace} (h : DataW.trod enc Tryz.prog w base spare held m 64 cs = some x) (hl : cs.length = 32) : ∃ l : List UInt8, l.length = 32 ∧ cs = bs l := by
  obtain ⟨ys, m', _, _, _, hyl, hy⟩ := DataW.trod_array Tryz.underlying64 h
  refine eq_of_cells (n := 32) cs (fun i hin => ?_) hl
  have ce : Tryz.prog.cellsOf 5 = 1 := by kernel_rfl
  have h5 := hy i hin
  rw [ce, Nat.mul_one, List.getElem?_eq_getElem (by omega)] at h5
  obtain ⟨k, h6, _, h7⟩ := DataW.trod_int Tryz.underlying5 h5
  obtain ⟨x, rfl⟩ := wf_u8 h7
  exact ⟨x, h6⟩
set_option maxRecDepth 100000 in
set_option maxHeartbeats 2000000 in
theorem dec_mx (hsp : ∀ b, spare b = true) : ∀ n cs y, cs.length = 107 → DataW.trod enc Tryz.prog w base spare held n 67 cs = some y → ∃ x : Mx, cs = mxV x ∧ MxOk w x := by
  intro fuel cl y hlen hf
  obtain ⟨xs, m, _, _, _, hxl, hg⟩ := DataW.trod_struct Tryz.underlying67 hf
  have hxl' : xs.length = 12 := hxl
  obtain ⟨x0, x1, x2, x3, x4, x5, x6, x7, x8, x9, x10, x11, rfl⟩ : ∃ a b c d e f g h i j k l, xs = [a, b, c, d, e, f, g, h, i, j, k, l] := by
    match xs, hxl' with
    | [a, b, c, d, e, f, g, h, i, j, k, l], _ => exact ⟨a, b, c, d, e, f, g, h, i, j, k, l, rfl⟩
  have c1 : Tryz.prog.cellsOf 5 = 1 := by kernel_rfl
  have c3 : Tryz.prog.cellsOf 3 = 1 := by kernel_rfl
  have cH : Tryz.prog.cellsOf 64 = 32 := by kernel_rfl
  have cB : Tryz.prog.cellsOf 63 = 3 := by kernel_rfl
  have cO : Tryz.prog.cellsOf 61 = 1 := by kernel_rfl
  have cP : Tryz.prog.cellsOf 65 = 1 := by kernel_rfl
  have g0 : DataW.trod enc Tryz.prog w base spare held m 5 ((cl.drop 0).take (Tryz.prog.cellsOf 5)) = some x0 := hg 0 _ rfl
  have g1 : DataW.trod enc Tryz.prog w base spare held m 3 ((cl.drop 1).take (Tryz.prog.cellsOf 3)) = some x1 := hg 1 _ rfl
  have g2 : DataW.trod enc Tryz.prog w base spare held m 3 ((cl.drop 2).take (Tryz.prog.cellsOf 3)) = some x2 := hg 2 _ rfl
  have g3 : DataW.trod enc Tryz.prog w base spare held m 3 ((cl.drop 3).take (Tryz.prog.cellsOf 3)) = some x3 := hg 3 _ rfl
  have g4 : DataW.trod enc Tryz.prog w base spare held m 63 ((cl.drop 4).take (Tryz.prog.cellsOf 63)) = some x4 := hg 4 _ rfl
  have g5 : DataW.trod enc Tryz.prog w base spare held m 3 ((cl.drop 7).take (Tryz.prog.cellsOf 3)) = some x5 := hg 5 _ rfl
  have g6 : DataW.trod enc Tryz.prog w base spare held m 64 ((cl.drop 8).take (Tryz.prog.cellsOf 64)) = some x6 := hg 6 _ rfl
  have g7 : DataW.trod enc Tryz.prog w base spare held m 3 ((cl.drop 40).take (Tryz.prog.cellsOf 3)) = some x7 := hg 7 _ rfl
  have g8 : DataW.trod enc Tryz.prog w base spare held m 3 ((cl.drop 41).take (Tryz.prog.cellsOf 3)) = some x8 := hg 8 _ rfl
  have g9 : DataW.trod enc Tryz.prog w base spare held m 64 ((cl.drop 42).take (Tryz.prog.cellsOf 64)) = some x9 := hg 9 _ rfl
  have g10 : DataW.trod enc Tryz.prog w base spare held m 64 ((cl.drop 74).take (Tryz.prog.cellsOf 64)) = some x10 := hg 10 _ rfl
  have g11 : DataW.trod enc Tryz.prog w base spare held m 65 ((cl.drop 106).take (Tryz.prog.cellsOf 65)) = some x11 := hg 11 _ rfl
  rw [c1] at g0
  rw [c3] at g1 g2 g3 g5 g7 g8
  rw [cH] at g6 g9 g10
  rw [cB] at g4
  rw [cP] at g11
  obtain ⟨k, hk, _, wk⟩ := DataW.trod_int Tryz.underlying5 g0
  obtain ⟨e, he, _, we⟩ := DataW.trod_int Tryz.underlying3 g1
  obtain ⟨a, ha, _, wa⟩ := DataW.trod_int Tryz.underlying3 g2
  obtain ⟨o, ho, _, wo⟩ := DataW.trod_int Tryz.underlying3 g3
  obtain ⟨pr, hpr, _, wp⟩ := DataW.trod_int Tryz.underlying3 g5
  obtain ⟨vv, hvv, _, wv⟩ := DataW.trod_int Tryz.underlying3 g7
  obtain ⟨i, hi, _, wi⟩ := DataW.trod_int Tryz.underlying3 g8
  obtain ⟨kb, rfl⟩ := wf_u8 wk
  obtain ⟨rt0, hr0, er0⟩ := open_hash g6 (by simp only [List.length_take, List.length_drop]; omega)
  obtain ⟨lf, hlf, elf⟩ := open_hash g9 (by simp only [List.length_take, List.length_drop]; omega)
  obtain ⟨rt, hrt, ert⟩ := open_hash g10 (by simp only [List.length_take, List.length_drop]; omega)
  obtain ⟨ys, mb, _, _, _, hyl, hy⟩ := DataW.trod_struct Tryz.underlying63 g4
  have hyl' : ys.length = 3 := hyl
  obtain ⟨y0, y1, y2, rfl⟩ : ∃ a b c, ys = [a, b, c] := by
    match ys, hyl' with
    | [a, b, c], _ => exact ⟨a, b, c, rfl⟩
  have b0' : DataW.trod enc Tryz.prog w base spare held mb 3 ((((cl.drop 4).take 3).drop 0).take (Tryz.prog.cellsOf 3)) = some y0 := hy 0 _ rfl
  have b1' : DataW.trod enc Tryz.prog w base spare held mb 3 ((((cl.drop 4).take 3).drop 1).take (Tryz.prog.cellsOf 3)) = some y1 := hy 1 _ rfl
  have b2' : DataW.trod enc Tryz.prog w base spare held mb 61 ((((cl.drop 4).take 3).drop 2).take (Tryz.prog.cellsOf 61)) = some y2 := hy 2 _ rfl
  rw [c3] at b0' b1'
  rw [cO] at b2'
  have q0 : (((cl.drop 4).take 3).drop 0).take 1 = (cl.drop 4).take 1 := by rw [List.drop_zero, List.take_take]; rfl
  have q1 : (((cl.drop 4).take 3).drop 1).take 1 = (cl.drop 5).take 1 := by rw [List.drop_take, List.drop_drop, List.take_take]; rfl
  have q2 : (((cl.drop 4).take 3).drop 2).take 1 = (cl.drop 6).take 1 := by rw [List.drop_take, List.drop_drop, List.take_take]; rfl
  rw [q0] at b0'
  rw [q1] at b1'
  rw [q2] at b2'
  obtain ⟨bi, hbi, _, wbi⟩ := DataW.trod_int Tryz.underlying3 b0'
  obtain ⟨be, hbe, _, wbe⟩ := DataW.trod_int Tryz.underlying3 b1'
  obtain ⟨ov, hov⟩ : ∃ c, cl[6]? = some c := ⟨_, List.getElem?_eq_getElem (by omega)⟩
  obtain ⟨pv, hpv⟩ : ∃ c, cl[106]? = some c := ⟨_, List.getElem?_eq_getElem (by omega)⟩
  rw [part_at hov] at b2'
  rw [part_at hpv] at g11
  have hshape : ∀ (v : Value) {t e : TypeId} {fu : Nat} {z : DataW H × List MemPlace}, Tryz.prog.underlying t = some (.slice e) → DataW.trod enc Tryz.prog w base spare held fu t [v] = some z → v = .slice none 0 0 ∨ ∃ a len cap, v = .slice (some a) len cap := fun v t e fu z ht hz => by
    rcases open_slice ht hz with ⟨h0, _⟩ | ⟨a, len, cap, _, _, _, _, hcs, _⟩
    · exact .inl (by simpa using h0)
    · exact .inr ⟨a, len, cap, by simpa using hcs⟩
  have hO := hshape ov Tryz.underlying61 b2'
  have hP := hshape pv Tryz.underlying65 g11
  have tO : DataW.Trod enc Tryz.prog w base spare held 61 ov y2.1 y2.2 := by
    rcases hO with rfl | ⟨_, _, _, rfl⟩ <;> exact ⟨mb, b2'⟩
  have tP : DataW.Trod enc Tryz.prog w base spare held 65 pv x11.1 x11.2 := by
    rcases hP with rfl | ⟨_, _, _, rfl⟩ <;> exact ⟨m, g11⟩
  obtain ⟨ops, SO, lO⟩ := open_slz (f := opV) hsp Tryz.underlying61 (by kernel_rfl) (by decide) opV_len (dec_op Tryz.underlying181 Tryz.underlying5 Tryz.underlying9 Tryz.underlying9 rfl rfl rfl (by kernel_rfl) (by kernel_rfl) (by kernel_rfl)) hO tO
  obtain ⟨prs, SP, lP⟩ := open_slz (f := prV) hsp Tryz.underlying65 (by kernel_rfl) (by decide) prV_len (dec_pr Tryz.underlying120 Tryz.underlying9 Tryz.underlying9 rfl rfl (by kernel_rfl) (by kernel_rfl)) hP tP
  have hcl : cl = msgC (Lm.ms ⟨kb, e, a, o, bi, be, ops, pr, rt0, vv, i, lf, rt, prs⟩ ov pv) := by
    have s0 := part_split cl 0 1 1 rfl
    have s1 := part_split cl 1 1 2 rfl
    have s2 := part_split cl 2 1 3 rfl
    have s3 := part_split cl 3 1 4 rfl
    have s4 := part_split cl 4 1 5 rfl
    have s5 := part_split cl 5 1 6 rfl
    have s6 := part_split cl 6 1 7 rfl
    have s7 := part_split cl 7 1 8 rfl
    have s8 := part_split cl 8 32 40 rfl
    have s40 := part_split cl 40 1 41 rfl
    have s41 := part_split cl 41 1 42 rfl
    have s42 := part_split cl 42 32 74 rfl
    have s74 := part_split cl 74 32 106 rfl
    have s106 := part_split cl 106 1 107 rfl
    rw [List.drop_of_length_le (by omega : cl.length ≤ 107), List.append_nil, part_at hpv] at s106
    rw [ert, s106] at s74
    rw [elf, s74] at s42
    rw [hi, s42] at s41
    rw [hvv, s41] at s40
    rw [er0, s40] at s8
    rw [hpr, s8] at s7
    rw [part_at hov, s7] at s6
    rw [hbe, s6] at s5
    rw [hbi, s5] at s4
    rw [ho, s4] at s3
    rw [ha, s3] at s2
    rw [he, s2] at s1
    rw [hk, s1] at s0
    rw [List.drop_zero] at s0
    rw [s0]; rfl
  have hone : ∀ v : Value, (v = .slice none 0 0 ∨ ∃ a len cap, v = .slice (some a) len cap) → v.oneCell' = true := by
    rintro v (rfl | ⟨_, _, _, rfl⟩) <;> rfl
  refine ⟨⟨⟨kb, e, a, o, bi, be, ops, pr, rt0, vv, i, lf, rt, prs⟩, ov, pv, Lm.ms_fit ⟨hr0, hlf, hrt⟩ (hone _ hO) (hone _ hP)⟩, hcl, ⟨⟨hr0, hlf, hrt⟩, fun q => ?_, (wf_i64 wbe).2, SO, SP, lO, lP⟩⟩
  cases q
  · exact wf_i64 we
  · exact wf_i64 wa
  · exact wf_i64 wo
  · exact wf_i64 wp
  · exact wf_i64 wv
  · exact wf_i64 wi
set_option maxRecDepth 100000 in
theorem open_mx {r : Reach} {b0 : Nat} {v : Value} {d : DataW H} {p : List MemPlace} (hsp : ∀ b, spare b = true)
    (hv : Value.okWide Tryz.prog w r b0 72 v) (h : DataW.Trod enc Tryz.prog w base spare held 72 v d p) : ∃ l : List Mx, SeesL w 107 mxV v l ∧ ∀ x ∈ l, MxOk w x :=
  open_slz (f := mxV) hsp Tryz.underlying72 (by kernel_rfl) (by decide) mxV_len (dec_mx hsp) ((slice_shape Tryz.underlying72 hv).imp id fun ⟨a, n, c, h, _⟩ => ⟨a, n, c, h⟩) h
end
end Go.Proofs.YtidadhbaomieiaaGreat

/- sync.Once in a run of one goroutine: its parts, each a contract. Conditions: the cells. -/
namespace Go
namespace TL
abbrev onceR (d l : Int) (cs : List Value) : List Value := .int .u32 d :: .int .i32 l :: .int .u32 0 :: cs
end TL
end Go
namespace Go.Proofs.YtidadhbaomieiaaGreat
open Go.RowKit Go.TL
theorem raceDisable (w : World) : (callFunc 193 #[]).run Tryz.prog w = .ok (.value (.tuple #[])) w := run_call_mark0 Tryz.func193 (by kernel_rfl) (by kernel_rfl) (by kernel_rfl) .disable (by kernel_rfl) w
theorem raceEnable (w : World) : (callFunc 195 #[]).run Tryz.prog w = .ok (.value (.tuple #[])) w := run_call_mark0 Tryz.func195 (by kernel_rfl) (by kernel_rfl) (by kernel_rfl) .enable (by kernel_rfl) w
theorem raceAcquire (a : Addr) (w : World) : (callFunc 196 #[.pointer (some a)]).run Tryz.prog w = .ok (.value (.tuple #[])) w := run_call_marked Tryz.func196 (by kernel_rfl) (by kernel_rfl) (by kernel_rfl) .acquire (by kernel_rfl) a w
theorem raceMerge (a : Addr) (w : World) : (callFunc 198 #[.pointer (some a)]).run Tryz.prog w = .ok (.value (.tuple #[])) w := run_call_marked Tryz.func198 (by kernel_rfl) (by kernel_rfl) (by kernel_rfl) .releaseMerge (by kernel_rfl) a w
theorem store_deferred (a : Addr) (x : Value) (u : FrameMode) (w : World) (hc : w.cell? a = some x) (hz : w.frozen? a = false) :
    CallsD Tryz.prog 154 #[.pointer (some a), .bool true] u w fun e u' w' => u' = u ∧ (e = .returned (.tuple #[]) ∧ w' = w.drew.setCell a (.int .u32 1)) := by
  have hc' : w.drew.cell? a = some x := by go_simp
  have hz' : w.drew.frozen? a = false := by go_simp
  have hst := run_call_store (P := Tryz.prog) Tryz.func182 (by kernel_rfl) (by kernel_rfl) (by kernel_rfl) (by kernel_rfl) (k := .u32) (y := 1) hc' hz'
  go_enter_d Tryz.func154, Tryz.ntmps154
  go_wp2
  go_region_calls
  all_goals (go_end0; exact ⟨rfl, rfl⟩)
set_option maxRecDepth 100000 in
theorem unlock_deferred (a : Addr) (u : FrameMode) (w : World) (hc : w.cell? a = some (.int .i32 1)) (hz : w.frozen? a = false) :
    CallsD Tryz.prog 153 #[.pointer (some a)] u w fun e u' w' => u' = u ∧ (e = .returned (.tuple #[]) ∧ w' = w.setCell a (.int .i32 0)) := by
  have hd := raceDisable
  have he := raceEnable
  have hr := raceMerge
  have hadd := run_call_add (P := Tryz.prog) Tryz.func199 (by kernel_rfl) (by kernel_rfl) (by kernel_rfl) .i32 (by kernel_rfl) (y := -1) (s := 0) hc hz (by simp [go_sem]; rfl)
  have hcv := run_convert_to_unsafe (P := Tryz.prog) (src := 274) (dst := 278) Tryz.underlying274 Tryz.underlying278 (by kernel_rfl) hc
  go_enter_d Tryz.func153, Tryz.ntmps153
  go_wp2
  go_end0
  go_wp2
  go_end0
  exact ⟨rfl, rfl⟩
set_option maxRecDepth 100000 in
theorem lock_free (a : Addr) (w : World) (hc : w.cell? a = some (.int .i32 0)) (hz : w.frozen? a = false) :
    Calls Tryz.prog 152 #[.pointer (some a)] w fun e w' => e = .returned (.tuple #[]) ∧ w' = w.setCell a (.int .i32 1) := by
  have hd := raceDisable
  have he := raceEnable
  have ha := raceAcquire
  have hcas := run_call_cas_hit (P := Tryz.prog) Tryz.func194 (by kernel_rfl) (by kernel_rfl) (by kernel_rfl) .i32 (by kernel_rfl) (y := 1) hc hz
  have hc' : (w.setCell a (.int .i32 1)).cell? a = some (.int .i32 1) := World.cell?_setCell_same w a _ hc
  have hcv := run_convert_to_unsafe (P := Tryz.prog) (src := 274) (dst := 278) Tryz.underlying274 Tryz.underlying278 (by kernel_rfl) hc'
  go_enter Tryz.func152, Tryz.ntmps152
  go_wp2
  first | go_end0 | (simp only [Exit.inBlock, Exit.then]; refine bodyPost_ret (results_none rfl _ _ _) rfl ?_) | refine bodyPost_ret (results_none rfl _ _ _) rfl ?_
  go_wp2
  go_end0
  exact ⟨rfl, rfl⟩
theorem boolLoad_c (a : Addr) (d : Int) (w : World) (h : w.cell? a = some (.int .u32 d)) :
    Calls Tryz.prog 111 #[.pointer (some a)] w fun e w' => e = .returned (.bool (d != 0)) ∧ w' = w := by
  have hl := run_call_load (P := Tryz.prog) Tryz.func151 (by kernel_rfl) (by kernel_rfl) (by kernel_rfl) .u32 (by kernel_rfl) h
  go_enter Tryz.func111, Tryz.ntmps111
  go_wp2
  go_ret
  exact ⟨rfl, rfl⟩
theorem u64Load_c (a : Addr) (d : Int) (w : World) (h : w.cell? a = some (.int .u64 d)) :
    Calls Tryz.prog 38 #[.pointer (some a)] w fun e w' => e = .returned (.int .u64 d) ∧ w' = w := by
  have hl := run_call_load (P := Tryz.prog) Tryz.func73 (by kernel_rfl) (by kernel_rfl) (by kernel_rfl) .u64 (by kernel_rfl) h
  go_enter Tryz.func38, Tryz.ntmps38
  go_wp2
  go_ret
  exact ⟨rfl, rfl⟩
theorem u64Add_c (a : Addr) (n : UInt64) (w : World) (h : w.cell? a = some (.int .u64 (I64 n))) (hz : w.frozen? a = false) :
    Calls Tryz.prog 42 #[.pointer (some a), .int .u64 1] w fun e w' => e = .returned (.int .u64 (I64 (n + 1))) ∧ w' = w.setCell a (.int .u64 (I64 (n + 1))) := by
  have hl := run_call_add (P := Tryz.prog) Tryz.func82 (by kernel_rfl) (by kernel_rfl) (by kernel_rfl) .u64 (by kernel_rfl) (y := 1) (s := I64 (n + 1)) h hz (by simp [go_sem])
  go_enter Tryz.func42, Tryz.ntmps42
  go_wp2
  go_ret
  exact ⟨rfl, rfl⟩
section
variable {F : List Nat} {g : Nat} {cs cs' : List Value} {R : List Chunk} {w0 w : World} {p1 p2 p3 : Value} {d l : Int}
theorem Mem.frozenAt {L : List Chunk} (M : Mem F w0 w L) (i : Nat) {cs : List Value} (hi : L[i]? = some (.row g cs)) {off : Nat} (h : off < cs.length) : w.frozen? ⟨g, off, none⟩ = false := by
  have := (M.ok i _ hi).2.2 off h
  rw [Nat.zero_add] at this
  exact this.2
theorem Mem.setOff {L : List Chunk} (M : Mem F w0 w L) (i : Nat) {cs : List Value} (hi : L[i]? = some (.row g cs)) {off : Nat} (h : off < cs.length) (v : Value) : Mem F w0 (w.setCell ⟨g, off, none⟩ v) (L.set i (.row g (cs.set off v))) := M.upd i hi (upd_setCell (M.ok i _ hi) h v)
theorem lock_m (M : Mem F w0 w (.row g (onceR d 0 cs) :: R)) : Calls Tryz.prog 152 #[.pointer (some ⟨g, 1, none⟩)] w fun e w' => e = .returned (.tuple #[]) ∧ Mem F w0 w' (.row g (onceR d 1 cs) :: R) :=
  (lock_free ⟨g, 1, none⟩ w (M.cellAt 0 rfl rfl) (Mem.frozenAt M 0 rfl (by simp))).mono fun _ _ h => ⟨h.1, by rw [h.2]; exact Mem.setOff M 0 rfl (by simp) _⟩
theorem store_m (u : FrameMode) (M : Mem F w0 w (.row g (onceR 0 l cs) :: R)) : CallsD Tryz.prog 154 #[.pointer (some ⟨g, 0, none⟩), .bool true] u w fun e u' w' => u' = u ∧ (e = .returned (.tuple #[]) ∧ Mem F w0 w' (.row g (onceR 1 l cs) :: R)) :=
  (store_deferred ⟨g, 0, none⟩ _ u w (M.cellAt 0 rfl rfl) (Mem.frozenAt M 0 rfl (by simp))).mono fun _ _ _ h => ⟨h.1, h.2.1, by rw [h.2.2]; exact Mem.setOff M.drew 0 rfl (by simp) _⟩
theorem unlock_m (u : FrameMode) (M : Mem F w0 w (.row g (onceR d 1 cs) :: R)) : CallsD Tryz.prog 153 #[.pointer (some ⟨g, 1, none⟩)] u w fun e u' w' => u' = u ∧ (e = .returned (.tuple #[]) ∧ Mem F w0 w' (.row g (onceR d 0 cs) :: R)) :=
  (unlock_deferred ⟨g, 1, none⟩ u w (M.cellAt 0 rfl rfl) (Mem.frozenAt M 0 rfl (by simp))).mono fun _ _ _ h => ⟨h.1, h.2.1, by rw [h.2.2]; exact Mem.setOff M 0 rfl (by simp) _⟩
set_option maxRecDepth 100000 in
theorem slow_c (M : Mem F w0 w (.row g (onceR 0 0 cs) :: R))
    (hf : ∀ w1, Mem F w0 w1 (.row g (onceR 0 1 cs) :: R) → Calls Tryz.prog 78 #[p1, p2, p3] w1 fun e w2 => e = .returned (.tuple #[]) ∧ Mem F w0 w2 (.row g (onceR 0 1 cs') :: R)) :
    Calls Tryz.prog 112 #[.pointer (some ⟨g, 0, none⟩), .func (.func 78) #[] #[p1, p2, p3]] w fun e w' => e = .returned (.tuple #[]) ∧ Mem F w0 w' (.row g (onceR 1 0 cs') :: R) := by
  have hnot : ∀ (x : Bool) (w : World), (Op.unary .not (.bool x)).run Tryz.prog w = .ok (.bool (!x)) w := fun _ _ => rfl
  go_enter_defers Tryz.func112, Tryz.ntmps112
  go_wp2_with (first | (go_at_call 152; refine (lock_m M).mono ?_; rintro e w1 ⟨rfl, M1⟩) | (go_at_call 111; refine (boolLoad_c _ _ _ (M1.cellAt 0 rfl rfl)).mono ?_; rintro e w2 ⟨rfl, rfl⟩) | (go_at_call 78; refine (hf _ M1).mono ?_; rintro e w2 ⟨rfl, M2⟩))
  refine leaves_cons (f := 154) (args := #[.pointer (some ⟨g, 0, none⟩), .bool true]) (by simp) (by simp [go_sem]) ?_
  refine (store_m _ M2).mono ?_
  rintro e u' w3 ⟨rfl, rfl, M3⟩
  refine leaves_cons (f := 153) (args := #[.pointer (some ⟨g, 1, none⟩)]) (by simp [settle]) (by simp [go_sem]) ?_
  refine (unlock_m _ M3).mono ?_
  rintro e u' w4 ⟨rfl, rfl, M4⟩
  simp [Leaves, settle, results, Tryz.results112]
  exact M4
theorem do_first (M : Mem F w0 w (.row g (onceR 0 0 cs) :: R))
    (hf : ∀ w1, Mem F w0 w1 (.row g (onceR 0 1 cs) :: R) → Calls Tryz.prog 78 #[p1, p2, p3] w1 fun e w2 => e = .returned (.tuple #[]) ∧ Mem F w0 w2 (.row g (onceR 0 1 cs') :: R)) :
    Calls Tryz.prog 77 #[.pointer (some ⟨g, 0, none⟩), .func (.func 78) #[] #[p1, p2, p3]] w fun e w' => e = .returned (.tuple #[]) ∧ Mem F w0 w' (.row g (onceR 1 0 cs') :: R) := by
  have hnot : ∀ (x : Bool) (w : World), (Op.unary .not (.bool x)).run Tryz.prog w = .ok (.bool (!x)) w := fun _ _ => rfl
  have h0 : w.cell? ⟨g, 0, none⟩ = some (.int .u32 0) := M.cellAt 0 rfl rfl
  have hl := run_call_load (P := Tryz.prog) Tryz.func151 (by kernel_rfl) (by kernel_rfl) (by kernel_rfl) .u32 (by kernel_rfl) h0
  go_enter Tryz.func77, Tryz.ntmps77
  go_wp2_with (first | (go_at_call 112; refine (slow_c M hf).mono ?_; rintro e w' ⟨rfl, M2⟩) | (go_at_call 111; go_in))
  go_end0
  exact ⟨rfl, M2⟩
theorem do_done (hd : ¬ d = 0) (fv : Value) (h0 : w.cell? ⟨g, 0, none⟩ = some (.int .u32 d)) :
    Calls Tryz.prog 77 #[.pointer (some ⟨g, 0, none⟩), fv] w fun e w' => e = .returned (.tuple #[]) ∧ w' = w := by
  have hl := run_call_load (P := Tryz.prog) Tryz.func151 (by kernel_rfl) (by kernel_rfl) (by kernel_rfl) .u32 (by kernel_rfl) h0
  have hnot : ∀ (x : Bool) (w : World), (Op.unary .not (.bool x)).run Tryz.prog w = .ok (.bool (!x)) w := fun _ _ => rfl
  have hd' : (d != 0) = true := by simp [hd]
  go_enter Tryz.func77, Tryz.ntmps77
  go_wp2
  go_end0
  exact ⟨rfl, rfl⟩
end
end Go.Proofs.YtidadhbaomieiaaGreat

/- Several pieces of memory held as one; opened and shut. Conditions: none. -/
namespace Go
namespace TL
open Go.RowKit
def grpOk (L : List Chunk) (w : World) : Prop :=
  (∀ (i : Nat) (c : Chunk), L[i]? = some c → c.ok w) ∧ ∀ (i j : Nat) (c d : Chunk), i ≠ j → L[i]? = some c → L[j]? = some d → ∀ k ∈ c.fp, k ∉ d.fp
def grp (L : List Chunk) : Chunk := .obj (L.flatMap Chunk.fp) (grpOk L)
theorem mem_grp {L : List Chunk} {i : Nat} {c : Chunk} (h : L[i]? = some c) {k : Nat} (hk : k ∈ c.fp) : k ∈ (grp L).fp :=
  List.mem_flatMap.2 ⟨c, List.mem_of_getElem? h, hk⟩
theorem grp_mem {L : List Chunk} {k : Nat} (h : k ∈ (grp L).fp) : ∃ (i : Nat) (c : Chunk), L[i]? = some c ∧ k ∈ c.fp := by
  obtain ⟨c, hc, hk⟩ := List.mem_flatMap.1 h
  obtain ⟨i, hi⟩ := List.getElem?_of_mem hc
  exact ⟨i, c, hi, hk⟩
theorem grp_ok {L : List Chunk} {w : World} (h : grpOk L w) : (grp L).ok w := by
  refine ⟨fun k hk => ?_, h, fun w' hs hb => ⟨fun i c hc => ?_, h.2⟩⟩
  · obtain ⟨i, c, hc, hk'⟩ := grp_mem hk
    exact (h.1 i c hc).lt k hk'
  · exact (h.1 i c hc).stay hs fun k hk => hb k (mem_grp hc hk)
theorem Mem.opened {F : List Nat} {w0 w : World} {A L R : List Chunk} (M : Mem F w0 w (grp L :: R)) (hA : L ++ R = A) : Mem F w0 w A := by
  subst hA
  have hg : grpOk L w := (M.ok 0 _ rfl).2.1
  have pick : ∀ (i : Nat) (c : Chunk), (L ++ R)[i]? = some c → (∃ (h : i < L.length), L[i]? = some c) ∨ (∃ (h : L.length ≤ i), R[i - L.length]? = some c) := by
    intro i c hi
    by_cases h : i < L.length
    · rw [List.getElem?_append_left h] at hi; exact .inl ⟨h, hi⟩
    · rw [List.getElem?_append_right (by omega)] at hi; exact .inr ⟨by omega, hi⟩
  refine ⟨M.kept, ?_, ?_, ?_⟩
  · intro i c hi
    rcases pick i c hi with ⟨_, h⟩ | ⟨_, h⟩
    · exact hg.1 i c h
    · exact M.ok (i - L.length + 1) c (by simpa using h)
  · intro i c hi k hk
    rcases pick i c hi with ⟨_, h⟩ | ⟨_, h⟩
    · exact M.own 0 _ rfl k (mem_grp h hk)
    · exact M.own (i - L.length + 1) c (by simpa using h) k hk
  · intro i j c d hij hi hj k hk hk2
    rcases pick i c hi with ⟨_, h⟩ | ⟨h1, h⟩ <;> rcases pick j d hj with ⟨_, h'⟩ | ⟨h2, h'⟩
    · exact hg.2 i j c d hij h h' k hk hk2
    · exact M.nd 0 (j - L.length + 1) _ d (by omega) rfl (by simpa using h') k (mem_grp h hk) hk2
    · exact M.nd 0 (i - L.length + 1) _ c (by omega) rfl (by simpa using h) k (mem_grp h' hk2) hk
    · exact M.nd (i - L.length + 1) (j - L.length + 1) c d (by omega) (by simpa using h) (by simpa using h') k hk hk2
theorem Mem.shut {F : List Nat} {w0 w : World} {A : List Chunk} (M : Mem F w0 w A) (L R : List Chunk) (hA : A = L ++ R) : Mem F w0 w (grp L :: R) := by
  subst hA
  have left : ∀ (i : Nat) (c : Chunk), L[i]? = some c → (L ++ R)[i]? = some c := fun i c h => by
    rw [List.getElem?_append_left (List.getElem?_eq_some_iff.1 h).1]; exact h
  have right : ∀ (i : Nat) (c : Chunk), R[i]? = some c → (L ++ R)[L.length + i]? = some c := fun i c h => by
    rw [List.getElem?_append_right (by omega), show L.length + i - L.length = i by omega]; exact h
  have hg : grpOk L w := ⟨fun i c h => M.ok i c (left i c h), fun i j c d hij hi hj => M.nd i j c d hij (left i c hi) (left j d hj)⟩
  refine ⟨M.kept, ?_, ?_, ?_⟩
  · intro i c hi
    cases i with
    | zero => simp at hi; subst hi; exact grp_ok hg
    | succ i => exact M.ok (L.length + i) c (right i c (by simpa using hi))
  · intro i c hi k hk
    cases i with
    | zero =>
      simp at hi; subst hi
      obtain ⟨j, d, hd, hk'⟩ := grp_mem hk
      exact M.own j d (left j d hd) k hk'
    | succ i => exact M.own (L.length + i) c (right i c (by simpa using hi)) k hk
  · intro i j c d hij hi hj k hk hk2
    cases i with
    | zero =>
      simp at hi; subst hi
      obtain ⟨i', c', hc', hk'⟩ := grp_mem hk
      have hl := (List.getElem?_eq_some_iff.1 hc').1
      cases j with
      | zero => exact hij rfl
      | succ j => exact M.nd i' (L.length + j) c' d (by omega) (left i' c' hc') (right j d (by simpa using hj)) k hk' hk2
    | succ i =>
      cases j with
      | zero =>
        simp at hj; subst hj
        obtain ⟨j', d', hd', hk'⟩ := grp_mem hk2
        have hl := (List.getElem?_eq_some_iff.1 hd').1
        exact M.nd (L.length + i) j' c d' (by omega) (right i c (by simpa using hi)) (left j' d' hd') k hk hk'
      | succ j => exact M.nd (L.length + i) (L.length + j) c d (by omega) (right i c (by simpa using hi)) (right j d (by simpa using hj)) k hk hk2
theorem Mem.startG {w : World} {L : List Chunk} (h : (grp L).ok w) : Mem (grp L).fp w w L := (Mem.start1 h).opened (List.append_nil L)
theorem Mem.updG {w0 w : World} {L L' A : List Chunk} (M : Mem (grp L).fp w0 w A) (R : List Chunk) (hA : A = L' ++ R) : Upd w0 (grp L) w (grp L') := (M.shut L' R hA).upd1 0 rfl
end TL
end Go

/- A map from numbers to pointers which the walk owns: made, asked, written. Conditions: none. -/
namespace Go
namespace TL
open Go.RowKit
def mapE : List (Int × Nat) → Nat → List MapEntry
  | [], _ => []
  | x :: l, n => ⟨.int .i64 x.1, .pointer (some ⟨x.2, 0, none⟩), n⟩ :: mapE l (n + 1)
theorem mapE_snoc (x : Int × Nat) : ∀ (l : List (Int × Nat)) (n : Nat), mapE (l ++ [x]) n = mapE l n ++ [⟨.int .i64 x.1, .pointer (some ⟨x.2, 0, none⟩), n + l.length⟩]
  | [], _ => rfl
  | y :: l, n => by
    rw [List.cons_append, mapE, mapE_snoc x l (n + 1)]
    simp only [mapE, List.cons_append, List.length_cons]
    rw [show n + 1 + l.length = n + (l.length + 1) by omega]
def mapO (l : List (Int × Nat)) : Obj := .map (mapE l 0).toArray l.length
def lookP : List (Int × Nat) → Int → Option Nat
  | [], _ => none
  | x :: l, i => if x.1 = i then some x.2 else lookP l i
theorem lookP_mem : ∀ {l : List (Int × Nat)} {i : Int} {g : Nat}, lookP l i = some g → ∃ j : Nat, l[j]? = some (i, g)
  | x :: l, i, g, h => by
    unfold lookP at h
    by_cases e : x.1 = i
    · rw [if_pos e] at h; injection h with h; exact ⟨0, by simp [← e, ← h]⟩
    · rw [if_neg e] at h
      obtain ⟨j, hj⟩ := lookP_mem h
      exact ⟨j + 1, by simpa using hj⟩
theorem findP (i : Int) : ∀ (l : List (Int × Nat)) (n k : Nat), (lookP l i = none ∧ Instr.findNow (.int .i64) (.int .i64 i) (mapE l n) k = some none) ∨ ∃ g j, lookP l i = some g ∧ Instr.findNow (.int .i64) (.int .i64 i) (mapE l n) k = some (some (j, .pointer (some ⟨g, 0, none⟩)))
  | [], _, _ => .inl ⟨rfl, rfl⟩
  | x :: l, n, k => by
    have hs : Instr.sameNow (.int .i64) (.int .i64 i) (.int .i64 x.1) = some (i == x.1) := by simp [Instr.sameNow]
    unfold lookP mapE
    by_cases e : x.1 = i
    · refine .inr ⟨x.2, k, by rw [if_pos e], ?_⟩
      rw [Instr.findNow, hs, e]; simp
    · rw [if_neg e]
      have hf : (i == x.1) = false := by simpa using fun h => e h.symm
      rcases findP i l (n + 1) (k + 1) with ⟨h1, h2⟩ | ⟨g, j, h1, h2⟩
      · exact .inl ⟨h1, by rw [Instr.findNow, hs, hf]; exact h2⟩
      · exact .inr ⟨g, j, h1, by rw [Instr.findNow, hs, hf]; exact h2⟩
section
variable {P : Program} {w : World} {t k e : TypeId} {gm : Nat} {l : List (Int × Nat)} {i : Int}
theorem checkP (hk : P.underlying k = some (.int .i64)) (b : Bool) (n : Nat) : (Instr.checkKey b (n + 1) k (.int .i64 i)).run P w = .ok () w := by
  unfold Instr.checkKey
  simp [run_underlying hk, Result.andThen]
theorem lookup_none (ht : P.underlying t = some (.map k e)) (hk : P.underlying k = some (.int .i64)) (hz : (zeroValue e).run P w = .ok (.pointer none) w) (hb : w.heap[gm]? = some (mapO l)) (h : lookP l i = none) :
    (Instr.lookup t (.map (some gm)) (.int .i64 i) true).run P w = .ok (.tuple #[.pointer none, .bool false]) w := by
  rcases findP i l 0 0 with ⟨_, h2⟩ | ⟨g, j, h1, _⟩
  · simp [Instr.lookup, run_underlying ht, MapKept.run_getObj_map hb, checkP hk, Instr.findKey, run_underlying hk, h2, hz, Result.andThen]
  · rw [h] at h1; cases h1
theorem lookup_some (ht : P.underlying t = some (.map k e)) (hk : P.underlying k = some (.int .i64)) (hb : w.heap[gm]? = some (mapO l)) {g : Nat} (h : lookP l i = some g) :
    (Instr.lookup t (.map (some gm)) (.int .i64 i) true).run P w = .ok (.tuple #[.pointer (some ⟨g, 0, none⟩), .bool true]) w := by
  rcases findP i l 0 0 with ⟨h1, _⟩ | ⟨g', j, h1, h2⟩
  · rw [h] at h1; cases h1
  · rw [h] at h1; injection h1 with h1; subst h1
    simp [Instr.lookup, run_underlying ht, MapKept.run_getObj_map hb, checkP hk, Instr.findKey, run_underlying hk, h2, Result.andThen]
theorem update_none (ht : P.underlying t = some (.map k e)) (hk : P.underlying k = some (.int .i64)) (hb : w.heap[gm]? = some (mapO l)) (h : lookP l i = none) (g : Nat) :
    (Instr.mapUpdate t (.map (some gm)) (.int .i64 i) (.pointer (some ⟨g, 0, none⟩))).run P w = .ok () { w with heap := w.heap.setIfInBounds gm (mapO (l ++ [(i, g)])) } := by
  rcases findP i l 0 0 with ⟨_, h2⟩ | ⟨g', j, h1, _⟩
  · simp [Instr.mapUpdate, run_underlying ht, MapKept.run_getObj_map hb, checkP hk, Instr.findKey, run_underlying hk, h2, MapKept.run_setObj_map _ hb, Result.andThen, mapO, mapE_snoc]
  · rw [h] at h1; cases h1
end
section
variable {P : Program} {F : List Nat} {w0 w : World} {L : List Chunk} {ops : Array Oper} {rest : List Oper} {o : Oper} {a : Act} {Q : Exit → Act → World → Prop}
theorem w_makeMap (M : Mem F w0 w L) (t : TypeId) (ho : o.op = .makeMap t none) (hw : Region.wanted o (yielded ops a.tmps) = true)
    (h : ∀ (g : Nat) (w' : World), Mem F w0 w' (.blk g (mapO []) :: L) → wpList P ops Q rest (a.put o.dst (.map (some g))) w') : wpList P ops Q (o :: rest) a w :=
  wpW hw fun _ hK => by
    have hr : (Instr.makeMap t none).run P w = .ok (.map (some w.heap.size)) (w.alloc (.map #[] 0)) := rfl
    unfold Oper.wp execOp
    simp only [ho, Option.map_none, Sem.run_bind, hr, Result.andThen_ok]
    exact hK _ _ (h _ _ (M.add (.blk w.heap.size (mapO [])) (Kept.alloc _ _) (MapKept.heap_alloc w (mapO [])).1 (by simp [Chunk.fp])))
theorem w_lookNo (M : Mem F w0 w L) (n : Nat) (t : TypeId) (m x : Operand) (ho : o.op = .lookup t m x true) (hw : Region.wanted o (yielded ops a.tmps) = true) {k e : TypeId} (ht : P.underlying t = some (.map k e)) (hk : P.underlying k = some (.int .i64)) (hz : ((P.info? e).bind (·.zero)) = some (.pointer none)) {gm : Nat} {l : List (Int × Nat)} {i : Int} (hi : L[n]? = some (.blk gm (mapO l))) (hm : a.eval m = .map (some gm)) (hx : a.eval x = .int .i64 i) (hl : lookP l i = none)
    (h : wpList P ops Q rest (a.put o.dst (.tuple #[.pointer none, .bool false])) w) : wpList P ops Q (o :: rest) a w :=
  wpW hw fun _ hK => by
    cases hq : P.info? e with
    | none => simp [hq] at hz
    | some inf =>
      have hzz : inf.zero = some (.pointer none) := by simpa [hq] using hz
      have hzv : (zeroValue e).run P w = .ok (.pointer none) w := by simp only [zeroValue, typeInfo, Sem.run_bind, run_program, hq, Sem.run_pure, Result.andThen_ok, hzz]
      have hr := lookup_none ht hk hzv (M.ok n _ hi) hl
      unfold Oper.wp execOp
      simp only [ho, hm, hx, Sem.run_bind, hr, Result.andThen_ok]
      exact hK _ _ h
theorem w_lookYes (M : Mem F w0 w L) (n : Nat) (t : TypeId) (m x : Operand) (ho : o.op = .lookup t m x true) (hw : Region.wanted o (yielded ops a.tmps) = true) {k e : TypeId} (ht : P.underlying t = some (.map k e)) (hk : P.underlying k = some (.int .i64)) {gm : Nat} {l : List (Int × Nat)} {i : Int} (hi : L[n]? = some (.blk gm (mapO l))) (hm : a.eval m = .map (some gm)) (hx : a.eval x = .int .i64 i) {g : Nat} (hl : lookP l i = some g)
    (h : wpList P ops Q rest (a.put o.dst (.tuple #[.pointer (some ⟨g, 0, none⟩), .bool true])) w) : wpList P ops Q (o :: rest) a w :=
  wpW hw fun _ hK => by
    have hr := lookup_some (w := w) (P := P) (t := t) (i := i) ht hk (M.ok n _ hi) hl
    unfold Oper.wp execOp
    simp only [ho, hm, hx, Sem.run_bind, hr, Result.andThen_ok]
    exact hK _ _ h
theorem w_mapNew (M : Mem F w0 w L) (n : Nat) (t : TypeId) (m x v : Operand) (ho : o.op = .mapUpdate t m x v) (hw : Region.wanted o (yielded ops a.tmps) = true) {k e : TypeId} (ht : P.underlying t = some (.map k e)) (hk : P.underlying k = some (.int .i64)) {gm : Nat} {l : List (Int × Nat)} {i : Int} {g : Nat} (hi : L[n]? = some (.blk gm (mapO l))) (hm : a.eval m = .map (some gm)) (hx : a.eval x = .int .i64 i) (hv : a.eval v = .pointer (some ⟨g, 0, none⟩)) (hl : lookP l i = none)
    (h : ∀ w' : World, Mem F w0 w' (L.set n (.blk gm (mapO (l ++ [(i, g)])))) → wpList P ops Q rest (a.put o.dst undef) w') : wpList P ops Q (o :: rest) a w :=
  wpW hw fun _ hK => by
    have hb : w.heap[gm]? = some (mapO l) := M.ok n _ hi
    have hr := update_none (P := P) (t := t) ht hk hb hl g
    have hs := MapKept.heap_set (o' := mapO (l ++ [(i, g)])) hb
    have U : Upd w (.blk gm (mapO l)) { w with heap := w.heap.setIfInBounds gm (mapO (l ++ [(i, g)])) } (.blk gm (mapO (l ++ [(i, g)]))) :=
      ⟨⟨rfl, rfl, rfl, by simp, fun k _ hn => hs.2 k (by simpa [Chunk.fp] using hn)⟩, hs.1, fun k hk => .inl hk⟩
    unfold Oper.wp execOp
    simp only [ho, hm, hx, hv, Sem.run_bind, hr, Result.andThen_ok]
    exact hK _ _ (h _ (M.upd n hi U))
end
end TL
end Go

/- '[]byte("abcd")' of a constant text of four bytes: the literal, and behind it a conversion to its own type. No conditions. -/
namespace Go
namespace TL
open Go.RowKit
section
variable {P : Program} {ops : Array Oper} {rest : List Oper} {o : Oper} {a : Act} {w w0 : World} {Q : Exit → Act → World → Prop} {F : List Nat} {L : List Chunk}
theorem w_lit4 {t e : TypeId} {bytes : Nat} (T : SliceT P t e 1 bytes) (x y z u : Operand) (ho : o.op = .buildSlice t 4 #[(0, x), (1, y), (2, z), (3, u)]) (hw : Region.wanted o (yielded ops a.tmps) = true) {b0 b1 b2 b3 : UInt8} (hx : a.eval x = .int .u8 (I8 b0)) (hy : a.eval y = .int .u8 (I8 b1)) (hz : a.eval z = .int .u8 (I8 b2)) (hu : a.eval u = .int .u8 (I8 b3))
    (h : ∀ (g : Nat) (w' : World), g = w.heap.size → w' = w.alloc (.cells (bs [b0, b1, b2, b3]).toArray e) → wpList P ops Q rest (a.put o.dst (.slice (some ⟨g, 0, none⟩) 4 4)) w') : wpList P ops Q (o :: rest) a w :=
  wpW hw fun _ hK => by
    obtain ⟨ht, ⟨i, z', hi, hz', hsize, hby, hzs⟩, hsz⟩ := T
    have hf : Instr.fill (fun j => some (j * i.size, i.size)) ((Array.range (4 * i.size)).map (z'.cells[· % z'.cells.size]!)) (#[(0, x), (1, y), (2, z), (3, u)].map fun ((j, q) : Nat × Operand) => (j, a.eval q)).toList = some (bs [b0, b1, b2, b3]).toArray := by
      have r4 : Array.range (4 * 1) = #[0, 1, 2, 3] := by decide
      rw [hsize, r4]
      simp only [List.map_toArray, List.map_cons, List.map_nil, hx, hy, hz, hu]
      generalize z'.cells[0 % z'.cells.size]! = c0
      generalize z'.cells[1 % z'.cells.size]! = c1
      generalize z'.cells[2 % z'.cells.size]! = c2
      generalize z'.cells[3 % z'.cells.size]! = c3
      rfl
    have hr := run_buildSlice (P := P) w t e 4 _ (bs [b0, b1, b2, b3]).toArray i z' ht hi hz' (by omega) (by have := Nat.mul_pos (show 0 < 4 by omega) hsz; omega) hf
    unfold Oper.wp execOp
    simp only [ho, Sem.run_bind, hr, Result.andThen_ok]
    exact hK _ _ (h _ _ rfl rfl)
theorem w_mark (M : Mem F w0 w L) {t e : TypeId} {l : List UInt8} {n : Nat} {g : Nat} {wm : World} (eg : g = w.heap.size) (ew : wm = w.alloc (.cells (bs l).toArray e)) (x : Operand) (ho : o.op = .convert t t x) (hw : Region.wanted o (yielded ops a.tmps) = true) (ht : P.underlying t = some (.slice e)) (he : P.underlying e = some (.int .u8)) (hn : n = l.length) (hm : n ≤ 1000000) (hx : a.eval x = .slice (some ⟨g, 0, none⟩) n n)
    (h : ∀ w' : World, Mem F w0 w' (.sl 1 (.slice (some ⟨g, 0, none⟩) n n) n (bs l) :: L) → wpList P ops Q rest (a.put o.dst (.slice (some ⟨g, 0, none⟩) n n)) w') : wpList P ops Q (o :: rest) a wm := by
  subst eg ew hn
  exact wpW hw fun _ hK => by
    have hr := Lib.run_convert_bytes_const (P := P) w t e (bs l).toArray l.length l.length ht he
    have hsz : (bs l).toArray.size = l.length := by rw [List.size_toArray, bs_length]
    rw [hsz] at hr
    have hnew : (w.alloc (.cells (bs l).toArray e (l.length, l.length + 1))).heap[w.heap.size]? = some (.cells (bs l).toArray e (l.length, l.length + 1)) := by
      show (w.heap.push _)[w.heap.size]? = _
      simp
    have hok : (Chunk.sl 1 (.slice (some ⟨w.heap.size, 0, none⟩) l.length l.length) l.length (bs l)).ok (w.alloc (.cells (bs l).toArray e (l.length, l.length + 1))) := by
      refine ⟨by simp [bs_length], .inr ⟨w.heap.size, 0, l.length, rfl, Nat.zero_le _, by simp, Nat.le_refl _, by simp only [maxLen]; omega, ?_, ?_⟩⟩
      · intro j v hv
        rw [Nat.zero_add]
        simp only [World.cell?, hnew]
        rw [if_neg (by decide)]
        simpa using hv
      · intro j hj
        rw [Nat.mul_one] at hj
        rw [Nat.zero_add]
        constructor
        · simp only [World.cell?, hnew]
          rw [if_neg (by decide), Array.getElem?_eq_getElem (by omega)]; rfl
        · simp only [World.frozen?, hnew]
          simp; omega
    unfold Oper.wp execOp
    simp only [ho, hx, Sem.run_bind, hr, Result.andThen_ok]
    exact hK _ _ (h _ (M.add _ (Kept.alloc _ _) hok (by simp [Chunk.fp, Value.ownBlock])))
end
end TL
end Go

/- Plain: what package aes computes, step by step as its code does. No program in this text. No conditions but those each lemma names. -/
namespace Go
namespace TL
def iterN {α : Type} (f : Nat → α → α) : Nat → α → α
  | 0, s => s
  | n + 1, s => f n (iterN f n s)
theorem iterN_succ {α : Type} (f : Nat → α → α) (n : Nat) (s : α) : iterN f (n + 1) s = f n (iterN f n s) := rfl
theorem iterN_inv {α : Type} (f : Nat → α → α) (p : α → Prop) (hf : ∀ n s, p s → p (f n s)) : ∀ (n : Nat) (s : α), p s → p (iterN f n s)
  | 0, _, h => h
  | n + 1, s, h => hf n _ (iterN_inv f p hf n s h)
theorem iterN_len (f : Nat → List UInt8 → List UInt8) (hf : ∀ n s, (f n s).length = s.length) (n : Nat) (s : List UInt8) : (iterN f n s).length = s.length := by
  induction n with
  | zero => rfl
  | succ n ih => rw [iterN_succ, hf, ih]
abbrev nth (l : List UInt8) (i : Nat) : UInt8 := l.getD i 0
/-! ### S -/
def tw (b : UInt8) : UInt8 := b <<< 1 ^^^ b >>> 7 * 27
def rl (b n : UInt8) : UInt8 := b <<< n ||| b >>> (8 - n)
structure BoxS where
  s : List UInt8
  p : UInt8
  q : UInt8
def boxQ (q : UInt8) : UInt8 :=
  let q1 := q ^^^ q <<< 1
  let q2 := q1 ^^^ q1 <<< 2
  let q3 := q2 ^^^ q2 <<< 4
  q3 ^^^ q3 >>> 7 * 9
def boxStep (_ : Nat) (x : BoxS) : BoxS := ⟨x.s.set x.p.toNat (x.q ^^^ rl x.q 1 ^^^ rl x.q 2 ^^^ rl x.q 3 ^^^ rl x.q 4 ^^^ 99), x.p ^^^ tw x.p, boxQ x.q⟩
def boxS (n : Nat) : BoxS := iterN boxStep n ⟨List.replicate 256 0, 1, 1⟩
theorem boxS_len (n : Nat) : (boxS n).s.length = 256 :=
  iterN_inv boxStep (fun x => x.s.length = 256) (fun n s h => by unfold boxStep; simpa using h) n _ (List.length_replicate ..)
def boxL : List UInt8 := (boxS 255).s.set 0 99
theorem boxL_len : boxL.length = 256 := by unfold boxL; rw [List.length_set]; exact boxS_len _
/-! ### A key's words -/
def rotT (t : List UInt8) : List UInt8 := [nth t 1, nth t 2, nth t 3, nth t 0]
def subT (s : List UInt8) (k : Nat) (t : List UInt8) : List UInt8 := t.set k (nth s (nth t k).toNat)
def word1 (W : List UInt8) (i : Nat) : List UInt8 := (W.drop (4 * (i - 1))).take 4
def word2 (W : List UInt8) (i : Nat) : List UInt8 := if i % 8 = 0 then rotT (word1 W i) else word1 W i
def word3 (s W : List UInt8) (i : Nat) : List UInt8 := if i % 4 = 0 then iterN (subT s) 4 (word2 W i) else word2 W i
def word4 (s W : List UInt8) (pw : UInt8) (i : Nat) : List UInt8 := if i % 8 = 0 then (word3 s W i).set 0 (nth (word3 s W i) 0 ^^^ pw) else word3 s W i
def powI (pw : UInt8) (i : Nat) : UInt8 := if i % 8 = 0 then tw pw else pw
def addT (t : List UInt8) (i k : Nat) (W : List UInt8) : List UInt8 := W.set (4 * i + k) (nth W (4 * (i - 8) + k) ^^^ nth t k)
def schW (s : List UInt8) (n : Nat) (x : List UInt8 × UInt8) : List UInt8 × UInt8 := (iterN (addT (word4 s x.1 x.2 (n + 8)) (n + 8)) 4 x.1, powI x.2 (n + 8))
def schS (s key : List UInt8) (n : Nat) : List UInt8 × UInt8 := iterN (schW s) n (key ++ List.replicate 208 0, 1)
def schL (s key : List UInt8) : List UInt8 := (schS s key 52).1
theorem addT_len (t : List UInt8) (i n : Nat) (W : List UInt8) : (addT t i n W).length = W.length := by unfold addT; rw [List.length_set]
theorem schS_len (s key : List UInt8) (hk : key.length = 32) (n : Nat) : (schS s key n).1.length = 240 :=
  iterN_inv (schW s) (fun x => x.1.length = 240) (fun n x h => by unfold schW; simp only; rw [iterN_len _ (addT_len _ _)]; exact h) n _ (by show (key ++ _).length = 240; rw [List.length_append, hk, List.length_replicate])
theorem schL_len (s key : List UInt8) (hk : key.length = 32) : (schL s key).length = 240 := schS_len s key hk _
theorem word1_len {W : List UInt8} {i : Nat} (hW : W.length = 240) (h1 : 1 ≤ i) (h2 : i ≤ 60) : (word1 W i).length = 4 := by unfold word1; simp; omega
theorem subT_len (s : List UInt8) (k : Nat) (t : List UInt8) : (subT s k t).length = t.length := by unfold subT; rw [List.length_set]
/-! ### A block -/
def addB (W : List UInt8) (round i : Nat) (b : List UInt8) : List UInt8 := b.set i (nth b i ^^^ nth W (16 * round + i))
def addL (W b : List UInt8) (round : Nat) : List UInt8 := iterN (addB W round) 16 b
def mixN (b : List UInt8) (i k : Nat) : UInt8 := nth b (i / 4 * 4 + (i + k) % 4)
def mixB (b : List UInt8) (i : Nat) (out : List UInt8) : List UInt8 := out.set i (tw (mixN b i 0) ^^^ tw (mixN b i 1) ^^^ mixN b i 1 ^^^ mixN b i 2 ^^^ mixN b i 3)
def mixL (b : List UInt8) : List UInt8 := iterN (mixB b) 16 (List.replicate 16 0)
def subB (s b : List UInt8) (i : Nat) (t : List UInt8) : List UInt8 := t.set i (nth s (nth b ((i + 4 * (i % 4)) % 16)).toNat)
def subL (s b : List UInt8) : List UInt8 := iterN (subB s b) 16 (List.replicate 16 0)
def roundL (s W : List UInt8) (n : Nat) (b : List UInt8) : List UInt8 := addL W (if n + 1 < 14 then mixL (subL s b) else subL s b) (n + 1)
def blockL (s W b : List UInt8) : List UInt8 := iterN (roundL s W) 14 (addL W b 0)
theorem addB_len (W : List UInt8) (r i : Nat) (b : List UInt8) : (addB W r i b).length = b.length := by unfold addB; rw [List.length_set]
theorem addL_len (W b : List UInt8) (r : Nat) : (addL W b r).length = b.length := iterN_len _ (addB_len W r) _ _
theorem mixL_len (b : List UInt8) : (mixL b).length = 16 := by unfold mixL; rw [iterN_len _ (fun n s => by unfold mixB; rw [List.length_set]), List.length_replicate]
theorem subL_len (s b : List UInt8) : (subL s b).length = 16 := by unfold subL; rw [iterN_len _ (fun n s => by unfold subB; rw [List.length_set]), List.length_replicate]
theorem roundL_len (s W : List UInt8) (n : Nat) (b : List UInt8) : (roundL s W n b).length = 16 := by unfold roundL; rw [addL_len]; split; exact mixL_len _; exact subL_len _ _
theorem blockL_len (s W b : List UInt8) (hb : b.length = 16) : (blockL s W b).length = 16 :=
  iterN_inv _ (fun l => l.length = 16) (fun n x _ => roundL_len s W n x) 14 _ (by rw [addL_len]; exact hb)
/-! ### A stream -/
def xorB (out : List UInt8) (at' i : Nat) (b : List UInt8) : List UInt8 := b.set (at' + i) (nth b (at' + i) ^^^ nth out i)
def strB (s W nonce : List UInt8) (k : Nat) (b : List UInt8) : List UInt8 := iterN (xorB (blockL s W (nonce ++ bigB (UInt64.ofNat k) 4)) (16 * k)) (min 16 (b.length - 16 * k)) b
def strN (s W nonce : List UInt8) (n : Nat) (b : List UInt8) : List UInt8 := iterN (strB s W nonce) n b
def streamL (key nonce text : List UInt8) : List UInt8 := strN boxL (schL boxL key) nonce ((text.length + 15) / 16) text
theorem xorB_len (out : List UInt8) (a i : Nat) (b : List UInt8) : (xorB out a i b).length = b.length := by unfold xorB; rw [List.length_set]
theorem strB_len (s W nonce : List UInt8) (k : Nat) (b : List UInt8) : (strB s W nonce k b).length = b.length := iterN_len _ (xorB_len _ _) _ _
theorem strN_len (s W nonce : List UInt8) (n : Nat) (b : List UInt8) : (strN s W nonce n b).length = b.length := iterN_len _ (strB_len s W nonce) _ _
theorem streamL_len (key nonce text : List UInt8) : (streamL key nonce text).length = text.length := strN_len _ _ _ _ _
/-! ### Twice a stream -/
theorem nth_set (l : List UInt8) (i j : Nat) (v : UInt8) (h : i < l.length) : nth (l.set i v) j = if i = j then v else nth l j := by
  unfold nth
  simp only [List.getD_eq_getElem?_getD, List.getElem?_set]
  by_cases e : i = j
  · subst e; simp [h]
  · simp [e]
theorem ext_nth {l m : List UInt8} (h : l.length = m.length) (hh : ∀ i, i < l.length → nth l i = nth m i) : l = m := by
  apply List.ext_getElem h
  intro i h1 h2
  have := hh i h1
  unfold nth at this
  simpa [List.getD_eq_getElem?_getD, List.getElem?_eq_getElem h1, List.getElem?_eq_getElem h2] using this
theorem iterN_nth (f : Nat → List UInt8 → List UInt8) (o : Nat) (v : Nat → List UInt8 → UInt8) (hf : ∀ i l, f i l = l.set (o + i) (v i l)) (hv : ∀ i l m, l.length = m.length → nth l (o + i) = nth m (o + i) → v i l = v i m) (l : List UInt8) :
    ∀ (n : Nat), o + n ≤ l.length → ∀ j, nth (iterN f n l) j = if o ≤ j ∧ j < o + n then v (j - o) l else nth l j
  | 0, _, j => by rw [if_neg (by omega)]; rfl
  | n + 1, h, j => by
    have ih := iterN_nth f o v hf hv l n (by omega)
    have hl : (iterN f n l).length = l.length := iterN_len f (fun i m => by rw [hf, List.length_set]) n l
    rw [iterN_succ, hf, nth_set _ _ _ _ (by rw [hl]; omega)]
    by_cases e : o + n = j
    · subst e
      rw [if_pos rfl, if_pos (by omega)]
      rw [hv n _ l hl (by rw [ih]; rw [if_neg (by omega)])]
      congr 1; omega
    · rw [if_neg e, ih]
      by_cases h2 : o ≤ j ∧ j < o + n
      · rw [if_pos h2, if_pos (by omega)]
      · rw [if_neg h2, if_neg (by omega)]
theorem strB_nth (s W nonce : List UInt8) (k : Nat) (b : List UInt8) (j : Nat) (hk : 16 * k ≤ b.length) : nth (strB s W nonce k b) j = if 16 * k ≤ j ∧ j < 16 * k + 16 ∧ j < b.length then nth b j ^^^ nth (blockL s W (nonce ++ bigB (UInt64.ofNat k) 4)) (j - 16 * k) else nth b j := by
  unfold strB
  rw [iterN_nth (xorB (blockL s W (nonce ++ bigB (UInt64.ofNat k) 4)) (16 * k)) (16 * k) (fun i l => nth l (16 * k + i) ^^^ nth (blockL s W (nonce ++ bigB (UInt64.ofNat k) 4)) i) (fun i l => rfl) (fun i l m _ h => by rw [h]) b _ (by omega)]
  by_cases h : 16 * k ≤ j ∧ j < 16 * k + min 16 (b.length - 16 * k)
  · rw [if_pos h, if_pos (by omega), show 16 * k + (j - 16 * k) = j by omega]
  · rw [if_neg h, if_neg (by omega)]
theorem strN_nth (s W nonce : List UInt8) (b : List UInt8) : ∀ (n j : Nat), 16 * n < b.length + 16 → nth (strN s W nonce n b) j = if j < 16 * n ∧ j < b.length then nth b j ^^^ nth (blockL s W (nonce ++ bigB (UInt64.ofNat (j / 16)) 4)) (j % 16) else nth b j
  | 0, j, _ => by rw [if_neg (by omega)]; rfl
  | n + 1, j, h => by
    have ih := strN_nth s W nonce b n j (by omega)
    have hl := strN_len s W nonce n b
    unfold strN at ih hl ⊢
    rw [iterN_succ, strB_nth _ _ _ _ _ _ (by rw [hl]; omega), hl]
    by_cases h1 : 16 * n ≤ j ∧ j < 16 * n + 16 ∧ j < b.length
    · rw [if_pos h1, if_pos (by omega), ih, if_neg (by omega), show j / 16 = n by omega, show j % 16 = j - 16 * n by omega]
    · rw [if_neg h1, ih]
      by_cases h2 : j < 16 * n ∧ j < b.length
      · rw [if_pos h2, if_pos (by omega)]
      · rw [if_neg h2, if_neg (by omega)]
theorem streamL_nth (key nonce text : List UInt8) (j : Nat) (hj : j < text.length) : nth (streamL key nonce text) j = nth text j ^^^ nth (blockL boxL (schL boxL key) (nonce ++ bigB (UInt64.ofNat (j / 16)) 4)) (j % 16) := by
  unfold streamL
  rw [strN_nth _ _ _ _ _ _ (by omega), if_pos (by omega)]
theorem streamL_twice (key nonce text : List UInt8) : streamL key nonce (streamL key nonce text) = text := by
  refine ext_nth (by rw [streamL_len, streamL_len]) fun i hi => ?_
  rw [streamL_len, streamL_len] at hi
  rw [streamL_nth _ _ _ _ (by rw [streamL_len]; exact hi), streamL_nth _ _ _ _ hi, UInt8.xor_assoc, UInt8.xor_self, UInt8.xor_zero]
end TL
end Go

/- The walks of package aes: a byte's double, S, big numbers' bytes, and what is done to a block. Conditions: lengths. -/
namespace Go
namespace TL
theorem I8_toNat (x : UInt8) : (I8 x).toNat = x.toNat := by unfold I8; simp
end TL
end Go
namespace Go.Proofs.YtidadhbaomieiaaGreat
open Go.RowKit Go.TL
set_option maxRecDepth 100000 in
theorem twice_c (b : UInt8) (w : World) :
    Calls Tryz.prog 177 #[.int .u8 (I8 b)] w fun e w' => e = .returned (.int .u8 (I8 (tw b))) ∧ w = w' := by
  go_enter Tryz.func177, Tryz.ntmps177
  go_wp2
  go_ret
  exact ⟨rfl, rfl⟩
set_option maxRecDepth 100000 in
theorem rot8_c (b n : UInt8) (k : Int) (w : World) (hk : (k = 1 ∧ n = 1) ∨ (k = 2 ∧ n = 2) ∨ (k = 3 ∧ n = 3) ∨ (k = 4 ∧ n = 4)) :
    Calls Tryz.prog 191 #[.int .u8 (I8 b), .int .i64 k] w fun e w' => e = .returned (.int .u8 (I8 (rl b n))) ∧ w = w' := by
  have h1 : I64 (1 &&& 7) = 1 := by decide
  have h2 : I64 (2 &&& 7) = 2 := by decide
  have h3 : I64 (3 &&& 7) = 3 := by decide
  have h4 : I64 (4 &&& 7) = 4 := by decide
  have k7 : I64 7 = 7 := by decide
  have k6 : I64 6 = 6 := by decide
  have k5 : I64 5 = 5 := by decide
  have k4 : I64 4 = 4 := by decide
  rcases hk with ⟨rfl, rfl⟩ | ⟨rfl, rfl⟩ | ⟨rfl, rfl⟩ | ⟨rfl, rfl⟩
  all_goals
    go_enter Tryz.func191, Tryz.ntmps191
    go_wp2
    go_ret
    exact ⟨rfl, rfl⟩
set_option maxRecDepth 100000 in
set_option maxHeartbeats 4000000 in
theorem box_c (w : World) :
    Calls Tryz.prog 176 #[] w fun e w' => e = .returned (.agg (bs boxL).toArray) ∧ Below w.heap.size w w' := by
  have M := Mem.start [] w
  go_enter Tryz.func176, Tryz.ntmps176
  go_wp2_with ((first | ((with_reducible refine tAlloc (some 0) 256 ?_); refine w_alloc M _ rfl rfl (.agg (Array.replicate 256 (.int .u8 0))) (bs (List.replicate 256 (0 : UInt8))) (by kernel_rfl) rfl ?_; clear M; intro gs w1 M) | ((with_reducible refine tGuard ?_); first | refine gdS ?_ | (refine gdC ?_ ?_ <;> (intro hgd; rw [hgd]; try (exfalso; simp at hgd; omega)))) | ((with_reducible refine tConv _ 70 9 ?_); go_must (refine cvB ?_)) | ((with_reducible refine tLoad ?_); go_must (refine ldB ?_)) | ((with_reducible refine tStore ?_); go_must (refine stB ?_; clear M; intro w1 M; (try simp only [setC] at M))) | ((with_reducible refine tBox _ ?_); (refine bxA M ?_; clear M; intro g w1 M))) <;> (try conv => arg 5; simp only [Act.put, List.setIfInBounds_toArray, setC]))
  go_loopw [1, 2, 3] (fun pv qv kv wr => ∃ k : Nat, k ≤ 255 ∧ kv = .int .i64 k ∧ pv = .int .u8 (I8 (boxS k).p) ∧ qv = .int .u8 (I8 (boxS k).q) ∧ Mem [] w wr [.row gs (bs (boxS k).s)]) (fun _ _ kv _ => 255 - (intOf kv).toNat)
  case atStart => exact ⟨0, by omega, rfl, rfl, rfl, M⟩
  case round =>
    clear M
    obtain ⟨k, hk, rfl, rfl, rfl, M⟩ := hrel
    have hl := boxS_len k
    by_cases hlt : k < 255
    · obtain ⟨x, ex⟩ : ∃ x, x = boxS k := ⟨_, rfl⟩
      rw [← ex] at M hl
      rw [← ex]
      have e : boxS (k + 1) = boxStep k x := by rw [ex]; rfl
      have E := Lib.hid e
      have hp := x.p.toNat_lt
      have hp0 := (I8_bd x.p).1
      have hp1 := (I8_bd x.p).2
      have hp2 := I8_toNat x.p
      have hp3 : x.p.toNat < 256 := hp
      clear e ex hp
      go_wp2_with ((first | (go_at_call 177; go_must (refine (twice_c _ _).mono ?_; rintro e w1 ⟨rfl, rfl⟩)) | (go_at_call 191; go_must ((first | (with_reducible refine (rot8_c _ 1 1 _ (by decide)).mono ?_) | (with_reducible refine (rot8_c _ 2 2 _ (by decide)).mono ?_) | (with_reducible refine (rot8_c _ 3 3 _ (by decide)).mono ?_) | (with_reducible refine (rot8_c _ 4 4 _ (by decide)).mono ?_)); rintro e w1 ⟨rfl, rfl⟩)) | ((with_reducible refine tGuard ?_); first | refine gdS ?_ | (refine gdC ?_ ?_ <;> (intro hgd; rw [hgd]; try (exfalso; simp at hgd; omega)))) | ((with_reducible refine tConv _ 70 9 ?_); go_must (refine cvB ?_)) | ((with_reducible refine tLoad ?_); go_must (refine ldB ?_)) | ((with_reducible refine tStore ?_); go_must (refine stB ?_; clear M; intro w1 M; (try simp only [setC] at M))) | ((with_reducible refine tBox _ ?_); (refine bxA M ?_; clear M; intro g w1 M))) <;> (try conv => arg 5; simp only [Act.put, List.setIfInBounds_toArray, setC]))
      go_roundw
      case rel => exact ⟨k + 1, by omega, by go_num, by rw [E.out]; rfl, by rw [E.out]; rfl, by rw [E.out]; exact M⟩
      case measure => simp [intOf]; omega
    · obtain rfl : k = 255 := by omega
      have E := Lib.hid (show boxL = (boxS 255).s.set 0 99 from rfl)
      obtain ⟨x, ex⟩ : ∃ x, x = boxS 255 := ⟨_, rfl⟩
      rw [← ex] at M hl
      rw [← ex]
      rw [← ex] at E
      clear ex
      have hl2 : (x.s.set 0 99).length = 256 := by rw [List.length_set]; exact hl
      go_wp2_with ((first | ((with_reducible refine tGuard ?_); first | refine gdS ?_ | (refine gdC ?_ ?_ <;> (intro hgd; rw [hgd]; try (exfalso; simp at hgd; omega)))) | ((with_reducible refine tConv _ 70 9 ?_); go_must (refine cvB ?_)) | ((with_reducible refine tLoad ?_); go_must (refine ldB ?_)) | ((with_reducible refine tStore ?_); go_must (refine stBc ?_; clear M; intro w1 M; (try simp only [setC] at M); (try simp only [w8_lit] at M))) | ((with_reducible refine tBox _ ?_); (refine bxA M ?_; clear M; intro g w1 M))) <;> (try conv => arg 5; simp only [Act.put, List.setIfInBounds_toArray, setC]))
      rw [← E.out] at M
      exact bodyPost_ret (results_row rfl _ _ gs 0 (bs boxL) _ rfl (M.ok 0 _ rfl).2.1 Tryz.underlying256 rfl (by rw [bs_length, boxL_len]; kernel_rfl)) rfl ⟨rfl, M.below⟩
set_option maxRecDepth 100000 in
set_option maxHeartbeats 400000 in
theorem aesPut (base : Nat) (v : Value) (l : List UInt8) (x : UInt64) (n : Nat) (w : World) (hown : OwnB w base v l) (hbase : base ≤ w.heap.size) (hn : n ≤ 8) (hl : l.length ≤ 1000000000000) :
    Calls Tryz.prog 149 #[v, .int .u64 (I64 x), .int .i64 n] w fun e w' => ∃ v', e = .returned v' ∧ OwnB w' base v' (l ++ bigB x n) ∧ w.grownBy w' v.ownBlock ∧ FreshOr w v v' := by
  go_enter Tryz.func149, Tryz.ntmps149
  go_wp2
  go_loopw [0, 7] (fun b i wr => ∃ (j : Nat) (done : List UInt8), j ≤ n ∧ i = .int .i64 ((j : Int) - 1) ∧ done.length ≤ 8 ∧ done ++ bigB x j = bigB x n ∧ OwnB wr base b (l ++ done) ∧ w.grownBy wr v.ownBlock ∧ FreshOr w v b) (fun _ i _ => (intOf i + 1).toNat)
  case atStart => exact ⟨n, [], by omega, rfl, by simp, rfl, by simpa using hown, grownBy_refl _ _, .inl rfl⟩
  case round =>
    obtain ⟨j, done, hj, rfl, hd, H, ho, hg, hf⟩ := hrel
    have H' := Lib.hid H; clear H
    have ho' := Lib.hid ho; clear ho
    have hg' := Lib.hid hg; clear hg
    have hf' := Lib.hid hf; clear hf
    cases j with
    | zero =>
      go_wp2
      go_ret
      have hx : done = bigB x n := by have := H'.out; simpa [bigB] using this
      subst hx
      exact ⟨_, rfl, ho'.out, hg'.out, hf'.out⟩
    | succ i =>
      have e : ((i + 1 : Nat) : Int) - 1 = i := by omega
      rw [e]; clear e
      have b1 : 8 * (i : Int) ≤ 63 := by omega
      have b0 : 0 ≤ 8 * (i : Int) := by omega
      go_wp2_with (at_builtin; refine wpList_append_new bytesT rfl (.tmp 14) (.tmp 20) rfl base wr [_] _ _ rfl u0 (l ++ done) rfl ho'.out rfl ?_ ?_ ?_)
      · simp; omega
      · have := hg'.out.size; omega
      · intro v' w1 hown1 hg1 hf1
        have hg2 := Lib.hid (grow_step hg'.out hf'.out hg1)
        have hf2 := Lib.hid (fresh_trans hg'.out.size hf'.out hf1)
        have hown2 := Lib.hid hown1
        clear hown1 hg1 hf1
        go_wp2
        go_roundw
        case rel => exact ⟨i, done ++ [(x >>> (8 * UInt64.ofNat i)).toUInt8], by omega, by go_num, by have := bigB_length x n; rw [← H'.out] at this; simp [bigB, bigB_length] at this ⊢; omega, by rw [← H'.out]; simp [bigB], hown2.out, hg2.out, hf2.out⟩
        case measure => simp [intOf]
theorem aesPutc (v : Value) (l : List UInt8) (x : UInt64) (n : Nat) (w : World) (hok : (Chunk.sl 1 v l.length (bs l)).ok w) (hn : n ≤ 8) (hl : l.length ≤ 1000000000000) :
    Calls Tryz.prog 149 #[v, .int .u64 (I64 x), .int .i64 n] w fun e w' => ∃ p cap, e = .returned (.slice p (l ++ bigB x n).length cap) ∧ Upd w (.sl 1 v l.length (bs l)) w' (.sl 1 (.slice p (l ++ bigB x n).length cap) (l ++ bigB x n).length (bs (l ++ bigB x n))) :=
  (aesPut 0 v l x n w hok (Nat.zero_le _) hn hl).mono fun e w' h => by
    obtain ⟨v', rfl, ho, hg, hf⟩ := h
    obtain ⟨p, cap, rfl⟩ := Own.form0 ho
    refine ⟨p, cap, rfl, Kept.grown hg, ho, fun k hk => ?_⟩
    simp only [Chunk.fp, Option.mem_toList] at hk ⊢
    rcases hf with hf | ⟨g, h1, h2⟩
    · exact .inl (by rw [← hf]; exact hk)
    · rw [h1] at hk; cases hk; exact .inr h2
set_option maxRecDepth 100000 in
set_option maxHeartbeats 400000 in
theorem sealPut (base : Nat) (v : Value) (l : List UInt8) (x : UInt64) (n : Nat) (w : World) (hown : OwnB w base v l) (hbase : base ≤ w.heap.size) (hn : n ≤ 8) (hl : l.length ≤ 1000000000000) :
    Calls Tryz.prog 108 #[v, .int .u64 (I64 x), .int .i64 n] w fun e w' => ∃ v', e = .returned v' ∧ OwnB w' base v' (l ++ bigB x n) ∧ w.grownBy w' v.ownBlock ∧ FreshOr w v v' := by
  go_enter Tryz.func108, Tryz.ntmps108
  go_wp2
  go_loopw [0, 7] (fun b i wr => ∃ (j : Nat) (done : List UInt8), j ≤ n ∧ i = .int .i64 ((j : Int) - 1) ∧ done.length ≤ 8 ∧ done ++ bigB x j = bigB x n ∧ OwnB wr base b (l ++ done) ∧ w.grownBy wr v.ownBlock ∧ FreshOr w v b) (fun _ i _ => (intOf i + 1).toNat)
  case atStart => exact ⟨n, [], by omega, rfl, by simp, rfl, by simpa using hown, grownBy_refl _ _, .inl rfl⟩
  case round =>
    obtain ⟨j, done, hj, rfl, hd, H, ho, hg, hf⟩ := hrel
    have H' := Lib.hid H; clear H
    have ho' := Lib.hid ho; clear ho
    have hg' := Lib.hid hg; clear hg
    have hf' := Lib.hid hf; clear hf
    cases j with
    | zero =>
      go_wp2
      go_ret
      have hx : done = bigB x n := by have := H'.out; simpa [bigB] using this
      subst hx
      exact ⟨_, rfl, ho'.out, hg'.out, hf'.out⟩
    | succ i =>
      have e : ((i + 1 : Nat) : Int) - 1 = i := by omega
      rw [e]; clear e
      have b1 : 8 * (i : Int) ≤ 63 := by omega
      have b0 : 0 ≤ 8 * (i : Int) := by omega
      go_wp2_with (at_builtin; refine wpList_append_new bytesT rfl (.tmp 14) (.tmp 20) rfl base wr [_] _ _ rfl u0 (l ++ done) rfl ho'.out rfl ?_ ?_ ?_)
      · simp; omega
      · have := hg'.out.size; omega
      · intro v' w1 hown1 hg1 hf1
        have hg2 := Lib.hid (grow_step hg'.out hf'.out hg1)
        have hf2 := Lib.hid (fresh_trans hg'.out.size hf'.out hf1)
        have hown2 := Lib.hid hown1
        clear hown1 hg1 hf1
        go_wp2
        go_roundw
        case rel => exact ⟨i, done ++ [(x >>> (8 * UInt64.ofNat i)).toUInt8], by omega, by go_num, by have := bigB_length x n; rw [← H'.out] at this; simp [bigB, bigB_length] at this ⊢; omega, by rw [← H'.out]; simp [bigB], hown2.out, hg2.out, hf2.out⟩
        case measure => simp [intOf]
theorem sealPutc (v : Value) (l : List UInt8) (x : UInt64) (n : Nat) (w : World) (hok : (Chunk.sl 1 v l.length (bs l)).ok w) (hn : n ≤ 8) (hl : l.length ≤ 1000000000000) :
    Calls Tryz.prog 108 #[v, .int .u64 (I64 x), .int .i64 n] w fun e w' => ∃ p cap, e = .returned (.slice p (l ++ bigB x n).length cap) ∧ Upd w (.sl 1 v l.length (bs l)) w' (.sl 1 (.slice p (l ++ bigB x n).length cap) (l ++ bigB x n).length (bs (l ++ bigB x n))) :=
  (sealPut 0 v l x n w hok (Nat.zero_le _) hn hl).mono fun e w' h => by
    obtain ⟨v', rfl, ho, hg, hf⟩ := h
    obtain ⟨p, cap, rfl⟩ := Own.form0 ho
    refine ⟨p, cap, rfl, Kept.grown hg, ho, fun k hk => ?_⟩
    simp only [Chunk.fp, Option.mem_toList] at hk ⊢
    rcases hf with hf | ⟨g, h1, h2⟩
    · exact .inl (by rw [← hf]; exact hk)
    · rw [h1] at hk; cases hk; exact .inr h2
set_option maxRecDepth 100000 in
set_option maxHeartbeats 4000000 in
theorem add_c (gc : Nat) (s W b : List UInt8) (r : Nat) (rv : Int) (hrv : rv = r) (w : World) (R : (Chunk.row gc (bs (W ++ s))).ok w) (hW : W.length = 240) (hs : s.length = 256) (hb : b.length = 16) (hr : r ≤ 14) :
    Calls Tryz.prog 178 #[.pointer (some ⟨gc, 0, none⟩), .agg (bs b).toArray, .int .i64 rv] w fun e w' => e = .returned (.agg (bs (addL W b r)).toArray) ∧ Below w.heap.size w w' := by
  subst hrv
  have M := Mem.start [] w
  have hWs : (W ++ s).length = 496 := by rw [List.length_append, hW, hs]
  have NW : ∀ i, i < 240 → (W ++ s).getD i 0 = nth W i := fun i hi => by
    unfold nth; simp only [List.getD_eq_getElem?_getD]; rw [List.getElem?_append_left (by omega)]
  obtain ⟨C, eC⟩ : ∃ C, C = W ++ s := ⟨_, rfl⟩
  rw [← eC] at R hWs NW
  clear eC
  replace NW := Lib.hid NW
  go_enter Tryz.func178, Tryz.ntmps178
  go_wp2_with ((first | ((with_reducible refine tBox (some 4) ?_); refine w_box M _ _ rfl rfl _ rfl (bs b) rfl ?_; clear M; intro gb w1 M) | ((with_reducible refine tAlloc (some 6) 234 ?_); refine w_alloc M _ rfl rfl (.agg (Array.replicate 16 (.int .u8 0))) (bs (List.replicate 16 (0 : UInt8))) (by kernel_rfl) rfl ?_; clear M; intro go w1 M) | ((with_reducible refine tGuard ?_); first | refine gdS ?_ | (refine gdC ?_ ?_ <;> (intro hgd; rw [hgd]; try (exfalso; simp at hgd; omega)))) | ((with_reducible refine tConv _ 70 9 ?_); go_must (refine cvB ?_)) | ((with_reducible refine tLoad ?_); go_must (refine ldB ?_)) | ((with_reducible refine tStore ?_); go_must (refine stB ?_; clear M; intro w1 M; (try simp only [setC] at M))) | ((with_reducible refine tBox _ ?_); (refine bxA M ?_; clear M; intro g w1 M))) <;> (try conv => arg 5; simp only [Act.put, List.setIfInBounds_toArray, setC]))
  go_loopw [8] (fun kv wr => ∃ k : Nat, k ≤ 16 ∧ kv = .int .i64 k ∧ Mem [] w wr [.row go (bs (List.replicate 16 0)), .row gb (bs (iterN (addB W r) k b))]) (fun kv _ => 16 - (intOf kv).toNat)
  case atStart => exact ⟨0, by omega, rfl, M⟩
  case round =>
    clear M
    obtain ⟨k, hk, rfl, M⟩ := hrel
    obtain ⟨d, ed⟩ : ∃ d, d = iterN (addB W r) k b := ⟨_, rfl⟩
    have hd : d.length = 16 := by rw [ed, iterN_len _ (addB_len W r)]; exact hb
    rw [← ed] at M
    have ED := Lib.hid ed
    clear ed
    by_cases hlt : k < 16
    · go_wp2_with ((first | ((with_reducible refine tLoad ?_); refine w_at _ _ rfl (by exact ev_tmp rfl) ?_; intro hx; (first | refine w_rowB M R _ _ rfl hx rfl (by decide +kernel) (by first | assumption | omega | (simp; omega)) ?_); clear hx) | ((with_reducible show Code.wp _ (Code.region 4 _ _) _ _ _); go_must (have MR := M; refine region_lowc [(0, false), (1, false), (3, false), (4, false), (5, false), (6, false), (7, false), (8, false), (9, false), (10, false), (11, false), (12, false), (13, false), (14, false), (2, false), (15, false), (16, false), (17, false), (18, true)] [(15, .int), (17, .int), (16, .int), (18, .int), (20, .int), (14, .ptr), (13, .int), (26, .int)] [(2, _), (15, _)] (IxOk MR [1]) 18 (by kernel_rfl) (by kernel_rfl) rfl (by kernel_rfl) (lowA MR 1 k (lows_cons (stab_rowB MR R ((4*r+k/4)*4+k%4) rfl (by decide +kernel) (by first | assumption | omega | (simp; omega))) lows_nil)) (ixOk_self MR _) ?_; replace M := M.drew; simp only [planC, opAt, List.getElem?_toArray, List.getElem?_cons_zero, List.getElem?_cons_succ, Option.getD_some])) | ((with_reducible show Seg _ _ _ _); go_must (first | refine Seg.intro ⟨fun h => absurd rfl h, ?_⟩ | refine Seg.intro ⟨fun _ => ixA, ?_⟩ | refine Seg.intro ⟨ndA, atA, ?_⟩)) | ((with_reducible show OnlyN _ _ _ _ _); refine OnlyN.intro (by kernel_rfl) ?_) | ((with_reducible refine tGuard ?_); first | refine gdS ?_ | (refine gdC ?_ ?_ <;> (intro hgd; rw [hgd]; try (exfalso; simp at hgd; omega)))) | ((with_reducible refine tConv _ 70 9 ?_); go_must (refine cvB ?_)) | ((with_reducible refine tLoad ?_); go_must (refine ldB ?_)) | ((with_reducible refine tStore ?_); go_must (refine stB ?_; clear M; intro w1 M; (try simp only [setC] at M))) | ((with_reducible refine tBox _ ?_); (refine bxA M ?_; clear M; intro g w1 M))) <;> (try conv => arg 5; simp only [Act.put, List.setIfInBounds_toArray, setC]))
      have hC : C[(4 * r + k / 4) * 4 + k % 4]?.getD 0 = nth W (16 * r + k) := by
        rw [← NW.out _ (by omega), show 16 * r + k = (4 * r + k / 4) * 4 + k % 4 by omega, List.getD_eq_getElem?_getD]
      have hD : addB W r k d = d.set k (d[k] ^^^ nth W (16 * r + k)) := by
        unfold addB nth; simp [List.getElem?_eq_getElem (show k < d.length by omega)]
      rw [hC, ← hD] at M
      go_roundw
      case rel => exact ⟨k + 1, by omega, by go_num, by rw [iterN_succ, ← ED.out]; exact M⟩
      case measure => simp [intOf]; omega
    · obtain rfl : k = 16 := by omega
      go_wp2_with ((first | ((with_reducible refine tGuard ?_); first | refine gdS ?_ | (refine gdC ?_ ?_ <;> (intro hgd; rw [hgd]; try (exfalso; simp at hgd; omega)))) | ((with_reducible refine tConv _ 70 9 ?_); go_must (refine cvB ?_)) | ((with_reducible refine tLoad ?_); go_must (refine ldB ?_)) | ((with_reducible refine tStore ?_); go_must (refine stB ?_; clear M; intro w1 M; (try simp only [setC] at M))) | ((with_reducible refine tBox _ ?_); (refine bxA M ?_; clear M; intro g w1 M))) <;> (try conv => arg 5; simp only [Act.put, List.setIfInBounds_toArray, setC]))
      exact bodyPost_ret (results_row rfl _ _ go 0 (bs d) _ rfl (M.ok 0 _ rfl).2.1 Tryz.underlying234 rfl (by rw [bs_length, hd]; kernel_rfl)) rfl ⟨by rw [show addL W b r = d from ED.out.symm], M.below⟩
set_option maxRecDepth 100000 in
set_option maxHeartbeats 1000000 in
theorem mix1_c (g ga gi : Nat) (b : List UInt8) (at' i k : Nat) (kv : Int) (hkv : kv = k) (w : World) (hb : b.length = 16) (R : (Chunk.row g (bs b)).ok w) (RA : (Chunk.row ga [.int .i64 at']).ok w) (RI : (Chunk.row gi [.int .i64 i]).ok w) (ha : at' + 3 < 16) (hi : i < 16) (hk : k < 4) :
    Calls Tryz.prog 192 #[.int .i64 kv, .pointer (some ⟨g, 0, none⟩), .pointer (some ⟨ga, 0, none⟩), .pointer (some ⟨gi, 0, none⟩)] w fun e w' => e = .returned (.int .u8 (I8 (nth b (at' + (i + k) % 4)))) ∧ Below w.heap.size w w' := by
  subst hkv
  have M := Mem.start [] w
  go_enter Tryz.func192, Tryz.ntmps192
  go_wp2_with (first | ((with_reducible show wpList _ _ _ (Oper.mk _ (Op.load _ _) _ _ _ _ :: _) _ _); refine w_at _ _ rfl (by first | exact ev_tmp rfl | exact ev_const) ?_; intro hx; first | (refine w_rowB M R _ _ rfl hx rfl (by decide +kernel) (by first | assumption | omega | (simp; omega)) ?_; clear hx) | (refine w_rowC M RA _ _ rfl hx rfl (by decide +kernel) rfl ?_; clear hx) | (refine w_rowC M RI _ _ rfl hx rfl (by decide +kernel) rfl ?_; clear hx)))
  go_ret
  exact ⟨by simp [nth], M.below⟩
set_option maxRecDepth 100000 in
set_option maxHeartbeats 4000000 in
theorem mix_c (b : List UInt8) (w : World) (hb : b.length = 16) :
    Calls Tryz.prog 179 #[.agg (bs b).toArray] w fun e w' => e = .returned (.agg (bs (mixL b)).toArray) ∧ Below w.heap.size w w' := by
  have M := Mem.start [] w
  have hmf : ∀ (fn : Fn) (first cap : Array Value) (w : World), (Instr.makeFunc fn first cap).run Tryz.prog w = .ok (.func fn first cap) w := fun _ _ _ _ => rfl
  go_enter Tryz.func179, Tryz.ntmps179
  go_wp2_with ((first | ((with_reducible refine tBox (some 1) ?_); refine w_box M _ _ rfl rfl _ rfl (bs b) rfl ?_; clear M; intro gb w1 M) | ((with_reducible refine tAlloc (some 2) 234 ?_); refine w_alloc M _ rfl rfl (.agg (Array.replicate 16 (.int .u8 0))) (bs (List.replicate 16 (0 : UInt8))) (by kernel_rfl) rfl ?_; clear M; intro go w1 M) | ((with_reducible refine tGuard ?_); first | refine gdS ?_ | (refine gdC ?_ ?_ <;> (intro hgd; rw [hgd]; try (exfalso; simp at hgd; omega)))) | ((with_reducible refine tConv _ 70 9 ?_); go_must (refine cvB ?_)) | ((with_reducible refine tLoad ?_); go_must (refine ldB ?_)) | ((with_reducible refine tStore ?_); go_must (refine stB ?_; clear M; intro w1 M; (try simp only [setC] at M))) | ((with_reducible refine tBox _ ?_); (refine bxA M ?_; clear M; intro g w1 M))) <;> (try conv => arg 5; simp only [Act.put, List.setIfInBounds_toArray, setC]))
  go_loopw [6] (fun kv wr => ∃ k : Nat, k ≤ 16 ∧ kv = .int .i64 k ∧ Mem [] w wr [.row go (bs (iterN (mixB b) k (List.replicate 16 0))), .row gb (bs b)]) (fun kv _ => 16 - (intOf kv).toNat)
  case atStart => exact ⟨0, by omega, rfl, M⟩
  case round =>
    clear M
    obtain ⟨k, hk, rfl, M⟩ := hrel
    obtain ⟨d, ed⟩ : ∃ d, d = iterN (mixB b) k (List.replicate 16 0) := ⟨_, rfl⟩
    have hd : d.length = 16 := by rw [ed, iterN_len _ (fun n s => by unfold mixB; rw [List.length_set])]; exact List.length_replicate
    rw [← ed] at M
    have ED := Lib.hid ed
    clear ed
    by_cases hlt : k < 16
    · have hk4 : k / 4 * 4 + 3 < 16 := by omega
      go_wp2_with ((first | ((with_reducible refine tAlloc (some 3) 3 ?_); refine w_alloc M _ rfl rfl (.int .i64 0) ([.int .i64 0]) (by kernel_rfl) rfl ?_; clear M; intro gi w1 M) | ((with_reducible refine tAlloc (some 4) 3 ?_); refine w_alloc M _ rfl rfl (.int .i64 0) ([.int .i64 0]) (by kernel_rfl) rfl ?_; clear M; intro ga w1 M) | (go_at_call 177; go_must (refine (twice_c _ _).mono ?_; rintro e w1 ⟨rfl, rfl⟩)) | (go_at_call 192; go_must ((first | (with_reducible refine (mix1_c _ _ _ b _ _ 0 0 (by decide) _ hb (M.ok 3 _ rfl) (M.ok 0 _ rfl) (M.ok 1 _ rfl) hk4 hlt (by decide)).mono ?_) | (with_reducible refine (mix1_c _ _ _ b _ _ 1 1 (by decide) _ hb (M.ok 3 _ rfl) (M.ok 0 _ rfl) (M.ok 1 _ rfl) hk4 hlt (by decide)).mono ?_) | (with_reducible refine (mix1_c _ _ _ b _ _ 2 2 (by decide) _ hb (M.ok 3 _ rfl) (M.ok 0 _ rfl) (M.ok 1 _ rfl) hk4 hlt (by decide)).mono ?_) | (with_reducible refine (mix1_c _ _ _ b _ _ 3 3 (by decide) _ hb (M.ok 3 _ rfl) (M.ok 0 _ rfl) (M.ok 1 _ rfl) hk4 hlt (by decide)).mono ?_)); rintro e w1 ⟨rfl, hbl⟩; replace M := M.call hbl; clear hbl)) | ((with_reducible show Code.wp _ (Code.region 6 _ _) _ _ _); go_must (have MR := M; refine region_lowc [(1, false), (4, false), (8, false), (11, false), (14, false), (0, false), (2, true), (3, true), (5, true), (6, true), (7, false), (9, true), (10, false), (12, true), (13, false), (15, true), (16, false), (17, false), (18, true)] [(16, .int), (19, .int), (20, .int), (22, .int), (23, .int), (25, .int), (26, .int), (28, .int)] [(0, _)] (IxOk MR [1]) 18 (by kernel_rfl) (by kernel_rfl) rfl (by kernel_rfl) (lowA MR 1 0 lows_nil) (ixOk_self MR _) ?_; replace M := M.drew; simp only [planC, opAt, List.getElem?_toArray, List.getElem?_cons_zero, List.getElem?_cons_succ, Option.getD_some])) | ((with_reducible show Seg _ _ _ _); go_must (first | refine Seg.intro ⟨fun h => absurd rfl h, ?_⟩ | refine Seg.intro ⟨fun _ => ixA, ?_⟩ | refine Seg.intro ⟨ndA, atA, ?_⟩)) | ((with_reducible show OnlyN _ _ _ _ _); refine OnlyN.intro (by kernel_rfl) ?_) | ((with_reducible refine tGuard ?_); first | refine gdS ?_ | (refine gdC ?_ ?_ <;> (intro hgd; rw [hgd]; try (exfalso; simp at hgd; omega)))) | ((with_reducible refine tConv _ 70 9 ?_); go_must (refine cvB ?_)) | ((with_reducible refine tLoad ?_); go_must (refine ldB ?_)) | ((with_reducible refine tStore ?_); go_must (refine stB ?_; clear M; intro w1 M; (try simp only [setC] at M))) | ((with_reducible refine tBox _ ?_); (refine bxA M ?_; clear M; intro g w1 M))) <;> (try conv => arg 5; simp only [Act.put, List.setIfInBounds_toArray, setC]))
      have hD : mixB b k d = d.set k (tw (b[k / 4 * 4 + k % 4]?.getD 0) ^^^ tw (b[k / 4 * 4 + (k + 1) % 4]?.getD 0) ^^^ b[k / 4 * 4 + (k + 1) % 4]?.getD 0 ^^^ b[k / 4 * 4 + (k + 2) % 4]?.getD 0 ^^^ b[k / 4 * 4 + (k + 3) % 4]?.getD 0) := by
        unfold mixB mixN nth; simp only [List.getD_eq_getElem?_getD, Nat.add_zero]
      rw [← hD] at M
      replace M := M.tail.tail
      go_roundw
      case rel => exact ⟨k + 1, by omega, by go_num, by rw [iterN_succ, ← ED.out]; exact M⟩
      case measure => simp [intOf]; omega
    · obtain rfl : k = 16 := by omega
      go_wp2_with ((first | ((with_reducible refine tGuard ?_); first | refine gdS ?_ | (refine gdC ?_ ?_ <;> (intro hgd; rw [hgd]; try (exfalso; simp at hgd; omega)))) | ((with_reducible refine tConv _ 70 9 ?_); go_must (refine cvB ?_)) | ((with_reducible refine tLoad ?_); go_must (refine ldB ?_)) | ((with_reducible refine tStore ?_); go_must (refine stB ?_; clear M; intro w1 M; (try simp only [setC] at M))) | ((with_reducible refine tBox _ ?_); (refine bxA M ?_; clear M; intro g w1 M))) <;> (try conv => arg 5; simp only [Act.put, List.setIfInBounds_toArray, setC]))
      have e : mixL b = d := ED.out.symm
      exact bodyPost_ret (results_row rfl _ _ go 0 (bs d) _ rfl (M.ok 0 _ rfl).2.1 Tryz.underlying234 rfl (by rw [bs_length, hd]; kernel_rfl)) rfl ⟨by rw [e], M.below⟩
end Go.Proofs.YtidadhbaomieiaaGreat
