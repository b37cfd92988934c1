/- A region that draws its order, walked in one order: where every operation that writes waits for all that reads ahead of it, and what may come on either side of it hangs on the frame alone, whatever order is drawn comes to the same. Conditions: the check 'detOk', by computation; no operation panics. -/
import Derived.WalkKit
import Derived.KernelRfl
import Derived.OrdersHeld
import Derived.ChangeKeysEq
namespace Go
namespace TL
/-! ### What hangs on the frame alone -/
/-- Where it comes to a value, it leaves the world, and comes to that value in every world. -/
def LocalOk {α : Type} (P : Program) (s : Sem α) : Prop := ∀ w v w1, s.run P w = .ok v w1 → w1 = w ∧ ∀ w', s.run P w' = .ok v w'
theorem LocalOk.pure {α : Type} {P : Program} (v : α) : LocalOk P (pure v : Sem α) := by
  intro w u w1 h; cases h; exact ⟨rfl, fun _ => rfl⟩
theorem LocalOk.halt {α : Type} {P : Program} (h : Halt) : LocalOk P (.halt h : Sem α) := by
  intro w u w1 h; cases h
theorem LocalOk.program {P : Program} : LocalOk P program := by
  intro w u w1 h; cases h; exact ⟨rfl, fun _ => rfl⟩
theorem LocalOk.bind {α β : Type} {P : Program} {s : Sem α} {f : α → Sem β} (h : LocalOk P s) (k : ∀ v, LocalOk P (f v)) : LocalOk P (s >>= f) := by
  intro w u w1 hr
  rw [Sem.run_bind] at hr
  cases hs : s.run P w with
  | ok v w2 =>
    rw [hs] at hr
    obtain ⟨rfl, h2⟩ := h _ _ _ hs
    obtain ⟨rfl, h3⟩ := k v _ _ _ hr
    exact ⟨rfl, fun w' => by rw [Sem.run_bind, h2 w']; exact h3 w'⟩
  | halt x w2 => rw [hs] at hr; cases hr
theorem LocalOk.map {α β : Type} {P : Program} {s : Sem α} {f : α → β} (h : LocalOk P s) : LocalOk P (Functor.map f s) := by
  have : Functor.map f s = s >>= fun v => Pure.pure (f v) := rfl
  rw [this]; exact h.bind fun v => LocalOk.pure _
theorem LocalOk.stuck {α : Type} {P : Program} (s : String) : LocalOk P (stuck s : Sem α) := LocalOk.halt _
theorem LocalOk.unsupported {α : Type} {P : Program} (s : Unsupported) : LocalOk P (unsupported s : Sem α) := LocalOk.halt _
theorem LocalOk.goPanic {α : Type} {P : Program} (v : Value) : LocalOk P (goPanic v : Sem α) := LocalOk.halt _
/-- What never comes to a value. -/
def NeverOk {α : Type} (P : Program) (s : Sem α) : Prop := ∀ w v w1, s.run P w ≠ .ok v w1
theorem NeverOk.local {α : Type} {P : Program} {s : Sem α} (h : NeverOk P s) : LocalOk P s := fun w v w1 hr => absurd hr (h w v w1)
theorem NeverOk.bind {α β : Type} {P : Program} {s : Sem α} {f : α → Sem β} (k : ∀ v, NeverOk P (f v)) : NeverOk P (s >>= f) := by
  intro w u w1 hr
  rw [Sem.run_bind] at hr
  cases hs : s.run P w with
  | ok v w2 => rw [hs] at hr; exact k v _ _ _ hr
  | halt x w2 => rw [hs] at hr; cases hr
theorem NeverOk.goPanic {α : Type} {P : Program} (v : Value) : NeverOk P (goPanic v : Sem α) := by intro w u w1 h; cases h
theorem NeverOk.runtimePanic {α : Type} {P : Program} (e : RuntimeError) : NeverOk P (runtimePanic e : Sem α) := by
  unfold Go.runtimePanic
  refine NeverOk.bind fun p => ?_
  cases e <;> first | exact NeverOk.goPanic _ | (refine NeverOk.bind fun _ => ?_; first | exact NeverOk.goPanic _ | (refine NeverOk.bind fun _ => ?_; exact NeverOk.goPanic _))
theorem NeverOk.boundsPanic {α : Type} {P : Program} (k : IntKind) (x y : Int) (c : BoundsCode) : NeverOk P (boundsPanic k x y c : Sem α) := by
  unfold Go.boundsPanic
  dsimp only
  split <;> exact NeverOk.bind fun _ => NeverOk.runtimePanic _
theorem LocalOk.boundsPanic {α : Type} {P : Program} (k : IntKind) (x y : Int) (c : BoundsCode) : LocalOk P (boundsPanic k x y c : Sem α) := (NeverOk.boundsPanic k x y c).local
theorem LocalOk.runtimePanic {α : Type} {P : Program} (e : RuntimeError) : LocalOk P (runtimePanic e : Sem α) := (NeverOk.runtimePanic e).local
theorem LocalOk.typeInfo {P : Program} (t : TypeId) : LocalOk P (typeInfo t) := by
  unfold Go.typeInfo; refine LocalOk.program.bind fun p => ?_; split
  · exact LocalOk.pure _
  · exact LocalOk.stuck _
theorem LocalOk.underlying {P : Program} (t : TypeId) : LocalOk P (underlying t) := by
  unfold Go.underlying; refine LocalOk.program.bind fun p => ?_; split
  · exact LocalOk.pure _
  · exact LocalOk.stuck _
theorem LocalOk.sizeOf {P : Program} (t : TypeId) : LocalOk P (sizeOf t) := by
  unfold Go.sizeOf; exact (LocalOk.typeInfo t).bind fun _ => LocalOk.pure _
theorem LocalOk.isAgg {P : Program} (t : TypeId) : LocalOk P (isAgg t) := by
  unfold Go.isAgg; refine (LocalOk.underlying t).bind fun d => ?_; split <;> exact LocalOk.pure _
theorem LocalOk.part {P : Program} (t : TypeId) (cs : Array Value) (o : Nat) : LocalOk P (part t cs o) := by
  unfold Go.part; refine (LocalOk.isAgg t).bind fun b => ?_; split
  · exact (LocalOk.sizeOf t).bind fun _ => LocalOk.pure _
  · split
    · exact LocalOk.pure _
    · exact LocalOk.stuck _
theorem LocalOk.sureAddr {P : Program} (v : Value) : LocalOk P (Instr.sureAddr v) := by
  unfold Instr.sureAddr; split
  · exact LocalOk.pure _
  · exact LocalOk.stuck _
theorem LocalOk.asIntOf {P : Program} (v : Value) : LocalOk P (asIntOf v) := by
  unfold Go.asIntOf; split
  · exact LocalOk.pure _
  · exact LocalOk.unsupported _
  · exact LocalOk.stuck _
theorem LocalOk.asBool {P : Program} (v : Value) : LocalOk P (asBool v) := by
  unfold Go.asBool; split
  · exact LocalOk.pure _
  · exact LocalOk.stuck _
theorem LocalOk.asAgg {P : Program} (v : Value) : LocalOk P (asAgg v) := by
  unfold Go.asAgg; split
  · exact LocalOk.pure _
  · exact LocalOk.stuck _
theorem LocalOk.asAddr {P : Program} (v : Value) : LocalOk P (asAddr v) := by
  unfold Go.asAddr; split
  · exact LocalOk.pure _
  · exact LocalOk.runtimePanic _
  · exact LocalOk.stuck _
theorem LocalOk.indexAt {P : Program} (t : TypeId) (x i : Value) : LocalOk P (Instr.indexAt t x i) := by
  unfold Instr.indexAt
  dsimp only
  repeat' (first | exact LocalOk.pure _ | exact LocalOk.stuck _ | exact LocalOk.unsupported _ | exact LocalOk.boundsPanic _ _ _ _ | exact LocalOk.sureAddr _ | exact LocalOk.asIntOf _ | exact LocalOk.underlying _ | exact LocalOk.sizeOf _ | split | refine LocalOk.bind ?_ (fun _ => ?_))
theorem LocalOk.index {P : Program} (t : TypeId) (x i : Value) : LocalOk P (Instr.index t x i) := by
  unfold Instr.index
  refine (LocalOk.asIntOf _).bind fun ki => ?_
  refine (LocalOk.underlying _).bind fun d => ?_
  split
  · split
    · exact (LocalOk.sizeOf _).bind fun _ => LocalOk.part _ _ _
    · exact LocalOk.boundsPanic _ _ _ _
  · split
    · exact LocalOk.pure _
    · exact LocalOk.boundsPanic _ _ _ _
  · exact LocalOk.stuck _
theorem LocalOk.sliceBound {P : Program} (x : Value) (y : Nat) (c : BoundsCode) : LocalOk P (Instr.sliceBound x y c) := by
  unfold Instr.sliceBound
  dsimp only
  repeat' (first | exact LocalOk.pure _ | exact LocalOk.stuck _ | exact LocalOk.boundsPanic _ _ _ _ | exact LocalOk.asIntOf _ | split | refine LocalOk.bind ?_ (fun _ => ?_))
theorem LocalOk.sliceBounds {P : Program} (b : Bool) (n c : Nat) (lo hi mx : Option Value) : LocalOk P (Instr.sliceBounds b n c lo hi mx) := by
  unfold Instr.sliceBounds
  dsimp only
  repeat' (first | exact LocalOk.pure _ | exact LocalOk.stuck _ | exact LocalOk.sliceBound _ _ _ | split | refine LocalOk.bind ?_ (fun _ => ?_))
theorem LocalOk.slice {P : Program} (t : TypeId) (x : Value) (lo hi mx : Option Value) : LocalOk P (Instr.slice t x lo hi mx) := by
  unfold Instr.slice
  dsimp only
  repeat' (first | exact LocalOk.pure _ | exact LocalOk.stuck _ | exact LocalOk.sliceBounds _ _ _ _ _ _ | exact LocalOk.underlying _ | exact LocalOk.sizeOf _ | exact LocalOk.asAddr _ | split | refine LocalOk.bind ?_ (fun _ => ?_))
theorem LocalOk.sliceAt {P : Program} (t : TypeId) (x : Value) (lo hi mx : Option Value) : LocalOk P (Instr.sliceAt t x lo hi mx) := by
  unfold Instr.sliceAt
  dsimp only
  repeat' (first | exact LocalOk.pure _ | exact LocalOk.slice _ _ _ _ _ | exact LocalOk.sliceBounds _ _ _ _ _ _ | exact LocalOk.underlying _ | exact LocalOk.sizeOf _ | exact LocalOk.sureAddr _ | split | refine LocalOk.bind ?_ (fun _ => ?_))
theorem LocalOk.field {P : Program} (t : TypeId) (x : Value) (f : Nat) : LocalOk P (Instr.field t x f) := by
  unfold Instr.field
  repeat' (first | exact LocalOk.pure _ | exact LocalOk.stuck _ | exact LocalOk.underlying _ | exact LocalOk.asAgg _ | exact LocalOk.part _ _ _ | split | refine LocalOk.bind ?_ (fun _ => ?_))
theorem LocalOk.extract {P : Program} (x : Value) (f : Nat) : LocalOk P (Instr.extract x f) := by
  unfold Instr.extract
  repeat' (first | exact LocalOk.pure _ | exact LocalOk.stuck _ | split)
theorem LocalOk.makeInterface {P : Program} (t : TypeId) (x : Value) : LocalOk P (Instr.makeInterface t x) := by
  unfold Instr.makeInterface
  repeat' (first | exact LocalOk.pure _ | exact LocalOk.stuck _ | exact LocalOk.underlying _ | split | refine LocalOk.bind ?_ (fun _ => ?_))
theorem LocalOk.unary {P : Program} (op : UnOp) (x : Value) : LocalOk P (Op.unary op x) := by
  unfold Op.unary
  split <;> first | exact LocalOk.pure _ | exact LocalOk.unsupported _ | exact LocalOk.stuck _ | exact LocalOk.pure _
/-- A field's address, where the field has cells. -/
theorem LocalOk.fieldAt {P : Program} (s : TypeId) (x : Value) (f : Nat) (h : (match P.underlying s with | some (.struct fs) => (match fs[f]? with | some fd => ((P.info? fd.type).map (·.size)) != some 0 | none => false) | _ => false) = true) : LocalOk P (Instr.fieldAt s x f) := by
  unfold Instr.fieldAt
  intro w v w1 hr
  split at h
  · rename_i fs hu
    split at h
    · rename_i fd hf
      simp only [Sem.run_bind, run_underlying hu, Result.andThen_ok, hf] at hr ⊢
      have L : LocalOk P ((do let a ← Instr.sureAddr x; Pure.pure (Value.pointer (some (← fieldPlace a fd)))) : Sem Value) := by
        refine (LocalOk.sureAddr x).bind fun a => LocalOk.bind ?_ fun _ => LocalOk.pure _
        unfold fieldPlace
        intro w v w1 hr
        cases hi : P.info? fd.type with
        | none => simp [Go.sizeOf, Go.typeInfo, hi] at hr
        | some i =>
          simp [hi] at h
          simp [Go.sizeOf, Go.typeInfo, hi, h] at hr ⊢
          exact ⟨hr.2.symm, hr.1⟩
      have := L w v w1 (by simpa only [Sem.run_bind] using hr)
      simpa only [Sem.run_bind] using this
    · cases h
  · cases h
theorem LocalOk.shift {P : Program} (op : BinOp) (k : IntKind) (x : Int) (yk : IntKind) (y : Int) : LocalOk P (Op.shift op k x yk y) := by
  unfold Op.shift
  repeat' (first | exact LocalOk.pure _ | exact LocalOk.stuck _ | exact LocalOk.runtimePanic _ | split)
theorem LocalOk.intDiv {P : Program} (op : BinOp) (k : IntKind) (x y : Int) : LocalOk P (Op.intDiv op k x y) := by
  unfold Op.intDiv
  repeat' (first | exact LocalOk.pure _ | exact LocalOk.stuck _ | exact LocalOk.runtimePanic _ | split)
theorem LocalOk.intArith {P : Program} (op : BinOp) (k : IntKind) (x y : Int) : LocalOk P (Op.intArith op k x y) := by
  unfold Op.intArith
  repeat' (first | exact LocalOk.pure _ | exact LocalOk.stuck _ | split)
theorem LocalOk.intCmp {P : Program} (op : BinOp) (x y : Int) : LocalOk P (Op.intCmp op x y) := by
  unfold Op.intCmp
  repeat' (first | exact LocalOk.pure _ | exact LocalOk.stuck _ | split)
theorem LocalOk.intBits {P : Program} (op : BinOp) (k : IntKind) (x y : Int) : LocalOk P (Op.intBits op k x y) := by
  unfold Op.intBits
  dsimp only
  repeat' (first | exact LocalOk.pure _ | exact LocalOk.stuck _ | split)
theorem LocalOk.stringOp {P : Program} (op : BinOp) (x y : ByteArray) : LocalOk P (Op.stringOp op x y) := by
  unfold Op.stringOp
  dsimp only
  repeat' (first | exact LocalOk.pure _ | exact LocalOk.stuck _ | exact LocalOk.unsupported _ | split)
/-- Two numbers, or two strings. -/
def plainPair : Value → Value → Bool
  | .int _ _, .int _ _ => true
  | .string _, .string _ => true
  | _, _ => false
theorem LocalOk.binOp {P : Program} (op : BinOp) (t : TypeId) (x y : Value) (h : plainPair x y = true) : LocalOk P (binOp op t x y) := by
  cases x <;> cases y <;> simp [plainPair] at h
  · cases op <;> simp only [Go.binOp] <;>
      repeat' (first | exact LocalOk.shift _ _ _ _ _ | exact LocalOk.intArith _ _ _ _ | exact LocalOk.intDiv _ _ _ _ | exact LocalOk.intBits _ _ _ _ | exact LocalOk.intCmp _ _ _ | exact LocalOk.stuck _ | split)
  · cases op <;> simp only [Go.binOp] <;> exact LocalOk.stringOp _ _ _
theorem LocalOk.eqGuard {P : Program} (op : BinOp) (t : TypeId) (x y : Operand) (a b : Value) (h : plainPair a b = true) : LocalOk P (eqGuard op t x y a b) := by
  cases a <;> cases b <;> simp [plainPair] at h <;> (unfold Go.eqGuard; dsimp only; repeat' (first | exact LocalOk.pure _ | split | refine LocalOk.bind ?_ (fun _ => ?_)))
/-- A number turned to a number. -/
def isIntV : Value → Bool
  | .int _ _ => true
  | _ => false
theorem LocalOk.convert {P : Program} (src dst : TypeId) (x : Value) (h : isIntV x = true) (hd : (match P.underlying dst with | some (.int _) => true | _ => false) = true) : LocalOk P (convert src dst x) := by
  cases x <;> simp [isIntV] at h
  unfold Go.convert
  split at hd
  · rename_i k hk
    intro w v w1 hr
    cases hs : P.underlying src with
    | none => simp [Go.underlying, hs] at hr
    | some ds =>
      simp only [Sem.run_bind, run_underlying hs, run_underlying hk, Result.andThen_ok] at hr ⊢
      have : LocalOk P (Conv.intToInt k ‹Int›) := LocalOk.pure _
      cases ds <;> exact this _ _ _ hr
  · cases hd
/-- len of a string, a slice, an array. -/
def lenAble (P : Program) (ats : Array TypeId) : Bool :=
  match ats[0]? with
  | some t => (match P.underlying t with | some .string => true | some (.slice _) => true | some (.array _ _) => true | _ => false)
  | none => false
theorem LocalOk.len {P : Program} (ats : Array TypeId) (ty : TypeId) (args : Array Value) (h : lenAble P ats = true) : LocalOk P (Builtin.len_ ats ty args) := by
  intro w v w1 hr
  unfold lenAble at h
  cases ht : ats[0]? with
  | none => simp [ht] at h
  | some t =>
    cases hx : args[0]? with
    | none => simp only [Builtin.len_, ht, hx] at hr; cases hr
    | some x =>
      cases hs : P.underlying t with
      | none => simp [ht, hs] at h
      | some d =>
        simp only [Builtin.len_, ht, hx, Sem.run_bind, run_underlying hs, Result.andThen_ok] at hr ⊢
        cases d <;> simp [ht, hs] at h <;> cases x <;> first | (cases hr; done) | (cases hr; exact ⟨rfl, fun _ => rfl⟩)
/-! ### Arrays of numbers, compared -/
theorem LocalOk.of_same {α : Type} {P : Program} {s t : Sem α} (e : ∀ w, s.run P w = t.run P w) (h : LocalOk P t) : LocalOk P s := fun w v w1 hr => by
  rw [e] at hr
  obtain ⟨h1, h2⟩ := h w v w1 hr
  exact ⟨h1, fun w' => by rw [e]; exact h2 w'⟩
theorem LocalOk.bindOf {α β : Type} {P : Program} {s : Sem α} {f : α → Sem β} (R : α → Prop) (h : LocalOk P s) (hR : ∀ w v w1, s.run P w = .ok v w1 → R v) (k : ∀ v, R v → LocalOk P (f v)) : LocalOk P (s >>= f) := by
  intro w u w1 hr
  rw [Sem.run_bind] at hr
  cases hs : s.run P w with
  | ok v w2 =>
    rw [hs] at hr
    have hv := hR _ _ _ hs
    obtain ⟨rfl, h2⟩ := h _ _ _ hs
    obtain ⟨rfl, h3⟩ := k v hv _ _ _ hr
    exact ⟨rfl, fun w' => by rw [Sem.run_bind, h2 w']; exact h3 w'⟩
  | halt x w2 => rw [hs] at hr; cases hr
def numsV : Value → Bool
  | .agg cs => cs.all isIntV
  | _ => false
def boolV : Value → Bool
  | .bool _ => true
  | _ => false
/-- An array of whole numbers. -/
def intRow (P : Program) (t : TypeId) : Bool :=
  match P.underlying t with
  | some (.array _ e) => (match P.underlying e with | some (.int _) => true | _ => false) && !(P.eqGuardType P.depth t)
  | _ => false
theorem part_int {P : Program} {e : TypeId} {k : IntKind} (he : P.underlying e = some (.int k)) {cs : Array Value} (h : cs.all isIntV = true) (o : Nat) : ∀ w v w1, (part e cs o).run P w = .ok v w1 → isIntV v = true := by
  intro w v w1 hr
  simp only [part, isAgg, Sem.run_bind, run_underlying he, Result.andThen_ok, Sem.run_pure] at hr
  simp only [Bool.false_eq_true, if_false] at hr
  cases hc : cs[o]? with
  | none => simp [hc] at hr
  | some x =>
    simp only [hc, Sem.run_pure] at hr
    rw [Array.all_eq_true_iff_forall_mem] at h
    have hx := h x (Array.mem_of_getElem? hc)
    cases hr
    exact hx
theorem LocalOk.equalInt {P : Program} {e : TypeId} {k : IntKind} (he : P.underlying e = some (.int k)) (d : Nat) (x y : Value) (hx : isIntV x = true) (hy : isIntV y = true) : LocalOk P (Op.equalIn (d + 1) e x y) := by
  cases x <;> simp [isIntV] at hx
  cases y <;> simp [isIntV] at hy
  unfold Op.equalIn
  refine LocalOk.bindOf (fun d => d = .int k) (LocalOk.underlying e) (fun w v w1 hr => by rw [run_underlying he] at hr; cases hr; rfl) fun v hv => ?_
  subst hv
  dsimp only
  split <;> first | exact LocalOk.pure _ | exact LocalOk.stuck _
theorem LocalOk.eqItems {P : Program} {e : TypeId} {k : IntKind} (he : P.underlying e = some (.int k)) (d c : Nat) (xs ys : Array Value) (hx : xs.all isIntV = true) (hy : ys.all isIntV = true) : ∀ is : List Nat, LocalOk P (Op.eqItems (d + 1) e c xs ys is)
  | [] => LocalOk.pure _
  | i :: is => by
    unfold Op.eqItems
    refine LocalOk.bindOf _ (LocalOk.part _ _ _) (part_int he hx _) fun a ha => LocalOk.bindOf _ (LocalOk.part _ _ _) (part_int he hy _) fun b hb => (LocalOk.equalInt he d a b ha hb).bind fun r => ?_
    split
    · exact LocalOk.pure _
    · exact LocalOk.eqItems he d c xs ys hx hy is
theorem LocalOk.equalRow {P : Program} {t : TypeId} (h : intRow P t = true) (xs ys : Array Value) (hx : xs.all isIntV = true) (hy : ys.all isIntV = true) : LocalOk P (Op.equal t (.agg xs) (.agg ys)) := by
  unfold intRow at h
  split at h
  · rename_i n e hu
    simp only [Bool.and_eq_true] at h
    obtain ⟨h1, _⟩ := h
    split at h1
    · rename_i k he
      obtain ⟨i, hi⟩ := info_of_underlying he
      exact LocalOk.of_same (fun w => run_equalIn_array w 9999 xs ys hu hi) (LocalOk.eqItems he 9998 _ xs ys hx hy _)
    · cases h1
  · cases h
theorem LocalOk.binRow {P : Program} (op : BinOp) {t : TypeId} (h : intRow P t = true) (x y : Value) (hx : numsV x = true) (hy : numsV y = true) : LocalOk P (Go.binOp op t x y) := by
  cases x <;> simp only [numsV, Bool.false_eq_true] at hx
  cases y <;> simp only [numsV, Bool.false_eq_true] at hy
  cases op <;> simp only [Go.binOp] <;> first | exact LocalOk.stuck _ | exact (LocalOk.equalRow h _ _ hx hy).bind fun _ => LocalOk.pure _
theorem LocalOk.guardRow {P : Program} (op : BinOp) {t : TypeId} (h : intRow P t = true) (x y : Operand) (a b : Value) (ha : numsV a = true) (hb : numsV b = true) : LocalOk P (Go.eqGuard op t x y a b) := by
  have hg : P.eqGuardType P.depth t = false := by
    unfold intRow at h
    split at h
    · simp only [Bool.and_eq_true, Bool.not_eq_true'] at h; exact h.2
    · cases h
  cases a <;> simp only [numsV, Bool.false_eq_true] at ha
  cases b <;> simp only [numsV, Bool.false_eq_true] at hb
  unfold Go.eqGuard
  dsimp only
  split <;> simp only [Bool.not_true, Bool.not_false, Bool.false_eq_true, if_true, if_false]
  all_goals first
    | exact LocalOk.pure _
    | (refine LocalOk.bindOf (fun p => p = P) LocalOk.program (fun w v w1 hr => by cases hr; rfl) fun p hp => ?_
       subst hp
       refine LocalOk.bindOf (fun q => q = p) LocalOk.program (fun w v w1 hr => by cases hr; rfl) fun q hq => ?_
       subst hq
       rw [hg]
       exact LocalOk.pure _)
theorem LocalOk.binBool {P : Program} (op : BinOp) (t : TypeId) (x y : Value) (hx : boolV x = true) (hy : boolV y = true) : LocalOk P (Go.binOp op t x y) := by
  cases x <;> simp only [boolV, Bool.false_eq_true] at hx
  cases y <;> simp only [boolV, Bool.false_eq_true] at hy
  have key : ∀ a b, LocalOk P (Op.equal t (.bool a) (.bool b)) := fun a b => by
    unfold Op.equal Op.maxDepth Op.equalIn
    refine (LocalOk.underlying t).bind fun d => ?_
    dsimp only
    split <;> first | exact LocalOk.pure _ | exact LocalOk.stuck _ | simp_all
  cases op <;> simp only [Go.binOp] <;> first | exact LocalOk.stuck _ | exact (key _ _).bind fun _ => LocalOk.pure _
theorem LocalOk.guardBool {P : Program} (op : BinOp) (t : TypeId) (x y : Operand) (a b : Value) (ha : boolV a = true) : LocalOk P (Go.eqGuard op t x y a b) := by
  cases a <;> simp only [boolV, Bool.false_eq_true] at ha
  rw [eqGuard_at_bool]; exact LocalOk.pure _
/-! ### The operations -/
/-- What the check must know of slots: each holds a number, a string, or an address. -/
inductive Shape where
  | int | str | ptr | bool | nums
deriving DecidableEq
def Shape.ok : Shape → Value → Bool
  | .int, .int _ _ => true
  | .str, .string _ => true
  | .ptr, .pointer _ => true
  | .bool, v => boolV v
  | .nums, v => numsV v
  | _, _ => false
/-- Needs: slots, and what each holds behind the region (a slot that no later operation writes). -/
abbrev Needs := List (Tmp × Shape)
def needOk (need : Needs) (a : Act) : Bool := need.all fun p => p.2.ok (a.tmps.getD p.1 undef)
def opndIs (need : Needs) (s : Shape) : Operand → Bool
  | .tmp t => need.contains (t, s)
  | .const v => s.ok v
  | _ => false
/-- An operation that hangs on the frame alone. -/
def pureOp (P : Program) (need : Needs) (o : Oper) : Bool :=
  match o.op with
  | .move _ | .assign _ | .pick .. | .indexAddr .. | .index .. | .slice .. | .field .. | .extract .. | .makeInterface .. | .unOp .. => true
  | .nilCheck x => opndIs need .ptr x
  | .binOp _ t x y _ => ((opndIs need .int x && opndIs need .int y) || (opndIs need .str x && opndIs need .str y)) || ((opndIs need .bool x && opndIs need .bool y) || (opndIs need .nums x && opndIs need .nums y && intRow P t))
  | .convert _ dst x => opndIs need .int x && (match P.underlying dst with | some (.int _) => true | _ => false)
  | .fieldAddr s _ f => match P.underlying s with | some (.struct fs) => (match fs[f]? with | some fd => ((P.info? fd.type).map (·.size)) != some 0 | none => false) | _ => false
  | .call c => (match c.callee with | .builtin .len => lenAble P c.argTypes | _ => false)
  | _ => false
theorem opndIs_ok {need : Needs} {s : Shape} {x : Operand} {a : Act} (h : opndIs need s x = true) (ha : needOk need a = true) : s.ok (a.eval x) = true := by
  cases x with
  | tmp t =>
    simp only [opndIs, List.contains_iff_mem] at h
    have := List.all_eq_true.1 ha _ h
    simpa [Act.eval] using this
  | const v => exact h
  | global g => cases h
  | func f => cases h
theorem Shape.ok_int {v : Value} (h : Shape.ok .int v = true) : isIntV v = true := by cases v <;> simp [Shape.ok] at h; rfl
theorem plainPair_int {x y : Value} (hx : Shape.ok .int x = true) (hy : Shape.ok .int y = true) : plainPair x y = true := by
  cases x <;> simp [Shape.ok] at hx
  cases y <;> simp [Shape.ok] at hy
  rfl
theorem plainPair_str {x y : Value} (hx : Shape.ok .str x = true) (hy : Shape.ok .str y = true) : plainPair x y = true := by
  cases x <;> simp [Shape.ok] at hx
  cases y <;> simp [Shape.ok] at hy
  rfl
/-- Such an operation comes to a value, or to none, by the frame alone. -/
theorem pureOp_local {P : Program} {need : Needs} {o : Oper} {a : Act} (h : pureOp P need o = true) (ha : needOk need a = true) : ∃ s : Sem Value, execOp a.eval o = (do Pure.pure (Next.value (← s))) ∧ LocalOk P s := by
  obtain ⟨dst, op, type, pos, after, guard⟩ := o
  cases op <;> simp only [pureOp] at h <;> try (exact absurd h (by decide))
  case move x => exact ⟨Pure.pure (a.eval x), rfl, LocalOk.pure _⟩
  case assign x => exact ⟨Pure.pure (a.eval x), rfl, LocalOk.pure _⟩
  case nilCheck x =>
    have hx := opndIs_ok h ha
    refine ⟨(match a.eval x with | .pointer none | .nilIface | .nilFunc => Go.runtimePanic .nilDeref | x => Pure.pure x), ?_, ?_⟩
    · simp only [execOp]
      cases hv : a.eval x <;> rw [hv] at hx <;> first | (cases hx; done) | skip
      rename_i p
      cases p <;> rfl
    · split <;> first | exact LocalOk.runtimePanic _ | exact LocalOk.pure _
  case binOp op t x y yt =>
    refine ⟨_, rfl, ?_⟩
    rcases (Bool.or_eq_true _ _).mp h with h | h
    · have hp : plainPair (a.eval x) (a.eval y) = true := by
        rcases (Bool.or_eq_true _ _).mp h with h | h
        · have := (Bool.and_eq_true _ _).mp h; exact plainPair_int (opndIs_ok this.1 ha) (opndIs_ok this.2 ha)
        · have := (Bool.and_eq_true _ _).mp h; exact plainPair_str (opndIs_ok this.1 ha) (opndIs_ok this.2 ha)
      exact (LocalOk.eqGuard _ _ _ _ _ _ hp).bind fun _ => LocalOk.binOp _ _ _ _ hp
    · rcases (Bool.or_eq_true _ _).mp h with h | h
      · have := (Bool.and_eq_true _ _).mp h
        have hx : boolV (a.eval x) = true := opndIs_ok this.1 ha
        have hy : boolV (a.eval y) = true := opndIs_ok this.2 ha
        exact (LocalOk.guardBool _ _ _ _ _ _ hx).bind fun _ => LocalOk.binBool _ _ _ _ hx hy
      · have h0 := (Bool.and_eq_true _ _).mp h
        have := (Bool.and_eq_true _ _).mp h0.1
        have hx : numsV (a.eval x) = true := opndIs_ok this.1 ha
        have hy : numsV (a.eval y) = true := opndIs_ok this.2 ha
        exact (LocalOk.guardRow _ h0.2 _ _ _ _ hx hy).bind fun _ => LocalOk.binRow _ h0.2 _ _ hx hy
  case unOp op t x => exact ⟨_, rfl, LocalOk.unary _ _⟩
  case convert src dst x =>
    have := (Bool.and_eq_true _ _).mp h
    exact ⟨_, rfl, LocalOk.convert _ _ _ (Shape.ok_int (opndIs_ok this.1 ha)) this.2⟩
  case makeInterface t x => exact ⟨_, rfl, LocalOk.makeInterface _ _⟩
  case slice t x lo hi mx => exact ⟨_, rfl, LocalOk.sliceAt _ _ _ _ _⟩
  case fieldAddr s x f => exact ⟨_, rfl, LocalOk.fieldAt _ _ _ h⟩
  case pick c x y =>
    refine ⟨(do let b ← asBool (a.eval c); Pure.pure (if b then a.eval x else a.eval y)), ?_, ?_⟩
    · simp only [execOp]; cases a.eval c <;> rfl
    · refine LocalOk.bind ?_ fun _ => LocalOk.pure _
      unfold asBool; split <;> first | exact LocalOk.pure _ | exact LocalOk.stuck _
  case field s x f => exact ⟨_, rfl, LocalOk.field _ _ _⟩
  case indexAddr t x i => exact ⟨_, rfl, LocalOk.indexAt _ _ _⟩
  case index t x i => exact ⟨_, rfl, LocalOk.index _ _ _⟩
  case extract x i => exact ⟨_, rfl, LocalOk.extract _ _⟩
  case call c =>
    obtain ⟨callee, args, ats⟩ := c
    cases callee <;> simp only at h <;> try (cases h; done)
    rename_i b
    cases b <;> simp only at h <;> try (cases h; done)
    exact ⟨_, rfl, LocalOk.len _ _ _ h⟩
/-! ### What only reads -/
/-- Where it comes to a value, it leaves the world. -/
def ReadOk {α : Type} (P : Program) (s : Sem α) : Prop := ∀ w v w1, s.run P w = .ok v w1 → w1 = w
theorem LocalOk.read {α : Type} {P : Program} {s : Sem α} (h : LocalOk P s) : ReadOk P s := fun w v w1 hr => (h w v w1 hr).1
theorem ReadOk.bind {α β : Type} {P : Program} {s : Sem α} {f : α → Sem β} (h : ReadOk P s) (k : ∀ v, ReadOk P (f v)) : ReadOk P (s >>= f) := by
  intro w u w1 hr
  rw [Sem.run_bind] at hr
  cases hs : s.run P w with
  | ok v w2 =>
    rw [hs] at hr
    obtain rfl := h _ _ _ hs
    exact k v _ _ _ hr
  | halt x w2 => rw [hs] at hr; cases hr
theorem ReadOk.load {P : Program} (a : Addr) : ReadOk P (load a) := by
  intro w v w1 hr
  unfold Go.load at hr
  simp only [Sem.run] at hr
  split at hr
  · cases hr; rfl
  · split at hr
    · cases hr; rfl
    · cases hr
theorem ReadOk.loadCellsFrom {P : Program} (a : Addr) : ∀ (n i : Nat) (acc : Array Value), ReadOk P (loadCellsFrom a i n acc)
  | 0, _, _ => (LocalOk.pure _).read
  | n + 1, i, acc => by
    unfold Go.loadCellsFrom
    exact (ReadOk.load _).bind fun v => ReadOk.loadCellsFrom a n (i + 1) _
theorem ReadOk.loadVar {P : Program} (t : TypeId) (a : Addr) : ReadOk P (loadVar t a) := by
  unfold Go.loadVar
  refine (LocalOk.isAgg t).read.bind fun b => ?_
  split
  · exact (LocalOk.sizeOf t).read.bind fun n => (ReadOk.loadCellsFrom a n 0 _).bind fun _ => (LocalOk.pure _).read
  · exact ReadOk.load a
theorem ReadOk.loadAt {P : Program} (t : TypeId) (v : Value) : ReadOk P (Instr.loadAt t v) := by
  unfold Instr.loadAt
  exact (LocalOk.sureAddr v).read.bind fun a => ReadOk.loadVar t a
theorem ReadOk.forIn_list {P : Program} {β : Type} (f : Value → β → Sem (ForInStep β)) (hf : ∀ v b, ReadOk P (f v b)) : ∀ (l : List Value) (b : β), ReadOk P (forIn l b f)
  | [], b => by simp only [List.forIn_nil]; exact (LocalOk.pure _).read
  | v :: l, b => by
    simp only [List.forIn_cons]
    refine (hf v b).bind fun s => ?_
    cases s with
    | done b => exact (LocalOk.pure _).read
    | yield b => exact ReadOk.forIn_list f hf l b
theorem ReadOk.bytesToString {P : Program} (x : Value) : ReadOk P (Conv.bytesToString x) := by
  unfold Conv.bytesToString
  split
  · exact (LocalOk.pure _).read
  · refine (ReadOk.loadCellsFrom _ _ 0 _).bind fun cs => ?_
    dsimp only
    rw [← Array.forIn_toList]
    refine ReadOk.bind (ReadOk.forIn_list _ (fun v b => ?_) _ _) fun _ => (LocalOk.pure _).read
    split <;> first | exact (LocalOk.stuck _).read | exact (LocalOk.pure _).read | exact ((LocalOk.pure _).read.bind fun _ => (LocalOk.pure _).read)
  · exact (LocalOk.stuck _).read
/-- A row of bytes turned to a string. -/
def bytesConv (P : Program) (src dst : TypeId) : Bool :=
  match P.underlying src, P.underlying dst with
  | some (.slice e), some .string => (match P.underlying e with | some (.int .u8) => true | _ => false)
  | _, _ => false
theorem ReadOk.convert {P : Program} (src dst : TypeId) (x : Value) (h : bytesConv P src dst = true) : ReadOk P (convert src dst x) := by
  unfold bytesConv at h
  split at h
  · rename_i e hs hd
    split at h
    · rename_i he
      intro w v w1 hr
      unfold Go.convert at hr
      simp only [Sem.run_bind, run_underlying hs, run_underlying hd, Result.andThen_ok] at hr
      cases x <;> first | (simp only [Sem.run_bind, run_underlying he, Result.andThen_ok] at hr; exact ReadOk.bytesToString _ _ _ _ hr) | (cases hr; rfl)
    · cases h
  · cases h
def readOp (P : Program) (need : Needs) (o : Oper) : Bool :=
  match o.op with
  | .load .. => true
  | .convert src dst _ => pureOp P need o || bytesConv P src dst
  | _ => pureOp P need o
theorem readOp_read {P : Program} {need : Needs} {o : Oper} {a : Act} (h : readOp P need o = true) (ha : needOk need a = true) : ∃ s : Sem Value, execOp a.eval o = (do Pure.pure (Next.value (← s))) ∧ ReadOk P s := by
  have go : pureOp P need o = true → ∃ s : Sem Value, execOp a.eval o = (do Pure.pure (Next.value (← s))) ∧ ReadOk P s := fun hp => by
    obtain ⟨s, h1, h2⟩ := pureOp_local hp ha; exact ⟨s, h1, h2.read⟩
  obtain ⟨dst, op, type, pos, after, guard⟩ := o
  cases op
  case load t x => exact ⟨_, rfl, ReadOk.loadAt _ _⟩
  case convert src d x =>
    rcases (Bool.or_eq_true _ _).mp h with h | h
    · exact go h
    · exact ⟨_, rfl, ReadOk.convert _ _ _ h⟩
  all_goals exact go h
/-! ### The region -/
/-- Only the region's regular end, and the needs met there. -/
def OnlyN (need : Needs) (Q : Exit → Act → World → Prop) : Exit → Act → World → Prop
  | .normal, a, w => needOk need a = true ∧ Q .normal a w
  | _, _, _ => False
theorem OnlyN.intro {need : Needs} {Q : Exit → Act → World → Prop} {a : Act} {w : World} (h : needOk need a = true) (hq : Q .normal a w) : OnlyN need Q .normal a w := ⟨h, hq⟩
theorem OnlyN.letsOut {need : Needs} {Q : Exit → Act → World → Prop} (h : LetsOut (OnlyN need Q)) : False := by
  obtain ⟨a, w, h⟩ := h; exact h
section
variable {P : Program} {ops : Array Oper} {Q : Exit → Act → World → Prop} {md : Region.Mode}
/-- Whatever comes up; as long as 'c' has not, the world is W. -/
def wpAnyW (P : Program) (md : Region.Mode) (ops : Array Oper) (Q : Exit → Act → World → Prop) (c : Nat) (W : World) : Nat → Array Bool → Act → World → Prop
  | 0, listed, a, w => Region.ready md ops listed = [] ∧ Q .normal a w
  | fuel + 1, listed, a, w =>
    (Region.ready md ops listed = [] → Q .normal a w) ∧
    ∀ j ∈ Region.ready md ops listed, wpOp P ops Q j (fun a' w' => (j ≠ c → w' = W ∧ wpAnyW P md ops Q c W fuel (listed.setIfInBounds j true) a' w') ∧ (j = c → wpAny P md ops Q fuel (listed.setIfInBounds j true) a' w')) a w
theorem wpAny_of_W {c : Nat} {W : World} : ∀ (fuel : Nat) (listed : Array Bool) (a : Act) (w : World), wpAnyW P md ops Q c W fuel listed a w → wpAny P md ops Q fuel listed a w
  | 0, _, _, _, h => h
  | fuel + 1, _, _, _, h => ⟨h.1, fun j hj => wpOp_mono (fun a' w' h' => by
      by_cases e : j = c
      · exact h'.2 e
      · exact wpAny_of_W fuel _ a' w' (h'.1 e).2) (h.2 j hj)⟩
theorem not_waits {i j : Nat} {listed : Array Bool} {oj : Oper} (hr : i ∈ Region.ready md ops listed) (_hoj : ops[j]? = some oj)
    (hall : ∀ e ∈ oj.after, Region.binds md e = true → listed.getD e.on false = true) : ∀ e ∈ oj.after, Region.binds md e = true → e.on ≠ i := fun e he hb heq => by
  have h1 := hall e he hb
  have h0 := (mem_ready.1 hr).1
  rw [heq] at h1
  rcases Nat.lt_or_ge i listed.size with h' | h'
  · simp [h'] at h0 h1; rw [h0] at h1; cases h1
  · simp [Array.getElem?_eq_none h'] at h1
/-- What hangs on the frame alone may be taken first. -/
theorem W_pure {c : Nat} {W : World} {i : Nat} {oi : Oper} {v : Value} (hi : ops[i]? = some oi) (hic : i ≠ c) (hsel : ∀ (j : Nat) (o : Oper) cs b, ops[j]? = some o → o.op ≠ .select cs b)
    (hQ : ∀ c a w, Q (.panic c) (a.put oi.dst v) w → Q (.panic c) a w) :
    ∀ (fuel : Nat) (listed : Array Bool) (a : Act),
      (∀ j oj, ops[j]? = some oj → j ≠ i → listed.getD j true = false → (∀ e ∈ oj.after, Region.binds md e = true → e.on ≠ i) → oi.apart ops oj = true) →
      i ∈ Region.ready md ops listed → Yields P ops oi v a →
      wpAnyW P md ops Q c W fuel (listed.setIfInBounds i true) (a.put oi.dst v) W → wpAnyW P md ops Q c W (fuel + 1) listed a W := by
  intro fuel
  induction fuel with
  | zero =>
    intro listed a _ hr hy H
    refine ⟨fun h => (by rw [h] at hr; cases hr), fun j hj => ?_⟩
    by_cases hji : j = i
    · subst hji; exact hy.wpOp hi ⟨fun _ => ⟨rfl, H⟩, fun e => absurd e hic⟩
    · have := ready_mono hj hji
      rw [H.1] at this
      cases this
  | succ fuel ih =>
    intro listed a hfree hr hy H
    refine ⟨fun h => (by rw [h] at hr; cases hr), fun j hj => ?_⟩
    by_cases hji : j = i
    · subst hji; exact hy.wpOp hi ⟨fun _ => ⟨rfl, H⟩, fun e => absurd e hic⟩
    · have h1 := H.2 j (ready_mono hj hji)
      obtain ⟨hjun, oj, hoj, hall⟩ := mem_ready.1 hj
      have hnot := not_waits hr hoj hall
      have h2 := wpOp_put hoj (hfree j oj hoj hji hjun hnot) (fun cs b => hsel i oi cs b hi) (fun cs b => hsel j oj cs b hoj) hQ hy h1
      have hfree' : ∀ k ok, ops[k]? = some ok → k ≠ i → (listed.setIfInBounds j true).getD k true = false →
          (∀ e ∈ ok.after, Region.binds md e = true → e.on ≠ i) → oi.apart ops ok = true := fun k ok hk hki hun hno => by
        refine hfree k ok hk hki ?_ hno
        by_cases hjk : j = k
        · subst hjk; exact hjun
        · rw [getD_set_ne true hjk] at hun; exact hun
      refine wpOp_mono (fun a' w' h3 => ⟨fun hjc => ?_, fun hjc => ?_⟩) h2
      · obtain ⟨rfl, h5⟩ := h3.2.1 hjc
        refine ⟨rfl, ih (listed.setIfInBounds j true) a' hfree' (ready_mono hr (Ne.symm hji)) h3.1 ?_⟩
        rw [Array.setIfInBounds_comm _ _ hji]; exact h5
      · have h5 := h3.2.2 hjc
        refine wpAny_first hi hsel hQ fuel (listed.setIfInBounds j true) a' w' hfree' (ready_mono hr (Ne.symm hji)) h3.1 ?_
        rw [Array.setIfInBounds_comm _ _ hji]; exact h5
/-- What reads may be taken first, if the next that writes waits for it. -/
theorem W_take {c : Nat} {W : World} {i : Nat} {oi : Oper} {v : Value} (b : Nat → Bool) (hi : ops[i]? = some oi) (hic : i ≠ c) (hsel : ∀ (j : Nat) (o : Oper) cs b, ops[j]? = some o → o.op ≠ .select cs b)
    (hQ : ∀ c a w, Q (.panic c) (a.put oi.dst v) w → Q (.panic c) a w)
    (hjust : ∀ j oj, ops[j]? = some oj → b j = true → ∃ e ∈ oj.after, Region.binds md e = true ∧ (e.on = i ∨ b e.on = true))
    (hbc : ops[c]? = none ∨ b c = true) :
    ∀ (fuel : Nat) (listed : Array Bool) (a : Act),
      (∀ j oj, ops[j]? = some oj → j ≠ i → listed.getD j true = false → (∀ e ∈ oj.after, Region.binds md e = true → e.on ≠ i) → oi.apart ops oj = true) →
      i ∈ Region.ready md ops listed → (∀ j, b j = true → listed.getD j false = false) → YieldsIf P ops (· = W) oi v a →
      wpAnyW P md ops Q c W fuel (listed.setIfInBounds i true) (a.put oi.dst v) W → wpAnyW P md ops Q c W (fuel + 1) listed a W := by
  intro fuel
  induction fuel with
  | zero =>
    intro listed a _ hr _ hy H
    refine ⟨fun h => (by rw [h] at hr; cases hr), fun j hj => ?_⟩
    by_cases hji : j = i
    · subst hji; exact hy.wpOp hi rfl ⟨fun _ => ⟨rfl, H⟩, fun e => absurd e hic⟩
    · have := ready_mono hj hji
      rw [H.1] at this
      cases this
  | succ fuel ih =>
    intro listed a hfree hr hbl hy H
    refine ⟨fun h => (by rw [h] at hr; cases hr), fun j hj => ?_⟩
    by_cases hji : j = i
    · subst hji; exact hy.wpOp hi rfl ⟨fun _ => ⟨rfl, H⟩, fun e => absurd e hic⟩
    · have h1 := H.2 j (ready_mono hj hji)
      obtain ⟨hjun, oj, hoj, hall⟩ := mem_ready.1 hj
      have hnot := not_waits hr hoj hall
      have hbj : b j = false := by
        cases hb : b j with
        | false => rfl
        | true =>
          obtain ⟨e, he, hbind, hor⟩ := hjust j oj hoj hb
          have h5 := hall e he hbind
          rcases hor with h6 | h6
          · exact absurd h6 (hnot e he hbind)
          · rw [hbl _ h6] at h5; cases h5
      have hjc : j ≠ c := by
        rintro rfl
        rcases hbc with h | h
        · rw [h] at hoj; cases hoj
        · rw [h] at hbj; cases hbj
      have h2 := wpOp_putIf hoj (hfree j oj hoj hji hjun hnot) (fun cs b => hsel i oi cs b hi) (fun cs b => hsel j oj cs b hoj) hQ hy h1
      have hfree' : ∀ k ok, ops[k]? = some ok → k ≠ i → (listed.setIfInBounds j true).getD k true = false →
          (∀ e ∈ ok.after, Region.binds md e = true → e.on ≠ i) → oi.apart ops ok = true := fun k ok hk hki hun hno => by
        refine hfree k ok hk hki ?_ hno
        by_cases hjk : j = k
        · subst hjk; exact hjun
        · rw [getD_set_ne true hjk] at hun; exact hun
      have hbl' : ∀ k, b k = true → (listed.setIfInBounds j true).getD k false = false := fun k hk => by
        have hne : j ≠ k := by rintro rfl; rw [hk] at hbj; cases hbj
        rw [getD_set_ne false hne]; exact hbl k hk
      refine wpOp_mono (fun a' w' h3 => ⟨fun _ => ?_, fun e => absurd e hjc⟩) h2
      obtain ⟨rfl, h5⟩ := h3.2.1 hjc
      refine ⟨rfl, ih (listed.setIfInBounds j true) a' hfree' (ready_mono hr (Ne.symm hji)) hbl' h3.1 ?_⟩
      rw [Array.setIfInBounds_comm _ _ hji]; exact h5
end
/-! ### The check, and the theorem -/
/-- In which order the operations are walked, and which of them write. -/
abbrev Plan := List (Nat × Bool)
def opAt (ops : Array Oper) (i : Nat) : Oper := (ops[i]?).getD default
def reord (ops : Array Oper) (p : Plan) : List Oper := p.map fun x => opAt ops x.1
def nextWr (n : Nat) : Plan → Nat
  | [] => n
  | (i, true) :: _ => i
  | (_, false) :: r => nextWr n r
def tmpsIn (o : Oper) : List Tmp := o.op.operands.toList.filterMap fun | .tmp t => some t | _ => none
def needOf (need : Needs) (o : Oper) : Needs := need.filter fun p => (tmpsIn o).contains p.1
/-- Who waits for number i, through others too. -/
def blkPass (ops : Array Oper) (i : Nat) (b : Array Bool) : Array Bool :=
  (List.range ops.size).foldl (fun b j => if (match ops[j]? with | some o => o.after.any (fun e => Region.binds .any e && (e.on == i || b.getD e.on false)) | none => false) then b.setIfInBounds j true else b) b
def blkOf (ops : Array Oper) (i : Nat) : Array Bool := blkPass ops i (Array.replicate ops.size false)
def blkOk (ops : Array Oper) (listed : Array Bool) (i : Nat) (b : Array Bool) : Bool :=
  (List.range b.size).all fun j => !b.getD j false || (!listed.getD j false && (match ops[j]? with | some o => o.after.any (fun e => Region.binds .any e && (e.on == i || b.getD e.on false)) | none => true))
def stays (ops : Array Oper) (need : Needs) (o : Oper) (r : Plan) : Bool := r.all fun x => match (opAt ops x.1).dst with | some d => (needOf need o).all fun p => p.1 != d | none => true
def detOk (P : Program) (ops : Array Oper) (need : Needs) : Array Bool → Plan → Bool
  | listed, [] => (Region.ready .any ops listed).isEmpty
  | listed, (i, false) :: r =>
    (Region.ready .any ops listed).contains i && Region.free .any ops listed i && stays ops need (opAt ops i) ((i, false) :: r) && i != nextWr ops.size r &&
      (pureOp P (needOf need (opAt ops i)) (opAt ops i) ||
        (readOp P (needOf need (opAt ops i)) (opAt ops i) && (let b := blkOf ops i; blkOk ops listed i b && (nextWr ops.size r == ops.size || b.getD (nextWr ops.size r) false)))) &&
      detOk P ops need (listed.setIfInBounds i true) r
  | listed, (i, true) :: r => Region.ready .any ops listed == [i] && detOk P ops need (listed.setIfInBounds i true) r
theorem put_ne {a : Act} {dst : Option Tmp} {v : Value} {t : Tmp} (h : dst ≠ some t) : (a.put dst v).tmps.getD t undef = a.tmps.getD t undef := by
  cases dst with
  | none => rfl
  | some d =>
    have : d ≠ t := fun e => h (by rw [e])
    simp [Act.put, Array.getElem?_setIfInBounds_ne this]
/-- A walk comes to its end: the slots that it does not write are there as they were. -/
theorem reaches {P : Program} {ops : Array Oper} {need : Needs} {Q : Exit → Act → World → Prop} : ∀ (l : List Oper) (a : Act) (w : World), wpList P ops (OnlyN need Q) l a w →
    ∃ af, needOk need af = true ∧ ∀ t, (∀ o ∈ l, o.dst ≠ some t) → af.tmps.getD t undef = a.tmps.getD t undef
  | [], a, _, h => ⟨a, h.1, fun _ _ => rfl⟩
  | o :: l, a, w, h => by
    have go : ∀ (a' : Act) (w' : World), wpList P ops (OnlyN need Q) l a' w' → (∀ t, o.dst ≠ some t → a'.tmps.getD t undef = a.tmps.getD t undef) →
        ∃ af, needOk need af = true ∧ ∀ t, (∀ x ∈ o :: l, x.dst ≠ some t) → af.tmps.getD t undef = a.tmps.getD t undef := fun a' w' h' ha => by
      obtain ⟨af, h1, h2⟩ := reaches l a' w' h'
      exact ⟨af, h1, fun t ht => (h2 t (fun x hx => ht x (List.mem_cons_of_mem _ hx))).trans (ha t (ht o List.mem_cons_self))⟩
    unfold wpList at h
    split at h
    · rcases h with h | h
      · unfold Oper.wp at h
        generalize (execOp a.eval o).run P w = r at h
        cases r with
        | ok n w1 =>
          cases n <;> simp only [Oper.upon] at h
          case value v => exact go _ _ h fun t ht => put_ne ht
          case skip => exact go _ _ h fun t ht => put_ne ht
          case defer d => exact go _ _ h fun t ht => put_ne (a := { a with defers := d :: a.defers }) ht
          case enter f args =>
            obtain ⟨e, w2, fr, hR, _⟩ := h []
            cases e with
            | returned v => exact go _ _ hR fun t ht => put_ne ht
            | panicked c => exact hR.elim
            | outgrown => exact (OnlyN.letsOut hR).elim
          case row row args =>
            obtain ⟨v, w2, hR, _⟩ := h default []
            exact go _ _ hR fun t ht => put_ne ht
        | halt x w1 => cases x <;> simp only [Oper.upon] at h <;> exact h.elim
      · exact (OnlyN.letsOut h.2).elim
    · exact go _ _ h fun t ht => put_ne ht
theorem needOf_ok {P : Program} {ops : Array Oper} {need : Needs} {Q : Exit → Act → World → Prop} {o : Oper} {l : List Oper} {a : Act} {w : World} (h : wpList P ops (OnlyN need Q) l a w)
    (hst : ∀ x ∈ l, ∀ d, x.dst = some d → ∀ p ∈ needOf need o, p.1 ≠ d) : needOk (needOf need o) a = true := by
  obtain ⟨af, h1, h2⟩ := reaches l a w h
  unfold needOk at h1 ⊢
  rw [List.all_eq_true] at h1 ⊢
  intro p hp
  have hp0 := hp
  simp only [needOf, List.mem_filter, List.contains_iff_mem] at hp
  have h3 := h1 p hp.1
  rw [h2 p.1 (fun x hx hd => hst x hx p.1 hd p hp0 rfl)] at h3
  exact h3
theorem det_main {P : Program} {ops : Array Oper} {need : Needs} {Q : Exit → Act → World → Prop} (hs : Region.noSelect ops = true) :
    ∀ (plan : Plan) (listed : Array Bool) (a : Act) (w : World), detOk P ops need listed plan = true → wpList P ops (OnlyN need Q) (reord ops plan) a w →
      wpAnyW P .any ops (OnlyN need Q) (nextWr ops.size plan) w plan.length listed a w
  | [], listed, a, w, hd, h => by
    have : Region.ready .any ops listed = [] := by simpa [detOk] using hd
    exact ⟨this, h⟩
  | (i, false) :: r, listed, a, w, hd, h => by
    simp only [detOk, Bool.and_eq_true] at hd
    obtain ⟨⟨⟨⟨⟨hr, hf⟩, hst⟩, hic⟩, hk⟩, hrest⟩ := hd
    have hr' : i ∈ Region.ready .any ops listed := by simpa using hr
    obtain ⟨_, oi, hoi, _⟩ := mem_ready.1 hr'
    have hat : opAt ops i = oi := by simp [opAt, hoi]
    have hne := needOf_ok (o := opAt ops i) h (fun x hx d hxd => by
      simp only [reord, List.mem_map] at hx
      obtain ⟨y, hy, rfl⟩ := hx
      have := List.all_eq_true.1 hst y hy
      simpa [hxd] using this)
    rw [hat] at hk hne
    have h' : wpList P ops (OnlyN need Q) (oi :: reord ops r) a w := by
      have e : reord ops ((i, false) :: r) = oi :: reord ops r := by simp [reord, hat]
      rwa [e] at h
    have hQ : ∀ v c a w, OnlyN need Q (.panic c) (a.put oi.dst v) w → OnlyN need Q (.panic c) a w := fun _ _ _ _ h => h.elim
    have hsel := fun j o cs b ho => Region.noSelect_spec hs j o cs b ho
    have hic' : i ≠ nextWr ops.size r := by simpa using hic
    -- the value, and the rest of the walk
    have key : ∀ (s : Sem Value), execOp a.eval oi = (do Pure.pure (Next.value (← s))) → ReadOk P s → Region.wanted oi (yielded ops a.tmps) = true →
        ∃ v, s.run P w = .ok v w ∧ wpList P ops (OnlyN need Q) (reord ops r) (a.put oi.dst v) w := fun s hex hread hw => by
      unfold wpList at h'
      rw [if_pos hw] at h'
      rcases h' with h' | h'
      · unfold Oper.wp at h'
        rw [hex, Sem.run_bind] at h'
        cases hrun : s.run P w with
        | ok v w1 =>
          obtain rfl := hread _ _ _ hrun
          rw [hrun] at h'
          exact ⟨v, rfl, h'⟩
        | halt x w1 =>
          rw [hrun] at h'
          cases x <;> exact h'.elim
      · exact (OnlyN.letsOut h'.2).elim
    have unw : Region.wanted oi (yielded ops a.tmps) = false → wpList P ops (OnlyN need Q) (reord ops r) (a.put oi.dst undef) w := fun hw => by
      unfold wpList at h'
      rw [if_neg (by rw [hw]; decide)] at h'
      exact h'
    rcases (Bool.or_eq_true _ _).mp hk with hp | hp
    · obtain ⟨s, hex, hloc⟩ := pureOp_local hp hne
      cases hw : Region.wanted oi (yielded ops a.tmps) with
      | true =>
        obtain ⟨v, hrun, hnext⟩ := key s hex hloc.read hw
        have hy : Yields P ops oi v a := .inl ⟨hw, fun w' => by
          rw [hex, Sem.run_bind, (hloc _ _ _ hrun).2 w']; rfl⟩
        exact W_pure hoi hic' hsel (hQ v) r.length listed a (Region.free_spec hoi hf) hr' hy (det_main hs r _ _ w hrest hnext)
      | false => exact W_pure hoi hic' hsel (hQ undef) r.length listed a (Region.free_spec hoi hf) hr' (.inr ⟨hw, rfl⟩) (det_main hs r _ _ w hrest (unw hw))
    · simp only [Bool.and_eq_true, Bool.or_eq_true] at hp
      obtain ⟨hp, hb, hbc⟩ := hp
      have hb' := List.all_eq_true.1 hb
      have hbl : ∀ j, (blkOf ops i).getD j false = true → listed.getD j false = false ∧ (∀ oj, ops[j]? = some oj → ∃ e ∈ oj.after, Region.binds .any e = true ∧ (e.on = i ∨ (blkOf ops i).getD e.on false = true)) := fun j hj => by
        have hlt : j < (blkOf ops i).size := by
          rcases Nat.lt_or_ge j (blkOf ops i).size with h | h
          · exact h
          · simp [Array.getElem?_eq_none h] at hj
        have := hb' j (List.mem_range.2 hlt)
        rw [hj] at this
        simp only [Bool.not_true, Bool.false_or, Bool.and_eq_true] at this
        refine ⟨by simpa using this.1, fun oj hoj => ?_⟩
        have h2 := this.2
        simp only [hoj] at h2
        rw [← Array.any_toList, List.any_eq_true] at h2
        obtain ⟨e, he, h3⟩ := h2
        simp only [Bool.and_eq_true, Bool.or_eq_true, beq_iff_eq] at h3
        exact ⟨e, by simpa using he, h3.1, h3.2⟩
      have hbc' : ops[nextWr ops.size r]? = none ∨ (blkOf ops i).getD (nextWr ops.size r) false = true := by
        rcases hbc with h | h
        · left; rw [beq_iff_eq] at h; rw [h]; simp
        · exact .inr h
      obtain ⟨s, hex, hread⟩ := readOp_read hp hne
      cases hw : Region.wanted oi (yielded ops a.tmps) with
      | true =>
        obtain ⟨v, hrun, hnext⟩ := key s hex hread hw
        have hy : YieldsIf P ops (· = w) oi v a := .inl ⟨hw, fun w' e => by
          subst e; rw [hex, Sem.run_bind, hrun]; rfl⟩
        exact W_take (fun j => (blkOf ops i).getD j false) hoi hic' hsel (hQ v) (fun j oj hoj hj => (hbl j hj).2 oj hoj) hbc' r.length listed a (Region.free_spec hoi hf) hr' (fun j hj => (hbl j hj).1) hy (det_main hs r _ _ w hrest hnext)
      | false => exact W_take (fun j => (blkOf ops i).getD j false) hoi hic' hsel (hQ undef) (fun j oj hoj hj => (hbl j hj).2 oj hoj) hbc' r.length listed a (Region.free_spec hoi hf) hr' (fun j hj => (hbl j hj).1) (.inr ⟨hw, rfl⟩) (det_main hs r _ _ w hrest (unw hw))
  | (i, true) :: r, listed, a, w, hd, h => by
    simp only [detOk, Bool.and_eq_true] at hd
    have hr : Region.ready .any ops listed = [i] := by simpa using hd.1
    have hr' : i ∈ Region.ready .any ops listed := by rw [hr]; simp
    obtain ⟨_, oi, hoi, _⟩ := mem_ready.1 hr'
    have hat : opAt ops i = oi := by simp [opAt, hoi]
    have h' : wpList P ops (OnlyN need Q) (oi :: reord ops r) a w := by
      have e : reord ops ((i, true) :: r) = oi :: reord ops r := by simp [reord, hat]
      rwa [e] at h
    refine ⟨fun h0 => (by rw [hr] at h0; cases h0), fun j hj => ?_⟩
    rw [hr] at hj
    obtain rfl : j = i := by simpa using hj
    have h1 : wpOp P ops (OnlyN need Q) j (wpList P ops (OnlyN need Q) (reord ops r)) a w := by
      unfold wpOp; rw [hoi]; unfold wpList at h'; exact h'
    exact wpOp_mono (fun a' w' h2 => ⟨fun e => absurd rfl e, fun _ => wpAny_of_W _ _ _ _ (det_main hs r _ a' w' hd.2 h2)⟩) h1
/-- A REGION THAT DRAWS ITS ORDER, WALKED IN THE PLAN's ORDER AS A PLAIN ONE. -/
theorem region_det {P : Program} {id : Nat} {l : List Oper} {Q : Exit → Act → World → Prop} {a : Act} {w : World} (plan : Plan) (need : Needs) (hm : P.follows .mixedOrders = true)
    (hs : Region.noSelect l.toArray = true) (hn : plan.length = l.length) (hd : detOk P l.toArray need (Array.replicate l.length false) plan = true)
    (h : wpList P l.toArray (OnlyN need Q) (reord l.toArray plan) a w.drew) : (Code.region id l.toArray true).wp P Q a w := by
  refine Code.wp_mono (Q := OnlyN need Q) (fun e a w h => ?_) ?_
  · cases e <;> first | exact h.2 | exact h.elim
  · refine wp_region_any hm (wpAny_of_W _ _ _ _ (?_ : wpAnyW P .any l.toArray (OnlyN need Q) (nextWr l.toArray.size plan) w.drew l.toArray.size (Array.replicate l.toArray.size false) a w.drew))
    have := det_main hs plan (Array.replicate l.length false) a w.drew hd h
    rw [hn] at this
    exact this
end TL
end Go
