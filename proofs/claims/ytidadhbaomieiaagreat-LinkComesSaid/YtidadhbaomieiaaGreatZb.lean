/- Texts of this seat, put together: Det, Write, Law2, Sum, Hash. Each begins with a remark that says what is proved in it, and under which conditions. -/
import Derived.Test.YtidadhbaomieiaaGreatY
import Derived.WalkKit
import Derived.KernelRfl
import Derived.OrdersHeld
import Derived.ChangeKeysEq
import Derived.Deep.DeepMust
import Derived.Deep.QuietTactic
import Derived.BigQuiet
import Derived.Lib.Strings
import Derived.Test.YtidadhbaomieiaaGreatZa
set_option maxRecDepth 100000
set_option maxHeartbeats 16000000
namespace Go
namespace TL
/-! ### What hangs on the frame alone -/
def LocalOk {α : Type} (P : Program) (s : Sem α) : Prop := ∀ w v w1, s.run P w = .ok v w1 → w1 = w ∧ ∀ w', s.run P w' = .ok v w'
theorem LocalOk.pure {α : Type} {P : Program} (v : α) : LocalOk P (pure v : Sem α) := by
 intro w u w1 h; cases h; exact ⟨rfl, fun _ => rfl⟩
theorem LocalOk.halt {α : Type} {P : Program} (h : Halt) : LocalOk P (.halt h : Sem α) := by
 intro w u w1 h; cases h
theorem LocalOk.program {P : Program} : LocalOk P program := by
 intro w u w1 h; cases h; exact ⟨rfl, fun _ => rfl⟩
theorem LocalOk.bind {α β : Type} {P : Program} {s : Sem α} {f : α → Sem β} (h : LocalOk P s) (k : ∀ v, LocalOk P (f v)) : LocalOk P (s >>= f) := by
 intro w u w1 hr
 rw [Sem.run_bind] at hr
 cases hs : s.run P w with
 | ok v w2 =>
  rw [hs] at hr
  obtain ⟨rfl, h2⟩ := h _ _ _ hs
  obtain ⟨rfl, h3⟩ := k v _ _ _ hr
  exact ⟨rfl, fun w' => by rw [Sem.run_bind, h2 w']; exact h3 w'⟩
 | halt x w2 => rw [hs] at hr; cases hr
theorem LocalOk.map {α β : Type} {P : Program} {s : Sem α} {f : α → β} (h : LocalOk P s) : LocalOk P (Functor.map f s) := by
 have : Functor.map f s = s >>= fun v => Pure.pure (f v) := rfl
 rw [this]; exact h.bind fun v => LocalOk.pure _
theorem LocalOk.stuck {α : Type} {P : Program} (s : String) : LocalOk P (stuck s : Sem α) := LocalOk.halt _
theorem LocalOk.unsupported {α : Type} {P : Program} (s : Unsupported) : LocalOk P (unsupported s : Sem α) := LocalOk.halt _
theorem LocalOk.goPanic {α : Type} {P : Program} (v : Value) : LocalOk P (goPanic v : Sem α) := LocalOk.halt _
def NeverOk {α : Type} (P : Program) (s : Sem α) : Prop := ∀ w v w1, s.run P w ≠ .ok v w1
theorem NeverOk.local {α : Type} {P : Program} {s : Sem α} (h : NeverOk P s) : LocalOk P s := fun w v w1 hr => absurd hr (h w v w1)
theorem NeverOk.bind {α β : Type} {P : Program} {s : Sem α} {f : α → Sem β} (k : ∀ v, NeverOk P (f v)) : NeverOk P (s >>= f) := by
 intro w u w1 hr
 rw [Sem.run_bind] at hr
 cases hs : s.run P w with
 | ok v w2 => rw [hs] at hr; exact k v _ _ _ hr
 | halt x w2 => rw [hs] at hr; cases hr
theorem NeverOk.goPanic {α : Type} {P : Program} (v : Value) : NeverOk P (goPanic v : Sem α) := by intro w u w1 h; cases h
theorem NeverOk.runtimePanic {α : Type} {P : Program} (e : RuntimeError) : NeverOk P (runtimePanic e : Sem α) := by
 unfold Go.runtimePanic
 refine NeverOk.bind fun p => ?_
 cases e <;> first | exact NeverOk.goPanic _ | (refine NeverOk.bind fun _ => ?_; first | exact NeverOk.goPanic _ | (refine NeverOk.bind fun _ => ?_; exact NeverOk.goPanic _))
theorem NeverOk.boundsPanic {α : Type} {P : Program} (k : IntKind) (x y : Int) (c : BoundsCode) : NeverOk P (boundsPanic k x y c : Sem α) := by
 unfold Go.boundsPanic
 dsimp only
 split <;> exact NeverOk.bind fun _ => NeverOk.runtimePanic _
theorem LocalOk.boundsPanic {α : Type} {P : Program} (k : IntKind) (x y : Int) (c : BoundsCode) : LocalOk P (boundsPanic k x y c : Sem α) := (NeverOk.boundsPanic k x y c).local
theorem LocalOk.runtimePanic {α : Type} {P : Program} (e : RuntimeError) : LocalOk P (runtimePanic e : Sem α) := (NeverOk.runtimePanic e).local
theorem LocalOk.typeInfo {P : Program} (t : TypeId) : LocalOk P (typeInfo t) := by
 unfold Go.typeInfo; refine LocalOk.program.bind fun p => ?_; split
 ·exact LocalOk.pure _
 ·exact LocalOk.stuck _
theorem LocalOk.underlying {P : Program} (t : TypeId) : LocalOk P (underlying t) := by
 unfold Go.underlying; refine LocalOk.program.bind fun p => ?_; split
 ·exact LocalOk.pure _
 ·exact LocalOk.stuck _
theorem LocalOk.sizeOf {P : Program} (t : TypeId) : LocalOk P (sizeOf t) := by
 unfold Go.sizeOf; exact (LocalOk.typeInfo t).bind fun _ => LocalOk.pure _
theorem LocalOk.isAgg {P : Program} (t : TypeId) : LocalOk P (isAgg t) := by
 unfold Go.isAgg; refine (LocalOk.underlying t).bind fun d => ?_; split <;> exact LocalOk.pure _
theorem LocalOk.part {P : Program} (t : TypeId) (cs : Array Value) (o : Nat) : LocalOk P (part t cs o) := by
 unfold Go.part; refine (LocalOk.isAgg t).bind fun b => ?_; split
 ·exact (LocalOk.sizeOf t).bind fun _ => LocalOk.pure _
 ·split
  ·exact LocalOk.pure _
  ·exact LocalOk.stuck _
theorem LocalOk.sureAddr {P : Program} (v : Value) : LocalOk P (Instr.sureAddr v) := by
 unfold Instr.sureAddr; split
 ·exact LocalOk.pure _
 ·exact LocalOk.stuck _
theorem LocalOk.asIntOf {P : Program} (v : Value) : LocalOk P (asIntOf v) := by
 unfold Go.asIntOf; split
 ·exact LocalOk.pure _
 ·exact LocalOk.unsupported _
 ·exact LocalOk.stuck _
theorem LocalOk.asBool {P : Program} (v : Value) : LocalOk P (asBool v) := by
 unfold Go.asBool; split
 ·exact LocalOk.pure _
 ·exact LocalOk.stuck _
theorem LocalOk.asAgg {P : Program} (v : Value) : LocalOk P (asAgg v) := by
 unfold Go.asAgg; split
 ·exact LocalOk.pure _
 ·exact LocalOk.stuck _
theorem LocalOk.asAddr {P : Program} (v : Value) : LocalOk P (asAddr v) := by
 unfold Go.asAddr; split
 ·exact LocalOk.pure _
 ·exact LocalOk.runtimePanic _
 ·exact LocalOk.stuck _
theorem LocalOk.indexAt {P : Program} (t : TypeId) (x i : Value) : LocalOk P (Instr.indexAt t x i) := by
 unfold Instr.indexAt
 dsimp only
 repeat' (first | exact LocalOk.pure _ | exact LocalOk.stuck _ | exact LocalOk.unsupported _ | exact LocalOk.boundsPanic _ _ _ _ | exact LocalOk.sureAddr _ | exact LocalOk.asIntOf _ | exact LocalOk.underlying _ | exact LocalOk.sizeOf _ | split | refine LocalOk.bind ?_ (fun _ => ?_))
theorem LocalOk.index {P : Program} (t : TypeId) (x i : Value) : LocalOk P (Instr.index t x i) := by
 unfold Instr.index
 refine (LocalOk.asIntOf _).bind fun ki => ?_
 refine (LocalOk.underlying _).bind fun d => ?_
 split
 ·split
  ·exact (LocalOk.sizeOf _).bind fun _ => LocalOk.part _ _ _
  ·exact LocalOk.boundsPanic _ _ _ _
 ·split
  ·exact LocalOk.pure _
  ·exact LocalOk.boundsPanic _ _ _ _
 ·exact LocalOk.stuck _
theorem LocalOk.sliceBound {P : Program} (x : Value) (y : Nat) (c : BoundsCode) : LocalOk P (Instr.sliceBound x y c) := by
 unfold Instr.sliceBound
 dsimp only
 repeat' (first | exact LocalOk.pure _ | exact LocalOk.stuck _ | exact LocalOk.boundsPanic _ _ _ _ | exact LocalOk.asIntOf _ | split | refine LocalOk.bind ?_ (fun _ => ?_))
theorem LocalOk.sliceBounds {P : Program} (b : Bool) (n c : Nat) (lo hi mx : Option Value) : LocalOk P (Instr.sliceBounds b n c lo hi mx) := by
 unfold Instr.sliceBounds
 dsimp only
 repeat' (first | exact LocalOk.pure _ | exact LocalOk.stuck _ | exact LocalOk.sliceBound _ _ _ | split | refine LocalOk.bind ?_ (fun _ => ?_))
theorem LocalOk.slice {P : Program} (t : TypeId) (x : Value) (lo hi mx : Option Value) : LocalOk P (Instr.slice t x lo hi mx) := by
 unfold Instr.slice
 dsimp only
 repeat' (first | exact LocalOk.pure _ | exact LocalOk.stuck _ | exact LocalOk.sliceBounds _ _ _ _ _ _ | exact LocalOk.underlying _ | exact LocalOk.sizeOf _ | exact LocalOk.asAddr _ | split | refine LocalOk.bind ?_ (fun _ => ?_))
theorem LocalOk.sliceAt {P : Program} (t : TypeId) (x : Value) (lo hi mx : Option Value) : LocalOk P (Instr.sliceAt t x lo hi mx) := by
 unfold Instr.sliceAt
 dsimp only
 repeat' (first | exact LocalOk.pure _ | exact LocalOk.slice _ _ _ _ _ | exact LocalOk.sliceBounds _ _ _ _ _ _ | exact LocalOk.underlying _ | exact LocalOk.sizeOf _ | exact LocalOk.sureAddr _ | split | refine LocalOk.bind ?_ (fun _ => ?_))
theorem LocalOk.field {P : Program} (t : TypeId) (x : Value) (f : Nat) : LocalOk P (Instr.field t x f) := by
 unfold Instr.field
 repeat' (first | exact LocalOk.pure _ | exact LocalOk.stuck _ | exact LocalOk.underlying _ | exact LocalOk.asAgg _ | exact LocalOk.part _ _ _ | split | refine LocalOk.bind ?_ (fun _ => ?_))
theorem LocalOk.extract {P : Program} (x : Value) (f : Nat) : LocalOk P (Instr.extract x f) := by
 unfold Instr.extract
 repeat' (first | exact LocalOk.pure _ | exact LocalOk.stuck _ | split)
theorem LocalOk.makeInterface {P : Program} (t : TypeId) (x : Value) : LocalOk P (Instr.makeInterface t x) := by
 unfold Instr.makeInterface
 repeat' (first | exact LocalOk.pure _ | exact LocalOk.stuck _ | exact LocalOk.underlying _ | split | refine LocalOk.bind ?_ (fun _ => ?_))
theorem LocalOk.unary {P : Program} (op : UnOp) (x : Value) : LocalOk P (Op.unary op x) := by
 unfold Op.unary
 split <;> first | exact LocalOk.pure _ | exact LocalOk.unsupported _ | exact LocalOk.stuck _ | exact LocalOk.pure _
theorem LocalOk.fieldAt {P : Program} (s : TypeId) (x : Value) (f : Nat) (h : (match P.underlying s with | some (.struct fs) => (match fs[f]? with | some fd => ((P.info? fd.type).map (·.size)) != some 0 | none => false) | _ => false) = true) : LocalOk P (Instr.fieldAt s x f) := by
 unfold Instr.fieldAt
 intro w v w1 hr
 split at h
 ·rename_i fs hu
  split at h
  ·rename_i fd hf
   simp only [Sem.run_bind, run_underlying hu, Result.andThen_ok, hf] at hr ⊢
   have L : LocalOk P ((do let a ← Instr.sureAddr x; Pure.pure (Value.pointer (some (← fieldPlace a fd)))) : Sem Value) := by
    refine (LocalOk.sureAddr x).bind fun a => LocalOk.bind ?_ fun _ => LocalOk.pure _
    unfold fieldPlace
    intro w v w1 hr
    cases hi : P.info? fd.type with
    | none => simp [Go.sizeOf, Go.typeInfo, hi] at hr
    | some i =>
     simp [hi] at h
     simp [Go.sizeOf, Go.typeInfo, hi, h] at hr ⊢
     exact ⟨hr.2.symm, hr.1⟩
   have := L w v w1 (by simpa only [Sem.run_bind] using hr)
   simpa only [Sem.run_bind] using this
  ·cases h
 ·cases h
theorem LocalOk.shift {P : Program} (op : BinOp) (k : IntKind) (x : Int) (yk : IntKind) (y : Int) : LocalOk P (Op.shift op k x yk y) := by
 unfold Op.shift
 repeat' (first | exact LocalOk.pure _ | exact LocalOk.stuck _ | exact LocalOk.runtimePanic _ | split)
theorem LocalOk.intDiv {P : Program} (op : BinOp) (k : IntKind) (x y : Int) : LocalOk P (Op.intDiv op k x y) := by
 unfold Op.intDiv
 repeat' (first | exact LocalOk.pure _ | exact LocalOk.stuck _ | exact LocalOk.runtimePanic _ | split)
theorem LocalOk.intArith {P : Program} (op : BinOp) (k : IntKind) (x y : Int) : LocalOk P (Op.intArith op k x y) := by
 unfold Op.intArith
 repeat' (first | exact LocalOk.pure _ | exact LocalOk.stuck _ | split)
theorem LocalOk.intCmp {P : Program} (op : BinOp) (x y : Int) : LocalOk P (Op.intCmp op x y) := by
 unfold Op.intCmp
 repeat' (first | exact LocalOk.pure _ | exact LocalOk.stuck _ | split)
theorem LocalOk.intBits {P : Program} (op : BinOp) (k : IntKind) (x y : Int) : LocalOk P (Op.intBits op k x y) := by
 unfold Op.intBits
 dsimp only
 repeat' (first | exact LocalOk.pure _ | exact LocalOk.stuck _ | split)
theorem LocalOk.stringOp {P : Program} (op : BinOp) (x y : ByteArray) : LocalOk P (Op.stringOp op x y) := by
 unfold Op.stringOp
 dsimp only
 repeat' (first | exact LocalOk.pure _ | exact LocalOk.stuck _ | exact LocalOk.unsupported _ | split)
def plainPair : Value → Value → Bool
 | .int _ _, .int _ _ => true
 | .string _, .string _ => true
 | _, _ => false
theorem LocalOk.binOp {P : Program} (op : BinOp) (t : TypeId) (x y : Value) (h : plainPair x y = true) : LocalOk P (binOp op t x y) := by
 cases x <;> cases y <;> simp [plainPair] at h
 ·cases op <;> simp only [Go.binOp] <;>
   repeat' (first | exact LocalOk.shift _ _ _ _ _ | exact LocalOk.intArith _ _ _ _ | exact LocalOk.intDiv _ _ _ _ | exact LocalOk.intBits _ _ _ _ | exact LocalOk.intCmp _ _ _ | exact LocalOk.stuck _ | split)
 ·cases op <;> simp only [Go.binOp] <;> exact LocalOk.stringOp _ _ _
theorem LocalOk.eqGuard {P : Program} (op : BinOp) (t : TypeId) (x y : Operand) (a b : Value) (h : plainPair a b = true) : LocalOk P (eqGuard op t x y a b) := by
 cases a <;> cases b <;> simp [plainPair] at h <;> (unfold Go.eqGuard; dsimp only; repeat' (first | exact LocalOk.pure _ | split | refine LocalOk.bind ?_ (fun _ => ?_)))
def isIntV : Value → Bool
 | .int _ _ => true
 | _ => false
theorem LocalOk.convert {P : Program} (src dst : TypeId) (x : Value) (h : isIntV x = true) (hd : (match P.underlying dst with | some (.int _) => true | _ => false) = true) : LocalOk P (convert src dst x) := by
 cases x <;> simp [isIntV] at h
 unfold Go.convert
 split at hd
 ·rename_i k hk
  intro w v w1 hr
  cases hs : P.underlying src with
  | none => simp [Go.underlying, hs] at hr
  | some ds =>
   simp only [Sem.run_bind, run_underlying hs, run_underlying hk, Result.andThen_ok] at hr ⊢
   have : LocalOk P (Conv.intToInt k ‹Int›) := LocalOk.pure _
   cases ds <;> exact this _ _ _ hr
 ·cases hd
def lenAble (P : Program) (ats : Array TypeId) : Bool :=
 match ats[0]? with
 | some t => (match P.underlying t with | some .string => true | some (.slice _) => true | some (.array _ _) => true | _ => false)
 | none => false
theorem LocalOk.len {P : Program} (ats : Array TypeId) (ty : TypeId) (args : Array Value) (h : lenAble P ats = true) : LocalOk P (Builtin.len_ ats ty args) := by
 intro w v w1 hr
 unfold lenAble at h
 cases ht : ats[0]? with
 | none => simp [ht] at h
 | some t =>
  cases hx : args[0]? with
  | none => simp only [Builtin.len_, ht, hx] at hr; cases hr
  | some x =>
   cases hs : P.underlying t with
   | none => simp [ht, hs] at h
   | some d =>
    simp only [Builtin.len_, ht, hx, Sem.run_bind, run_underlying hs, Result.andThen_ok] at hr ⊢
    cases d <;> simp [ht, hs] at h <;> cases x <;> first | (cases hr; done) | (cases hr; exact ⟨rfl, fun _ => rfl⟩)
/-! ### Arrays of numbers, compared -/
theorem LocalOk.of_same {α : Type} {P : Program} {s t : Sem α} (e : ∀ w, s.run P w = t.run P w) (h : LocalOk P t) : LocalOk P s := fun w v w1 hr => by
 rw [e] at hr
 obtain ⟨h1, h2⟩ := h w v w1 hr
 exact ⟨h1, fun w' => by rw [e]; exact h2 w'⟩
theorem LocalOk.bindOf {α β : Type} {P : Program} {s : Sem α} {f : α → Sem β} (R : α → Prop) (h : LocalOk P s) (hR : ∀ w v w1, s.run P w = .ok v w1 → R v) (k : ∀ v, R v → LocalOk P (f v)) : LocalOk P (s >>= f) := by
 intro w u w1 hr
 rw [Sem.run_bind] at hr
 cases hs : s.run P w with
 | ok v w2 =>
  rw [hs] at hr
  have hv := hR _ _ _ hs
  obtain ⟨rfl, h2⟩ := h _ _ _ hs
  obtain ⟨rfl, h3⟩ := k v hv _ _ _ hr
  exact ⟨rfl, fun w' => by rw [Sem.run_bind, h2 w']; exact h3 w'⟩
 | halt x w2 => rw [hs] at hr; cases hr
def numsV : Value → Bool
 | .agg cs => cs.all isIntV
 | _ => false
def boolV : Value → Bool
 | .bool _ => true
 | _ => false
def intRow (P : Program) (t : TypeId) : Bool :=
 match P.underlying t with
 | some (.array _ e) => (match P.underlying e with | some (.int _) => true | _ => false) && !(P.eqGuardType P.depth t)
 | _ => false
theorem part_int {P : Program} {e : TypeId} {k : IntKind} (he : P.underlying e = some (.int k)) {cs : Array Value} (h : cs.all isIntV = true) (o : Nat) : ∀ w v w1, (part e cs o).run P w = .ok v w1 → isIntV v = true := by
 intro w v w1 hr
 simp only [part, isAgg, Sem.run_bind, run_underlying he, Result.andThen_ok, Sem.run_pure] at hr
 simp only [Bool.false_eq_true, if_false] at hr
 cases hc : cs[o]? with
 | none => simp [hc] at hr
 | some x =>
  simp only [hc, Sem.run_pure] at hr
  rw [Array.all_eq_true_iff_forall_mem] at h
  have hx := h x (Array.mem_of_getElem? hc)
  cases hr
  exact hx
theorem LocalOk.equalInt {P : Program} {e : TypeId} {k : IntKind} (he : P.underlying e = some (.int k)) (d : Nat) (x y : Value) (hx : isIntV x = true) (hy : isIntV y = true) : LocalOk P (Op.equalIn (d + 1) e x y) := by
 cases x <;> simp [isIntV] at hx
 cases y <;> simp [isIntV] at hy
 unfold Op.equalIn
 refine LocalOk.bindOf (fun d => d = .int k) (LocalOk.underlying e) (fun w v w1 hr => by rw [run_underlying he] at hr; cases hr; rfl) fun v hv => ?_
 subst hv
 dsimp only
 split <;> first | exact LocalOk.pure _ | exact LocalOk.stuck _
theorem LocalOk.eqItems {P : Program} {e : TypeId} {k : IntKind} (he : P.underlying e = some (.int k)) (d c : Nat) (xs ys : Array Value) (hx : xs.all isIntV = true) (hy : ys.all isIntV = true) : ∀ is : List Nat, LocalOk P (Op.eqItems (d + 1) e c xs ys is)
 | [] => LocalOk.pure _
 | i :: is => by
  unfold Op.eqItems
  refine LocalOk.bindOf _ (LocalOk.part _ _ _) (part_int he hx _) fun a ha => LocalOk.bindOf _ (LocalOk.part _ _ _) (part_int he hy _) fun b hb => (LocalOk.equalInt he d a b ha hb).bind fun r => ?_
  split
  ·exact LocalOk.pure _
  ·exact LocalOk.eqItems he d c xs ys hx hy is
theorem LocalOk.equalRow {P : Program} {t : TypeId} (h : intRow P t = true) (xs ys : Array Value) (hx : xs.all isIntV = true) (hy : ys.all isIntV = true) : LocalOk P (Op.equal t (.agg xs) (.agg ys)) := by
 unfold intRow at h
 split at h
 ·rename_i n e hu
  simp only [Bool.and_eq_true] at h
  obtain ⟨h1, _⟩ := h
  split at h1
  ·rename_i k he
   obtain ⟨i, hi⟩ := info_of_underlying he
   exact LocalOk.of_same (fun w => run_equalIn_array w 9999 xs ys hu hi) (LocalOk.eqItems he 9998 _ xs ys hx hy _)
  ·cases h1
 ·cases h
theorem LocalOk.binRow {P : Program} (op : BinOp) {t : TypeId} (h : intRow P t = true) (x y : Value) (hx : numsV x = true) (hy : numsV y = true) : LocalOk P (Go.binOp op t x y) := by
 cases x <;> simp only [numsV, Bool.false_eq_true] at hx
 cases y <;> simp only [numsV, Bool.false_eq_true] at hy
 cases op <;> simp only [Go.binOp] <;> first | exact LocalOk.stuck _ | exact (LocalOk.equalRow h _ _ hx hy).bind fun _ => LocalOk.pure _
theorem LocalOk.guardRow {P : Program} (op : BinOp) {t : TypeId} (h : intRow P t = true) (x y : Operand) (a b : Value) (ha : numsV a = true) (hb : numsV b = true) : LocalOk P (Go.eqGuard op t x y a b) := by
  have hg : P.eqGuardType P.depth t = false := by
    unfold intRow at h
    split at h
    · simp only [Bool.and_eq_true, Bool.not_eq_true'] at h; exact h.2
    · cases h
  cases a <;> simp only [numsV, Bool.false_eq_true] at ha
  cases b <;> simp only [numsV, Bool.false_eq_true] at hb
  unfold Go.eqGuard
  dsimp only
  split <;> simp only [Bool.not_true, Bool.not_false, Bool.false_eq_true, if_true, if_false]
  all_goals first
    | exact LocalOk.pure _
    | (refine LocalOk.bindOf (fun p => p = P) LocalOk.program (fun w v w1 hr => by cases hr; rfl) fun p hp => ?_
       subst hp
       refine LocalOk.bindOf (fun q => q = p) LocalOk.program (fun w v w1 hr => by cases hr; rfl) fun q hq => ?_
       subst hq
       rw [hg]
       exact LocalOk.pure _)
theorem LocalOk.binBool {P : Program} (op : BinOp) (t : TypeId) (x y : Value) (hx : boolV x = true) (hy : boolV y = true) : LocalOk P (Go.binOp op t x y) := by
 cases x <;> simp only [boolV, Bool.false_eq_true] at hx
 cases y <;> simp only [boolV, Bool.false_eq_true] at hy
 have key : ∀ a b, LocalOk P (Op.equal t (.bool a) (.bool b)) := fun a b => by
  unfold Op.equal Op.maxDepth Op.equalIn
  refine (LocalOk.underlying t).bind fun d => ?_
  dsimp only
  split <;> first | exact LocalOk.pure _ | exact LocalOk.stuck _ | simp_all
 cases op <;> simp only [Go.binOp] <;> first | exact LocalOk.stuck _ | exact (key _ _).bind fun _ => LocalOk.pure _
theorem LocalOk.guardBool {P : Program} (op : BinOp) (t : TypeId) (x y : Operand) (a b : Value) (ha : boolV a = true) : LocalOk P (Go.eqGuard op t x y a b) := by
 cases a <;> simp only [boolV, Bool.false_eq_true] at ha
 rw [eqGuard_at_bool]; exact LocalOk.pure _
/-! ### Structs and arrays of plain cells, compared -/
def plain1 : Value → Bool
 | .int _ _ | .string _ | .bool _ => true
 | _ => false
def plainV : Value → Bool
 | .agg cs => cs.all plain1
 | v => plain1 v
theorem qDN {P : Program} {e : TypeId} {cs : Array Value} (h : cs.all plain1 = true) (o : Nat) : ∀ w v w1, (part e cs o).run P w = .ok v w1 → plainV v = true := by
 intro w v w1 hr
 rw [Array.all_eq_true_iff_forall_mem] at h
 have hag : ∀ u b w2, (isAgg e).run P w = .ok b w2 → (if b then (do let n ← sizeOf e; Pure.pure (.agg (cs.extract o (o + n))) : Sem Value) else match cs[o]? with | some v => Pure.pure v | none => Go.stuck u).run P w2 = .ok v w1 → plainV v = true := fun u b w2 _ hr => by
  cases b with
  | true =>
   simp only [if_true, Sem.run_bind] at hr
   cases hs : (sizeOf e).run P w2 with
   | ok n w3 =>
    rw [hs] at hr
    cases hr
    simp only [plainV, Array.all_eq_true_iff_forall_mem]
    intro x hx
    refine h x ?_
    rw [Array.mem_extract_iff_getElem] at hx
    obtain ⟨k, hk, rfl⟩ := hx
    exact Array.getElem_mem _
   | halt x w3 => rw [hs] at hr; cases hr
  | false =>
   simp only [Bool.false_eq_true, if_false] at hr
   cases hc : cs[o]? with
   | none => simp only [hc] at hr; cases hr
   | some x =>
    simp only [hc, Sem.run_pure] at hr
    have hx := h x (Array.mem_of_getElem? hc)
    cases hr
    cases v <;> simp_all [plain1, plainV]
 rw [part, Sem.run_bind] at hr
 cases hb : (isAgg e).run P w with
 | ok b w2 => rw [hb] at hr; exact hag _ b w2 hb hr
 | halt x w2 => rw [hb] at hr; cases hr
theorem LocalOk.eqFieldsP {P : Program} {d : Nat} (ih : ∀ t x y, plainV x = true → plainV y = true → LocalOk P (Op.equalIn d t x y)) (xs ys : Array Value) (hx : xs.all plain1 = true) (hy : ys.all plain1 = true) : ∀ fs : List Field, LocalOk P (Op.eqFields d xs ys fs)
 | [] => LocalOk.pure _
 | f :: fs => by
  unfold Op.eqFields
  split
  ·refine LocalOk.bindOf _ (LocalOk.part _ _ _) (qDN hx _) fun a ha => LocalOk.bindOf _ (LocalOk.part _ _ _) (qDN hy _) fun b hb => (ih f.type a b ha hb).bind fun r => ?_
   split
   ·exact LocalOk.pure _
   ·exact LocalOk.eqFieldsP ih xs ys hx hy fs
  ·exact LocalOk.eqFieldsP ih xs ys hx hy fs
theorem LocalOk.eqItemsP {P : Program} {d : Nat} (ih : ∀ t x y, plainV x = true → plainV y = true → LocalOk P (Op.equalIn d t x y)) (e : TypeId) (c : Nat) (xs ys : Array Value) (hx : xs.all plain1 = true) (hy : ys.all plain1 = true) : ∀ is : List Nat, LocalOk P (Op.eqItems d e c xs ys is)
 | [] => LocalOk.pure _
 | i :: is => by
  unfold Op.eqItems
  refine LocalOk.bindOf _ (LocalOk.part _ _ _) (qDN hx _) fun a ha => LocalOk.bindOf _ (LocalOk.part _ _ _) (qDN hy _) fun b hb => (ih e a b ha hb).bind fun r => ?_
  split
  ·exact LocalOk.pure _
  ·exact LocalOk.eqItemsP ih e c xs ys hx hy is
theorem LocalOk.equalP {P : Program} : ∀ (d : Nat) (t : TypeId) (x y : Value), plainV x = true → plainV y = true → LocalOk P (Op.equalIn d t x y)
 | 0, t, x, y, _, _ => LocalOk.unsupported _
 | d + 1, t, x, y, hx, hy => by
  have ih := LocalOk.equalP (P := P) d
  cases hu : P.underlying t with
  | none =>
   intro w v w1 hr
   unfold Op.equalIn at hr
   simp only [Sem.run_bind, Go.underlying] at hr
   simp [hu] at hr
  | some ds =>
   have base : (∀ xs ys, ¬ (x = .agg xs ∧ y = .agg ys)) → LocalOk P (Op.equalIn (d + 1) t x y) := fun hn => by
    unfold Op.equalIn
    refine (LocalOk.underlying t).bind fun d' => ?_
    cases x <;> simp only [plainV, plain1, Bool.false_eq_true] at hx <;> cases y <;> simp only [plainV, plain1, Bool.false_eq_true] at hy <;> first
     | exact absurd ⟨rfl, rfl⟩ (hn _ _)
     | (dsimp only; split <;> first | exact LocalOk.pure _ | exact LocalOk.stuck _ | (split <;> first | exact LocalOk.pure _ | exact LocalOk.stuck _) | simp_all)
   by_cases hag : ∃ xs ys, x = .agg xs ∧ y = .agg ys
   ·obtain ⟨xs, ys, rfl, rfl⟩ := hag
    simp only [plainV] at hx hy
    by_cases hst : ∃ fs, ds = .struct fs
    ·obtain ⟨fs, rfl⟩ := hst
     have hf : P.fieldsOf t = fs := by simp [Program.fieldsOf, hu]
     cases hh : P.stoodInHeld t with
     | true =>
      intro w v w1 hr
      unfold Op.equalIn at hr
      simp only [Sem.run_bind, run_underlying hu, Result.andThen_ok, run_program, hh, if_true] at hr
      cases hr
     | false => exact LocalOk.of_same (fun w => run_equalIn_struct w d t xs ys (by rw [hf]; exact hu) hh) (LocalOk.eqFieldsP ih xs ys hx hy _)
    ·by_cases har : ∃ n e, ds = .array n e
     ·obtain ⟨n, e, rfl⟩ := har
      cases hi : P.info? e with
      | none =>
       intro w v w1 hr
       unfold Op.equalIn at hr
       simp only [Sem.run_bind, run_underlying hu, Result.andThen_ok, Go.sizeOf, Go.typeInfo, run_program] at hr
       simp [hi] at hr
      | some i => exact LocalOk.of_same (fun w => run_equalIn_array w d xs ys hu hi) (LocalOk.eqItemsP ih e _ xs ys hx hy _)
     ·intro w v w1 hr
      unfold Op.equalIn at hr
      simp only [Sem.run_bind, run_underlying hu, Result.andThen_ok] at hr
      cases ds <;> first | (cases hr; done) | exact absurd ⟨_, rfl⟩ hst | exact absurd ⟨_, _, rfl⟩ har
   ·exact base fun xs ys h => hag ⟨xs, ys, h⟩
theorem LocalOk.binPlain {P : Program} (op : BinOp) (t : TypeId) (xs ys : Array Value) (hx : xs.all plain1 = true) (hy : ys.all plain1 = true) : LocalOk P (Go.binOp op t (.agg xs) (.agg ys)) := by
 cases op <;> simp only [Go.binOp] <;> first | exact LocalOk.stuck _ | exact (LocalOk.equalP _ t (.agg xs) (.agg ys) hx hy).bind fun _ => LocalOk.pure _
theorem LocalOk.guardPlain {P : Program} (op : BinOp) {t : TypeId} (hg : P.eqGuardType P.depth t = false) (x y : Operand) (xs ys : Array Value) : LocalOk P (Go.eqGuard op t x y (.agg xs) (.agg ys)) := by
  unfold Go.eqGuard
  dsimp only
  split <;> simp only [Bool.not_true, Bool.not_false, Bool.false_eq_true, if_true, if_false]
  all_goals first
    | exact LocalOk.pure _
    | (refine LocalOk.bindOf (fun p => p = P) LocalOk.program (fun w v w1 hr => by cases hr; rfl) fun p hp => ?_
       subst hp
       refine LocalOk.bindOf (fun q => q = p) LocalOk.program (fun w v w1 hr => by cases hr; rfl) fun q hq => ?_
       subst hq
       rw [hg]
       exact LocalOk.pure _)
def aggV : Value → Bool
 | .agg cs => cs.all plain1
 | _ => false
/-! ### The operations -/
inductive Shape where
 | int | str | ptr | bool | nums | cells
deriving DecidableEq
def Shape.strict : Shape → Value → Bool
 | .int, .int _ _ => true
 | .str, .string _ => true
 | .ptr, .pointer _ => true
 | .bool, v => boolV v
 | .nums, v => numsV v
 | .cells, v => aggV v
 | _, _ => false
def tupV : Value → Bool
 | .tuple _ => true
 | _ => false
def Shape.ok (s : Shape) (v : Value) : Bool := s.strict v || tupV v
theorem Shape.ok_cases {s : Shape} {v : Value} (h : s.ok v = true) : s.strict v = true ∨ ∃ cs, v = .tuple cs := by
 unfold Shape.ok at h
 rcases (Bool.or_eq_true _ _).mp h with h | h
 ·exact .inl h
 ·cases v <;> simp [tupV] at h
  exact .inr ⟨_, rfl⟩
theorem Shape.ok_of {s : Shape} {v : Value} (h : s.strict v = true) : s.ok v = true := by unfold Shape.ok; rw [h]; rfl
theorem LocalOk.equalTup {P : Program} (t : TypeId) (x y : Value) (h : (∃ cs, x = .tuple cs) ∨ ∃ cs, y = .tuple cs) : LocalOk P (Op.equal t x y) := by
 unfold Op.equal Op.maxDepth Op.equalIn
 refine (LocalOk.underlying t).bind fun d => ?_
 rcases h with ⟨cs, rfl⟩ | ⟨cs, rfl⟩
 ·dsimp only
  split <;> first | exact LocalOk.pure _ | exact LocalOk.stuck _ | exact LocalOk.unsupported _ | simp_all
 ·dsimp only
  split <;> first | exact LocalOk.pure _ | exact LocalOk.stuck _ | exact LocalOk.unsupported _ | simp_all
theorem LocalOk.binTup {P : Program} (op : BinOp) (t : TypeId) (x y : Value) (h : (∃ cs, x = .tuple cs) ∨ ∃ cs, y = .tuple cs) : LocalOk P (Go.binOp op t x y) := by
 have e := LocalOk.equalTup (P := P) t x y h
 rcases h with ⟨cs, rfl⟩ | ⟨cs, rfl⟩
 ·cases op <;> simp only [Go.binOp] <;> first | exact LocalOk.stuck _ | exact e.bind fun _ => LocalOk.pure _ | (split <;> first | exact LocalOk.stuck _ | exact LocalOk.unsupported _ | simp_all)
 ·cases op <;> cases x <;> simp only [Go.binOp] <;> first | exact LocalOk.stuck _ | exact LocalOk.unsupported _ | exact e.bind fun _ => LocalOk.pure _ | (split <;> first | exact LocalOk.stuck _ | exact LocalOk.unsupported _ | simp_all)
theorem LocalOk.guardTup {P : Program} (op : BinOp) (t : TypeId) (x y : Operand) (a b : Value) (h : (∃ cs, a = .tuple cs) ∨ ∃ cs, b = .tuple cs) : LocalOk P (Go.eqGuard op t x y a b) := by
 rcases h with ⟨cs, rfl⟩ | ⟨cs, rfl⟩
 ·unfold Go.eqGuard; dsimp only; repeat' (first | exact LocalOk.pure _ | split | refine LocalOk.bind ?_ (fun _ => ?_))
 ·cases a <;> (unfold Go.eqGuard; dsimp only; repeat' (first | exact LocalOk.pure _ | split | refine LocalOk.bind ?_ (fun _ => ?_)))
theorem LocalOk.convertTup {P : Program} (src dst : TypeId) (cs : Array Value) (hd : (match P.underlying dst with | some (.int _) => true | _ => false) = true) : LocalOk P (Go.convert src dst (.tuple cs)) := by
 split at hd
 ·rename_i k hk
  intro w v w1 hr
  exfalso
  unfold Go.convert at hr
  cases hs : P.underlying src with
  | none => simp [Go.underlying, hs] at hr
  | some ds =>
   simp only [Sem.run_bind, run_underlying hs, run_underlying hk, Result.andThen_ok] at hr
   cases ds <;> first
    | (cases hr; done)
    | (simp only [Conv.unsafePointer, Sem.run_bind, run_underlying hs, run_underlying hk, Result.andThen_ok] at hr; cases hr; done)
 ·cases hd
abbrev Needs := List (Tmp × Shape)
def needOk (need : Needs) (a : Act) : Bool := need.all fun p => p.2.ok (a.tmps.getD p.1 undef)
def opndIs (need : Needs) (s : Shape) : Operand → Bool
 | .tmp t => need.contains (t, s)
 | .const v => s.ok v
 | _ => false
def pureOp (P : Program) (need : Needs) (o : Oper) : Bool :=
 match o.op with
 | .move _ | .assign _ | .pick .. | .indexAddr .. | .index .. | .slice .. | .field .. | .extract .. | .makeInterface .. | .unOp .. => true
 | .nilCheck x => opndIs need .ptr x
 | .binOp _ t x y _ => ((opndIs need .int x && opndIs need .int y) || (opndIs need .str x && opndIs need .str y)) || ((opndIs need .bool x && opndIs need .bool y) || ((opndIs need .nums x && opndIs need .nums y && intRow P t) || (opndIs need .cells x && opndIs need .cells y && !(P.eqGuardType P.depth t))))
 | .convert _ dst x => opndIs need .int x && (match P.underlying dst with | some (.int _) => true | _ => false)
 | .fieldAddr s _ f => match P.underlying s with | some (.struct fs) => (match fs[f]? with | some fd => ((P.info? fd.type).map (·.size)) != some 0 | none => false) | _ => false
 | .call c => (match c.callee with | .builtin .len => lenAble P c.argTypes | _ => false)
 | _ => false
theorem qEE {need : Needs} {s : Shape} {x : Operand} {a : Act} (h : opndIs need s x = true) (ha : needOk need a = true) : s.ok (a.eval x) = true := by
 cases x with
 | tmp t =>
  simp only [opndIs, List.contains_iff_mem] at h
  have := List.all_eq_true.1 ha _ h
  simpa [Act.eval] using this
 | const v => exact h
 | global g => cases h
 | func f => cases h
theorem Shape.ok_int {v : Value} (h : Shape.strict .int v = true) : isIntV v = true := by cases v <;> simp [Shape.strict] at h; rfl
theorem plainPair_int {x y : Value} (hx : Shape.strict .int x = true) (hy : Shape.strict .int y = true) : plainPair x y = true := by
 cases x <;> simp [Shape.strict] at hx
 cases y <;> simp [Shape.strict] at hy
 rfl
theorem plainPair_str {x y : Value} (hx : Shape.strict .str x = true) (hy : Shape.strict .str y = true) : plainPair x y = true := by
 cases x <;> simp [Shape.strict] at hx
 cases y <;> simp [Shape.strict] at hy
 rfl
theorem qCX {need : Needs} {s : Shape} {x y : Operand} {a : Act} (h : (opndIs need s x && opndIs need s y) = true) (ha : needOk need a = true) : ((∃ cs, a.eval x = .tuple cs) ∨ ∃ cs, a.eval y = .tuple cs) ∨ (s.strict (a.eval x) = true ∧ s.strict (a.eval y) = true) := by
 have := (Bool.and_eq_true _ _).mp h
 rcases Shape.ok_cases (qEE this.1 ha) with h1 | h1
 ·rcases Shape.ok_cases (qEE this.2 ha) with h2 | h2
  ·exact .inr ⟨h1, h2⟩
  ·exact .inl (.inr h2)
 ·exact .inl (.inl h1)
theorem qBm {P : Program} {need : Needs} {o : Oper} {a : Act} (h : pureOp P need o = true) (ha : needOk need a = true) : ∃ s : Sem Value, execOp a.eval o = (do Pure.pure (Next.value (← s))) ∧ LocalOk P s := by
 obtain ⟨dst, op, type, pos, after, guard⟩ := o
 cases op <;> simp only [pureOp] at h <;> try (exact absurd h yN)
 case move x => exact ⟨Pure.pure (a.eval x), rfl, LocalOk.pure _⟩
 case assign x => exact ⟨Pure.pure (a.eval x), rfl, LocalOk.pure _⟩
 case nilCheck x =>
  have hx := qEE h ha
  refine ⟨(match a.eval x with | .pointer none | .nilIface | .nilFunc => Go.runtimePanic .nilDeref | x => Pure.pure x), ?_, ?_⟩
  ·simp only [execOp]
   cases hv : a.eval x <;> rw [hv] at hx <;> first | (cases hx; done) | rfl | skip
   rename_i p
   cases p <;> rfl
  ·split <;> first | exact LocalOk.runtimePanic _ | exact LocalOk.pure _
 case binOp op t x y yt =>
  refine ⟨_, rfl, ?_⟩
  have tup : ((∃ cs, a.eval x = .tuple cs) ∨ ∃ cs, a.eval y = .tuple cs) → LocalOk P (do Go.eqGuard op t x y (a.eval x) (a.eval y); Go.binOp op t (a.eval x) (a.eval y)) := fun ht =>
   (LocalOk.guardTup _ _ _ _ _ _ ht).bind fun _ => LocalOk.binTup _ _ _ _ ht
  rcases (Bool.or_eq_true _ _).mp h with h | h
  ·have hp : ((∃ cs, a.eval x = .tuple cs) ∨ ∃ cs, a.eval y = .tuple cs) ∨ plainPair (a.eval x) (a.eval y) = true := by
    rcases (Bool.or_eq_true _ _).mp h with h | h
    ·exact (qCX h ha).imp id fun h => plainPair_int h.1 h.2
    ·exact (qCX h ha).imp id fun h => plainPair_str h.1 h.2
   rcases hp with ht | hp
   ·exact tup ht
   ·exact (LocalOk.eqGuard _ _ _ _ _ _ hp).bind fun _ => LocalOk.binOp _ _ _ _ hp
  ·rcases (Bool.or_eq_true _ _).mp h with h | h
   ·rcases qCX h ha with ht | ⟨hx, hy⟩
    ·exact tup ht
    ·have hx : boolV (a.eval x) = true := hx
     have hy : boolV (a.eval y) = true := hy
     exact (LocalOk.guardBool _ _ _ _ _ _ hx).bind fun _ => LocalOk.binBool _ _ _ _ hx hy
   ·rcases (Bool.or_eq_true _ _).mp h with h | h
    ·have h0 := (Bool.and_eq_true _ _).mp h
     rcases qCX h0.1 ha with ht | ⟨hx, hy⟩
     ·exact tup ht
     ·have hx : numsV (a.eval x) = true := hx
      have hy : numsV (a.eval y) = true := hy
      exact (LocalOk.guardRow _ h0.2 _ _ _ _ hx hy).bind fun _ => LocalOk.binRow _ h0.2 _ _ hx hy
    ·have h0 := (Bool.and_eq_true _ _).mp h
     rcases qCX h0.1 ha with ht | ⟨hx, hy⟩
     ·exact tup ht
     ·have hx : aggV (a.eval x) = true := hx
      have hy : aggV (a.eval y) = true := hy
      have hg : P.eqGuardType P.depth t = false := by simpa using h0.2
      clear tup
      generalize a.eval x = vx at hx ⊢
      generalize a.eval y = vy at hy ⊢
      cases vx <;> simp only [aggV, Bool.false_eq_true] at hx
      cases vy <;> simp only [aggV, Bool.false_eq_true] at hy
      exact (LocalOk.guardPlain _ hg _ _ _ _).bind fun _ => LocalOk.binPlain _ _ _ _ hx hy
 case unOp op t x => exact ⟨_, rfl, LocalOk.unary _ _⟩
 case convert src dst x =>
  have := (Bool.and_eq_true _ _).mp h
  refine ⟨_, rfl, ?_⟩
  rcases Shape.ok_cases (qEE this.1 ha) with h1 | ⟨cs, h1⟩
  ·exact LocalOk.convert _ _ _ (Shape.ok_int h1) this.2
  ·rw [h1]; exact LocalOk.convertTup _ _ _ this.2
 case makeInterface t x => exact ⟨_, rfl, LocalOk.makeInterface _ _⟩
 case slice t x lo hi mx => exact ⟨_, rfl, LocalOk.sliceAt _ _ _ _ _⟩
 case fieldAddr s x f => exact ⟨_, rfl, LocalOk.fieldAt _ _ _ h⟩
 case pick c x y =>
  refine ⟨(do let b ← asBool (a.eval c); Pure.pure (if b then a.eval x else a.eval y)), ?_, ?_⟩
  ·simp only [execOp]; cases a.eval c <;> rfl
  ·refine LocalOk.bind ?_ fun _ => LocalOk.pure _
   unfold asBool; split <;> first | exact LocalOk.pure _ | exact LocalOk.stuck _
 case field s x f => exact ⟨_, rfl, LocalOk.field _ _ _⟩
 case indexAddr t x i => exact ⟨_, rfl, LocalOk.indexAt _ _ _⟩
 case index t x i => exact ⟨_, rfl, LocalOk.index _ _ _⟩
 case extract x i => exact ⟨_, rfl, LocalOk.extract _ _⟩
 case call c =>
  obtain ⟨callee, args, ats⟩ := c
  cases callee <;> simp only at h <;> try (cases h; done)
  rename_i b
  cases b <;> simp only at h <;> try (cases h; done)
  exact ⟨_, rfl, LocalOk.len _ _ _ h⟩
/-! ### What only reads -/
def ReadOk {α : Type} (P : Program) (s : Sem α) : Prop := ∀ w v w1, s.run P w = .ok v w1 → w1 = w
theorem LocalOk.read {α : Type} {P : Program} {s : Sem α} (h : LocalOk P s) : ReadOk P s := fun w v w1 hr => (h w v w1 hr).1
theorem ReadOk.bind {α β : Type} {P : Program} {s : Sem α} {f : α → Sem β} (h : ReadOk P s) (k : ∀ v, ReadOk P (f v)) : ReadOk P (s >>= f) := by
 intro w u w1 hr
 rw [Sem.run_bind] at hr
 cases hs : s.run P w with
 | ok v w2 =>
  rw [hs] at hr
  obtain rfl := h _ _ _ hs
  exact k v _ _ _ hr
 | halt x w2 => rw [hs] at hr; cases hr
theorem ReadOk.load {P : Program} (a : Addr) : ReadOk P (load a) := by
 intro w v w1 hr
 unfold Go.load at hr
 simp only [Sem.run] at hr
 split at hr
 ·cases hr; rfl
 ·split at hr
  ·cases hr; rfl
  ·cases hr
theorem ReadOk.loadCellsFrom {P : Program} (a : Addr) : ∀ (n i : Nat) (acc : Array Value), ReadOk P (loadCellsFrom a i n acc)
 | 0, _, _ => (LocalOk.pure _).read
 | n + 1, i, acc => by
  unfold Go.loadCellsFrom
  exact (ReadOk.load _).bind fun v => ReadOk.loadCellsFrom a n (i + 1) _
theorem ReadOk.loadVar {P : Program} (t : TypeId) (a : Addr) : ReadOk P (loadVar t a) := by
 unfold Go.loadVar
 refine (LocalOk.isAgg t).read.bind fun b => ?_
 split
 ·exact (LocalOk.sizeOf t).read.bind fun n => (ReadOk.loadCellsFrom a n 0 _).bind fun _ => (LocalOk.pure _).read
 ·exact ReadOk.load a
theorem ReadOk.loadAt {P : Program} (t : TypeId) (v : Value) : ReadOk P (Instr.loadAt t v) := by
 unfold Instr.loadAt
 exact (LocalOk.sureAddr v).read.bind fun a => ReadOk.loadVar t a
theorem ReadOk.forIn_list {P : Program} {β : Type} (f : Value → β → Sem (ForInStep β)) (hf : ∀ v b, ReadOk P (f v b)) : ∀ (l : List Value) (b : β), ReadOk P (forIn l b f)
 | [], b => by simp only [List.forIn_nil]; exact (LocalOk.pure _).read
 | v :: l, b => by
  simp only [List.forIn_cons]
  refine (hf v b).bind fun s => ?_
  cases s with
  | done b => exact (LocalOk.pure _).read
  | yield b => exact ReadOk.forIn_list f hf l b
theorem ReadOk.bytesToString {P : Program} (x : Value) : ReadOk P (Conv.bytesToString x) := by
 unfold Conv.bytesToString
 split
 ·exact (LocalOk.pure _).read
 ·refine (ReadOk.loadCellsFrom _ _ 0 _).bind fun cs => ?_
  dsimp only
  rw [← Array.forIn_toList]
  refine ReadOk.bind (ReadOk.forIn_list _ (fun v b => ?_) _ _) fun _ => (LocalOk.pure _).read
  split <;> first | exact (LocalOk.stuck _).read | exact (LocalOk.pure _).read | exact ((LocalOk.pure _).read.bind fun _ => (LocalOk.pure _).read)
 ·exact (LocalOk.stuck _).read
def bytesConv (P : Program) (src dst : TypeId) : Bool :=
 match P.underlying src, P.underlying dst with
 | some (.slice e), some .string => (match P.underlying e with | some (.int .u8) => true | _ => false)
 | _, _ => false
theorem ReadOk.convert {P : Program} (src dst : TypeId) (x : Value) (h : bytesConv P src dst = true) : ReadOk P (convert src dst x) := by
 unfold bytesConv at h
 split at h
 ·rename_i e hs hd
  split at h
  ·rename_i he
   intro w v w1 hr
   unfold Go.convert at hr
   simp only [Sem.run_bind, run_underlying hs, run_underlying hd, Result.andThen_ok] at hr
   cases x <;> first | (simp only [Sem.run_bind, run_underlying he, Result.andThen_ok] at hr; exact ReadOk.bytesToString _ _ _ _ hr) | (cases hr; rfl)
  ·cases h
 ·cases h
def readOp (P : Program) (need : Needs) (o : Oper) : Bool :=
 match o.op with
 | .load .. => true
 | .convert src dst _ => pureOp P need o || bytesConv P src dst
 | _ => pureOp P need o
theorem readOp_read {P : Program} {need : Needs} {o : Oper} {a : Act} (h : readOp P need o = true) (ha : needOk need a = true) : ∃ s : Sem Value, execOp a.eval o = (do Pure.pure (Next.value (← s))) ∧ ReadOk P s := by
 have go : pureOp P need o = true → ∃ s : Sem Value, execOp a.eval o = (do Pure.pure (Next.value (← s))) ∧ ReadOk P s := fun hp => by
  obtain ⟨s, h1, h2⟩ := qBm hp ha; exact ⟨s, h1, h2.read⟩
 obtain ⟨dst, op, type, pos, after, guard⟩ := o
 cases op
 case load t x => exact ⟨_, rfl, ReadOk.loadAt _ _⟩
 case convert src d x =>
  rcases (Bool.or_eq_true _ _).mp h with h | h
  ·exact go h
  ·exact ⟨_, rfl, ReadOk.convert _ _ _ h⟩
 all_goals exact go h
/-! ### The region -/
def OnlyN (need : Needs) (Q : Exit → Act → World → Prop) : Exit → Act → World → Prop
 | .normal, a, w => needOk need a = true ∧ Q .normal a w
 | _, _, _ => False
theorem OnlyN.intro {need : Needs} {Q : Exit → Act → World → Prop} {a : Act} {w : World} (h : needOk need a = true) (hq : Q .normal a w) : OnlyN need Q .normal a w := ⟨h, hq⟩
theorem OnlyN.letsOut {need : Needs} {Q : Exit → Act → World → Prop} (h : LetsOut (OnlyN need Q)) : False := by
 obtain ⟨a, w, h⟩ := h; exact h
section
variable {P : Program} {ops : Array Oper} {Q : Exit → Act → World → Prop} {md : Region.Mode}
def wpAnyW (P : Program) (md : Region.Mode) (ops : Array Oper) (Q : Exit → Act → World → Prop) (c : Nat) (W : World) : Nat → Array Bool → Act → World → Prop
 | 0, listed, a, w => Region.ready md ops listed = [] ∧ Q .normal a w
 | fuel + 1, listed, a, w =>
  (Region.ready md ops listed = [] → Q .normal a w) ∧
  ∀ j ∈ Region.ready md ops listed, wpOp P ops Q j (fun a' w' => (j ≠ c → w' = W ∧ wpAnyW P md ops Q c W fuel (listed.setIfInBounds j true) a' w') ∧ (j = c → wpAny P md ops Q fuel (listed.setIfInBounds j true) a' w')) a w
theorem qER {c : Nat} {W : World} : ∀ (fuel : Nat) (listed : Array Bool) (a : Act) (w : World), wpAnyW P md ops Q c W fuel listed a w → wpAny P md ops Q fuel listed a w
 | 0, _, _, _, h => h
 | fuel + 1, _, _, _, h => ⟨h.1, fun j hj => wpOp_mono (fun a' w' h' => by
   by_cases e : j = c
   ·exact h'.2 e
   ·exact qER fuel _ a' w' (h'.1 e).2) (h.2 j hj)⟩
theorem qEF {i j : Nat} {listed : Array Bool} {oj : Oper} (hr : i ∈ Region.ready md ops listed) (_hoj : ops[j]? = some oj)
  (hall : ∀ e ∈ oj.after, Region.binds md e = true → listed.getD e.on false = true) : ∀ e ∈ oj.after, Region.binds md e = true → e.on ≠ i := fun e he hb heq => by
 have h1 := hall e he hb
 have h0 := (mem_ready.1 hr).1
 rw [heq] at h1
 rcases Nat.lt_or_ge i listed.size with h' | h'
 ·simp [h'] at h0 h1; rw [h0] at h1; cases h1
 ·simp [Array.getElem?_eq_none h'] at h1
theorem W_pure {c : Nat} {W : World} {i : Nat} {oi : Oper} {v : Value} (hi : ops[i]? = some oi) (hic : i ≠ c) (hsel : ∀ (j : Nat) (o : Oper) cs b, ops[j]? = some o → o.op ≠ .select cs b)
  (hQ : ∀ c a w, Q (.panic c) (a.put oi.dst v) w → Q (.panic c) a w) :
  ∀ (fuel : Nat) (listed : Array Bool) (a : Act),
   (∀ j oj, ops[j]? = some oj → j ≠ i → listed.getD j true = false → (∀ e ∈ oj.after, Region.binds md e = true → e.on ≠ i) → oi.apart ops oj = true) →
   i ∈ Region.ready md ops listed → Yields P ops oi v a →
   wpAnyW P md ops Q c W fuel (listed.setIfInBounds i true) (a.put oi.dst v) W → wpAnyW P md ops Q c W (fuel + 1) listed a W := by
 intro fuel
 induction fuel with
 | zero =>
  intro listed a _ hr hy H
  refine ⟨fun h => (by rw [h] at hr; cases hr), fun j hj => ?_⟩
  by_cases hji : j = i
  ·subst hji; exact hy.wpOp hi ⟨fun _ => ⟨rfl, H⟩, fun e => absurd e hic⟩
  ·have := ready_mono hj hji
   rw [H.1] at this
   cases this
 | succ fuel ih =>
  intro listed a hfree hr hy H
  refine ⟨fun h => (by rw [h] at hr; cases hr), fun j hj => ?_⟩
  by_cases hji : j = i
  ·subst hji; exact hy.wpOp hi ⟨fun _ => ⟨rfl, H⟩, fun e => absurd e hic⟩
  ·have h1 := H.2 j (ready_mono hj hji)
   obtain ⟨hjun, oj, hoj, hall⟩ := mem_ready.1 hj
   have hnot := qEF hr hoj hall
   have h2 := wpOp_put hoj (hfree j oj hoj hji hjun hnot) (fun cs b => hsel i oi cs b hi) (fun cs b => hsel j oj cs b hoj) hQ hy h1
   have hfree' : ∀ k ok, ops[k]? = some ok → k ≠ i → (listed.setIfInBounds j true).getD k true = false →
     (∀ e ∈ ok.after, Region.binds md e = true → e.on ≠ i) → oi.apart ops ok = true := fun k ok hk hki hun hno => by
    refine hfree k ok hk hki ?_ hno
    by_cases hjk : j = k
    ·subst hjk; exact hjun
    ·rw [getD_set_ne true hjk] at hun; exact hun
   refine wpOp_mono (fun a' w' h3 => ⟨fun hjc => ?_, fun hjc => ?_⟩) h2
   ·obtain ⟨rfl, h5⟩ := h3.2.1 hjc
    refine ⟨rfl, ih (listed.setIfInBounds j true) a' hfree' (ready_mono hr (Ne.symm hji)) h3.1 ?_⟩
    rw [Array.setIfInBounds_comm _ _ hji]; exact h5
   ·have h5 := h3.2.2 hjc
    refine wpAny_first hi hsel hQ fuel (listed.setIfInBounds j true) a' w' hfree' (ready_mono hr (Ne.symm hji)) h3.1 ?_
    rw [Array.setIfInBounds_comm _ _ hji]; exact h5
theorem W_take {c : Nat} {W : World} {i : Nat} {oi : Oper} {v : Value} (b : Nat → Bool) (hi : ops[i]? = some oi) (hic : i ≠ c) (hsel : ∀ (j : Nat) (o : Oper) cs b, ops[j]? = some o → o.op ≠ .select cs b)
  (hQ : ∀ c a w, Q (.panic c) (a.put oi.dst v) w → Q (.panic c) a w)
  (hjust : ∀ j oj, ops[j]? = some oj → b j = true → ∃ e ∈ oj.after, Region.binds md e = true ∧ (e.on = i ∨ b e.on = true))
  (hbc : ops[c]? = none ∨ b c = true) :
  ∀ (fuel : Nat) (listed : Array Bool) (a : Act),
   (∀ j oj, ops[j]? = some oj → j ≠ i → listed.getD j true = false → (∀ e ∈ oj.after, Region.binds md e = true → e.on ≠ i) → oi.apart ops oj = true) →
   i ∈ Region.ready md ops listed → (∀ j, b j = true → listed.getD j false = false) → YieldsIf P ops (· = W) oi v a →
   wpAnyW P md ops Q c W fuel (listed.setIfInBounds i true) (a.put oi.dst v) W → wpAnyW P md ops Q c W (fuel + 1) listed a W := by
 intro fuel
 induction fuel with
 | zero =>
  intro listed a _ hr _ hy H
  refine ⟨fun h => (by rw [h] at hr; cases hr), fun j hj => ?_⟩
  by_cases hji : j = i
  ·subst hji; exact hy.wpOp hi rfl ⟨fun _ => ⟨rfl, H⟩, fun e => absurd e hic⟩
  ·have := ready_mono hj hji
   rw [H.1] at this
   cases this
 | succ fuel ih =>
  intro listed a hfree hr hbl hy H
  refine ⟨fun h => (by rw [h] at hr; cases hr), fun j hj => ?_⟩
  by_cases hji : j = i
  ·subst hji; exact hy.wpOp hi rfl ⟨fun _ => ⟨rfl, H⟩, fun e => absurd e hic⟩
  ·have h1 := H.2 j (ready_mono hj hji)
   obtain ⟨hjun, oj, hoj, hall⟩ := mem_ready.1 hj
   have hnot := qEF hr hoj hall
   have hbj : b j = false := by
    cases hb : b j with
    | false => rfl
    | true =>
     obtain ⟨e, he, hbind, hor⟩ := hjust j oj hoj hb
     have h5 := hall e he hbind
     rcases hor with h6 | h6
     ·exact absurd h6 (hnot e he hbind)
     ·rw [hbl _ h6] at h5; cases h5
   have hjc : j ≠ c := by
    rintro rfl
    rcases hbc with h | h
    ·rw [h] at hoj; cases hoj
    ·rw [h] at hbj; cases hbj
   have h2 := wpOp_putIf hoj (hfree j oj hoj hji hjun hnot) (fun cs b => hsel i oi cs b hi) (fun cs b => hsel j oj cs b hoj) hQ hy h1
   have hfree' : ∀ k ok, ops[k]? = some ok → k ≠ i → (listed.setIfInBounds j true).getD k true = false →
     (∀ e ∈ ok.after, Region.binds md e = true → e.on ≠ i) → oi.apart ops ok = true := fun k ok hk hki hun hno => by
    refine hfree k ok hk hki ?_ hno
    by_cases hjk : j = k
    ·subst hjk; exact hjun
    ·rw [getD_set_ne true hjk] at hun; exact hun
   have hbl' : ∀ k, b k = true → (listed.setIfInBounds j true).getD k false = false := fun k hk => by
    have hne : j ≠ k := by rintro rfl; rw [hk] at hbj; cases hbj
    rw [getD_set_ne false hne]; exact hbl k hk
   refine wpOp_mono (fun a' w' h3 => ⟨fun _ => ?_, fun e => absurd e hjc⟩) h2
   obtain ⟨rfl, h5⟩ := h3.2.1 hjc
   refine ⟨rfl, ih (listed.setIfInBounds j true) a' hfree' (ready_mono hr (Ne.symm hji)) hbl' h3.1 ?_⟩
   rw [Array.setIfInBounds_comm _ _ hji]; exact h5
end
/-! ### The check, and the theorem -/
abbrev Plan := List (Nat × Bool)
def opAt (ops : Array Oper) (i : Nat) : Oper := (ops[i]?).getD default
def reord (ops : Array Oper) (p : Plan) : List Oper := p.map fun x => opAt ops x.1
def nextWr (n : Nat) : Plan → Nat
 | [] => n
 | (i, true) :: _ => i
 | (_, false) :: r => nextWr n r
def tmpsIn (o : Oper) : List Tmp := o.op.operands.toList.filterMap fun | .tmp t => some t | _ => none
def needOf (need : Needs) (o : Oper) : Needs := need.filter fun p => (tmpsIn o).contains p.1
def blkPass (ops : Array Oper) (i : Nat) (b : Array Bool) : Array Bool :=
 (List.range ops.size).foldl (fun b j => if (match ops[j]? with | some o => o.after.any (fun e => Region.binds .any e && (e.on == i || b.getD e.on false)) | none => false) then b.setIfInBounds j true else b) b
def blkOf (ops : Array Oper) (i : Nat) : Array Bool := blkPass ops i (Array.replicate ops.size false)
def blkOk (ops : Array Oper) (listed : Array Bool) (i : Nat) (b : Array Bool) : Bool :=
 (List.range b.size).all fun j => !b.getD j false || (!listed.getD j false && (match ops[j]? with | some o => o.after.any (fun e => Region.binds .any e && (e.on == i || b.getD e.on false)) | none => true))
def stays (ops : Array Oper) (need : Needs) (o : Oper) (r : Plan) : Bool := r.all fun x => match (opAt ops x.1).dst with | some d => (needOf need o).all fun p => p.1 != d | none => true
def detOk (P : Program) (ops : Array Oper) (need : Needs) : Array Bool → Plan → Bool
 | listed, [] => (Region.ready .any ops listed).isEmpty
 | listed, (i, false) :: r =>
  (Region.ready .any ops listed).contains i && Region.free .any ops listed i && stays ops need (opAt ops i) ((i, false) :: r) && i != nextWr ops.size r &&
   (pureOp P (needOf need (opAt ops i)) (opAt ops i) ||
    (readOp P (needOf need (opAt ops i)) (opAt ops i) && (let b := blkOf ops i; blkOk ops listed i b && (nextWr ops.size r == ops.size || b.getD (nextWr ops.size r) false)))) &&
   detOk P ops need (listed.setIfInBounds i true) r
 | listed, (i, true) :: r => Region.ready .any ops listed == [i] && detOk P ops need (listed.setIfInBounds i true) r
theorem qCo {a : Act} {dst : Option Tmp} {v : Value} {t : Tmp} (h : dst ≠ some t) : (a.put dst v).tmps.getD t undef = a.tmps.getD t undef := by
 cases dst with
 | none => rfl
 | some d =>
  have : d ≠ t := fun e => h (by rw [e])
  simp [Act.put, Array.getElem?_setIfInBounds_ne this]
theorem reaches {P : Program} {ops : Array Oper} {need : Needs} {Q : Exit → Act → World → Prop} : ∀ (l : List Oper) (a : Act) (w : World), wpList P ops (OnlyN need Q) l a w →
  ∃ af, needOk need af = true ∧ ∀ t, (∀ o ∈ l, o.dst ≠ some t) → af.tmps.getD t undef = a.tmps.getD t undef
 | [], a, _, h => ⟨a, h.1, fun _ _ => rfl⟩
 | o :: l, a, w, h => by
  have go : ∀ (a' : Act) (w' : World), wpList P ops (OnlyN need Q) l a' w' → (∀ t, o.dst ≠ some t → a'.tmps.getD t undef = a.tmps.getD t undef) →
    ∃ af, needOk need af = true ∧ ∀ t, (∀ x ∈ o :: l, x.dst ≠ some t) → af.tmps.getD t undef = a.tmps.getD t undef := fun a' w' h' ha => by
   obtain ⟨af, h1, h2⟩ := reaches l a' w' h'
   exact ⟨af, h1, fun t ht => (h2 t (fun x hx => ht x (List.mem_cons_of_mem _ hx))).trans (ha t (ht o List.mem_cons_self))⟩
  unfold wpList at h
  split at h
  ·rcases h with h | h
   ·unfold Oper.wp at h
    generalize (execOp a.eval o).run P w = r at h
    cases r with
    | ok n w1 =>
     cases n <;> simp only [Oper.upon] at h
     case value v => exact go _ _ h fun t ht => qCo ht
     case skip => exact go _ _ h fun t ht => qCo ht
     case defer d => exact go _ _ h fun t ht => qCo (a := { a with defers := d :: a.defers }) ht
     case enter f args =>
      obtain ⟨e, w2, fr, hR, _⟩ := h []
      cases e with
      | returned v => exact go _ _ hR fun t ht => qCo ht
      | panicked c => exact hR.elim
      | outgrown => exact (OnlyN.letsOut hR).elim
     case row row args =>
      obtain ⟨v, w2, hR, _⟩ := h default []
      exact go _ _ hR fun t ht => qCo ht
    | halt x w1 => cases x <;> simp only [Oper.upon] at h <;> exact h.elim
   ·exact (OnlyN.letsOut h.2).elim
  ·exact go _ _ h fun t ht => qCo ht
theorem needOf_ok {P : Program} {ops : Array Oper} {need : Needs} {Q : Exit → Act → World → Prop} {o : Oper} {l : List Oper} {a : Act} {w : World} (h : wpList P ops (OnlyN need Q) l a w)
  (hst : ∀ x ∈ l, ∀ d, x.dst = some d → ∀ p ∈ needOf need o, p.1 ≠ d) : needOk (needOf need o) a = true := by
 obtain ⟨af, h1, h2⟩ := reaches l a w h
 unfold needOk at h1 ⊢
 rw [List.all_eq_true] at h1 ⊢
 intro p hp
 have hp0 := hp
 simp only [needOf, List.mem_filter, List.contains_iff_mem] at hp
 have h3 := h1 p hp.1
 rw [h2 p.1 (fun x hx hd => hst x hx p.1 hd p hp0 rfl)] at h3
 exact h3
theorem qDQ {P : Program} {ops : Array Oper} {need : Needs} {Q : Exit → Act → World → Prop} (hs : Region.noSelect ops = true) :
  ∀ (plan : Plan) (listed : Array Bool) (a : Act) (w : World), detOk P ops need listed plan = true → wpList P ops (OnlyN need Q) (reord ops plan) a w →
   wpAnyW P .any ops (OnlyN need Q) (nextWr ops.size plan) w plan.length listed a w
 | [], listed, a, w, hd, h => by
  have : Region.ready .any ops listed = [] := by simpa [detOk] using hd
  exact ⟨this, h⟩
 | (i, false) :: r, listed, a, w, hd, h => by
  simp only [detOk, Bool.and_eq_true] at hd
  obtain ⟨⟨⟨⟨⟨hr, hf⟩, hst⟩, hic⟩, hk⟩, hrest⟩ := hd
  have hr' : i ∈ Region.ready .any ops listed := by simpa using hr
  obtain ⟨_, oi, hoi, _⟩ := mem_ready.1 hr'
  have hat : opAt ops i = oi := by simp [opAt, hoi]
  have hne := needOf_ok (o := opAt ops i) h (fun x hx d hxd => by
   simp only [reord, List.mem_map] at hx
   obtain ⟨y, hy, rfl⟩ := hx
   have := List.all_eq_true.1 hst y hy
   simpa [hxd] using this)
  rw [hat] at hk hne
  have h' : wpList P ops (OnlyN need Q) (oi :: reord ops r) a w := by
   have e : reord ops ((i, false) :: r) = oi :: reord ops r := by simp [reord, hat]
   rwa [e] at h
  have hQ : ∀ v c a w, OnlyN need Q (.panic c) (a.put oi.dst v) w → OnlyN need Q (.panic c) a w := fun _ _ _ _ h => h.elim
  have hsel := fun j o cs b ho => Region.noSelect_spec hs j o cs b ho
  have hic' : i ≠ nextWr ops.size r := by simpa using hic
  -- the value, and the rest of the walk
  have key : ∀ (s : Sem Value), execOp a.eval oi = (do Pure.pure (Next.value (← s))) → ReadOk P s → Region.wanted oi (yielded ops a.tmps) = true →
    ∃ v, s.run P w = .ok v w ∧ wpList P ops (OnlyN need Q) (reord ops r) (a.put oi.dst v) w := fun s hex hread hw => by
   unfold wpList at h'
   rw [if_pos hw] at h'
   rcases h' with h' | h'
   ·unfold Oper.wp at h'
    rw [hex, Sem.run_bind] at h'
    cases hrun : s.run P w with
    | ok v w1 =>
     obtain rfl := hread _ _ _ hrun
     rw [hrun] at h'
     exact ⟨v, rfl, h'⟩
    | halt x w1 =>
     rw [hrun] at h'
     cases x <;> exact h'.elim
   ·exact (OnlyN.letsOut h'.2).elim
  have unw : Region.wanted oi (yielded ops a.tmps) = false → wpList P ops (OnlyN need Q) (reord ops r) (a.put oi.dst undef) w := fun hw => by
   unfold wpList at h'
   rw [if_neg (by rw [hw]; decide)] at h'
   exact h'
  rcases (Bool.or_eq_true _ _).mp hk with hp | hp
  ·obtain ⟨s, hex, hloc⟩ := qBm hp hne
   cases hw : Region.wanted oi (yielded ops a.tmps) with
   | true =>
    obtain ⟨v, hrun, hnext⟩ := key s hex hloc.read hw
    have hy : Yields P ops oi v a := .inl ⟨hw, fun w' => by
     rw [hex, Sem.run_bind, (hloc _ _ _ hrun).2 w']; rfl⟩
    exact W_pure hoi hic' hsel (hQ v) r.length listed a (Region.free_spec hoi hf) hr' hy (qDQ hs r _ _ w hrest hnext)
   | false => exact W_pure hoi hic' hsel (hQ undef) r.length listed a (Region.free_spec hoi hf) hr' (.inr ⟨hw, rfl⟩) (qDQ hs r _ _ w hrest (unw hw))
  ·simp only [Bool.and_eq_true, Bool.or_eq_true] at hp
   obtain ⟨hp, hb, hbc⟩ := hp
   have hb' := List.all_eq_true.1 hb
   have hbl : ∀ j, (blkOf ops i).getD j false = true → listed.getD j false = false ∧ (∀ oj, ops[j]? = some oj → ∃ e ∈ oj.after, Region.binds .any e = true ∧ (e.on = i ∨ (blkOf ops i).getD e.on false = true)) := fun j hj => by
    have hlt : j < (blkOf ops i).size := by
     rcases Nat.lt_or_ge j (blkOf ops i).size with h | h
     ·exact h
     ·simp [Array.getElem?_eq_none h] at hj
    have := hb' j (List.mem_range.2 hlt)
    rw [hj] at this
    simp only [Bool.not_true, Bool.false_or, Bool.and_eq_true] at this
    refine ⟨by simpa using this.1, fun oj hoj => ?_⟩
    have h2 := this.2
    simp only [hoj] at h2
    rw [← Array.any_toList, List.any_eq_true] at h2
    obtain ⟨e, he, h3⟩ := h2
    simp only [Bool.and_eq_true, Bool.or_eq_true, beq_iff_eq] at h3
    exact ⟨e, by simpa using he, h3.1, h3.2⟩
   have hbc' : ops[nextWr ops.size r]? = none ∨ (blkOf ops i).getD (nextWr ops.size r) false = true := by
    rcases hbc with h | h
    ·left; rw [beq_iff_eq] at h; rw [h]; simp
    ·exact .inr h
   obtain ⟨s, hex, hread⟩ := readOp_read hp hne
   cases hw : Region.wanted oi (yielded ops a.tmps) with
   | true =>
    obtain ⟨v, hrun, hnext⟩ := key s hex hread hw
    have hy : YieldsIf P ops (· = w) oi v a := .inl ⟨hw, fun w' e => by
     subst e; rw [hex, Sem.run_bind, hrun]; rfl⟩
    exact W_take (fun j => (blkOf ops i).getD j false) hoi hic' hsel (hQ v) (fun j oj hoj hj => (hbl j hj).2 oj hoj) hbc' r.length listed a (Region.free_spec hoi hf) hr' (fun j hj => (hbl j hj).1) hy (qDQ hs r _ _ w hrest hnext)
   | false => exact W_take (fun j => (blkOf ops i).getD j false) hoi hic' hsel (hQ undef) (fun j oj hoj hj => (hbl j hj).2 oj hoj) hbc' r.length listed a (Region.free_spec hoi hf) hr' (fun j hj => (hbl j hj).1) (.inr ⟨hw, rfl⟩) (qDQ hs r _ _ w hrest (unw hw))
 | (i, true) :: r, listed, a, w, hd, h => by
  simp only [detOk, Bool.and_eq_true] at hd
  have hr : Region.ready .any ops listed = [i] := by simpa using hd.1
  have hr' : i ∈ Region.ready .any ops listed := by rw [hr]; simp
  obtain ⟨_, oi, hoi, _⟩ := mem_ready.1 hr'
  have hat : opAt ops i = oi := by simp [opAt, hoi]
  have h' : wpList P ops (OnlyN need Q) (oi :: reord ops r) a w := by
   have e : reord ops ((i, true) :: r) = oi :: reord ops r := by simp [reord, hat]
   rwa [e] at h
  refine ⟨fun h0 => (by rw [hr] at h0; cases h0), fun j hj => ?_⟩
  rw [hr] at hj
  obtain rfl : j = i := by simpa using hj
  have h1 : wpOp P ops (OnlyN need Q) j (wpList P ops (OnlyN need Q) (reord ops r)) a w := by
   unfold wpOp; rw [hoi]; unfold wpList at h'; exact h'
  exact wpOp_mono (fun a' w' h2 => ⟨fun e => absurd rfl e, fun _ => qER _ _ _ _ (qDQ hs r _ a' w' hd.2 h2)⟩) h1
theorem qAF {P : Program} {id : Nat} {l : List Oper} {Q : Exit → Act → World → Prop} {a : Act} {w : World} (plan : Plan) (need : Needs) (hm : P.follows .mixedOrders = true)
  (hs : Region.noSelect l.toArray = true) (hn : plan.length = l.length) (hd : detOk P l.toArray need (Array.replicate l.length false) plan = true)
  (h : wpList P l.toArray (OnlyN need Q) (reord l.toArray plan) a w.drew) : (Code.region id l.toArray true).wp P Q a w := by
 refine Code.wp_mono (Q := OnlyN need Q) (fun e a w h => ?_) ?_
 ·cases e <;> first | exact h.2 | exact h.elim
 ·refine wp_region_any hm (qER _ _ _ _ (?_ : wpAnyW P .any l.toArray (OnlyN need Q) (nextWr l.toArray.size plan) w.drew l.toArray.size (Array.replicate l.toArray.size false) a w.drew))
  have := qDQ hs plan (Array.replicate l.length false) a w.drew hd h
  rw [hn] at this
  exact this
end TL
end Go

namespace Go
namespace TL
open Go.RowKit
def absorb : Nat → St → List UInt8 → St
 | 0, h, _ => h
 | n + 1, h, l => absorb n (turnS h h K64 (l.take 64)) (l.drop 64)
theorem qDl (n : Nat) : ∀ (h : St) (l : List UInt8), absorb (n + 1) h l = turnS (absorb n h l) (absorb n h l) K64 ((l.drop (64 * n)).take 64) := by
 induction n with
 | zero => intro h l; simp [absorb]
 | succ n ih =>
  intro h l
  rw [absorb, ih, absorb, List.drop_drop]
  rw [show 64 + 64 * n = 64 * (n + 1) by omega]
section
variable {w w1 : World} {base b : Nat} {h : St} {rv : Value} {rest : List UInt8} {n : Nat}
theorem ShaAt.setN (S : ShaAt w base b h rv rest n) (m : Nat) : ShaAt (w.setCell ⟨b, 73, none⟩ (.int .i64 m)) base b h rv rest m :=
  ⟨S.lo, by simpa using S.lt, qAc S.hh _ (by right; right; simp [St.cells]) _, qAo S.ht _ _, qAc S.kk _ (by right; right; simp [qBh]) _,
   by rw [World.cell?_setCell_other _ _ _ _ yB1]; exact S.rc, by rw [World.frozen?_setCell]; exact S.rf, S.ro.setCell _ S.rne _, S.rne, World.cell?_setCell_same _ _ _ S.nc, by rw [World.frozen?_setCell]; exact S.nf,
   by rw [World.cell?_setCell_other _ _ _ _ yB1]; exact S.mc⟩
theorem ShaAt.kept (S : ShaAt w base b h rv rest n) (hb : w1.heap[b]? = w.heap[b]?) (hs : w.heap.size ≤ w1.heap.size) {v' : Value} {rest' : List UInt8} (ho : OwnB w1 base v' rest') (hne : v'.ownBlock ≠ some b) :
    ShaAt (w1.setCell ⟨b, 72, none⟩ v') base b h v' rest' n := by
  have rc' : w1.cell? ⟨b, 72, none⟩ = some rv := by rw [World.cell?_of_block (w := w) (a := ⟨b, 72, none⟩) hb]; exact S.rc
  exact ⟨S.lo, by have := S.lt; simp; omega, qAc (rangeAt_of_block S.hh hb) _ (by right; right; simp [St.cells]) _, qAo (qAZ S.ht hb) _ _, qAc (rangeAt_of_block S.kk hb) _ (by right; right; simp [qBh]) _,
   World.cell?_setCell_same _ _ _ rc', by rw [World.frozen?_setCell, World.frozen?_of_block (w := w) (a := ⟨b, 72, none⟩) hb]; exact S.rf, Own.setCell ho _ hne _, hne,
   by rw [World.cell?_setCell_other _ _ _ _ yB1, World.cell?_of_block (w := w) (a := ⟨b, 73, none⟩) hb]; exact S.nc, by rw [World.frozen?_setCell, World.frozen?_of_block (w := w) (a := ⟨b, 73, none⟩) hb]; exact S.nf,
   by rw [World.cell?_setCell_other _ _ _ _ yB1, World.cell?_of_block (w := w) (a := ⟨b, 74, none⟩) hb]; exact S.mc⟩
theorem ShaAt.below (S : ShaAt w base b h rv rest n) (hb : Below w.heap.size w w1) : ShaAt w1 base b h rv rest n := by
 have e := hb.block b S.lt
 exact ⟨S.lo, Nat.lt_of_lt_of_le S.lt hb.size, rangeAt_of_block S.hh e, qAZ S.ht e, rangeAt_of_block S.kk e, by rw [World.cell?_of_block (w := w) (a := ⟨b, 72, none⟩) e]; exact S.rc, by rw [World.frozen?_of_block (w := w) (a := ⟨b, 72, none⟩) e]; exact S.rf,
  Own.below S.ro hb, S.rne, by rw [World.cell?_of_block (w := w) (a := ⟨b, 73, none⟩) e]; exact S.nc, by rw [World.frozen?_of_block (w := w) (a := ⟨b, 73, none⟩) e]; exact S.nf, by rw [World.cell?_of_block (w := w) (a := ⟨b, 74, none⟩) e]; exact S.mc⟩
theorem ShaAt.drew (S : ShaAt w base b h rv rest n) : ShaAt w.drew base b h rv rest n :=
 ⟨S.lo, S.lt, S.hh, S.ht, S.kk, S.rc, S.rf, S.ro, S.rne, S.nc, S.nf, S.mc⟩
theorem ShaAt.setH (S : ShaAt w base b h rv rest n) (h' : St) : ShaAt (w.setCells b 0 h'.cells) base b h' rv rest n := by
 have out : ∀ k, 8 ≤ k → (w.setCells b 0 h'.cells).cell? ⟨b, k, none⟩ = w.cell? ⟨b, k, none⟩ := fun k hk =>
  World.cell?_setCells_out b h'.cells 0 w ⟨b, k, none⟩ (fun _ _ => .inr (by simpa [St.cells] using hk))
 exact ⟨S.lo, by rw [size_setCells]; exact S.lt, World.rangeAt_setCells_same _ _ _ _ S.ht, World.there_setCells S.ht _ _ _, World.rangeAt_setCells_apart S.kk _ _ _ (.inr (.inr (by simp [St.cells]))),
  by rw [out 72 yF]; exact S.rc, by rw [World.frozen?_setCells]; exact S.rf, S.ro.kept (qBH _ _ _ _) (.inr S.rne), S.rne, by rw [out 73 yF]; exact S.nc, by rw [World.frozen?_setCells]; exact S.nf, by rw [out 74 yF]; exact S.mc⟩
end
def restLen (b : Nat) (w : World) : Nat := match w.cell? ⟨b, 72, none⟩ with | some (.slice _ n _) => n | _ => 0
theorem ShaAt.restLen {w : World} {base b : Nat} {h : St} {rv : Value} {rest : List UInt8} {n : Nat} (S : ShaAt w base b h rv rest n) : restLen b w = rest.length := by
 obtain ⟨a, cap, e, _⟩ := S.ro.sees.form
 unfold TL.restLen; rw [S.rc, e]
end TL
end Go
namespace Go.Proofs.YtidadhbaomieiaaGreat
open Go.RowKit Go.TL
theorem Write_any (base b : Nat) (s : ByteArray) (w : World) (hs : s.size ≤ 1000000000000) (hbase : base ≤ w.heap.size) (S : ShaAt w base b H0 (.slice none 0 0) [] 0) :
  Calls Tryz.prog 117 #[.pointer (some ⟨b, 0, none⟩), .string s] w fun e w' => e = .returned (.int .i64 s.size) ∧
   (∃ rv, ShaAt w' base b (absorb (s.size / 64) H0 s.data.toList) rv (s.data.toList.drop (64 * (s.size / 64))) s.size) ∧ Below base w w' := by
 have m0 := S.mc
 have n0 := S.nc
 have nf0 := S.nf
 have r0 := S.rc
 have rf0 := S.rf
 have S' := Lib.hid S; clear S
 go_enter Tryz.func117, Tryz.ntmps117
 go_wp2_with (first | (go_at_call 158; refine (none_no _ b m0).mono ?_; rintro e w1 ⟨rfl, rfl⟩) | ((with_reducible show wpList _ _ _ (Oper.mk _ (Op.call ⟨Callee.builtin Builtin.append, _, _⟩) _ _ _ _ :: _) _ _); (refine qDm bytesT rfl _ _ _ rfl uS base (.slice none 0 0) 0 [] rfl (S'.out.setN s.size).ro (.string s) s.size _ rfl (qEf _ s) ?_ ?_ ?_ ?_)))
 ·simp only [maxLen]; omega
 ·omega
 ·simpa using hbase
 ·intro v1 w1 hown1 hg1 hf1 _
  replace hown1 : Own w1 base 1 v1 s.size (List.map vb s.data.toList) := by simpa using hown1
  have S1 := S'.out.setN s.size
  have hsz1 : w.heap.size ≤ w1.heap.size := by have := hg1.size; simpa using this
  have hbk1 : w1.heap[b]? = (w.setCell ⟨b, 73, none⟩ (.int .i64 s.size)).heap[b]? := hg1.block b S1.lt (by simp [Value.ownBlock])
  have hne1 : v1.ownBlock ≠ some b := by
   have := S1.lt
   rcases hf1 with e | e
   ·rw [e]; simp [Value.ownBlock]
   ·rw [e]; simp at this ⊢; omega
  have hlen : (s.data.toList).length = s.size := by rw [Array.length_toList]; rfl
  have ho1 : OwnB w1 base v1 s.data.toList := by show Own _ _ _ _ s.data.toList.length _; rw [hlen]; exact hown1
  have S2 := Lib.hid (S1.kept hbk1 hg1.size ho1 hne1)
  have B1 : Below base w w1 := ((Below.refl base w).setCell (p := ⟨b, 73, none⟩) S'.out.lo _).trans ((Below.refl base _).grown hg1 (by simpa using hbase) (by simp [Value.ownBlock]))
  have B2 := Lib.hid (B1.setCell (p := ⟨b, 72, none⟩) S'.out.lo v1)
  have r1 : w1.cell? ⟨b, 72, none⟩ = some (.slice none 0 0) := by rw [World.cell?_of_block (w := w.setCell ⟨b, 73, none⟩ (.int .i64 s.size)) (a := ⟨b, 72, none⟩) hbk1]; exact S1.rc
  have rf1 : w1.frozen? ⟨b, 72, none⟩ = false := by rw [World.frozen?_of_block (w := w.setCell ⟨b, 73, none⟩ (.int .i64 s.size)) (a := ⟨b, 72, none⟩) hbk1]; exact S1.rf
  have hsz2 := Lib.hid (Nat.le_trans hbase hsz1)
  have hlen' := Lib.hid hlen
  obtain ⟨a1, c1, e1, _⟩ := ho1.sees.form
  rw [hlen] at e1
  subst e1
  clear hown1 hg1 hf1 S1 hbk1 ho1 B1 hlen hsz1
  go_wp2_with fail
  go_loopw [25] (fun _ wr => ∃ (j : Nat) (rv : Value), 64 * j ≤ s.size ∧ ShaAt wr base b (absorb j H0 s.data.toList) rv (s.data.toList.drop (64 * j)) s.size ∧ Below base w wr) (fun _ wr => restLen b wr)
  case atStart => exact ⟨0, _, by omega, S2.out, B2.out⟩
  case round =>
   obtain ⟨j, rv, hj, S, B⟩ := hrel
   have hrl : (s.data.toList.drop (64 * j)).length = s.size - 64 * j := by rw [List.length_drop, hlen'.out]
   have hln := Sees.run_len S.ro.sees 70 5 3 Tryz.underlying70
   rw [hrl] at hln
   have rc := S.rc
   have rf := S.rf
   have T := Lib.hid S; clear S
   have B' := Lib.hid B; clear B
   have Hrl := Lib.hid hrl; clear hrl
   by_cases hlt : 64 ≤ s.size - 64 * j
   ·have hd : decide ((s.size - 64 * j : Nat) ≥ (64 : Int)) = true := by simp; omega
    obtain ⟨hj', ehj⟩ : ∃ x, x = absorb j H0 s.data.toList := ⟨_, rfl⟩
    rw [← ehj] at T
    have Ehj := Lib.hid ehj; clear ehj
    have hcut := T.out.ro.sees.run_cut_hi bytesT 64 yF (by rw [Hrl.out]; omega)
    have hsee := SeesB.cut T.out.ro.sees 0 64 yF (by rw [Hrl.out]; omega)
    obtain ⟨cv, ecv⟩ : ∃ x, x = cutV 1 rv 0 64 := ⟨_, rfl⟩
    rw [show (64 : Int).toNat = 64 from rfl, ← ecv] at hcut
    rw [← ecv, List.drop_zero] at hsee
    have Hsee := Lib.hid hsee; clear hsee ecv
    go_wp2_with fail
    refine qAF [(0, false), (1, false), (2, false), (3, false), (5, false), (6, false), (7, false), (9, false), (10, false), (11, false), (12, false), (13, false), (14, false), (4, false), (8, false), (15, false), (16, false), (17, true), (18, false), (19, false), (20, true)] [(32, .ptr), (36, .ptr), (40, .ptr), (43, .ptr), (31, .ptr)] yD yD rfl yD ?_
    simp only [reord, opAt, List.map_cons, List.map_nil, gE]
    go_wp2_with (first | ((with_reducible show wpList _ _ _ (Oper.mk _ (Op.load 213 _) _ _ _ _ :: _) _ _); (refine wpList_load_mid rfl 213 _ rfl b 0 rfl _ _ T.out.drew.hh Tryz.underlying213 rfl yD ?_)) | (go_at_call 159; refine (turn_any hj' hj' K64 qBh b 8 cv ((s.data.toList.drop (64 * j)).take 64) (by rw [List.length_take, Hrl.out]; omega) _ (by exact T.out.drew.kk) (by exact Sees.drew Hsee.out)).mono ?_; rintro e w1 ⟨rfl, hb1⟩; have S3 := Lib.hid (T.out.drew.below hb1)) | ((with_reducible show wpList _ _ _ (Oper.mk none (Op.store 213 _ _) _ _ _ _ :: _) _ _); (refine qAn rfl 213 _ _ rfl b 0 _ rfl rfl (by exact S3.out.ht) yD (by simp [Value.oneCell', St.cells, vw]) ?_)))
    refine OnlyN.intro yD ?_
    have S4 := Lib.hid (S3.out.setH (turnS hj' hj' K64 ((s.data.toList.drop (64 * j)).take 64)))
    have rc4 := S4.out.rc
    have rf4 := S4.out.rf
    have hb1' := Lib.hid hb1; clear hb1
    have hlo := S4.out.ro.sees.run_cut_lo bytesT 64 yF (by rw [Hrl.out]; omega)
    have ho5 := OwnB.cut S4.out.ro 64 (s.data.toList.drop (64 * j)).length (by rw [Hrl.out]; omega) (Nat.le_refl _)
    rw [List.take_length, List.drop_drop, show 64 * j + 64 = 64 * (j + 1) by omega] at ho5
    have hne5 := qED (size := 1) rv 64 (s.data.toList.drop (64 * j)).length
    have hlen5 : (s.data.toList.drop (64 * (j + 1))).length = s.size - 64 * (j + 1) := by rw [List.length_drop, hlen'.out]
    obtain ⟨a2, c2, e2, _⟩ := ho5.sees.form
    rw [hlen5] at e2
    rw [show (64 : Int).toNat = 64 from rfl, e2] at hlo
    rw [e2] at ho5 hne5
    have S5 := Lib.hid (S4.out.kept rfl (Nat.le_refl _) ho5 (by rw [hne5]; exact S4.out.rne))
    have hlen6 := Lib.hid hlen5
    clear e2 ho5 hne5 hlen5
    go_wp2_with fail
    go_roundw
    case rel =>
     have e : absorb (j + 1) H0 s.data.toList = turnS hj' hj' K64 ((s.data.toList.drop (64 * j)).take 64) := by rw [qDl, ← Ehj.out]
     exact ⟨j + 1, .slice a2 (s.size - 64 * (j + 1)) c2, by omega, by rw [e]; exact S5.out, (below_setCells S'.out.lo _ _ _ (B'.out.drew.trans (hb1'.out.mono (Nat.le_trans hbase B'.out.size)))).setCell (p := ⟨b, 72, none⟩) S'.out.lo _⟩
    case measure =>
     rw [S5.out.restLen, T.out.restLen, hlen6.out, Hrl.out]; omega
   ·go_wp2_with fail
    go_ret
    have hq : s.size / 64 = j := by omega
    rw [hq]
    exact ⟨rfl, ⟨rv, T.out⟩, B'.out⟩
end Go.Proofs.YtidadhbaomieiaaGreat

namespace Go
namespace TL
open Go.RowKit
section
variable {P : Program} {w : World}
theorem qEm {t e : TypeId} {size bytes : Nat} (T : SliceT P t e size bytes) (u ty : TypeId) (b o dl dc : Nat) (xv : Value) (m : Nat) (news : List Value) (hsrc : Src P w size xv m news)
  (k : Nat) (hk : k = Nat.min m dl) (hth : w.there b o (k * size)) :
  (Builtin.copy_ #[t, u] ty #[.slice (some ⟨b, o, none⟩) dl dc, xv]).run P w = .ok (.int .i64 k) (w.setCells b o (news.take (k * size))) := by
 obtain ⟨ht, ⟨i, z, hi, hz, hsize, hby, hzs⟩, hsz⟩ := T
 obtain ⟨hl, h1, hlen, hfirst⟩ := hsrc
 have hkm : k ≤ m := by rw [hk]; exact Nat.min_le_left _ _
 have hf := hfirst w k hkm (grownBy_refl w none)
 have hlk : (news.take (k * size)).length = k * size := by
  rw [List.length_take, hl]; exact Nat.min_eq_left (Nat.mul_le_mul_right _ hkm)
 have hst := qBL (P := P) (news.take (k * size)) (by rw [hlk]; exact hth) (fun u hu => h1 u (List.mem_of_mem_take hu))
 simp [Builtin.copy_, run_underlying ht, hlen, sizeOf, typeInfo, hi, hsize, ← hk, hf, hst, goInt]
theorem qDa {ops : Array Oper} {rest : List Oper} {op : Oper} {a : Act} {Q : Exit → Act → World → Prop} {t e : TypeId} {size bytes : Nat} (T : SliceT P t e size bytes) (hgd : op.guard = none) (d x : Operand) (u : TypeId)
  (ho : op.op = .call { callee := .builtin .copy, args := #[d, x], argTypes := #[t, u] })
  (b o dl dc : Nat) (hd : a.eval d = .slice (some ⟨b, o, none⟩) dl dc) (xv : Value) (m : Nat) (news : List Value) (hx : a.eval x = xv) (hsrc : Src P w size xv m news)
  (k : Nat) (hk : k = Nat.min m dl) (hth : w.there b o (k * size))
  (h : wpList P ops Q rest (a.put op.dst (.int .i64 k)) (w.setCells b o (news.take (k * size)))) : wpList P ops Q (op :: rest) a w :=
 wpList_plain hgd fun _ hK => by
  have hr := qEm (P := P) (w := w) T u op.type b o dl dc xv m news hsrc k hk hth
  unfold Oper.wp execOp
  simp only [ho, resolve, invoke, builtin, Sem.run_bind, Sem.run_pure, Result.andThen_ok, List.map_toArray, List.map_cons, List.map_nil, hd, hx, hr]
  exact hK _ _ h
theorem qAz {ops : Array Oper} {rest : List Oper} {op : Oper} {a : Act} {Q : Exit → Act → World → Prop} (hgd : op.guard = none) (t : TypeId) (ho : op.op = .alloc t) (C : Array Value) (hz : (zeroValue t).run P w = .ok (.agg C) w)
  (h : ∀ w1, Below w.heap.size w w1 → w1.heap.size = w.heap.size + 1 → w1.rangeAt w.heap.size 0 C.toList → w1.there w.heap.size 0 C.size → wpList P ops Q rest (a.put op.dst (.pointer (some ⟨w.heap.size, 0, none⟩))) w1) : wpList P ops Q (op :: rest) a w :=
 wpList_plain hgd fun _ hK => by
  unfold Oper.wp execOp
  have hr : (Instr.alloc t true (.tuple #[])).run P w = .ok (.pointer (some ⟨w.heap.size, 0, none⟩)) (w.alloc (.cells C t)) := by
   simp only [Instr.alloc, Sem.run_bind, hz, Result.andThen_ok]; rfl
  simp only [ho, Sem.run_bind, hr, Result.andThen_ok]
  exact hK _ _ (h _ ((Below.refl _ _).alloc (Nat.le_refl _) _) yB1 (qBC w C t (0, 0)) (qBP w C t C.size (Nat.le_refl _)))
theorem OwnB_empty (w : World) (base g : Nat) (hb : base ≤ g) (hg : g < w.heap.size) : OwnB w base (.slice (some ⟨g, 0, none⟩) 0 0) [] :=
 ⟨by simp, .inr ⟨g, 0, 0, rfl, hb, hg, Nat.le_refl _, Nat.zero_le _, qCC _ _ _, fun j hj => by simp at hj⟩⟩
def lenV : Value → Nat | .slice _ n _ => n | _ => 0
theorem Sees.lenV {size : Nat} {v : Value} {n : Nat} {xs : List Value} (h : Sees w size v n xs) : lenV v = n := by
 obtain ⟨a, c, rfl, _⟩ := h.form; rfl
theorem qDu {P : Program} (t e : TypeId) (n : Nat) (cs : Array Value) (h : P.underlying t = some (.array n e)) (d : TypeDesc) (hu : P.underlying e = some d) (hd : d.isRow = false) (hi : (P.info? e).map (·.size) = some 1)
  (i : Nat) (hn : i < n) (v : Value) (hv : cs[i]? = some v) (w : World) : (Instr.index t (.agg cs) (.int .i64 i)).run P w = .ok v w := by
 cases hq : P.info? e with
 | none => simp [hq] at hi
 | some inf =>
  have hsz : inf.size = 1 := by simpa [hq] using hi
  cases d <;> first | (simp [TypeDesc.isRow] at hd; done) | simp [Instr.index, run_underlying h, run_underlying hu, asIntOf, hn, sizeOf, typeInfo, hq, hsz, part, isAgg, hv]
theorem qFO {P : Program} (t e : TypeId) (n : Nat) (ht : P.underlying t = some (.array n e)) (hi : (P.info? e).map (·.size) = some 1) (b o l : Nat) (hl : l < n) (z : Int) (hz : z = l) (w : World) :
  (Instr.sliceAt t (.pointer (some ⟨b, o, none⟩)) (some (.int .i64 z)) none none).run P w = .ok (.slice (some ⟨b, o + l, none⟩) (n - l) (n - l)) w := by
 have hn : P.arrayLen t = n := by simp [Program.arrayLen, ht]
 have he : P.elem t = e := by simp [Program.elem, ht]
 subst hz
 rw [run_sliceAt_array_l w t _ (by rw [hn, he]; exact ht) .i64 l yF (by rw [hn]; omega), hn, he]
 cases hq : P.info? e with
 | none => simp [hq] at hi
 | some inf =>
  have hsz : inf.size = 1 := by simpa [hq] using hi
  simp [sizeOf, typeInfo, hq, hsz, slicedAt, Addr.add, show n ≠ l by omega]
theorem wpList_want {P : Program} {ops : Array Oper} {rest : List Oper} {o : Oper} {a : Act} {w : World} {Q : Exit → Act → World → Prop} (hw : Region.wanted o (yielded ops a.tmps) = true)
  (h : o.wp P a w (fun a' w' => wpList P ops Q rest a' w') Q) : wpList P ops Q (o :: rest) a w := by
 unfold wpList
 rw [if_pos hw]
 exact .inl h
/-! ### Two arrays of bytes, compared -/
theorem run_partB {P : Program} {e : TypeId} (he : P.underlying e = some (.int .u8)) (l : List UInt8) (i : Nat) (h : i < l.length) (w : World) : (part e (l.map vb).toArray i).run P w = .ok (vb l[i]) w := by
 simp [part, isAgg, run_underlying he, h]
theorem qCx {P : Program} {e : TypeId} (he : P.underlying e = some (.int .u8)) (d : Nat) (l m : List UInt8) (hlm : l.length = m.length) (w : World) : ∀ is : List Nat, (∀ i ∈ is, i < l.length) →
  (Op.eqItems (d + 1) e 1 (l.map vb).toArray (m.map vb).toArray is).run P w = .ok (is.all fun i => l[i]? == m[i]?) w
 | [], _ => rfl
 | i :: is, h => by
  have hi := h i List.mem_cons_self
  have hi2 : i < m.length := hlm ▸ hi
  unfold Op.eqItems
  simp only [Nat.mul_one, Sem.run_bind, run_partB he l i hi w, run_partB he m i hi2 w, Result.andThen_ok, vb, run_equalIn_int w d e .u8 .u8 _ _ he, List.all_cons, List.getElem?_eq_getElem hi, List.getElem?_eq_getElem hi2]
  have e1 : (I8 l[i] == I8 m[i]) = (l[i] == m[i]) := by
   rw [Bool.eq_iff_iff, beq_iff_eq, beq_iff_eq, I8_eq, I8_eq]
   exact ⟨fun h => UInt8.toNat_inj.1 yF, fun h => by rw [h]⟩
  rw [e1]
  cases hq : (l[i] == m[i]) with
  | false => simp [hq]
  | true => simp [hq, qCx he d l m hlm w is fun j hj => h j (List.mem_cons_of_mem _ hj)]
theorem all_range_eq (l m : List UInt8) (h : l.length = m.length) : ((List.range l.length).all fun i => l[i]? == m[i]?) = (l == m) := by
 rw [Bool.eq_iff_iff, beq_iff_eq, List.all_eq_true]
 constructor
 ·intro hall
  refine List.ext_getElem? fun i => ?_
  by_cases hi : i < l.length
  ·simpa using hall i (List.mem_range.2 hi)
  ·rw [List.getElem?_eq_none yF, List.getElem?_eq_none yF]
 ·rintro rfl i _; simp
structure EqRow (P : Program) (t : TypeId) (l m : List UInt8) : Prop where
 eql : ∀ w : World, (binOp .eql t (.agg (l.map vb).toArray) (.agg (m.map vb).toArray)).run P w = .ok (.bool (l == m)) w
 neq : ∀ w : World, (binOp .neq t (.agg (l.map vb).toArray) (.agg (m.map vb).toArray)).run P w = .ok (.bool (!(l == m))) w
 guardE : ∀ (x y : Operand) (w : World), (eqGuard .eql t x y (.agg (l.map vb).toArray) (.agg (m.map vb).toArray)).run P w = .ok () w
 guardN : ∀ (x y : Operand) (w : World), (eqGuard .neq t x y (.agg (l.map vb).toArray) (.agg (m.map vb).toArray)).run P w = .ok () w
theorem eqRow {P : Program} {t e : TypeId} {n : Nat} (hu : P.underlying t = some (.array n e)) (he : P.underlying e = some (.int .u8)) (hc : P.cellsOf e = 1) (hg : P.eqGuardType P.depth t = false) (l m : List UInt8) (hl : l.length = n) (hm : m.length = n) : EqRow P t l m := by
 have key : ∀ w : World, (Op.equal t (.agg (l.map vb).toArray) (.agg (m.map vb).toArray)).run P w = .ok (l == m) w := fun w => by
  obtain ⟨i, hi⟩ := info_of_underlying he
  have := run_equalIn_array w 9999 (l.map vb).toArray (m.map vb).toArray hu hi
  rw [hc, qCx he 9998 l m yF w (List.range n) (fun i hi => by rw [hl]; exact List.mem_range.1 hi)] at this
  rw [← hl, all_range_eq l m yF] at this
  exact this
 refine ⟨fun w => ?_, fun w => ?_, fun x y w => ?_, fun x y w => ?_⟩
 ·simp only [binOp, Sem.run_bind, key w, Result.andThen_ok, Sem.run_pure]
 ·simp only [binOp, Sem.run_bind, key w, Result.andThen_ok, Sem.run_pure]
 ·have : (eqGuard .eql t x y (.agg (l.map vb).toArray) (.agg (m.map vb).toArray)).run P w = (Pure.pure () : Sem Unit).run P w := by
   have hp : ∀ w : World, (program).run P w = .ok P w := fun _ => rfl
   simp only [eqGuard]; simp [hp, hg]
  rw [this]; rfl
 ·have : (eqGuard .neq t x y (.agg (l.map vb).toArray) (.agg (m.map vb).toArray)).run P w = (Pure.pure () : Sem Unit).run P w := by
   have hp : ∀ w : World, (program).run P w = .ok P w := fun _ => rfl
   simp only [eqGuard]; simp [hp, hg]
  rw [this]; rfl
theorem nums_vb (l : List UInt8) : Shape.ok .nums (.agg (l.map vb).toArray) = true := by
 refine Shape.ok_of ?_
 simp [Shape.strict, numsV, vb, isIntV]
end
end TL
end Go

namespace Go
namespace TL
open Go.RowKit
def zpad (r : Nat) : Nat := (119 - r % 64) % 64
def padB (rest : List UInt8) (n : Nat) : List UInt8 := rest ++ [128] ++ List.replicate (zpad rest.length) 0 ++ bigB (UInt64.ofNat n * 8) 8
def outB (s : St) : List UInt8 := s.words.flatMap fun x => bigB x.toUInt64 4
def sumS (h : St) (rest : List UInt8) (n : Nat) : List UInt8 := outB (absorb ((padB rest n).length / 64) h (padB rest n))
theorem qBc (s : St) : (outB s).length = 32 := rfl
structure PI (w wr : World) (bv : Value) (l : List UInt8) : Prop where
 bel : Below w.heap.size w wr
 own : OwnB wr (w.heap.size + 1) bv l
 out : wr.there w.heap.size 0 32
 sz : w.heap.size < wr.heap.size
theorem PI.step {w wr w' : World} {bv v' : Value} {l l' : List UInt8} (h : PI w wr bv l) (ho : OwnB w' (w.heap.size + 1) v' l') (hg : wr.grownBy w' bv.ownBlock) : PI w w' v' l' := by
 have hne : ∀ k, bv.ownBlock = some k → w.heap.size + 1 ≤ k := fun k e => (Own.base_le h.own e).1
 refine ⟨h.bel.trans (qBp hg (Nat.le_of_lt h.sz) fun k e => by have := hne k e; omega), ho, qAZ h.out (hg.block _ h.sz ?_), Nat.lt_of_lt_of_le h.sz hg.size⟩
 cases e : bv.ownBlock with
 | none => simp
 | some k => intro e2; injection e2 with e2; have := hne k e; omega
theorem PI.drew {w wr : World} {bv : Value} {l : List UInt8} (h : PI w wr bv l) : PI w wr.drew bv l := ⟨h.bel.drew, h.own, h.out, h.sz⟩
structure RI (w wr : World) (s : St) (i : Nat) : Prop where
 bel : Below w.heap.size w wr
 out : wr.there w.heap.size 0 32
 sz : w.heap.size < wr.heap.size
 got : wr.rangeAt w.heap.size 0 (((outB s).take (4 * i)).map vb)
theorem outB_take (s : St) (i : Nat) (hi : i < 8) : ∃ x, s.words[i]? = some x ∧ s.cells.toArray[i]? = some (vw x) ∧ (outB s).take (4 * (i + 1)) = (outB s).take (4 * i) ++ bigB x.toUInt64 4 := by
 have : i = 0 ∨ i = 1 ∨ i = 2 ∨ i = 3 ∨ i = 4 ∨ i = 5 ∨ i = 6 ∨ i = 7 := by omega
 rcases this with rfl | rfl | rfl | rfl | rfl | rfl | rfl | rfl <;> exact ⟨_, rfl, rfl, rfl⟩
theorem RI.step {w wr w1 : World} {s : St} {i : Nat} (h : RI w wr s i) (hb : Below wr.heap.size wr w1) (hi : i < 8) (x : UInt32) (hx : (outB s).take (4 * (i + 1)) = (outB s).take (4 * i) ++ bigB x.toUInt64 4) :
  RI w (w1.setCells w.heap.size (4 * i) ((bigB x.toUInt64 4).map vb)) s (i + 1) := by
 have e := hb.block _ h.sz
 have hl : ((bigB x.toUInt64 4).map vb).length = 4 := by rw [List.length_map, qAW]
 have hlt : (((outB s).take (4 * i)).map vb).length = 4 * i := by rw [List.length_map, List.length_take, qBc]; omega
 refine ⟨below_setCells (Nat.le_refl _) _ _ _ (h.bel.trans (hb.mono h.bel.size)), World.there_setCells (qAZ h.out e) _ _ _, by rw [size_setCells]; exact Nat.lt_of_lt_of_le h.sz hb.size, ?_⟩
 rw [hx, List.map_append]
 refine qAv (World.rangeAt_setCells_apart (rangeAt_of_block h.got e) _ _ _ (.inr (.inl (by rw [hlt]; omega)))) ?_
 rw [hlt, Nat.zero_add]
 refine World.rangeAt_setCells_same _ _ _ _ ?_
 rw [hl]
 have := qBI (qAZ h.out e) (4 * i)
 rw [Nat.zero_add] at this
 exact qAr this yF
structure QI (w wr : World) (g : Nat) (bv : Value) (l : List UInt8) (s : St) : Prop where
 pi : PI w wr bv l
 glo : w.heap.size < g
 glt : g < wr.heap.size
 gne : bv.ownBlock ≠ some g
 gr : wr.rangeAt g 0 s.cells
 gt : wr.there g 0 8
theorem QI.drew {w wr : World} {g : Nat} {bv : Value} {l : List UInt8} {s : St} (h : QI w wr g bv l s) : QI w wr.drew g bv l s := ⟨h.pi.drew, h.glo, h.glt, h.gne, h.gr, h.gt⟩
theorem QI.below {w wr w' : World} {g : Nat} {bv : Value} {l : List UInt8} {s : St} (h : QI w wr g bv l s) (hb : Below wr.heap.size wr w') : QI w w' g bv l s := by
 have e := hb.block g h.glt
 exact ⟨h.pi.step (Own.below h.pi.own hb) (qBQ hb _), h.glo, Nat.lt_of_lt_of_le h.glt hb.size, h.gne, rangeAt_of_block h.gr e, qAZ h.gt e⟩
theorem QI.set' {w wr : World} {g : Nat} {bv : Value} {l : List UInt8} (hpi : PI w wr bv l) (glo : w.heap.size < g) (glt : g < wr.heap.size) (gne : bv.ownBlock ≠ some g) (gt : wr.there g 0 8) (s' : St) : QI w (wr.setCells g 0 s'.cells) g bv l s' := by
 have hg := qBH wr g 0 s'.cells
 refine ⟨⟨below_setCells (Nat.le_of_lt glo) _ _ _ hpi.bel, Own.kept hpi.own hg (.inr gne), qAZ hpi.out (qCM g _ 0 wr _ yF), by rw [size_setCells]; exact hpi.sz⟩, glo, by rw [size_setCells]; exact glt, gne, World.rangeAt_setCells_same _ _ _ _ gt, World.there_setCells gt _ _ _⟩
theorem QI.set {w wr : World} {g : Nat} {bv : Value} {l : List UInt8} {s : St} (h : QI w wr g bv l s) (s' : St) : QI w (wr.setCells g 0 s'.cells) g bv l s' := QI.set' h.pi h.glo h.glt h.gne h.gt s'
theorem padB_length (rest : List UInt8) (n : Nat) (hr : rest.length < 64) : ∃ N, N ≤ 2 ∧ (padB rest n).length = 64 * N := by
 have e : (padB rest n).length = rest.length + 1 + zpad rest.length + 8 := by simp [padB, qAW]; omega
 rw [e]; unfold zpad
 exact ⟨(rest.length + 1 + (119 - rest.length % 64) % 64 + 8) / 64, by omega, by omega⟩
theorem QI.slice {w wr : World} {g : Nat} {bv bv' : Value} {l l' : List UInt8} {s : St} (h : QI w wr g bv l s) (ho : OwnB wr (w.heap.size + 1) bv' l') (hne : bv'.ownBlock = bv.ownBlock) : QI w wr g bv' l' s :=
 ⟨⟨h.pi.bel, ho, h.pi.out, h.pi.sz⟩, h.glo, h.glt, by rw [hne]; exact h.gne, h.gr, h.gt⟩
end TL
end Go
namespace Go.Proofs.YtidadhbaomieiaaGreat
open Go.RowKit Go.TL
theorem Sum_any (base b : Nat) (h : St) (rv : Value) (rest : List UInt8) (n : Nat) (w : World) (S : ShaAt w base b h rv rest n) (hr : rest.length < 64) :
  Calls Tryz.prog 118 #[.pointer (some ⟨b, 0, none⟩)] w fun e w' => e = .returned (.agg ((sumS h rest n).map vb).toArray) ∧ Below w.heap.size w w' := by
 have m0 := S.mc
 have n0 := S.nc
 have r0 := S.rc
 have hbl := S.lt
 have S' := Lib.hid S; clear S
 go_enter Tryz.func118, Tryz.ntmps118
 go_wp2_with (first | ((with_reducible show wpList _ _ _ (Oper.mk _ (Op.alloc 64) _ _ _ _ :: _) _ _); (refine qAz rfl _ rfl (Array.replicate 32 (.int .u8 0)) yD ?_; intro w1 hb1 hs1 hr1 ht1; have S1 := S'.out.below hb1; have m1 := S1.mc; have n1 := S1.nc; have r1 := S1.rc; have l1 : b < w1.heap.size := S1.lt; have T1 := Lib.hid S1; clear S1 hr1; have Hb1 := Lib.hid hb1; clear hb1; have Hs1 := Lib.hid hs1; clear hs1; have Ht1 := Lib.hid ht1; clear ht1)) | (go_at_call 158; (refine (none_no _ b m1).mono ?_; rintro e w2 ⟨rfl, rfl⟩)) | ((with_reducible show wpList _ _ _ (Oper.mk _ (Op.call ⟨Callee.builtin Builtin.append, #[.tmp 10, .tmp 14], _⟩) _ _ _ _ :: _) _ _); (refine qDm bytesT rfl _ _ _ rfl uB (w.heap.size + 1) (.slice (some ⟨w1.heap.size, 0, none⟩) 0 0) 0 [] rfl (OwnB_empty _ _ w1.heap.size (by rw [Hs1.out]; exact Nat.le_refl _) yB1) rv rest.length _ rfl (SeesB.src (Sees.alloc T1.out.ro.sees _)) yZ yF (by simp; rw [Hs1.out]; omega) ?_; intro v1 w2 ho2 hg2 hf2 _; have B2 : Below w1.heap.size w1 w2 := qBp (grownBy_trans (World.grownBy_alloc w1 _ _) hg2) (Nat.le_refl _) (by simp [Value.ownBlock]); have T2 := Lib.hid (T1.out.below B2); have hsz2 : w1.heap.size + 1 ≤ w2.heap.size := (by have := hg2.size; simpa using this); have hOut2 := Lib.hid (qAZ Ht1.out (B2.block w.heap.size (by rw [Hs1.out]; omega))); have HB2 := Lib.hid (Hb1.out.trans (B2.mono (by rw [Hs1.out]; omega))); have Ho2 : Hid (OwnB w2 (w.heap.size + 1) v1 rest) := Lib.hid (by simpa [OwnB] using ho2); have Hsz2 : Hid (w.heap.size + 2 ≤ w2.heap.size) := Lib.hid (by rw [Hs1.out] at hsz2; exact hsz2); clear ho2 hg2 hf2 B2 hsz2 m1 n1 r1 T1 Ht1 Hb1 Hs1)) | ((with_reducible show wpList _ _ _ (Oper.mk _ (Op.call ⟨Callee.builtin Builtin.append, #[.tmp 15, .tmp 16], _⟩) _ _ _ _ :: _) _ _); (refine qAw bytesT rfl _ _ rfl (w.heap.size + 1) w2 [128] _ _ rfl v1 rest rfl Ho2.out rfl yC1 (by have := Hsz2.out; omega) ?_; intro v2 w3 ho3 hg3 hf3)))
 have I3 : Hid (PI w w3 v2 (rest ++ [128])) := Lib.hid (PI.step ⟨HB2.out, Ho2.out, by simpa using hOut2.out, by have := Hsz2.out; omega⟩ ho3 hg3)
 clear ho3 hg3 hf3 Ho2 hOut2 HB2 Hsz2 T2
 go_loopw [3] (fun bv wr => ∃ k : Nat, k ≤ zpad rest.length ∧ PI w wr bv (rest ++ [128] ++ List.replicate k 0)) (fun bv _ => rest.length + 1 + zpad rest.length - lenV bv)
 case atStart => exact ⟨0, by omega, by simpa using I3.out⟩
 case round =>
  obtain ⟨k, hk, I⟩ := hrel
  have hln := Sees.run_len I.own.sees 70 5 3 Tryz.underlying70
  have elen : (rest ++ [128] ++ List.replicate k 0).length = rest.length + 1 + k := by simp; omega
  rw [elen] at hln
  have I' := Lib.hid I; clear I I3
  by_cases hlt : k < zpad rest.length
  ·have hd : (rest.length + 1 + k) % 64 ≠ 56 := by unfold zpad at hlt; omega
   go_wp2_with ((with_reducible show wpList _ _ _ (Oper.mk _ (Op.call ⟨Callee.builtin Builtin.append, #[.tmp 22, .tmp 23], _⟩) _ _ _ _ :: _) _ _); (refine qAw bytesT rfl _ _ rfl (w.heap.size + 1) wr [0] _ _ rfl _ (rest ++ [128] ++ List.replicate k 0) rfl I'.out.own rfl (by rw [elen]; simp; unfold zpad at hlt; omega) (by have := I'.out.sz; omega) ?_; intro v4 w4 ho4 hg4 _; have I4 := Lib.hid (I'.out.step ho4 hg4); clear ho4 hg4))
   go_roundw
   case rel => exact ⟨k + 1, by omega, by have := I4.out; simpa [List.replicate_succ'] using this⟩
   case measure => rw [I4.out.own.sees.lenV, I'.out.own.sees.lenV]; simp; omega
  ·have hkz : k = zpad rest.length := by omega
   have hd : (rest.length + 1 + k) % 64 = 56 := by unfold zpad at hkz; omega
   have T4 := Lib.hid (S'.out.below I'.out.bel)
   have n4 := T4.out.nc
   go_wp2_with (first | (go_at_call 160; (refine (qGP (w.heap.size + 1) _ (rest ++ [128] ++ List.replicate k 0) (UInt64.ofNat n * 8) 8 wr I'.out.own (by have := I'.out.sz; omega) yN (by rw [elen]; unfold zpad at hkz; omega)).mono ?_; rintro e w5 ⟨v5, rfl, ho5, hg5, _⟩; have I5 := Lib.hid (I'.out.step ho5 hg5); have T5 := Lib.hid (S'.out.below I5.out.bel); clear ho5 hg5 T4 n4)) | ((with_reducible show wpList _ _ _ (Oper.mk (some 36) (Op.load 213 _) _ _ _ _ :: _) _ _); (refine wpList_load_mid rfl 213 _ rfl b 0 rfl _ _ (by exact T5.out.hh) Tryz.underlying213 rfl yD ?_)) | ((with_reducible show wpList _ _ _ (Oper.mk _ (Op.alloc 213) _ _ _ _ :: _) _ _); (refine qAz rfl _ rfl (Array.replicate 8 (.int .u32 0)) yD ?_; intro w6 hb6 hs6 hr6 ht6; have Hb6 := Lib.hid hb6; clear hb6; have Hs6 := Lib.hid hs6; clear hs6 hr6; have Ht6 := Lib.hid ht6; clear ht6)) | ((with_reducible show wpList _ _ _ (Oper.mk none (Op.store 213 _ _) _ _ _ _ :: _) _ _); (refine qAn rfl 213 _ _ rfl w5.heap.size 0 h.cells rfl rfl (by simpa [St.cells] using Ht6.out) yD (by simp [Value.oneCell', St.cells, vw]) ?_)))
   have J6 : Hid (QI w (w6.setCells w5.heap.size 0 h.cells) w5.heap.size v5 (padB rest n) h) := Lib.hid (by
    have hpi := I5.out.step (Own.below I5.out.own Hb6.out) (qBQ Hb6.out _)
    rw [hkz] at hpi
    have hlt5 := Hs6.out
    exact QI.set' hpi I5.out.sz yF (fun e => by have := (Own.base_le I5.out.own e).2; omega) (by simpa using Ht6.out) h)
   clear Hs6 Ht6 Hb6 I5 T5 I'
   obtain ⟨N, hN, hpl⟩ := padB_length rest n hr
   go_simp
   go_loopw [3] (fun bv wr => ∃ j : Nat, j ≤ N ∧ QI w wr w5.heap.size bv ((padB rest n).drop (64 * j)) (absorb j h (padB rest n))) (fun bv _ => lenV bv)
   case atStart => exact ⟨0, by omega, by simpa [absorb] using J6.out⟩
   case round =>
    clear J6
    obtain ⟨j, hj, J⟩ := hrel
    have hdl : ((padB rest n).drop (64 * j)).length = 64 * N - 64 * j := by rw [List.length_drop, hpl]
    have hln2 := Sees.run_len J.pi.own.sees 70 5 3 Tryz.underlying70
    rw [hdl] at hln2
    have J' := Lib.hid J; clear J
    have Hdl := Lib.hid hdl; clear hdl
    by_cases hjN : j < N
    ·have hpos : decide ((64 * N - 64 * j : Nat) > (0 : Int)) = true := by simp; omega
     obtain ⟨hj', ehj⟩ : ∃ x, x = absorb j h (padB rest n) := ⟨_, rfl⟩
     rw [← ehj] at J'
     have Ehj := Lib.hid ehj; clear ehj
     have hcut := J'.out.pi.own.sees.run_cut_hi bytesT 64 yF (by rw [Hdl.out]; omega)
     have hsee := SeesB.cut J'.out.pi.own.sees 0 64 yF (by rw [Hdl.out]; omega)
     obtain ⟨cv, ecv⟩ : ∃ x, x = cutV 1 u3 0 64 := ⟨_, rfl⟩
     rw [show (64 : Int).toNat = 64 from rfl, ← ecv] at hcut
     rw [← ecv, List.drop_zero] at hsee
     have Hsee := Lib.hid hsee; clear hsee ecv
     go_wp2_with fail
     refine qAF [(2, false), (3, false), (4, false), (5, false), (6, false), (0, false), (1, false), (7, true), (8, true)] [(44, .ptr)] yD yD rfl yD ?_
     simp only [reord, opAt, List.map_cons, List.map_nil, gE]
     have T6 := Lib.hid (S'.out.below J'.out.drew.pi.bel)
     go_wp2_with (first | ((with_reducible show wpList _ _ _ (Oper.mk _ (Op.load 213 _) _ _ _ _ :: _) _ _); (refine wpList_load_mid rfl 213 _ rfl w5.heap.size 0 rfl _ _ (by exact J'.out.drew.gr) Tryz.underlying213 rfl yD ?_)) | (go_at_call 159; (refine (turn_any hj' hj' K64 qBh b 8 cv (((padB rest n).drop (64 * j)).take 64) (by rw [List.length_take, Hdl.out]; omega) _ (by exact T6.out.kk) (by exact Sees.drew Hsee.out)).mono ?_; rintro e w7 ⟨rfl, hb7⟩; have J3 := Lib.hid (J'.out.drew.below hb7); clear hb7)) | ((with_reducible show wpList _ _ _ (Oper.mk none (Op.store 213 _ _) _ _ _ _ :: _) _ _); (refine qAn rfl 213 _ _ rfl w5.heap.size 0 _ rfl rfl (by exact J3.out.gt) yD (by simp [Value.oneCell', St.cells, vw]) ?_)))
     refine OnlyN.intro yD ?_
     have J4 := Lib.hid (J3.out.set (turnS hj' hj' K64 (((padB rest n).drop (64 * j)).take 64)))
     have hlo := J4.out.pi.own.sees.run_cut_lo bytesT 64 yF (by rw [Hdl.out]; omega)
     have ho5 := OwnB.cut J4.out.pi.own 64 ((padB rest n).drop (64 * j)).length (by rw [Hdl.out]; omega) (Nat.le_refl _)
     rw [List.take_length, List.drop_drop, show 64 * j + 64 = 64 * (j + 1) by omega] at ho5
     have J5 := Lib.hid (J4.out.slice ho5 (qED (size := 1) u3 64 ((padB rest n).drop (64 * j)).length))
     have hlen5 : ((padB rest n).drop (64 * (j + 1))).length = 64 * N - 64 * (j + 1) := by rw [List.length_drop, hpl]
     have Hlen5 := Lib.hid hlen5; clear hlen5 ho5
     rw [Hdl.out] at J5
     go_wp2_with fail
     go_roundw
     case rel =>
      have e : absorb (j + 1) h (padB rest n) = turnS hj' hj' K64 (((padB rest n).drop (64 * j)).take 64) := by rw [qDl, ← Ehj.out]
      exact ⟨j + 1, by omega, by rw [e]; exact J5.out⟩
     case measure => rw [J5.out.pi.own.sees.lenV, J'.out.pi.own.sees.lenV, Hlen5.out, Hdl.out]; omega
    ·have hjn : j = N := by omega
     subst hjn
     have hneg : decide ((64 * j - 64 * j : Nat) > (0 : Int)) = false := by simp
     go_wp2_with ((with_reducible show wpList _ _ _ (Oper.mk _ (Op.load 213 _) _ _ _ _ :: _) _ _); (refine wpList_load_mid rfl 213 _ rfl w5.heap.size 0 rfl _ _ (by exact J'.out.gr) Tryz.underlying213 rfl yD ?_))
     go_simp
     obtain ⟨sN, esN⟩ : ∃ s, s = absorb j h (padB rest n) := ⟨_, rfl⟩
     rw [← esN] at J'
     have R0 : Hid (RI w wr sN 0) := Lib.hid ⟨J'.out.pi.bel, J'.out.pi.out, J'.out.pi.sz, qCC _ _ _⟩
     have EsN := Lib.hid esN
     rw [← esN]; clear esN J'
     go_loopw [51] (fun iv wr => ∃ i : Nat, i ≤ 8 ∧ iv = .int .i64 i ∧ RI w wr sN i) (fun iv _ => 8 - (intOf iv).toNat)
     case atStart => exact ⟨0, by omega, rfl, R0.out⟩
     case round =>
      clear R0
      obtain ⟨i, hi8, rfl, R⟩ := hrel
      have R' := Lib.hid R; clear R
      by_cases hlt : i < 8
      ·obtain ⟨x, hx1, hx2, hx3⟩ := outB_take sN i hlt
       have hix : ∀ w'', (Instr.index 213 (.agg sN.cells.toArray) (.int .i64 i)).run Tryz.prog w'' = .ok (.int .u32 (I32 x)) w'' := fun w'' => qDu _ _ 8 _ Tryz.underlying213 _ Tryz.underlying22 rfl yD i hlt _ hx2 w''
       have hsl : ∀ w'', (Instr.sliceAt 64 (.pointer (some ⟨w.heap.size, 0, none⟩)) (some (.int .i64 (4 * (i : Int)))) none none).run Tryz.prog w'' = .ok (.slice (some ⟨w.heap.size, 4 * i, none⟩) (32 - 4 * i) (32 - 4 * i)) w'' := fun w'' => by
        have := qFO 64 _ 32 Tryz.underlying64 yD w.heap.size 0 (4 * i) yF (4 * (i : Int)) yF w''
        rwa [Nat.zero_add] at this
       have Hx3 := Lib.hid hx3; clear hx3 hx1 hx2
       go_wp2_with fail
       refine qAF [(0, false), (1, false), (2, false), (3, false), (4, false), (5, true), (6, true)] [(55, .int), (58, .int)] yD yD rfl yD ?_
       simp only [reord, opAt, List.map_cons, List.map_nil, gE]
       go_wp2_with (first | (go_at_call 160; (refine (qGP (w.heap.size + 1) (.slice none 0 0) [] x.toUInt64 4 wr.drew (Own_nil _ _ _) (by exact R'.out.sz) yN yB1).mono ?_; rintro e w8 ⟨v8, rfl, ho8, hg8, hf8⟩; have Ho8 : Hid (OwnB w8 (w.heap.size + 1) v8 (bigB x.toUInt64 4)) := Lib.hid (by simpa using ho8); have Hb8 : Hid (Below wr.heap.size wr w8) := Lib.hid ((Below.refl _ wr).drew.trans (qBp hg8 (Nat.le_refl _) (by simp [Value.ownBlock]))); clear ho8 hg8 hf8)) | ((with_reducible show wpList _ _ _ (Oper.mk _ (Op.call ⟨Callee.builtin Builtin.copy, _, _⟩) _ _ _ _ :: _) _ _); (refine qDa bytesT rfl _ _ 70 rfl w.heap.size (4 * i) (32 - 4 * i) (32 - 4 * i) rfl v8 4 ((bigB x.toUInt64 4).map vb) rfl (SeesB.src Ho8.out.sees) 4 ?_ ?_ ?_)))
       ·show 4 = Nat.min 4 (32 - 4 * i)
        exact (Nat.min_eq_left yF).symm
       ·have := qBI (qAZ R'.out.out (Hb8.out.block _ R'.out.sz)) (4 * i)
        rw [Nat.zero_add] at this
        exact qAr this yF
       have R8 := Lib.hid (R'.out.step Hb8.out hlt x Hx3.out)
       rw [show List.take (4 * 1) ((bigB x.toUInt64 4).map vb) = (bigB x.toUInt64 4).map vb from rfl]
       go_wp2_with fail
       refine OnlyN.intro yD ?_
       go_wp2_with fail
       go_roundw
       case rel => exact ⟨i + 1, by omega, by go_num, R8.out⟩
       case measure => simp [intOf]; omega
      ·have hi8' : i = 8 := by omega
       subst hi8'
       have hgot := R'.out.got
       rw [show 4 * 8 = (outB sN).length from rfl, List.take_length] at hgot
       have Hgot := Lib.hid hgot; clear hgot
       go_wp2_with (first | ((with_reducible show wpList _ _ _ (Oper.mk _ (Op.load 64 _) _ _ _ _ :: _) _ _); (refine wpList_load_mid rfl 64 _ rfl w.heap.size 0 rfl _ _ Hgot.out Tryz.underlying64 rfl yD ?_)) | ((with_reducible show wpList _ _ _ (Oper.mk none (Op.store 64 _ _) _ _ _ _ :: _) _ _); (refine qAn rfl 64 _ _ rfl w.heap.size 0 ((outB sN).map vb) rfl rfl (by rw [List.length_map, qBc]; exact R'.out.out) (by rw [List.length_map, qBc]; kernel_rfl) (qDp _) ?_)))
       refine bodyPost_ret (qAS rfl _ _ w.heap.size 0 ((outB sN).map vb) _ rfl (World.rangeAt_setCells_same _ _ _ _ (by rw [List.length_map, qBc]; exact R'.out.out)) Tryz.underlying64 rfl (by rw [List.length_map, qBc]; kernel_rfl)) rfl ?_
       refine ⟨?_, below_setCells (Nat.le_refl _) _ _ _ R'.out.bel⟩
       have e : sumS h rest n = outB sN := by rw [EsN.out]; unfold sumS; rw [hpl, Nat.mul_div_cancel_left _ yN]
       rw [e]
end Go.Proofs.YtidadhbaomieiaaGreat

namespace Go
namespace TL
open Go.RowKit
def bytesOf (s : ByteArray) : List UInt8 := s.data.toList
def shaL (l : List UInt8) : List UInt8 := sumS (absorb (l.length / 64) H0 l) (l.drop (64 * (l.length / 64))) l.length
theorem qBb (l : List UInt8) : (shaL l).length = 32 := rfl
def hexTab : ByteArray := ⟨#[48, 49, 50, 51, 52, 53, 54, 55, 56, 57, 97, 98, 99, 100, 101, 102]⟩
def hexD (x : UInt8) : UInt8 := (hexTab[x.toNat]?).getD 0
@[go_sem high] theorem fold_hexTab : (⟨#[48, 49, 50, 51, 52, 53, 54, 55, 56, 57, 97, 98, 99, 100, 101, 102]⟩ : ByteArray) = hexTab := rfl
@[go_sem high] theorem run_index_hexTab {P : Program} (w : World) (t : TypeId) (k : IntKind) (x : UInt8) (h : P.underlying t = some .string) (h1 : I8 x ≤ 15) :
  (Instr.index t (.string hexTab) (.int k (I8 x))).run P w = .ok (.int .u8 (I8 (hexD x))) w := by
 rw [I8_eq] at h1 ⊢
 have hs : hexTab.size = 16 := rfl
 have hi : 0 ≤ (x.toNat : Int) ∧ (x.toNat : Int) < (hexTab.size : Int) := by rw [hs]; omega
 rw [run_index_string w t hexTab k _ h, dif_pos hi]
 have h2 : x.toNat < hexTab.size := by rw [hs]; omega
 simp [hexD, ByteArray.getElem?_lt' _ _ h2, I8_eq]
theorem bytesOf_length (s : ByteArray) : (bytesOf s).length = s.size := by simp [bytesOf]
end TL
end Go
namespace Go.Proofs.YtidadhbaomieiaaGreat
open Go.RowKit Go.TL
theorem qEV (s : ByteArray) (w : World) (hs : s.size ≤ 1000000000000) :
  Calls Tryz.prog 87 #[.string s] w fun e w' => e = .returned (.agg ((shaL (bytesOf s)).map vb).toArray) ∧ Below w.heap.size w w' := by
 go_enter Tryz.func87, Tryz.ntmps87
 go_wp2_with (first | ((with_reducible show wpList _ _ _ (Oper.mk _ (Op.alloc 64) _ _ _ _ :: _) _ _); (refine qAz rfl _ rfl (Array.replicate 32 (.int .u8 0)) yD ?_; intro w0 hb0 hs0 hr0 ht0; have Hb0 := Lib.hid hb0; clear hb0 hr0; have Hs0 := Lib.hid hs0; clear hs0; have Ht0 := Lib.hid ht0; clear ht0)) | (go_at_call 116; (refine (New_any w0).mono ?_; rintro e w1 ⟨b, rfl, S1, hb1⟩; have S1' := Lib.hid S1; have hb1' := Lib.hid hb1; clear S1 hb1)) | (go_at_call 117; (refine (Write_any w0.heap.size b s w1 hs hb1'.out.size S1'.out).mono ?_; rintro e w2 ⟨rfl, ⟨rv, S2⟩, hb2⟩; have S2' := Lib.hid S2; have hb2' := Lib.hid hb2; clear S2 hb2)) | (go_at_call 118; (refine (Sum_any w0.heap.size b _ rv _ _ w2 S2'.out (by rw [List.length_drop]; have := bytesOf_length s; unfold bytesOf at this; omega)).mono ?_; rintro e w3 ⟨rfl, hb3⟩; have hb3' := Lib.hid hb3; have Ht3 : Hid (w3.there w.heap.size 0 32) := Lib.hid (by have e := (hb1'.out.trans (hb2'.out.trans (hb3'.out.mono (Nat.le_trans hb1'.out.size hb2'.out.size)))).block w.heap.size (by have := Hs0.out; omega); exact qAZ (by simpa using Ht0.out) e); clear hb3)) | ((with_reducible show wpList _ _ _ (Oper.mk none (Op.store 64 _ _) _ _ _ _ :: _) _ _); (refine qAn rfl 64 _ _ rfl w.heap.size 0 ((sumS (absorb (s.size / 64) H0 s.data.toList) (List.drop (64 * (s.size / 64)) s.data.toList) s.size).map vb) rfl rfl (by exact Ht3.out) yD (qDp _) ?_)))
 refine bodyPost_ret (qAS rfl _ _ w.heap.size 0 ((shaL (bytesOf s)).map vb) _ rfl ?_ Tryz.underlying64 rfl yD) rfl ⟨rfl, ?_⟩
 ·rw [shaL, bytesOf_length]; exact World.rangeAt_setCells_same _ _ _ _ Ht3.out
 ·have hb := Hb0.out.trans ((hb1'.out.trans hb2'.out).mono (Nat.le_of_lt (by have := Hs0.out; omega)))
  exact below_setCells (Nat.le_refl _) _ _ _ (hb.trans (hb3'.out.mono hb.size))
end Go.Proofs.YtidadhbaomieiaaGreat
