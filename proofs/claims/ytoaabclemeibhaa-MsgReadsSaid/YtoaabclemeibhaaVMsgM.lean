/- Messages in memory: a hash as a whole is stored, or read as a text. No conditions but those each law names. -/
import Derived.Test.YtoaabclemeibhaaZe
import Derived.Test.YtoaabclemeibhaaZb
import Derived.Test.YtoaabclemeibhaaVW32
namespace Go
namespace TL
open Go.RowKit
section
variable {P : Program} {ops : Array Oper} {rest : List Oper} {o : Oper} {a : Act} {w w0 : World} {Q : Exit → Act → World → Prop} {F : List Nat} {L : List Chunk} {g : Nat} {m : Ms}
theorem w_storeHf (M : Mem F w0 w L) (i : Nat) (t : TypeId) (x y : Operand) (ho : o.op = .store t x y) (hi : L[i]? = some (.row g (msgC m))) {off : Nat} (hx : a.eval x = .pointer (some ⟨g, off, none⟩)) (hw : Region.wanted o (yielded ops a.tmps) = true)
    {l : List UInt8} (hy : a.eval y = .agg (bs l).toArray) (hl : l.length = 32) (hn : (P.info? t).map (·.size) = some 32) (hm : m.fit) (f : Hf) (hoff : off = f.off)
    (h : ∀ w' : World, Mem F w0 w' (L.set i (.row g (msgC (f.set m l)))) → wpList P ops Q rest (a.put o.dst undef) w') : wpList P ops Q (o :: rest) a w := by
  subst hoff
  refine w_storeA M i t x y ho hi hx hw (bs l) hy rfl (by rw [bs_length, hl]; exact hn) (bs_one l) (f.pre m) (bs (f.get m)) (f.post m) (msgC_get m f) (f.pre_len hm) (by rw [bs_length, bs_length, hl, f.len hm]) fun w' M' => h w' (by rw [msgC_hash]; exact M')
theorem w_storeKd (M : Mem F w0 w L) (i : Nat) (t : TypeId) (x y : Operand) (ho : o.op = .store t x y) (hi : L[i]? = some (.row g (msgC zeroM))) (hx : a.eval x = .pointer (some ⟨g, 0, none⟩)) (hw : Region.wanted o (yielded ops a.tmps) = true)
    {b : UInt8} (hy : a.eval y = .int .u8 (I8 b)) (hn : (P.info? t).map (·.size) = some 1)
    (h : ∀ w' : World, Mem F w0 w' (L.set i (.row g (msgC (kindM b)))) → wpList P ops Q rest (a.put o.dst undef) w') : wpList P ops Q (o :: rest) a w :=
  w_store M i t x y ho hi hx hw hy rfl rfl hn (by rw [msgC_len zeroM_fit]; omega) fun _ M' => h _ M'
theorem Ms.fit_pv0 {m : Ms} (h : m.fit) {pv : Value} (hp : pv.oneCell' = true) : Ms.fit { m with pv := pv } := ⟨h.1, h.2.1, h.2.2.1, h.2.2.2.1, hp⟩
theorem seesHash {C pre post : List Value} {r : List UInt8} {off : Nat} (hc : C = pre ++ (bs r ++ post)) (hp : pre.length = off) (hr : r.length = 32) {w : World} (h : (Chunk.row g C).ok w) : SeesB w (.slice (some ⟨g, off, none⟩) 32 32) r := by
  refine ⟨by simp [hr], .inr ⟨g, off, 32, by rw [hr], h.1, by omega, by decide, ?_⟩⟩
  intro i v hv
  have hlt : i < (bs r).length := (List.getElem?_eq_some_iff.1 hv).1
  have := h.2.1 (off + i) v (by rw [hc, ← hp, List.getElem?_append_right (by omega), Nat.add_sub_cancel_left, List.getElem?_append_left hlt]; exact hv)
  rwa [Nat.zero_add] at this
theorem w_stringHf {C pre post : List Value} {r : List UInt8} {off : Nat} (M : Mem F w0 w L) (i : Nat) (src dst e : TypeId) (x : Operand) (ho : o.op = .convert src dst x) (hw : Region.wanted o (yielded ops a.tmps) = true) (hi : L[i]? = some (.row g C)) (hx : a.eval x = .slice (some ⟨g, off, none⟩) 32 32)
    (hc : C = pre ++ (bs r ++ post)) (hp : pre.length = off) (hr : r.length = 32) (hs : P.underlying src = some (.slice e)) (he : P.underlying e = some (.int .u8)) (hd : P.underlying dst = some .string)
    (h : wpList P ops Q rest (a.put o.dst (.string (mkS r))) w) : wpList P ops Q (o :: rest) a w :=
  wpW hw fun _ hK => by
    have hr := SeesB.run_string (P := P) (seesHash hc hp hr (M.ok i _ hi)) src dst e hs he hd w (grownBy_refl _ _)
    unfold Oper.wp execOp
    simp only [ho, hx, Sem.run_bind, hr, Result.andThen_ok]
    exact hK _ _ h
theorem stab_strHf {C pre post : List Value} {r : List UInt8} {off : Nat} (M : Mem F w0 w L) {is : List Nat} (i : Nat) {src dst e : TypeId} {x : Operand} (ho : o.op = .convert src dst x) (hi : L[i]? = some (.row g C)) (hin : i ∈ is) (hc : C = pre ++ (bs r ++ post)) (hp : pre.length = off) (hr : r.length = 32) (hs : P.underlying src = some (.slice e)) (he : P.underlying e = some (.int .u8)) (hd : P.underlying dst = some .string) : Stab P (IxOk M is) o (.slice (some ⟨g, off, none⟩) 32 32) :=
  stab_conv ho _ r (fun w' hw => seesHash hc hp hr (hw.2 i hin _ hi)) hs he hd
end
end TL
end Go
