/- An envelope is the same as itself, to ==. Conditions: its tag has 32 bytes. -/
import Derived.Test.YtjlkiopncclomaaZg
namespace Go.Proofs.Ytjlkiopncclomaa
open Go.RowKit Go.TL
theorem envFields : (Try.prog.fieldsOf 29).toList.map (fun f => (f.type, f.offset)) = [(3, 0), (24, 1), (25, 2), (9, 3), (27, 4)] := by decide +kernel
theorem envNames : (Try.prog.fieldsOf 29).toList.all (fun f => f.name ≠ "_") = true := by decide +kernel
theorem run_part1 {P : Program} {e : TypeId} {d : TypeDesc} (he : P.underlying e = some d) (hd : d.isRow = false) (xs : Array Value) (off : Nat) (v : Value) (hv : xs[off]? = some v) (w : World) : (part e xs off).run P w = .ok v w := by
  cases d <;> first | (simp [TypeDesc.isRow] at hd; done) | simp [part, isAgg, run_underlying he, hv]
theorem run_partN {P : Program} {e e' : TypeId} {n k : Nat} (he : P.underlying e = some (.array n e')) (hi : (P.info? e).map (·.size) = some k) (xs : Array Value) (off : Nat) (w : World) : (part e xs off).run P w = .ok (.agg (xs.extract off (off + k))) w := by
  cases hq : P.info? e with
  | none => simp [hq] at hi
  | some inf =>
    have hs : inf.size = k := by simpa [hq] using hi
    simp [part, isAgg, run_underlying he, sizeOf, typeInfo, hq, hs]
theorem eqF_step {P : Program} {w : World} {d : Nat} {xs ys : Array Value} {f : Field} {fs : List Field} (hn : f.name ≠ "_") {a c : Value} (hp : (part f.type xs f.offset).run P w = .ok a w) (hq : (part f.type ys f.offset).run P w = .ok c w) (he : (Op.equalIn d f.type a c).run P w = .ok true w) : (Op.eqFields d xs ys (f :: fs)).run P w = (Op.eqFields d xs ys fs).run P w := by
  simp only [Op.eqFields, if_pos hn, Sem.run_bind, hp, hq, he, Result.andThen_ok]
  simp
theorem hash_self (t : List UInt8) (ht : t.length = 32) (w : World) : (Op.equalIn 9999 27 (.agg (bs t).toArray) (.agg (bs t).toArray)).run Try.prog w = .ok true w := by
  obtain ⟨i, hi⟩ := info_of_underlying Try.underlying5
  have := run_equalIn_array w 9998 (t.map vb).toArray (t.map vb).toArray Try.underlying27 hi
  rw [show Try.prog.cellsOf 5 = 1 by kernel_rfl, run_eqItemsB Try.underlying5 9997 t t rfl w (List.range 32) (fun i hi => by rw [ht]; exact List.mem_range.1 hi)] at this
  rw [← ht, all_range_eq t t rfl, beq_self_eq_true] at this
  exact this
section
variable (k : Int) (b : UInt32) (n : UInt64) (d t : List UInt8)
theorem env_in (ht : t.length = 32) (w : World) : (Op.equalIn 10000 29 (.agg (envC k b n d t).toArray) (.agg (envC k b n d t).toArray)).run Try.prog w = .ok true w := by
  have hu : Try.prog.underlying 29 = some (.struct (Try.prog.fieldsOf 29)) := by unfold Program.fieldsOf; rw [Try.underlying29]
  rw [run_equalIn_struct w 9999 _ _ _ hu (by decide +kernel)]
  have hf := envFields
  have hn := envNames
  obtain ⟨fs, ef⟩ : ∃ fs, fs = (Try.prog.fieldsOf 29).toList := ⟨_, rfl⟩
  rw [← ef] at hf hn
  rw [← ef]
  clear ef hu
  have hlen : fs.length = 5 := by simpa using congrArg List.length hf
  obtain ⟨f1, f2, f3, f4, f5, rfl⟩ : ∃ a b c d e, fs = [a, b, c, d, e] := by
    match fs, hlen with
    | [a, b, c, d, e], _ => exact ⟨a, b, c, d, e, rfl⟩
  simp only [List.map_cons, List.map_nil, List.cons.injEq, Prod.mk.injEq, and_true] at hf
  obtain ⟨⟨a1, o1⟩, ⟨a2, o2⟩, ⟨a3, o3⟩, ⟨a4, o4⟩, a5, o5⟩ := hf
  simp only [List.all_cons, List.all_nil, Bool.and_eq_true, decide_eq_true_eq, and_true] at hn
  obtain ⟨n1, n2, n3, n4, n5⟩ := hn
  have x5 : (envC k b n d t).toArray.extract 4 (4 + 32) = (bs t).toArray := by
    simp only [List.extract_toArray, List.extract_eq_take_drop]
    congr 1
    show (bs t).take 32 = bs t
    exact List.take_of_length_le (by rw [bs_length]; omega)
  have p1 := run_part1 Try.underlying3 rfl (envC k b n d t).toArray 0 (.int .i64 k) rfl w
  have p2 := run_part1 Try.underlying24 rfl (envC k b n d t).toArray 1 (.int .u32 (I32 b)) rfl w
  have p3 := run_part1 Try.underlying25 rfl (envC k b n d t).toArray 2 (.int .u64 (I64 n)) rfl w
  have p4 := run_part1 Try.underlying9 rfl (envC k b n d t).toArray 3 (.string (mkS d)) rfl w
  have p5 := run_partN (k := 32) Try.underlying27 (by decide +kernel) (envC k b n d t).toArray 4 w
  rw [x5] at p5
  rw [← a1, ← o1] at p1
  rw [← a2, ← o2] at p2
  rw [← a3, ← o3] at p3
  rw [← a4, ← o4] at p4
  rw [← a5, ← o5] at p5
  rw [eqF_step n1 p1 p1 (by rw [a1, run_equalIn_int w 9998 _ .i64 .i64 _ _ Try.underlying3, beq_self_eq_true]),
    eqF_step n2 p2 p2 (by rw [a2, run_equalIn_int w 9998 _ .u32 .u32 _ _ Try.underlying24, beq_self_eq_true]),
    eqF_step n3 p3 p3 (by rw [a3, run_equalIn_int w 9998 _ .u64 .u64 _ _ Try.underlying25, beq_self_eq_true]),
    eqF_step n4 p4 p4 (by rw [a4, run_equalIn_string w 9998 _ _ _ Try.underlying9, beq_self_eq_true]),
    eqF_step n5 p5 p5 (by rw [a5]; exact hash_self t ht w)]
  rfl
@[go_sem ↓] theorem env_eql (ht : t.length = 32) (w : World) : (binOp .eql 29 (.agg (envC k b n d t).toArray) (.agg (envC k b n d t).toArray)).run Try.prog w = .ok (.bool true) w := by
  rw [run_eql_struct, env_in k b n d t ht w]; rfl
@[go_sem ↓] theorem env_neq (ht : t.length = 32) (w : World) : (binOp .neq 29 (.agg (envC k b n d t).toArray) (.agg (envC k b n d t).toArray)).run Try.prog w = .ok (.bool false) w := by
  rw [run_neq_struct, env_in k b n d t ht w]; rfl
@[go_sem ↓] theorem env_guard (op : BinOp) (x y : Operand) (w : World) : (eqGuard op 29 x y (.agg (envC k b n d t).toArray) (.agg (envC k b n d t).toArray)).run Try.prog w = .ok () w :=
  run_eqGuard_agg w op _ x y _ _ (by decide +kernel)
end
@[go_sem ↓] theorem env_neqZ (w : World) : (binOp .neq 29 (.agg (envC 0 0 0 [] zeroT).toArray) (.agg #[.int .i64 0, .int .u32 0, .int .u64 0, .string (mkS []), .int .u8 0, .int .u8 0, .int .u8 0, .int .u8 0, .int .u8 0, .int .u8 0, .int .u8 0, .int .u8 0, .int .u8 0, .int .u8 0, .int .u8 0, .int .u8 0, .int .u8 0, .int .u8 0, .int .u8 0, .int .u8 0, .int .u8 0, .int .u8 0, .int .u8 0, .int .u8 0, .int .u8 0, .int .u8 0, .int .u8 0, .int .u8 0, .int .u8 0, .int .u8 0, .int .u8 0, .int .u8 0, .int .u8 0, .int .u8 0, .int .u8 0, .int .u8 0])).run Try.prog w = .ok (.bool false) w := env_neq 0 0 0 [] zeroT zeroT_len w
@[go_sem ↓] theorem env_guardZ (op : BinOp) (x y : Operand) (w : World) : (eqGuard op 29 x y (.agg (envC 0 0 0 [] zeroT).toArray) (.agg #[.int .i64 0, .int .u32 0, .int .u64 0, .string (mkS []), .int .u8 0, .int .u8 0, .int .u8 0, .int .u8 0, .int .u8 0, .int .u8 0, .int .u8 0, .int .u8 0, .int .u8 0, .int .u8 0, .int .u8 0, .int .u8 0, .int .u8 0, .int .u8 0, .int .u8 0, .int .u8 0, .int .u8 0, .int .u8 0, .int .u8 0, .int .u8 0, .int .u8 0, .int .u8 0, .int .u8 0, .int .u8 0, .int .u8 0, .int .u8 0, .int .u8 0, .int .u8 0, .int .u8 0, .int .u8 0, .int .u8 0, .int .u8 0])).run Try.prog w = .ok () w := env_guard 0 0 0 [] zeroT op x y w
theorem w_envNeqZ {ops : Array Oper} {rest : List Oper} {o : Oper} {a : Act} {w : World} {Q : Exit → Act → World → Prop} (x y : Operand) (ty : TypeId) (ho : o.op = .binOp .neq 29 x y ty) (hw : Region.wanted o (yielded ops a.tmps) = true) (hx : a.eval x = .agg (envC 0 0 0 [] zeroT).toArray)
    {C : Array Value} (hy : a.eval y = .agg C) (hC : C = (envC 0 0 0 [] zeroT).toArray) (h : wpList Try.prog ops Q rest (a.put o.dst (.bool false)) w) : wpList Try.prog ops Q (o :: rest) a w :=
  wpW hw fun _ hK => by
    subst hC
    unfold Oper.wp execOp
    simp only [ho, hx, hy, Sem.run_bind, env_guard, env_neq 0 0 0 [] zeroT zeroT_len, Result.andThen_ok, Sem.run_pure]
    exact hK _ _ h
end Go.Proofs.Ytjlkiopncclomaa
