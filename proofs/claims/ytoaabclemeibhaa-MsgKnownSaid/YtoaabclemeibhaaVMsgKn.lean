/- The walk of MsgKnown. No conditions. -/
import Derived.Test.YtoaabclemeibhaaZf
namespace Go
namespace TL
def known1 : Lm := ⟨1, 300, 0, 0, 0, 0, [], 0, zeroH, 0, 0, zeroH, zeroH, []⟩
def known2 : Lm := ⟨1, 0, 1, 0, 0, 0, [], 0, zeroH, 0, 0, zeroH, zeroH, []⟩
def known3 : Lm := ⟨5, 0, 0, 0, 0, 0, [], 0, zeroH, 5, 0, zeroH, zeroH, []⟩
def known5 : Lm := ⟨3, 0, -1, 0, 0, 0, [], 0, zeroH, 0, 0, zeroH, zeroH, []⟩
theorem known_fit1 : known1.fit := ⟨zeroH_len, zeroH_len, zeroH_len⟩
theorem known_fit2 : known2.fit := ⟨zeroH_len, zeroH_len, zeroH_len⟩
theorem known_fit3 : known3.fit := ⟨zeroH_len, zeroH_len, zeroH_len⟩
theorem known_fit5 : known5.fit := ⟨zeroH_len, zeroH_len, zeroH_len⟩
theorem known_rng1 : known1.rng := ⟨fun q => by cases q <;> decide, by decide, by simp [known1], by simp [known1], by simp [known1], by simp [known1], by simp [known1]⟩
theorem known_rng2 : known2.rng := ⟨fun q => by cases q <;> decide, by decide, by simp [known2], by simp [known2], by simp [known2], by simp [known2], by simp [known2]⟩
theorem known_rng3 : known3.rng := ⟨fun q => by cases q <;> decide, by decide, by simp [known3], by simp [known3], by simp [known3], by simp [known3], by simp [known3]⟩
theorem known_rng5 : known5.rng := ⟨fun q => by cases q <;> decide, by decide, by simp [known5], by simp [known5], by simp [known5], by simp [known5], by simp [known5]⟩
theorem zero_rng : zeroL.rng := ⟨fun q => by cases q <;> decide, by decide, by simp [zeroL], by simp [zeroL], by simp [zeroL], by simp [zeroL], by simp [zeroL]⟩
theorem known_bytes : bytesL known1 = [1, 172, 2] := by
  have e2 : numL 300 = [172, 2] := by rw [numL_big (by decide), show 300 / 128 = 2 by decide, numL_small (by decide)]; rfl
  show (1 : UInt8) :: (numL 300 ++ []) = _
  rw [e2]; rfl
theorem known_ok : okL known1 = true := by decide +kernel
theorem known_only : onlyL known1 = known1 := rfl
theorem known_b1 : bytesM known1 = ([1, 172, 2], 0) := by rw [bytesM_eq known_fit1 known_rng1, if_pos (by decide), if_pos ⟨known_ok, known_only⟩, known_bytes]
theorem known_b2 : bytesM known2 = ([], 1) := by
  rw [bytesM_eq known_fit2 known_rng2, if_pos (by decide), if_neg]
  rintro ⟨_, h⟩
  have := congrArg Lm.a h
  exact absurd this (by decide)
theorem known_b3 : bytesM known3 = ([], 1) := by
  rw [bytesM_eq known_fit3 known_rng3, if_pos (by decide), if_neg]
  rintro ⟨h, _⟩
  exact absurd h (by decide +kernel)
theorem known_b4 : bytesM zeroL = ([], 10) := by rw [bytesM_eq zeroL_fit zero_rng, if_neg (by decide)]
theorem known_b5 : bytesM known5 = ([], 1) := by
  rw [bytesM_eq known_fit5 known_rng5, if_pos (by decide), if_neg]
  rintro ⟨h, _⟩
  exact absurd h (by decide +kernel)
theorem known_r1 : readM [1, 172, 2] = (known1, 0) := by
  have := readM_back known_fit1 known_rng1 (by decide) known_ok []
  rwa [List.append_nil, if_pos rfl, known_bytes, known_only] at this
theorem known_r2 : readM [1, 172] = (zeroL, 7) := by
  have := readM_cut known_fit1 known_rng1 (by decide) known_ok (j := 2) (by rw [known_bytes]; decide)
  rwa [known_bytes] at this
theorem known_r3 : readM [1, 172, 2, 0] = (zeroL, 8) := by
  have := readM_back known_fit1 known_rng1 (by decide) known_ok [0]
  rwa [if_neg (by simp), known_bytes] at this
theorem known_r4 : readM [8, 1] = (zeroL, 10) := readM_kind (kb := 8) (y := ⟨[1], 1, 0⟩) rfl rfl (by decide)
theorem known_r5 : readM [] = (zeroL, 7) := readM_err (kb := 0) (y := ⟨[], 0, 7⟩) rfl (by simp)
end TL
end Go
namespace Go.Proofs.Ytoaabclemeibhaa
open Go.RowKit Go.TL
set_option maxRecDepth 100000 in
set_option maxHeartbeats 16000000 in
theorem MsgKnown_c (w : World) : Calls Try.prog 6 #[] w fun e w' => e = .returned (.bool true) ∧ Below w.heap.size w w' := by
  have M := Mem.start [] w
  have RT : ∀ (K : Lm) (e : Nat), K.fit → K.rng → K.ops = [] → K.prs = [] → bytesM K = ([], e) → ∀ (C : Array Value) (w : World), C = (msgC (K.ms (.slice none 0 0) (.slice none 0 0))).toArray → Calls Try.prog 17 #[.agg C] w fun r w' => r = .returned (.int .i64 e) ∧ Below w.heap.size w w' := fun K e hK hr ho hp hb C w h => by
    have := Right_c K (.slice none 0 0) (.slice none 0 0) w hK hr (by rw [ho]; exact seesL_nil _ _ opV_len _) (by rw [hp]; exact seesL_nil _ _ prV_len _)
    rw [hb] at this
    rw [h]; exact this
  have W2 := RT known2 1 known_fit2 known_rng2 rfl rfl known_b2
  have W3 := RT known3 1 known_fit3 known_rng3 rfl rfl known_b3
  have W4 := RT zeroL 10 zeroL_fit zero_rng rfl rfl known_b4
  have W5 := RT known5 1 known_fit5 known_rng5 rfl rfl known_b5
  clear RT
  have B1 : ∀ (C : Array Value) (w : World), C = (msgC (known1.ms (.slice none 0 0) (.slice none 0 0))).toArray → Calls Try.prog 16 #[.agg C] w fun e w' => e = .returned (.tuple #[.string (mkS [1, 172, 2]), .int .i64 0]) ∧ Below w.heap.size w w' := fun C w h => by
    have := Bytes_c known1 (.slice none 0 0) (.slice none 0 0) w known_fit1 known_rng1 (seesL_nil _ _ opV_len _) (seesL_nil _ _ prV_len _)
    rw [known_b1] at this
    rw [h]; exact this
  have SK : ∀ (C : Array Value) (w : World) ov pv, C = (msgC (known1.ms (.slice none 0 0) (.slice none 0 0))).toArray → SeesL w 3 opV ov known1.ops → SeesL w 2 prV pv known1.prs → Calls Try.prog 15 #[.agg (msgC (known1.ms ov pv)).toArray, .agg C] w fun e w' => e = .returned (.bool true) ∧ Below w.heap.size w w' := fun C w ov pv h S T => by
    have := Same_c known1 known1 ov pv (.slice none 0 0) (.slice none 0 0) w known_fit1 known_fit1 S T (seesL_nil _ _ opV_len _) (seesL_nil _ _ prV_len _) (by decide) (by decide) (by decide) (by decide)
    rw [decide_eq_true rfl] at this
    rw [h]; exact this
  have R1 := fun w => Read_c [1, 172, 2] w (by decide)
  have R2 := fun w => Read_c [1, 172] w (by decide)
  have R3 := fun w => Read_c [1, 172, 2, 0] w (by decide)
  have R4 := fun w => Read_c [8, 1] w (by decide)
  have R5 := fun w => Read_c [] w (by decide)
  rw [known_r1] at R1
  rw [known_r2] at R2
  rw [known_r3] at R3
  rw [known_r4] at R4
  rw [known_r5] at R5
  unfold GivesM at R1 R2 R3 R4 R5
  simp only at R1 R2 R3 R4 R5
  have fK := known_fit1
  obtain ⟨K, eK⟩ : ∃ K, K = known1 := ⟨_, rfl⟩
  have hKo : K.ops = [] := by rw [eK]; rfl
  have hKp : K.prs = [] := by rw [eK]; rfl
  replace SK : ∀ (C : Array Value) (w : World) ov pv, C = (msgC (known1.ms (.slice none 0 0) (.slice none 0 0))).toArray → SeesL w 3 opV ov K.ops → SeesL w 2 prV pv K.prs → Calls Try.prog 15 #[.agg (msgC (K.ms ov pv)).toArray, .agg C] w fun e w' => e = .returned (.bool true) ∧ Below w.heap.size w w' := by rw [eK]; exact SK
  rw [← eK] at R1 fK
  replace W2 := Lib.hid W2
  replace W3 := Lib.hid W3
  replace W4 := Lib.hid W4
  replace W5 := Lib.hid W5
  replace B1 := Lib.hid B1
  replace SK := Lib.hid SK
  replace R1 := Lib.hid R1
  replace R2 := Lib.hid R2
  replace R3 := Lib.hid R3
  replace R4 := Lib.hid R4
  replace R5 := Lib.hid R5
  clear eK hKo hKp
  go_enter Try.func6, Try.ntmps6
  go_wp2_with ((first | ((with_reducible refine tGuard ?_); (with_reducible refine w_stripE ?_ ?_); (focus (refine ⟨_, rfl, ?_⟩; first | (with_reducible rfl) | exact decide_eq_false (by omega) | exact decide_eq_true (by omega)))) | ((with_reducible refine tGuard ?_); first | ((with_reducible refine w_skip1 ?_ ?_); (focus (refine ⟨_, rfl, ?_⟩; first | (with_reducible rfl) | exact decide_eq_false (by omega) | exact decide_eq_true (by omega)))) | ((with_reducible refine w_skip0 ?_ ?_); (focus (refine ⟨_, rfl, ?_⟩; first | (with_reducible rfl) | exact decide_eq_false (by omega) | exact decide_eq_true (by omega))))) | (go_at_call 16; go_must (refine (B1.out _ _ rfl).mono ?_; rintro e w1 ⟨rfl, hb⟩; replace M := M.call hb; clear hb)) | ((go_at_call 17); go_must (first | (refine (W2.out _ _ rfl).mono ?_; rintro e w1 ⟨rfl, hb⟩; replace M := M.call hb; clear hb W2) | (refine (W3.out _ _ rfl).mono ?_; rintro e w1 ⟨rfl, hb⟩; replace M := M.call hb; clear hb W3) | (refine (W4.out _ _ rfl).mono ?_; rintro e w1 ⟨rfl, hb⟩; replace M := M.call hb; clear hb W4) | (refine (W5.out _ _ rfl).mono ?_; rintro e w1 ⟨rfl, hb⟩; replace M := M.call hb; clear hb W5))) | ((go_at_call 11); go_must (first | (refine (R1.out _).mono ?_; rintro e w7 ⟨roR1, rpR1, rfl, N⟩; replace M := M.join N; clear N R1; simp only [List.cons_append, List.nil_append] at M; have hfR1 := ms_fit2 fK M) | (refine (R2.out _).mono ?_; rintro e w7 ⟨roR2, rpR2, rfl, N⟩; replace M := M.join N; clear N R2; simp only [List.cons_append, List.nil_append] at M; have hfR2 := ms_fit2 zeroL_fit M) | (refine (R3.out _).mono ?_; rintro e w7 ⟨roR3, rpR3, rfl, N⟩; replace M := M.join N; clear N R3; simp only [List.cons_append, List.nil_append] at M; have hfR3 := ms_fit2 zeroL_fit M) | (refine (R4.out _).mono ?_; rintro e w7 ⟨roR4, rpR4, rfl, N⟩; replace M := M.join N; clear N R4; simp only [List.cons_append, List.nil_append] at M; have hfR4 := ms_fit2 zeroL_fit M) | (refine (R5.out _).mono ?_; rintro e w7 ⟨roR5, rpR5, rfl, N⟩; replace M := M.join N; clear N R5; simp only [List.cons_append, List.nil_append] at M; have hfR5 := ms_fit2 zeroL_fit M))) | (go_at_call 10; go_must (refine (awake18_c _).mono ?_; rintro e w1 ⟨rfl, hb⟩; replace M := M.call hb; clear hb)) | ((go_at_call 15); go_must (refine (SK.out _ _ roR1 rpR1 rfl ((SeesL.own M 13 rfl rfl opV_len)) ((SeesL.own M 14 rfl rfl prV_len))).mono ?_; rintro e w1 ⟨rfl, hb⟩; replace M := M.call hb; clear hb)) | ((with_reducible show wpList _ _ _ (Oper.mk _ (Op.load 30 _) _ _ _ _ :: _) _ _); refine w_at _ _ rfl (by exact ev_tmp rfl) ?_; intro hx; refine w_loadMs M 12 _ _ rfl rfl hx rfl (by decide +kernel) (by kernel_rfl) hfR1 ?_; clear hx) | ((with_reducible refine tAlloc (some 3) 30 ?_); refine w_alloc M _ rfl rfl (.agg (msgC zeroM).toArray) (msgC zeroM) (by kernel_rfl) rfl ?_; clear M; intro g3 w1 M) | ((with_reducible refine tAlloc (some 5) 30 ?_); refine w_alloc M _ rfl rfl (.agg (msgC zeroM).toArray) (msgC zeroM) (by kernel_rfl) rfl ?_; clear M; intro g5 w1 M) | ((with_reducible refine tAlloc (some 7) 30 ?_); refine w_alloc M _ rfl rfl (.agg (msgC zeroM).toArray) (msgC zeroM) (by kernel_rfl) rfl ?_; clear M; intro g7 w1 M) | ((with_reducible refine tAlloc (some 9) 30 ?_); refine w_alloc M _ rfl rfl (.agg (msgC zeroM).toArray) (msgC zeroM) (by kernel_rfl) rfl ?_; clear M; intro g9 w1 M) | ((with_reducible refine tAlloc (some 11) 30 ?_); refine w_alloc M _ rfl rfl (.agg (msgC zeroM).toArray) (msgC zeroM) (by kernel_rfl) rfl ?_; clear M; intro g11 w1 M) | ((with_reducible refine tStore ?_); refine w_at2 _ _ _ rfl (by exact ev_tmp rfl) (by first | exact ev_tmp rfl | exact ev_const) ?_; intro hx hy; (first | refine w_storeMs (m := K.ms roR1 rpR1) M 0 _ _ _ rfl rfl hx rfl hy rfl (by kernel_rfl) hfR1 zeroM_fit ?_ | refine w_storeMs (m := zeroL.ms roR2 rpR2) M 0 _ _ _ rfl rfl hx rfl hy rfl (by kernel_rfl) hfR2 zeroM_fit ?_ | refine w_storeMs (m := zeroL.ms roR3 rpR3) M 0 _ _ _ rfl rfl hx rfl hy rfl (by kernel_rfl) hfR3 zeroM_fit ?_ | refine w_storeMs (m := zeroL.ms roR4 rpR4) M 0 _ _ _ rfl rfl hx rfl hy rfl (by kernel_rfl) hfR4 zeroM_fit ?_ | refine w_storeMs (m := zeroL.ms roR5 rpR5) M 0 _ _ _ rfl rfl hx rfl hy rfl (by kernel_rfl) hfR5 zeroM_fit ?_); clear hx hy M; intro w1 M; (try simp only [setC] at M)) | ((with_reducible refine tGuard ?_); refine w_strip rfl (by with_reducible rfl) ?_) | fail | ((with_reducible refine tLoad ?_); go_must (refine w_at _ _ rfl (by exact ev_tmp rfl) ?_; intro hx; (first | refine w_load M _ _ _ rfl rfl hx rfl (by decide +kernel) (by exact rfl) ?_ | refine w_loadR M _ _ _ rfl rfl hx rfl (by decide +kernel) (by kernel_rfl) ?_); clear hx)) | ((with_reducible refine tStore ?_); go_must (refine w_at2 _ _ _ rfl (by exact ev_tmp rfl) (by first | exact ev_tmp rfl | exact ev_const) ?_; intro hx hy; (first | refine w_store M _ _ _ _ rfl rfl hx rfl hy rfl rfl (by decide +kernel) (by first | decide | simp | (simp; omega)) ?_ | refine w_storeR M _ _ _ _ rfl rfl hx rfl _ hy rfl (by kernel_rfl) (by simp [Value.oneCell']) (by first | rfl | assumption) ?_); clear hx hy M; intro w1 M; (try simp only [setC] at M))) | ((with_reducible refine tBox _ ?_); (refine w_box M _ _ rfl rfl _ rfl _ rfl ?_; clear M; intro g w1 M))) <;> (try conv => arg 5; simp only [Act.put, List.setIfInBounds_toArray, setC]))
  go_ret
  exact ⟨rfl, M.below⟩
end Go.Proofs.Ytoaabclemeibhaa
