/- Texts of this seat, put together: MsgA, MsgG1, Frame, FrameS, FrameB, FrameM, W32, MsgM, Ref18O, Ref18S, BatO, BatC, Ref18Ra. Each begins with a remark that says what is proved in it, and under which conditions. -/
import Derived.ProofKit
import Derived.OpenShut
import Derived.ShutString
import Derived.ChangeOld
import Derived.Below
import Derived.Deep.Slices
import Derived.ChangeArms
import Derived.Test.YtoaabclemeibhaaZa
import Derived.Test.YtoaabclemeibhaaZb
import Derived.Test.YtoaabclemeibhaaZc
import Derived.Test.YtoaabclemeibhaaZd
import Derived.Test.YtoaabclemeibhaaZe
/- The walks of msg.Right and of layer 18's wake. Conditions: lengths; the numbers are int's. -/
namespace Go
namespace TL
open Go.RowKit
/-- The wake's message. -/
def wakeM : Lm := ⟨3, 1, 300, 1, 0, 0, [], 0, zeroH, 0, 0, zeroH, zeroH, []⟩
theorem wakeM_fit : wakeM.fit := ⟨zeroH_len, zeroH_len, zeroH_len⟩
theorem wakeM_rng : wakeM.rng := ⟨fun q => by cases q <;> decide, by decide, by simp [wakeM], by simp [wakeM], by simp [wakeM], by simp [wakeM], by simp [wakeM]⟩
theorem wakeM_only : onlyL wakeM = wakeM := rfl
theorem wakeM_ok : okL wakeM = true := by decide +kernel
theorem wakeM_bytes : bytesL wakeM = [3, 1, 172, 2, 1] := by
  have e1 : numL 1 = [1] := numL_small (by decide)
  have e2 : numL 300 = [172, 2] := by rw [numL_big (by decide), show 300 / 128 = 2 by decide, numL_small (by decide)]; rfl
  show (3 : UInt8) :: (numL 1 ++ (numL 300 ++ (numL 1 ++ []))) = _
  rw [e1, e2]; rfl
theorem wakeM_b : bytesM wakeM = ([3, 1, 172, 2, 1], 0) := by
  rw [bytesM_eq wakeM_fit wakeM_rng, if_pos (by decide), if_pos ⟨wakeM_ok, wakeM_only⟩, wakeM_bytes]
theorem wakeM_r : readM [3, 1, 172, 2, 1] = (wakeM, 0) := by
  have := readM_back wakeM_fit wakeM_rng (by decide) wakeM_ok []
  rwa [List.append_nil, if_pos rfl, wakeM_bytes, wakeM_only] at this
end TL
end Go
namespace Go.Proofs.Ytoaabclemeibhaa
open Go.RowKit Go.TL
set_option maxRecDepth 100000 in
set_option maxHeartbeats 4000000 in
theorem Right_c (L : Lm) (ov pv : Value) (w : World) (hL : L.fit) (hr : L.rng) (S : SeesL w 3 opV ov L.ops) (T : SeesL w 2 prV pv L.prs) :
    Calls Try.prog 17 #[.agg (msgC (L.ms ov pv)).toArray] w fun e w' => e = .returned (.int .i64 (bytesM L).2) ∧ Below w.heap.size w w' := by
  have M := Mem.start [] w
  have hmf : (L.ms ov pv).fit := by
    obtain ⟨op, oc, rfl, _⟩ := S.form
    obtain ⟨pp, pc, rfl, _⟩ := T.form
    exact Lm.ms_fit hL rfl rfl
  have BC := fun w S T => Bytes_c L ov pv w hL hr S T
  obtain ⟨⟨b, e⟩, eb⟩ : ∃ A, A = bytesM L := ⟨_, rfl⟩
  rw [← eb] at BC ⊢
  clear eb
  replace BC := Lib.hid BC
  go_enter Try.func17, Try.ntmps17
  go_wp2_with ((first | ((with_reducible refine tBox (some 1) ?_); refine w_box M _ _ rfl rfl _ rfl (msgC (L.ms ov pv)) rfl ?_; clear M; intro gm w1 M) | ((with_reducible refine tLoad ?_); refine w_at _ _ rfl (by exact ev_tmp rfl) ?_; intro hx; refine w_loadMs M 0 _ _ rfl rfl hx rfl (by decide +kernel) (by kernel_rfl) hmf ?_; clear hx) | (go_at_call 16; go_must (refine (BC.out _ (S.now M) (T.now M)).mono ?_; rintro e w1 ⟨rfl, hb⟩; replace M := M.call hb; clear hb)) | ((with_reducible refine tGuard ?_); refine w_strip rfl (by with_reducible rfl) ?_) | fail | ((with_reducible refine tLoad ?_); go_must (refine w_at _ _ rfl (by exact ev_tmp rfl) ?_; intro hx; (first | refine w_load M _ _ _ rfl rfl hx rfl (by decide +kernel) (by exact rfl) ?_ | refine w_loadR M _ _ _ rfl rfl hx rfl (by decide +kernel) (by kernel_rfl) ?_); clear hx)) | ((with_reducible refine tStore ?_); go_must (refine w_at2 _ _ _ rfl (by exact ev_tmp rfl) (by first | exact ev_tmp rfl | exact ev_const) ?_; intro hx hy; (first | refine w_store M _ _ _ _ rfl rfl hx rfl hy rfl rfl (by decide +kernel) (by first | decide | simp | (simp; omega)) ?_ | refine w_storeR M _ _ _ _ rfl rfl hx rfl _ hy rfl (by kernel_rfl) (by simp [Value.oneCell']) (by first | rfl | assumption) ?_); clear hx hy M; intro w1 M; (try simp only [setC] at M))) | ((with_reducible refine tBox _ ?_); (refine w_box M _ _ rfl rfl _ rfl _ rfl ?_; clear M; intro g w1 M))) <;> (try conv => arg 5; simp only [Act.put, List.setIfInBounds_toArray, setC]))
  go_ret
  exact ⟨rfl, M.below⟩
set_option maxRecDepth 100000 in
set_option maxHeartbeats 4000000 in
theorem awake18_c (w : World) : Calls Try.prog 10 #[] w fun e w' => e = .returned (.bool true) ∧ Below w.heap.size w w' := by
  have M := Mem.start [] w
  have BC : ∀ (C : Array Value) (w : World), C = (msgC (wakeM.ms (.slice none 0 0) (.slice none 0 0))).toArray → Calls Try.prog 16 #[.agg C] w fun e w' => e = .returned (.tuple #[.string (mkS [3, 1, 172, 2, 1]), .int .i64 0]) ∧ Below w.heap.size w w' := fun C w h => by
    have := Bytes_c wakeM (.slice none 0 0) (.slice none 0 0) w wakeM_fit wakeM_rng (seesL_nil _ _ opV_len _) (seesL_nil _ _ prV_len _)
    rw [wakeM_b] at this
    rw [h]; exact this
  have RC := fun w => Read_c [3, 1, 172, 2, 1] w (by decide)
  rw [wakeM_r] at RC
  unfold GivesM at RC
  simp only at RC
  have hwf := wakeM_fit
  have hwk : wakeM.k = 3 := rfl
  have hwe : wakeM.e = 1 := rfl
  have hwa : wakeM.a = 300 := rfl
  obtain ⟨W, eW⟩ : ∃ W, W = wakeM := ⟨_, rfl⟩
  rw [← eW] at RC hwf hwk hwe hwa
  replace BC := Lib.hid BC
  replace RC := Lib.hid RC
  clear eW
  have H0 : ∀ ov pv, (msgC (W.ms ov pv))[0]? = some (.int .u8 3) := fun ov pv => by show some (Value.int .u8 (I8 W.k)) = _; rw [hwk]; rfl
  have H1 : ∀ ov pv, (msgC (W.ms ov pv))[1]? = some (.int .i64 1) := fun ov pv => by show some (Value.int .i64 W.e) = _; rw [hwe]
  have H2 : ∀ ov pv, (msgC (W.ms ov pv))[2]? = some (.int .i64 300) := fun ov pv => by show some (Value.int .i64 W.a) = _; rw [hwa]
  replace H0 := Lib.hid H0
  replace H1 := Lib.hid H1
  replace H2 := Lib.hid H2
  clear hwk hwe hwa
  go_enter Try.func10, Try.ntmps10
  go_wp2_with ((first | ((with_reducible refine tGuard ?_); (with_reducible refine w_stripE ?_ ?_); (focus (refine ⟨_, rfl, ?_⟩; first | (with_reducible rfl) | exact decide_eq_false (by omega) | exact decide_eq_true (by omega)))) | ((with_reducible refine tGuard ?_); first | ((with_reducible refine w_skip1 ?_ ?_); (focus (refine ⟨_, rfl, ?_⟩; first | (with_reducible rfl) | exact decide_eq_false (by omega) | exact decide_eq_true (by omega)))) | ((with_reducible refine w_skip0 ?_ ?_); (focus (refine ⟨_, rfl, ?_⟩; first | (with_reducible rfl) | exact decide_eq_false (by omega) | exact decide_eq_true (by omega))))) | (go_at_call 16; go_must (refine (BC.out _ _ rfl).mono ?_; rintro e w1 ⟨rfl, hb⟩; replace M := M.call hb; clear hb)) | (go_at_call 11; go_must (refine (RC.out _).mono ?_; rintro e w7 ⟨rov, rpv, rfl, N⟩; replace M := M.join N; clear N; simp only [List.cons_append, List.nil_append] at M; have hrf := ms_fit2 hwf M)) | ((with_reducible refine tAlloc (some 3) 30 ?_); refine w_alloc M _ rfl rfl (.agg (msgC zeroM).toArray) (msgC zeroM) (by kernel_rfl) rfl ?_; clear M; intro gb w1 M) | ((with_reducible refine tStore ?_); refine w_at2 _ _ _ rfl (by exact ev_tmp rfl) (by first | exact ev_tmp rfl | exact ev_const) ?_; intro hx hy; refine w_storeMs (m := W.ms rov rpv) M 0 _ _ _ rfl rfl hx rfl hy rfl (by kernel_rfl) hrf zeroM_fit ?_; clear hx hy M; intro w1 M; (try simp only [setC] at M)) | ((with_reducible refine tLoad ?_); refine w_at _ _ rfl (by exact ev_tmp rfl) ?_; intro hx; (first | refine w_load M 0 _ _ rfl rfl hx rfl (by decide +kernel) (by with_reducible first | exact H0.out _ _ | exact H1.out _ _ | exact H2.out _ _) ?_); clear hx) | ((with_reducible refine tGuard ?_); refine w_strip rfl (by with_reducible rfl) ?_) | fail | ((with_reducible refine tLoad ?_); go_must (refine w_at _ _ rfl (by exact ev_tmp rfl) ?_; intro hx; (first | refine w_load M _ _ _ rfl rfl hx rfl (by decide +kernel) (by exact rfl) ?_ | refine w_loadR M _ _ _ rfl rfl hx rfl (by decide +kernel) (by kernel_rfl) ?_); clear hx)) | ((with_reducible refine tStore ?_); go_must (refine w_at2 _ _ _ rfl (by exact ev_tmp rfl) (by first | exact ev_tmp rfl | exact ev_const) ?_; intro hx hy; (first | refine w_store M _ _ _ _ rfl rfl hx rfl hy rfl rfl (by decide +kernel) (by first | decide | simp | (simp; omega)) ?_ | refine w_storeR M _ _ _ _ rfl rfl hx rfl _ hy rfl (by kernel_rfl) (by simp [Value.oneCell']) (by first | rfl | assumption) ?_); clear hx hy M; intro w1 M; (try simp only [setC] at M))) | ((with_reducible refine tBox _ ?_); (refine w_box M _ _ rfl rfl _ rfl _ rfl ?_; clear M; intro g w1 M))) <;> (try conv => arg 5; simp only [Act.put, List.setIfInBounds_toArray, setC]))
  go_ret
  exact ⟨rfl, M.below⟩
end Go.Proofs.Ytoaabclemeibhaa

/- Plain: a message that is not great is within its bounds. No program in this text. -/
namespace Go
namespace TL
theorem sumP_mem : ∀ {l : List (List UInt8 × List UInt8)}, sumP l ≤ 30000 → ∀ x ∈ l, x.1.length ≤ 30000 ∧ x.2.length ≤ 30000
  | [], _, x, h => by cases h
  | y :: l, h, x, hx => by
    rw [sumP] at h
    rcases List.mem_cons.1 hx with rfl | hx
    · omega
    · exact sumP_mem (by omega) x hx
theorem sumO_mem : ∀ {l : List Opr}, sumO l ≤ 30000 → ∀ x ∈ l, x.2.1.length ≤ 30000 ∧ x.2.2.length ≤ 30000
  | [], _, x, h => by cases h
  | y :: l, h, x, hx => by
    rw [sumO] at h
    rcases List.mem_cons.1 hx with rfl | hx
    · omega
    · exact sumO_mem (by omega) x hx
theorem prsB_sum : ∀ {l : List (List UInt8 × List UInt8)}, sumP l ≤ 30000 → (l.flatMap prB).length ≤ l.length * 20 + sumP l
  | [], _ => by simp
  | x :: l, h => by
    rw [sumP] at h
    have h1 := prsB_sum (l := l) (by omega)
    have h2 := numL_length_le x.1.length (by omega)
    have h3 := numL_length_le x.2.length (by omega)
    simp only [List.flatMap_cons, List.length_append, List.length_cons, prB, textL, sumP]; omega
theorem great_rng {L : Lm} (hn : ∀ q : Mf, -9223372036854775808 ≤ q.gl L ∧ q.gl L ≤ 9223372036854775807) (hb : L.be ≤ 9223372036854775807) (h : greatL L = false) : L.rng := by
  unfold greatL at h
  simp only [Bool.or_eq_false_iff, decide_eq_false_iff_not] at h
  obtain ⟨h1, h2, h3⟩ := h
  rw [List.take_of_length_le (by omega), List.take_of_length_le (by omega)] at h3
  have hp : sumP L.prs ≤ 30000 := by omega
  have ho : sumO L.ops ≤ 30000 := by omega
  have := prsB_sum hp
  exact ⟨hn, hb, by omega, fun x hx => by have := sumO_mem ho x hx; omega, by omega, fun x hx => by have := sumP_mem hp x hx; omega, by omega⟩
theorem bytesL_len {L : Lm} (hr : L.rng) (hL : L.fit) : (bytesL L).length ≤ 700000 := by
  have h1 := puts_len hr hL (fdsL L.k)
  have h2 := fds_len L.k
  unfold bytesL
  rw [List.length_cons]
  have h3 : (fdsL L.k).length * 100100 ≤ 600600 := by omega
  omega
/-- What a message's bytes are: none, and why, or they are read back. -/
theorem bytesM_cases {L : Lm} (hL : L.fit) (hr : L.rng) : (∃ e, e ≠ 0 ∧ bytesM L = ([], e)) ∨ (isK L.k = true ∧ okL L = true ∧ onlyL L = L ∧ bytesM L = (bytesL L, 0)) := by
  rw [bytesM_eq hL hr]
  by_cases hk : isK L.k = true
  · rw [if_pos hk]
    by_cases ho : okL L = true ∧ onlyL L = L
    · rw [if_pos ho]; exact .inr ⟨hk, ho.1, ho.2, rfl⟩
    · rw [if_neg ho]; exact .inl ⟨1, by decide, rfl⟩
  · rw [if_neg hk]; exact .inl ⟨10, by decide, rfl⟩
end TL
end Go

/- What the statements' frames lean on: an array of bytes that came in; a byte that came in. No conditions but those each lemma names. -/
namespace Go
namespace TL
open Go.RowKit
theorem wf_u8 {a : Int} (h : (Lit.int .u8 a).wf = true) : ∃ x : UInt8, a = I8 x := by
  have hb : IntKind.u8.min ≤ a ∧ a ≤ IntKind.u8.max := by simpa [Lit.wf] using h
  have h0 : IntKind.u8.min = 0 := by decide
  have h1 : IntKind.u8.max = 255 := by decide
  rw [h0, h1] at hb
  refine ⟨UInt8.ofNat a.toNat, ?_⟩
  rw [I8_eq, UInt8.toNat_ofNat']
  omega
theorem eq_of_cells {n : Nat} (cs : List Value) (h : ∀ i, i < n → ∃ x : UInt8, (cs.drop i).take 1 = [vb x]) (hl : cs.length = n) : ∃ l : List UInt8, l.length = n ∧ cs = l.map vb := by
  induction n generalizing cs with
  | zero => exact ⟨[], rfl, by simpa using hl⟩
  | succ n ih =>
    cases cs with
    | nil => simp at hl
    | cons c cs =>
      obtain ⟨x, hx⟩ := h 0 (by omega)
      simp only [List.drop_zero, List.take_succ_cons, List.take_zero, List.cons.injEq, and_true] at hx
      obtain ⟨l, h1, h2⟩ := ih cs (fun i hi => by simpa using h (i + 1) (by omega)) (by simpa using hl)
      exact ⟨x :: l, by simp [h1], by rw [hx, h2]; rfl⟩
theorem open_arr {P : Program} {w : World} {H : Type} {enc : TypeId × Value → H} {base : Nat} {spare : Bool} {held : _} {r : Reach} {b0 : Nat} {t e : TypeId} {n : Nat} {v : Value} {d : DataW H} {p : List MemPlace} (hu : P.underlying t = some (.array n e)) (he : P.underlying e = some (.int .u8)) (hc : P.cellsOf e = 1) (hct : P.cellsOf t = n)
    (hv : Value.okWide P w r b0 t v) (h : DataW.Trod enc P w base held spare t v d p) : ∃ l : List UInt8, l.length = n ∧ v = .agg (l.map vb).toArray := by
  simp only [Value.okWide, hu] at hv
  obtain ⟨cs, rfl, hsz, _⟩ := hv
  obtain ⟨fuel, hf⟩ := h
  obtain ⟨xs, m, _, _, _, hxl, hi⟩ := DataW.trod_array hu hf
  obtain ⟨l, h1, h2⟩ := eq_of_cells (n := n) cs.toList (fun i hin => by
    have h3 := hi i hin
    rw [hc, Nat.mul_one, List.getElem?_eq_getElem (by omega)] at h3
    obtain ⟨k, h4, _, h5⟩ := DataW.trod_int he h3
    obtain ⟨x, rfl⟩ := wf_u8 h5
    exact ⟨x, h4⟩) (by rw [Array.length_toList, hsz, hct])
  exact ⟨l, h1, by rw [← h2]⟩
end TL
end Go

/- What the statements' frames lean on where a slice of structs comes in: it is seen, element by element. No conditions but those each lemma names. -/
namespace Go
namespace TL
open Go.RowKit Go.ChangeShapes Go.WideShapes Go.Deep
theorem listOf {α : Type} {p : Nat → α → Prop} : ∀ n : Nat, (∀ i, i < n → ∃ x, p i x) → ∃ l : List α, l.length = n ∧ ∀ (i : Nat) (x : α), l[i]? = some x → p i x
  | 0, _ => ⟨[], rfl, fun i x h => by simp at h⟩
  | n + 1, h => by
    obtain ⟨l, h1, h2⟩ := listOf n fun i hi => h i (by omega)
    obtain ⟨x, hx⟩ := h n (by omega)
    refine ⟨l ++ [x], by simp [h1], fun i y hy => ?_⟩
    by_cases hi : i < n
    · rw [List.getElem?_append_left (by omega)] at hy; exact h2 i y hy
    · have hi' : i = n := by
        have := (List.getElem?_eq_some_iff.1 hy).1
        simp at this; omega
      subst hi'
      rw [List.getElem?_append_right (by omega), h1] at hy
      simp at hy; subst hy; exact hx
theorem lt_of_shape {w : World} {g : Nat} {x : TypeId × Nat} (h : w.shape? g = some x) : g < w.heap.size := by
  unfold World.shape? at h
  cases e : w.heap[g]? with
  | none => rw [e] at h; simp at h
  | some o => exact (Array.getElem?_eq_some_iff.1 e).1
section
variable {H : Type} {enc : TypeId × Value → H} {P : Program} {w : World} {base : Nat} {spare : Nat → Bool} {held : Bool}
/-- A slice's shape, told by its type. -/
theorem slice_shape {r : Reach} {b0 : Nat} {t e : TypeId} {v : Value} (ht : P.underlying t = some (.slice e)) (hv : Value.okWide P w r b0 t v) : v = .slice none 0 0 ∨ ∃ a len cap, v = .slice (some a) len cap ∧ a.spot = none ∧ a.block < w.heap.size := by
  unfold Value.okWide at hv
  rw [ht] at hv
  have hv : Cell.ok P w r b0 t v := by
    unfold Cell.okWide at hv
    rw [ht] at hv
    exact hv
  unfold Cell.ok at hv
  rw [ht] at hv
  split at hv <;> simp_all
  obtain ⟨_, _, h⟩ := hv
  unfold World.has at h
  obtain ⟨_, hs, row, cells, hsh, _⟩ := h
  exact ⟨hs, lt_of_shape hsh⟩
theorem open_sl {α : Type} {f : α → List Value} {size : Nat} {good : α → Prop} {r : Reach} {b0 : Nat} {t e : TypeId} {v : Value} {d : DataW H} {p : List MemPlace} (ht : P.underlying t = some (.slice e)) (hc : P.cellsOf e = size) (hpos : 0 < size) (hf : ∀ x, (f x).length = size)
    (hdec : ∀ n cs y, cs.length = size → DataW.trod enc P w base spare held n e cs = some y → ∃ x, cs = f x ∧ good x) (hv : Value.okWide P w r b0 t v) (h : DataW.Trod enc P w base spare held t v d p) : ∃ l : List α, SeesL w size f v l ∧ ∀ x ∈ l, good x := by
  obtain ⟨fuel, hh⟩ := h
  rcases slice_shape ht hv with rfl | ⟨⟨g, o, s⟩, len, cap, rfl, hs, hlt⟩
  · exact ⟨[], seesL_nil size f hf w, by simp⟩
  · simp only at hs hlt; subst hs
    rcases open_slice ht hh with ⟨h0, _⟩ | ⟨a, len', cap', m, n, D, Pl, hcs, hb, hl, hm, hmm, hx, hi⟩
    · simp [Value.cells] at h0
    · simp only [Value.cells, List.cons.injEq, and_true, Value.slice.injEq, Option.some.injEq] at hcs
      obtain ⟨rfl, rfl, rfl⟩ := hcs
      have hlm : len ≤ m := by rw [hmm]; split <;> omega
      obtain ⟨l, h1, h2⟩ := listOf (p := fun i x => good x ∧ ∀ j, j < size → w.cell? ⟨g, o + (i * size + j), none⟩ = (f x)[j]?) len fun i hil => by
        obtain ⟨cs, hcells, htrod⟩ := hi i (by omega)
        rw [hc] at hcells
        obtain ⟨_, hlen, hat⟩ := World.cells?_some hcells
        obtain ⟨x, rfl, hg⟩ := hdec n cs _ hlen htrod
        refine ⟨x, hg, fun j hj => ?_⟩
        rw [← hat j hj]
        congr 1
        unfold Addr.add
        by_cases hi0 : i * size = 0 <;> by_cases hj0 : j = 0 <;> simp [hi0, hj0]
        omega
      refine ⟨l, ⟨⟨by rw [flat_len hf], .inr ⟨g, o, cap, by rw [h1], hlt, by omega, hm, ?_⟩⟩, hf⟩, fun x hx => ?_⟩
      · intro j v hv
        have hjl : j < l.length * size := by have := (List.getElem?_eq_some_iff.1 hv).1; rwa [flat_len hf] at this
        have hk : j / size < l.length := Nat.div_lt_of_lt_mul (by rw [Nat.mul_comm]; exact hjl)
        obtain ⟨x, hx⟩ : ∃ x, l[j / size]? = some x := ⟨_, List.getElem?_eq_getElem hk⟩
        have hmod : j % size < size := Nat.mod_lt _ hpos
        have e : j / size * size + j % size = j := by rw [Nat.mul_comm]; exact Nat.div_add_mod j size
        have := (h2 _ x hx).2 (j % size) hmod
        rw [e] at this
        rw [this, ← flat_get hf l (j / size) x hx (j % size) hmod, e]
        exact hv
      · obtain ⟨k, hk⟩ := List.getElem?_of_mem hx
        exact (h2 k x hk).1
/-- A struct of two texts. -/
theorem dec_pr {e : TypeId} {f0 f1 : Field} (he : P.underlying e = some (.struct #[f0, f1])) (h0 : P.underlying f0.type = some .string) (h1 : P.underlying f1.type = some .string) (o0 : f0.offset = 0) (o1 : f1.offset = 1) (c0 : P.cellsOf f0.type = 1) (c1 : P.cellsOf f1.type = 1) :
    ∀ n cs y, cs.length = 2 → DataW.trod enc P w base spare held n e cs = some y → ∃ x : List UInt8 × List UInt8, cs = prV x ∧ (x.1.length ≤ maxLen ∧ x.2.length ≤ maxLen) := by
  intro n cs y hl h
  obtain ⟨xs, m, _, _, _, hxl, hg⟩ := DataW.trod_struct he h
  match cs, hl with
  | [a, b], _ =>
    match xs, hxl with
    | [x0, x1], _ =>
      have g0 := hg 0 f0 rfl
      have g1 := hg 1 f1 rfl
      rw [o0, c0] at g0
      rw [o1, c1] at g1
      obtain ⟨s, hs, _, hsl⟩ := DataW.trod_string h0 g0
      obtain ⟨u, hu, _, hul⟩ := DataW.trod_string h1 g1
      simp at hs hu
      obtain ⟨ls, rfl⟩ := mkS_of s
      obtain ⟨lu, rfl⟩ := mkS_of u
      rw [mkS_size] at hsl hul
      exact ⟨(ls, lu), by rw [hs, hu]; rfl, hsl, hul⟩
end
end TL
end Go

/- What the frames of layer 12's statements lean on: slices of mounts and of operations. No conditions but those each lemma names. -/
namespace Go
namespace TL
open Go.RowKit Go.ChangeShapes Go.WideShapes Go.Deep
section
variable {H : Type} {enc : TypeId × Value → H} {P : Program} {w : World} {base : Nat} {spare : Nat → Bool} {held : Bool}
/-- A struct of a text and a bool. -/
theorem dec_mt {e : TypeId} {f0 f1 : Field} (he : P.underlying e = some (.struct #[f0, f1])) (h0 : P.underlying f0.type = some .string) (h1 : P.underlying f1.type = some .bool) (o0 : f0.offset = 0) (o1 : f1.offset = 1) (c0 : P.cellsOf f0.type = 1) (c1 : P.cellsOf f1.type = 1) :
    ∀ n cs y, cs.length = 2 → DataW.trod enc P w base spare held n e cs = some y → ∃ x : Mt, cs = mtV x ∧ x.1.length ≤ maxLen := by
  intro n cs y hl h
  obtain ⟨xs, m, _, _, _, hxl, hg⟩ := DataW.trod_struct he h
  match cs, hl with
  | [a, b], _ =>
    match xs, hxl with
    | [x0, x1], _ =>
      have g0 := hg 0 f0 rfl
      have g1 := hg 1 f1 rfl
      rw [o0, c0] at g0
      rw [o1, c1] at g1
      obtain ⟨s, hs, _, hsl⟩ := DataW.trod_string h0 g0
      obtain ⟨u, hu, _⟩ := DataW.trod_bool h1 g1
      simp at hs hu
      obtain ⟨ls, rfl⟩ := mkS_of s
      rw [mkS_size] at hsl
      exact ⟨(ls, u), by rw [hs, hu]; rfl, hsl⟩
/-- A struct of a byte and two texts. -/
theorem dec_op {e : TypeId} {f0 f1 f2 : Field} (he : P.underlying e = some (.struct #[f0, f1, f2])) (h0 : P.underlying f0.type = some (.int .u8)) (h1 : P.underlying f1.type = some .string) (h2 : P.underlying f2.type = some .string) (o0 : f0.offset = 0) (o1 : f1.offset = 1) (o2 : f2.offset = 2) (c0 : P.cellsOf f0.type = 1) (c1 : P.cellsOf f1.type = 1) (c2 : P.cellsOf f2.type = 1) :
    ∀ n cs y, cs.length = 3 → DataW.trod enc P w base spare held n e cs = some y → ∃ x : Opr, cs = opV x ∧ (x.2.1.length ≤ maxLen ∧ x.2.2.length ≤ maxLen) := by
  intro n cs y hl h
  obtain ⟨xs, m, _, _, _, hxl, hg⟩ := DataW.trod_struct he h
  match cs, hl with
  | [a, b, c], _ =>
    match xs, hxl with
    | [x0, x1, x2], _ =>
      have g0 := hg 0 f0 rfl
      have g1 := hg 1 f1 rfl
      have g2 := hg 2 f2 rfl
      rw [o0, c0] at g0
      rw [o1, c1] at g1
      rw [o2, c2] at g2
      obtain ⟨k, hk, _, hw⟩ := DataW.trod_int h0 g0
      obtain ⟨s, hs, _, hsl⟩ := DataW.trod_string h1 g1
      obtain ⟨u, hu, _, hul⟩ := DataW.trod_string h2 g2
      simp at hk hs hu
      obtain ⟨q, rfl⟩ := wf_u8 hw
      obtain ⟨ls, rfl⟩ := mkS_of s
      obtain ⟨lu, rfl⟩ := mkS_of u
      rw [mkS_size] at hsl hul
      exact ⟨(q, ls, lu), by rw [hk, hs, hu]; rfl, hsl, hul⟩
theorem wf_i64 {a : Int} (h : (Lit.int .i64 a).wf = true) : -9223372036854775808 ≤ a ∧ a ≤ 9223372036854775807 := by
  have hb : IntKind.i64.min ≤ a ∧ a ≤ IntKind.i64.max := by simpa [Lit.wf] using h
  have h0 : IntKind.i64.min = -9223372036854775808 := by decide
  have h1 : IntKind.i64.max = 9223372036854775807 := by decide
  rw [h0, h1] at hb
  exact hb
/-- A batch that comes in: two ints and a slice of operations. -/
theorem open_bt {r : Reach} {b0 : Nat} {t e : TypeId} {v : Value} {d : DataW H} {p : List MemPlace} {f0 f1 f2 : Field} (ht : P.underlying t = some (.struct #[f0, f1, f2])) (h0 : P.underlying f0.type = some (.int .i64)) (h1 : P.underlying f1.type = some (.int .i64)) (h2 : P.underlying f2.type = some (.slice e))
    (o0 : f0.offset = 0) (o1 : f1.offset = 1) (o2 : f2.offset = 2) (c0 : P.cellsOf f0.type = 1) (c1 : P.cellsOf f1.type = 1) (c2 : P.cellsOf f2.type = 1) (hct : P.cellsOf t = 3) (hts : P.cellTypes P.depth t = some [f0.type, f1.type, f2.type]) (hce : P.cellsOf e = 3)
    (hdec : ∀ n cs y, cs.length = 3 → DataW.trod enc P w base spare held n e cs = some y → ∃ x : Opr, cs = opV x ∧ (x.2.1.length ≤ maxLen ∧ x.2.2.length ≤ maxLen))
    (hv : Value.okWide P w r b0 t v) (h : DataW.Trod enc P w base spare held t v d p) :
    ∃ (i j : Int) (l : List Opr) (z : Value), v = .agg #[.int .i64 i, .int .i64 j, z] ∧ (-9223372036854775808 ≤ i ∧ i ≤ 9223372036854775807) ∧ (-9223372036854775808 ≤ j ∧ j ≤ 9223372036854775807) ∧ SeesL w 3 opV z l ∧ ∀ x ∈ l, x.2.1.length ≤ maxLen ∧ x.2.2.length ≤ maxLen := by
  simp only [Value.okWide, ht] at hv
  obtain ⟨cs, rfl, hsz, ts, hts', _, hc⟩ := hv
  rw [hts] at hts'
  cases hts'
  obtain ⟨fuel, hf⟩ := h
  obtain ⟨xs, m, _, _, _, hxl, hg⟩ := DataW.trod_struct ht hf
  rw [hct] at hsz
  obtain ⟨cl⟩ := cs
  match cl, hsz with
  | [a, b, c], _ =>
    match xs, hxl with
    | [x0, x1, x2], _ =>
      have g0 := hg 0 f0 rfl
      have g1 := hg 1 f1 rfl
      have g2 := hg 2 f2 rfl
      rw [o0, c0] at g0
      rw [o1, c1] at g1
      rw [o2, c2] at g2
      obtain ⟨i, hi, _, wi⟩ := DataW.trod_int h0 g0
      obtain ⟨j, hj, _, wj⟩ := DataW.trod_int h1 g1
      have g2 : DataW.trod enc P w base spare held m f2.type [c] = some x2 := g2
      have ha : a = .int .i64 i := by simpa [Value.cells] using hi
      have hb : b = .int .i64 j := by simpa [Value.cells] using hj
      subst ha; subst hb
      obtain ⟨u, hu, hcell⟩ := hc 2 c rfl
      have hu' : f2.type = u := by simpa using hu
      subst hu'
      have hval : Value.okWide P w r b0 f2.type c := by unfold Value.okWide; rw [h2]; exact hcell
      have htr : DataW.Trod enc P w base spare held f2.type c x2.1 x2.2 := by
        rcases slice_shape h2 hval with rfl | ⟨_, _, _, rfl, _⟩ <;> exact ⟨m, g2⟩
      obtain ⟨l, S, hl⟩ := open_sl (f := opV) h2 hce (by decide) opV_len hdec hval htr
      exact ⟨i, j, l, c, rfl, wf_i64 wi, wf_i64 wj, S, hl⟩
end
end TL
end Go

/- Frames of statements about messages. No conditions but those each lemma names. -/
namespace Go
namespace TL
theorem part_at {cl : List Value} {j : Nat} {c : Value} (h : cl[j]? = some c) : (cl.drop j).take 1 = [c] := by
  obtain ⟨hj, rfl⟩ := List.getElem?_eq_some_iff.1 h
  rw [List.drop_eq_getElem_cons hj]; rfl
theorem part_split (cl : List Value) (a n b : Nat) (h : a + n = b) : cl.drop a = (cl.drop a).take n ++ cl.drop b := by
  rw [← h, ← List.drop_drop, List.take_append_drop]
end TL
end Go
namespace Go.Proofs.Ytoaabclemeibhaa
open Go.RowKit Go.TL Go.ChangeShapes Go.WideShapes Go.Deep
section
variable {H : Type} {enc : TypeId × Value → H} {w : World} {base : Nat} {spare : Nat → Bool} {held : Bool}
theorem open_hash {m : Nat} {cs : List Value} {x : DataW H × List MemPlace} (h : DataW.trod enc Try.prog w base spare held m 27 cs = some x) (hl : cs.length = 32) : ∃ l : List UInt8, l.length = 32 ∧ cs = bs l := by
  obtain ⟨ys, m', _, _, _, hyl, hy⟩ := DataW.trod_array Try.underlying27 h
  refine eq_of_cells (n := 32) cs (fun i hin => ?_) hl
  have ce : Try.prog.cellsOf 5 = 1 := by kernel_rfl
  have h5 := hy i hin
  rw [ce, Nat.mul_one, List.getElem?_eq_getElem (by omega)] at h5
  obtain ⟨k, h6, _, h7⟩ := DataW.trod_int Try.underlying5 h5
  obtain ⟨x, rfl⟩ := wf_u8 h7
  exact ⟨x, h6⟩
set_option maxRecDepth 100000 in
set_option maxHeartbeats 2000000 in
/-- A message that comes in. -/
theorem open_ms {r : Reach} {b0 : Nat} {v : Value} {d : DataW H} {p : List MemPlace} (hv : Value.okWide Try.prog w r b0 30 v) (h : DataW.Trod enc Try.prog w base spare held 30 v d p) :
    ∃ (L : Lm) (ov pv : Value), v = .agg (msgC (L.ms ov pv)).toArray ∧ L.fit ∧ (∀ q : Mf, -9223372036854775808 ≤ q.gl L ∧ q.gl L ≤ 9223372036854775807) ∧ L.be ≤ 9223372036854775807 ∧ SeesL w 3 opV ov L.ops ∧ SeesL w 2 prV pv L.prs ∧ (∀ x ∈ L.ops, x.2.1.length ≤ maxLen ∧ x.2.2.length ≤ maxLen) ∧ (∀ x ∈ L.prs, x.1.length ≤ maxLen ∧ x.2.length ≤ maxLen) := by
  have t6 : (Try.prog.cellTypes Try.prog.depth 30).bind (·[6]?) = some 23 := by kernel_rfl
  have t106 : (Try.prog.cellTypes Try.prog.depth 30).bind (·[106]?) = some 28 := by kernel_rfl
  have tL : (Try.prog.cellTypes Try.prog.depth 30).map (·.length) = some 107 := by kernel_rfl
  have hct : Try.prog.cellsOf 30 = 107 := by kernel_rfl
  simp only [Value.okWide, Try.underlying30] at hv
  obtain ⟨cs, rfl, hsz, ts, hts', _, hc⟩ := hv
  rw [hts'] at t6 t106 tL
  simp only [Option.bind_some, Option.map_some, Option.some.injEq] at t6 t106 tL
  obtain ⟨fuel, hf⟩ := h
  obtain ⟨xs, m, _, _, _, hxl, hg⟩ := DataW.trod_struct Try.underlying30 hf
  rw [hct] at hsz
  obtain ⟨cl⟩ := cs
  have hlen : cl.length = 107 := by simpa using hsz
  have hxl' : xs.length = 12 := hxl
  obtain ⟨x0, x1, x2, x3, x4, x5, x6, x7, x8, x9, x10, x11, rfl⟩ : ∃ a b c d e f g h i j k l, xs = [a, b, c, d, e, f, g, h, i, j, k, l] := by
    match xs, hxl' with
    | [a, b, c, d, e, f, g, h, i, j, k, l], _ => exact ⟨a, b, c, d, e, f, g, h, i, j, k, l, rfl⟩
  have c1 : Try.prog.cellsOf 5 = 1 := by kernel_rfl
  have c3 : Try.prog.cellsOf 3 = 1 := by kernel_rfl
  have cH : Try.prog.cellsOf 27 = 32 := by kernel_rfl
  have cB : Try.prog.cellsOf 25 = 3 := by kernel_rfl
  have cO : Try.prog.cellsOf 23 = 1 := by kernel_rfl
  have cP : Try.prog.cellsOf 28 = 1 := by kernel_rfl
  have g0 : DataW.trod enc Try.prog w base spare held m 5 ((cl.drop 0).take (Try.prog.cellsOf 5)) = some x0 := hg 0 _ rfl
  have g1 : DataW.trod enc Try.prog w base spare held m 3 ((cl.drop 1).take (Try.prog.cellsOf 3)) = some x1 := hg 1 _ rfl
  have g2 : DataW.trod enc Try.prog w base spare held m 3 ((cl.drop 2).take (Try.prog.cellsOf 3)) = some x2 := hg 2 _ rfl
  have g3 : DataW.trod enc Try.prog w base spare held m 3 ((cl.drop 3).take (Try.prog.cellsOf 3)) = some x3 := hg 3 _ rfl
  have g4 : DataW.trod enc Try.prog w base spare held m 25 ((cl.drop 4).take (Try.prog.cellsOf 25)) = some x4 := hg 4 _ rfl
  have g5 : DataW.trod enc Try.prog w base spare held m 3 ((cl.drop 7).take (Try.prog.cellsOf 3)) = some x5 := hg 5 _ rfl
  have g6 : DataW.trod enc Try.prog w base spare held m 27 ((cl.drop 8).take (Try.prog.cellsOf 27)) = some x6 := hg 6 _ rfl
  have g7 : DataW.trod enc Try.prog w base spare held m 3 ((cl.drop 40).take (Try.prog.cellsOf 3)) = some x7 := hg 7 _ rfl
  have g8 : DataW.trod enc Try.prog w base spare held m 3 ((cl.drop 41).take (Try.prog.cellsOf 3)) = some x8 := hg 8 _ rfl
  have g9 : DataW.trod enc Try.prog w base spare held m 27 ((cl.drop 42).take (Try.prog.cellsOf 27)) = some x9 := hg 9 _ rfl
  have g10 : DataW.trod enc Try.prog w base spare held m 27 ((cl.drop 74).take (Try.prog.cellsOf 27)) = some x10 := hg 10 _ rfl
  have g11 : DataW.trod enc Try.prog w base spare held m 28 ((cl.drop 106).take (Try.prog.cellsOf 28)) = some x11 := hg 11 _ rfl
  rw [c1] at g0
  rw [c3] at g1 g2 g3 g5 g7 g8
  rw [cH] at g6 g9 g10
  rw [cB] at g4
  rw [cP] at g11
  obtain ⟨k, hk, _, wk⟩ := DataW.trod_int Try.underlying5 g0
  obtain ⟨e, he, _, we⟩ := DataW.trod_int Try.underlying3 g1
  obtain ⟨a, ha, _, wa⟩ := DataW.trod_int Try.underlying3 g2
  obtain ⟨o, ho, _, wo⟩ := DataW.trod_int Try.underlying3 g3
  obtain ⟨pr, hpr, _, wp⟩ := DataW.trod_int Try.underlying3 g5
  obtain ⟨vv, hvv, _, wv⟩ := DataW.trod_int Try.underlying3 g7
  obtain ⟨i, hi, _, wi⟩ := DataW.trod_int Try.underlying3 g8
  obtain ⟨kb, rfl⟩ := wf_u8 wk
  obtain ⟨rt0, hr0, er0⟩ := open_hash g6 (by simp only [List.length_take, List.length_drop]; omega)
  obtain ⟨lf, hlf, elf⟩ := open_hash g9 (by simp only [List.length_take, List.length_drop]; omega)
  obtain ⟨rt, hrt, ert⟩ := open_hash g10 (by simp only [List.length_take, List.length_drop]; omega)
  obtain ⟨ys, mb, _, _, _, hyl, hy⟩ := DataW.trod_struct Try.underlying25 g4
  have hyl' : ys.length = 3 := hyl
  obtain ⟨y0, y1, y2, rfl⟩ : ∃ a b c, ys = [a, b, c] := by
    match ys, hyl' with
    | [a, b, c], _ => exact ⟨a, b, c, rfl⟩
  have b0' : DataW.trod enc Try.prog w base spare held mb 3 ((((cl.drop 4).take 3).drop 0).take (Try.prog.cellsOf 3)) = some y0 := hy 0 _ rfl
  have b1' : DataW.trod enc Try.prog w base spare held mb 3 ((((cl.drop 4).take 3).drop 1).take (Try.prog.cellsOf 3)) = some y1 := hy 1 _ rfl
  have b2' : DataW.trod enc Try.prog w base spare held mb 23 ((((cl.drop 4).take 3).drop 2).take (Try.prog.cellsOf 23)) = some y2 := hy 2 _ rfl
  rw [c3] at b0' b1'
  rw [cO] at b2'
  have q0 : (((cl.drop 4).take 3).drop 0).take 1 = (cl.drop 4).take 1 := by rw [List.drop_zero, List.take_take]; rfl
  have q1 : (((cl.drop 4).take 3).drop 1).take 1 = (cl.drop 5).take 1 := by rw [List.drop_take, List.drop_drop, List.take_take]; rfl
  have q2 : (((cl.drop 4).take 3).drop 2).take 1 = (cl.drop 6).take 1 := by rw [List.drop_take, List.drop_drop, List.take_take]; rfl
  rw [q0] at b0'
  rw [q1] at b1'
  rw [q2] at b2'
  obtain ⟨bi, hbi, _, wbi⟩ := DataW.trod_int Try.underlying3 b0'
  obtain ⟨be, hbe, _, wbe⟩ := DataW.trod_int Try.underlying3 b1'
  obtain ⟨ov, hov⟩ : ∃ c, cl[6]? = some c := ⟨_, List.getElem?_eq_getElem (by omega)⟩
  obtain ⟨pv, hpv⟩ : ∃ c, cl[106]? = some c := ⟨_, List.getElem?_eq_getElem (by omega)⟩
  rw [part_at hov] at b2'
  rw [part_at hpv] at g11
  have oO : Value.okWide Try.prog w r b0 23 ov := by
    obtain ⟨u, hu, hcell⟩ := hc 6 ov (by simpa using hov)
    rw [tL, show 6 % 107 = 6 from rfl, t6] at hu; cases hu
    unfold Value.okWide; rw [Try.underlying23]; exact hcell
  have oP : Value.okWide Try.prog w r b0 28 pv := by
    obtain ⟨u, hu, hcell⟩ := hc 106 pv (by simpa using hpv)
    rw [tL, show 106 % 107 = 106 from rfl, t106] at hu; cases hu
    unfold Value.okWide; rw [Try.underlying28]; exact hcell
  have tO : DataW.Trod enc Try.prog w base spare held 23 ov y2.1 y2.2 := by
    rcases slice_shape Try.underlying23 oO with rfl | ⟨_, _, _, rfl, _⟩ <;> exact ⟨mb, b2'⟩
  have tP : DataW.Trod enc Try.prog w base spare held 28 pv x11.1 x11.2 := by
    rcases slice_shape Try.underlying28 oP with rfl | ⟨_, _, _, rfl, _⟩ <;> exact ⟨m, g11⟩
  obtain ⟨ops, SO, lO⟩ := open_sl (f := opV) Try.underlying23 (by kernel_rfl) (by decide) opV_len (dec_op Try.underlying75 Try.underlying5 Try.underlying9 Try.underlying9 rfl rfl rfl (by kernel_rfl) (by kernel_rfl) (by kernel_rfl)) oO tO
  obtain ⟨prs, SP, lP⟩ := open_sl (f := prV) Try.underlying28 (by kernel_rfl) (by decide) prV_len (dec_pr Try.underlying72 Try.underlying9 Try.underlying9 rfl rfl (by kernel_rfl) (by kernel_rfl)) oP tP
  have hcl : cl = msgC (Lm.ms ⟨kb, e, a, o, bi, be, ops, pr, rt0, vv, i, lf, rt, prs⟩ ov pv) := by
    have s0 := part_split cl 0 1 1 rfl
    have s1 := part_split cl 1 1 2 rfl
    have s2 := part_split cl 2 1 3 rfl
    have s3 := part_split cl 3 1 4 rfl
    have s4 := part_split cl 4 1 5 rfl
    have s5 := part_split cl 5 1 6 rfl
    have s6 := part_split cl 6 1 7 rfl
    have s7 := part_split cl 7 1 8 rfl
    have s8 := part_split cl 8 32 40 rfl
    have s40 := part_split cl 40 1 41 rfl
    have s41 := part_split cl 41 1 42 rfl
    have s42 := part_split cl 42 32 74 rfl
    have s74 := part_split cl 74 32 106 rfl
    have s106 := part_split cl 106 1 107 rfl
    rw [List.drop_of_length_le (by omega : cl.length ≤ 107), List.append_nil, part_at hpv] at s106
    rw [ert, s106] at s74
    rw [elf, s74] at s42
    rw [hi, s42] at s41
    rw [hvv, s41] at s40
    rw [er0, s40] at s8
    rw [hpr, s8] at s7
    rw [part_at hov, s7] at s6
    rw [hbe, s6] at s5
    rw [hbi, s5] at s4
    rw [ho, s4] at s3
    rw [ha, s3] at s2
    rw [he, s2] at s1
    rw [hk, s1] at s0
    rw [List.drop_zero] at s0
    rw [s0]; rfl
  refine ⟨⟨kb, e, a, o, bi, be, ops, pr, rt0, vv, i, lf, rt, prs⟩, ov, pv, by rw [hcl], ⟨hr0, hlf, hrt⟩, fun q => ?_, (wf_i64 wbe).2, SO, SP, lO, lP⟩
  cases q
  · exact wf_i64 we
  · exact wf_i64 wa
  · exact wf_i64 wo
  · exact wf_i64 wp
  · exact wf_i64 wv
  · exact wf_i64 wi
end
end Go.Proofs.Ytoaabclemeibhaa

/- Rows of 32-bit words, and slices that were there, in the walk. No conditions but those each law names. -/
namespace Go
namespace TL
open Go.RowKit
def ws (l : List UInt32) : List Value := l.map fun x => .int .u32 (I32 x)
theorem ws_length (l : List UInt32) : (ws l).length = l.length := by simp [ws]
theorem ws_one (l : List UInt32) : ∀ q ∈ ws l, q.oneCell' = true := by
  intro q hq; obtain ⟨b, _, rfl⟩ := List.mem_map.1 hq; rfl
theorem ws_get {l : List UInt32} {i : Nat} (h : i < l.length) : (ws l)[i]? = some (.int .u32 (I32 (l.getD i 0))) := by
  rw [ws, List.getElem?_map, List.getD_eq_getElem?_getD, List.getElem?_eq_getElem h]; rfl
theorem ws_set (l : List UInt32) (i : Nat) (b : UInt32) : ws (l.set i b) = (ws l).set i (.int .u32 (I32 b)) := by simp [ws, List.map_set]
section
variable {P : Program} {ops : Array Oper} {rest : List Oper} {o : Oper} {a : Act} {w w0 : World} {Q : Exit → Act → World → Prop} {F : List Nat} {L : List Chunk}
theorem w_load32 (M : Mem F w0 w L) (i : Nat) (t : TypeId) (x : Operand) (ho : o.op = .load t x) {g off : Nat} {l : List UInt32} (hi : L[i]? = some (.row g (ws l))) (hx : a.eval x = .pointer (some ⟨g, off, none⟩)) (hw : Region.wanted o (yielded ops a.tmps) = true)
    (ht : scalarT P t = true) (hlt : off < l.length) (h : wpList P ops Q rest (a.put o.dst (.int .u32 (I32 (l.getD off 0)))) w) : wpList P ops Q (o :: rest) a w :=
  w_load M i t x ho hi hx hw ht (ws_get hlt) h
theorem w_loadW (M : Mem F w0 w L) (i : Nat) (t : TypeId) (x : Operand) (ho : o.op = .load t x) {g : Nat} {l : List UInt32} (hi : L[i]? = some (.row g (ws l))) (hx : a.eval x = .pointer (some ⟨g, 0, none⟩)) (hw : Region.wanted o (yielded ops a.tmps) = true)
    (ht : rowT P t = true) {n : Nat} (hl : l.length = n) (hn : (P.info? t).map (·.size) = some n) (h : wpList P ops Q rest (a.put o.dst (.agg (ws l).toArray)) w) : wpList P ops Q (o :: rest) a w :=
  w_loadR M i t x ho hi hx hw ht (by rw [ws_length, hl]; exact hn) h
theorem w_store32 (M : Mem F w0 w L) (i : Nat) (t : TypeId) (x y : Operand) (ho : o.op = .store t x y) {g off : Nat} {l : List UInt32} (hi : L[i]? = some (.row g (ws l))) (hx : a.eval x = .pointer (some ⟨g, off, none⟩)) (hw : Region.wanted o (yielded ops a.tmps) = true)
    {b : UInt32} (hy : a.eval y = .int .u32 (I32 b)) (hn : (P.info? t).map (·.size) = some 1) (hlt : off < l.length)
    (h : ∀ w' : World, Mem F w0 w' (L.set i (.row g (ws (l.set off b)))) → wpList P ops Q rest (a.put o.dst undef) w') : wpList P ops Q (o :: rest) a w :=
  w_store M i t x y ho hi hx hw hy rfl rfl hn (by rw [ws_length]; exact hlt) (fun w' M' => h w' (by rw [ws_set]; exact M'))
theorem w_storeW (M : Mem F w0 w L) (i : Nat) (t : TypeId) (x y : Operand) (ho : o.op = .store t x y) {g : Nat} {l : List UInt32} (hi : L[i]? = some (.row g (ws l))) (hx : a.eval x = .pointer (some ⟨g, 0, none⟩)) (hw : Region.wanted o (yielded ops a.tmps) = true)
    {m : List UInt32} (hy : a.eval y = .agg (ws m).toArray) {n : Nat} (hm : m.length = n) (hn : (P.info? t).map (·.size) = some n) (hl : l.length = n)
    (h : ∀ w' : World, Mem F w0 w' (L.set i (.row g (ws m))) → wpList P ops Q rest (a.put o.dst undef) w') : wpList P ops Q (o :: rest) a w :=
  w_storeR M i t x y ho hi hx hw (ws m) hy rfl (by rw [ws_length, hm]; exact hn) (ws_one _) (by simp [ws_length, hm, hl]) h
/-- A byte of a slice that was there. -/
theorem w_loadX (M : Mem F w0 w L) (t : TypeId) (x : Operand) (ho : o.op = .load t x) {g so n m cap off : Nat} {l : List UInt8} (S : Sees w0 1 (.slice (some ⟨g, so, none⟩) m cap) n (bs l)) (hF : g ∉ F) (hx : a.eval x = .pointer (some ⟨g, off, none⟩)) (hw : Region.wanted o (yielded ops a.tmps) = true)
    (ht : scalarT P t = true) (j : Nat) (hoff : off = so + j) (hj : j < l.length) (h : wpList P ops Q rest (a.put o.dst (.int .u8 (I8 (l.getD j 0)))) w) : wpList P ops Q (o :: rest) a w :=
  wpW hw fun _ hK => by
    subst hoff
    have S' := M.sees S (by intro k hk; simp [Value.ownBlock] at hk; subst hk; exact hF)
    have hc : w.cell? ⟨g, so + j, none⟩ = some (.int .u8 (I8 (l.getD j 0))) := by
      rcases S'.2 with ⟨h0, _⟩ | ⟨g', o', c, hv', _, _, _, hr⟩
      · cases h0
      · injection hv' with h1 _ _; injection h1 with h1; injection h1 with h1 h2; subst h1; subst h2; exact hr j _ (getD_some hj)
    unfold Oper.wp execOp
    simp only [ho, hx, Instr.loadAt, Instr.sureAddr, Sem.run_bind, Sem.run_pure, Result.andThen_ok, run_loadVar_scalar ht w g _ _ hc]
    exact hK _ _ h
theorem sees_addr {size n m cap : Nat} {q : Option Addr} {xs : List Value} (S : Sees w size (.slice q m cap) n xs) (hn : 0 < n) : ∃ g o, q = some ⟨g, o, none⟩ := by
  rcases S.2 with ⟨_, h0⟩ | ⟨g, o, c, hv, _⟩
  · omega
  · injection hv with h1 h2 h3; exact ⟨g, o, h1⟩
variable {M : Mem F w0 w L} {is : List Nat}
theorem stab_ix32 (M : Mem F w0 w L) (i : Nat) (off : Nat) {t : TypeId} {x : Operand} (ho : o.op = .load t x) {g : Nat} {l : List UInt32} (hi : L[i]? = some (.row g (ws l))) (hin : i ∈ is) (ht : scalarT P t = true) (hlt : off < l.length) : Stab P (IxOk M is) o (.pointer (some ⟨g, off, none⟩)) :=
  stab_ix M i off ho hi hin ht (ws_get hlt)
theorem stab_ixW32 (M : Mem F w0 w L) (i : Nat) {t : TypeId} {x : Operand} (ho : o.op = .load t x) {g : Nat} {l : List UInt32} (hi : L[i]? = some (.row g (ws l))) (hin : i ∈ is) (ht : rowT P t = true) {n : Nat} (hl : l.length = n) (hn : (P.info? t).map (·.size) = some n) : Stab P (IxOk M is) o (.pointer (some ⟨g, 0, none⟩)) :=
  stab_ixR M i ho hi hin ht (by rw [ws_length, hl]; exact hn)
/-- A part of an owned slice, to be read. -/
theorem Mem.part (M : Mem F w0 w L) (i : Nat) {m n cap g so : Nat} {l : List UInt8} (hi : L[i]? = some (.sl 1 (.slice (some ⟨g, so, none⟩) m cap) n (bs l))) (at_ k : Nat) (h : at_ + k ≤ l.length) (hn : n = l.length) (c : Nat) (hc : k ≤ c) (hcm : c ≤ maxLen) :
    Sees w 1 (.slice (some ⟨g, so + at_, none⟩) k c) k (bs ((l.drop at_).take k)) := by
  have hl : ((l.drop at_).take k).length = k := by simp; omega
  refine ⟨by rw [bs_length, hl, Nat.mul_one], .inr ⟨g, so + at_, c, rfl, ?_, hc, hcm, ?_⟩⟩
  · exact (M.ok i _ hi).lt g (by simp [Chunk.fp, Value.ownBlock])
  · intro j v hv
    have hj : j < k := by have := (List.getElem?_eq_some_iff.1 hv).1; rw [bs_length, hl] at this; exact this
    rw [Nat.add_assoc]
    refine M.slCell i hi ?_
    rw [← hv, bs, bs, List.getElem?_map, List.getElem?_map, List.getElem?_take, if_pos hj, List.getElem?_drop]
end
/-- What is written word by word. -/
theorem setTake32 (l : List UInt32) (n k : Nat) (hl : l.length = n) (hk : k < n) (x : UInt32) (hx : x = l.getD k 0) : (l.take k ++ List.replicate (n - k) 0).set k x = l.take (k + 1) ++ List.replicate (n - (k + 1)) 0 := by
  subst hx
  rw [List.set_append_right _ _ (by simp; omega)]
  simp only [List.length_take, Nat.min_eq_left (show k ≤ l.length by omega), Nat.sub_self]
  rw [List.take_succ_eq_append_getElem (by omega), List.append_assoc, show n - k = (n - (k + 1)) + 1 by omega, List.replicate_succ, List.set_cons_zero, List.getD_eq_getElem?_getD, List.getElem?_eq_getElem (by omega)]
  rfl
end TL
end Go

/- Messages in memory: a hash as a whole is stored, or read as a text. No conditions but those each law names. -/
namespace Go
namespace TL
open Go.RowKit
section
variable {P : Program} {ops : Array Oper} {rest : List Oper} {o : Oper} {a : Act} {w w0 : World} {Q : Exit → Act → World → Prop} {F : List Nat} {L : List Chunk} {g : Nat} {m : Ms}
/-- A hash is stored. -/
theorem w_storeHf (M : Mem F w0 w L) (i : Nat) (t : TypeId) (x y : Operand) (ho : o.op = .store t x y) (hi : L[i]? = some (.row g (msgC m))) {off : Nat} (hx : a.eval x = .pointer (some ⟨g, off, none⟩)) (hw : Region.wanted o (yielded ops a.tmps) = true)
    {l : List UInt8} (hy : a.eval y = .agg (bs l).toArray) (hl : l.length = 32) (hn : (P.info? t).map (·.size) = some 32) (hm : m.fit) (f : Hf) (hoff : off = f.off)
    (h : ∀ w' : World, Mem F w0 w' (L.set i (.row g (msgC (f.set m l)))) → wpList P ops Q rest (a.put o.dst undef) w') : wpList P ops Q (o :: rest) a w := by
  subst hoff
  refine w_storeA M i t x y ho hi hx hw (bs l) hy rfl (by rw [bs_length, hl]; exact hn) (bs_one l) (f.pre m) (bs (f.get m)) (f.post m) (msgC_get m f) (f.pre_len hm) (by rw [bs_length, bs_length, hl, f.len hm]) fun w' M' => h w' (by rw [msgC_hash]; exact M')
/-- A kind is stored into what is blank. -/
theorem w_storeKd (M : Mem F w0 w L) (i : Nat) (t : TypeId) (x y : Operand) (ho : o.op = .store t x y) (hi : L[i]? = some (.row g (msgC zeroM))) (hx : a.eval x = .pointer (some ⟨g, 0, none⟩)) (hw : Region.wanted o (yielded ops a.tmps) = true)
    {b : UInt8} (hy : a.eval y = .int .u8 (I8 b)) (hn : (P.info? t).map (·.size) = some 1)
    (h : ∀ w' : World, Mem F w0 w' (L.set i (.row g (msgC (kindM b)))) → wpList P ops Q rest (a.put o.dst undef) w') : wpList P ops Q (o :: rest) a w :=
  w_store M i t x y ho hi hx hw hy rfl rfl hn (by rw [msgC_len zeroM_fit]; omega) fun _ M' => h _ M'
theorem Ms.fit_pv0 {m : Ms} (h : m.fit) {pv : Value} (hp : pv.oneCell' = true) : Ms.fit { m with pv := pv } := ⟨h.1, h.2.1, h.2.2.1, h.2.2.2.1, hp⟩
/-- A hash's bytes, seen as a slice. -/
theorem seesHash {C pre post : List Value} {r : List UInt8} {off : Nat} (hc : C = pre ++ (bs r ++ post)) (hp : pre.length = off) (hr : r.length = 32) {w : World} (h : (Chunk.row g C).ok w) : SeesB w (.slice (some ⟨g, off, none⟩) 32 32) r := by
  refine ⟨by simp [hr], .inr ⟨g, off, 32, by rw [hr], h.1, by omega, by decide, ?_⟩⟩
  intro i v hv
  have hlt : i < (bs r).length := (List.getElem?_eq_some_iff.1 hv).1
  have := h.2.1 (off + i) v (by rw [hc, ← hp, List.getElem?_append_right (by omega), Nat.add_sub_cancel_left, List.getElem?_append_left hlt]; exact hv)
  rwa [Nat.zero_add] at this
/-- string(m.Root[:]). -/
theorem w_stringHf {C pre post : List Value} {r : List UInt8} {off : Nat} (M : Mem F w0 w L) (i : Nat) (src dst e : TypeId) (x : Operand) (ho : o.op = .convert src dst x) (hw : Region.wanted o (yielded ops a.tmps) = true) (hi : L[i]? = some (.row g C)) (hx : a.eval x = .slice (some ⟨g, off, none⟩) 32 32)
    (hc : C = pre ++ (bs r ++ post)) (hp : pre.length = off) (hr : r.length = 32) (hs : P.underlying src = some (.slice e)) (he : P.underlying e = some (.int .u8)) (hd : P.underlying dst = some .string)
    (h : wpList P ops Q rest (a.put o.dst (.string (mkS r))) w) : wpList P ops Q (o :: rest) a w :=
  wpW hw fun _ hK => by
    have hr := SeesB.run_string (P := P) (seesHash hc hp hr (M.ok i _ hi)) src dst e hs he hd w (grownBy_refl _ _)
    unfold Oper.wp execOp
    simp only [ho, hx, Sem.run_bind, hr, Result.andThen_ok]
    exact hK _ _ h
theorem stab_strHf {C pre post : List Value} {r : List UInt8} {off : Nat} (M : Mem F w0 w L) {is : List Nat} (i : Nat) {src dst e : TypeId} {x : Operand} (ho : o.op = .convert src dst x) (hi : L[i]? = some (.row g C)) (hin : i ∈ is) (hc : C = pre ++ (bs r ++ post)) (hp : pre.length = off) (hr : r.length = 32) (hs : P.underlying src = some (.slice e)) (he : P.underlying e = some (.int .u8)) (hd : P.underlying dst = some .string) : Stab P (IxOk M is) o (.slice (some ⟨g, off, none⟩) 32 32) :=
  stab_conv ho _ r (fun w' hw => seesHash hc hp hr (hw.2 i hin _ hi)) hs he hd
end
end TL
end Go

/- The walk of layer 18's reference's Only. No conditions. -/
namespace Go
namespace TL
open Go.RowKit
theorem Ms.fit_bt {m : Ms} (h : m.fit) (bi be : Int) {ov : Value} (ho : ov.oneCell' = true) : Ms.fit { m with bi := bi, be := be, ov := ov } := ⟨h.1, h.2.1, h.2.2.1, ho, h.2.2.2.2⟩
theorem Ms.fit_pv {m : Ms} (h : m.fit) {pv : Value} (hp : pv.oneCell' = true) : Ms.fit { m with pv := pv } := ⟨h.1, h.2.1, h.2.2.1, h.2.2.2.1, hp⟩
/-- One of a kind and an epoch. -/
def kindE (k : UInt8) (e : Int) : Ms := ⟨k, e, 0, 0, 0, 0, .slice none 0 0, 0, zeroH, 0, 0, zeroH, zeroH, .slice none 0 0⟩
theorem kindE_fit (k : UInt8) (e : Int) : (kindE k e).fit := ⟨zeroH_len, zeroH_len, zeroH_len, rfl, rfl⟩
theorem cpAll_fit : ∀ (l : List Fld) {L A : Lm}, L.fit → A.fit → (cpAll l L A).fit
  | [], _, _, _, h => h
  | f :: l, L, A, hL, hA => by rw [cpAll_cons]; exact cpAll_fit l hL (f.cp_fit hL hA)
theorem onlyL_fit {L : Lm} (h : L.fit) : (onlyL L).fit := cpAll_fit _ h (kindL_fit _)
theorem cpAll_other : ∀ {l : List Fld} {f : Fld}, f ∉ l → ∀ (L A : Lm), f.eqv (cpAll l L A) A
  | [], f, _, L, A => f.eqv_refl A
  | g :: l, f, h, L, A => by
    have hg : f ≠ g := fun e => h (e ▸ List.mem_cons_self)
    rw [cpAll_cons]
    exact Fld.eqv_trans (cpAll_other (fun hm => h (List.mem_cons_of_mem _ hm)) L _) (Fld.cp_other hg L A)
theorem onlyL_other {L : Lm} (h : onlyL L = L) {f : Fld} (hf : f ∉ fdsL L.k) : f.eqv L (kindL L.k) := by
  have := cpAll_other hf L (kindL L.k)
  rw [show cpAll (fdsL L.k) L (kindL L.k) = onlyL L from rfl, h] at this
  exact this
theorem Fld.cp_ops (f : Fld) (L A : Lm) : (f.cp L A).ops = L.ops ∨ (f.cp L A).ops = A.ops := by
  cases f with
  | num q => exact .inr (by cases q <;> rfl)
  | hash q => exact .inr (by cases q <;> rfl)
  | bat => exact .inl rfl
  | prs => exact .inr rfl
theorem Fld.cp_prs (f : Fld) (L A : Lm) : (f.cp L A).prs = L.prs ∨ (f.cp L A).prs = A.prs := by
  cases f with
  | num q => exact .inr (by cases q <;> rfl)
  | hash q => exact .inr (by cases q <;> rfl)
  | bat => exact .inr rfl
  | prs => exact .inl rfl
theorem cpAll_ops : ∀ (l : List Fld) (L A : Lm), (cpAll l L A).ops = L.ops ∨ (cpAll l L A).ops = A.ops
  | [], _, _ => .inr rfl
  | f :: l, L, A => by
    rw [cpAll_cons]
    rcases cpAll_ops l L (f.cp L A) with h | h
    · exact .inl h
    · rw [h]; exact f.cp_ops L A
theorem cpAll_prs : ∀ (l : List Fld) (L A : Lm), (cpAll l L A).prs = L.prs ∨ (cpAll l L A).prs = A.prs
  | [], _, _ => .inr rfl
  | f :: l, L, A => by
    rw [cpAll_cons]
    rcases cpAll_prs l L (f.cp L A) with h | h
    · exact .inl h
    · rw [h]; exact f.cp_prs L A
theorem onlyL_ops (L : Lm) : (onlyL L).ops = L.ops ∨ (onlyL L).ops = [] := cpAll_ops _ _ _
theorem onlyL_prs (L : Lm) : (onlyL L).prs = L.prs ∨ (onlyL L).prs = [] := cpAll_prs _ _ _
theorem onlyL_lens {L : Lm} (h : L.rng) : (onlyL L).ops.length ≤ 1000 ∧ (onlyL L).prs.length ≤ 1000 := by
  constructor
  · rcases onlyL_ops L with e | e <;> rw [e]
    · exact h.o1
    · exact Nat.zero_le _
  · rcases onlyL_prs L with e | e <;> rw [e]
    · exact h.p1
    · exact Nat.zero_le _
/-- What holds of a message that is right. -/
theorem onlyL_rng {L : Lm} (h : L.rng) : (onlyL L).rng := by
  have hz : (kindL L.k).rng := ⟨fun q => by cases q <;> exact (by decide : (-9223372036854775808 : Int) ≤ 0 ∧ (0 : Int) ≤ 9223372036854775807), by simp [kindL], by simp [kindL], by simp [kindL], by simp [kindL], by simp [kindL], by simp [kindL]⟩
  unfold onlyL
  generalize kindL L.k = A at hz
  induction fdsL L.k generalizing A with
  | nil => exact hz
  | cons f l ih =>
    rw [cpAll_cons]
    refine ih _ ?_
    cases f with
    | num q =>
      refine ⟨fun q' => ?_, ?_, ?_, ?_, ?_, ?_, ?_⟩
      · by_cases e : q = q'
        · subst e; rw [show (Fld.num q).cp L A = q.sl A (q.gl L) from rfl, Mf.gl_sl]; exact h.num q
        · have : q'.gl ((Fld.num q).cp L A) = q'.gl A := Fld.cp_other (f := .num q') (g := .num q) (fun hh => e (by injection hh with hh; exact hh.symm)) L A
          rw [this]; exact hz.num q'
      all_goals cases q <;> first | exact hz.be | exact hz.o1 | exact hz.o2 | exact hz.p1 | exact hz.p2 | exact hz.p3
    | hash q => cases q <;> exact ⟨hz.num, hz.be, hz.o1, hz.o2, hz.p1, hz.p2, hz.p3⟩
    | bat => exact ⟨hz.num, h.be, h.o1, h.o2, hz.p1, hz.p2, hz.p3⟩
    | prs => exact ⟨hz.num, hz.be, hz.o1, hz.o2, h.p1, h.p2, h.p3⟩
theorem num_ok {L : Lm} (h : onlyL L = L) (ho : okL L = true) (q : Mf) : 0 ≤ q.gl L ∧ q.gl L ≤ q.most := by
  by_cases hm : Fld.num q ∈ fdsL L.k
  · have := okL_of ho _ hm
    simp only [Fld.ok, decide_eq_true_eq] at this
    exact this
  · have hq : q.gl L = q.gl (kindL L.k) := onlyL_other h hm
    have : q.gl (kindL L.k) = 0 := by cases q <;> rfl
    rw [hq, this]
    exact ⟨by omega, by omega⟩
theorem prs_ok {L : Lm} (h : onlyL L = L) (ho : okL L = true) : L.prs.length ≤ 48 ∧ L.prs.all okP = true := by
  by_cases hm : Fld.prs ∈ fdsL L.k
  · have := okL_of ho _ hm
    simp only [Fld.ok, Bool.and_eq_true, decide_eq_true_eq] at this
    exact this
  · have hq : L.prs = (kindL L.k).prs := onlyL_other h hm
    rw [hq]; exact ⟨Nat.zero_le 48, rfl⟩
theorem bat_ok {L : Lm} (ho : okL L = true) (hk : L.k = 2) : (bytesB L.bi L.be L.ops).2 = 0 ∧ (bytesB L.bi L.be L.ops).1.length ≤ 512 := by
  have hm : Fld.bat ∈ fdsL L.k := by rw [hk]; exact (show Fld.bat ∈ [Fld.num .e, .num .p, .bat] by simp)
  have := okL_of ho _ hm
  simp only [Fld.ok, Bool.and_eq_true, beq_iff_eq, decide_eq_true_eq] at this
  exact this
end TL
end Go
namespace Go.Proofs.Ytoaabclemeibhaa
open Go.RowKit Go.TL
set_option maxRecDepth 100000 in
set_option maxHeartbeats 16000000 in
theorem Only18_c (L : Lm) (ov pv : Value) (w : World) (hL : L.fit) (hk : isK L.k = true) (S : SeesL w 3 opV ov L.ops) (T : SeesL w 2 prV pv L.prs) :
    Calls Try.prog 19 #[.agg (msgC (L.ms ov pv)).toArray] w fun r w' => ∃ ov' pv', r = .returned (.agg (msgC ((onlyL L).ms ov' pv')).toArray) ∧ Below w.heap.size w w' ∧ (∀ w2 : World, SeesL w2 3 opV ov L.ops → SeesL w2 3 opV ov' (onlyL L).ops) ∧ ∀ w2 : World, SeesL w2 2 prV pv L.prs → SeesL w2 2 prV pv' (onlyL L).prs := by
  have M := Mem.start [] w
  obtain ⟨k, e, a, o, bi, be, ops, p, r, v, i, lf, rt, prs⟩ := L
  dsimp only at S T hk
  obtain ⟨op, oc, rfl, _⟩ := S.form
  obtain ⟨pp, pc, rfl, _⟩ := T.form
  have X := msg_cells (Lm.ms_fit hL (ov := .slice op ops.length oc) (pv := .slice pp prs.length pc) rfl rfl)
  simp only [Lm.ms] at X
  have hr : r.length = 32 := hL.1
  have hl : lf.length = 32 := hL.2.1
  have ht : rt.length = 32 := hL.2.2
  clear hL
  obtain ⟨C, eC⟩ : ∃ C, C = msgC ⟨k, e, a, o, bi, be, .slice op ops.length oc, p, r, v, i, lf, rt, .slice pp prs.length pc⟩ := ⟨_, rfl⟩
  rw [← eC] at X
  have eA : (msgC ((Lm.mk k e a o bi be ops p r v i lf rt prs).ms (.slice op ops.length oc) (.slice pp prs.length pc))).toArray = C.toArray := by rw [eC]; rfl
  rw [eA]
  clear eA eC
  obtain ⟨Nk, Ne, Na, No, Np, Nv, Ni, Npv, ⟨_, _, b1⟩, ⟨_, _, r1⟩, ⟨_, _, l1⟩, ⟨_, _, t1⟩, c1, _⟩ := X
  replace Nk := Lib.hid Nk
  replace Ne := Lib.hid Ne
  replace Na := Lib.hid Na
  replace No := Lib.hid No
  replace Np := Lib.hid Np
  replace Nv := Lib.hid Nv
  replace Ni := Lib.hid Ni
  replace Npv := Lib.hid Npv
  have B := Lib.hid b1
  have Hr := Lib.hid r1
  have Hlf := Lib.hid l1
  have Hrt := Lib.hid t1
  clear b1 r1 l1 t1 c1
  rcases kinds hk with rfl | rfl | rfl | rfl | rfl | rfl | rfl
  all_goals
    clear hk S T
    go_enter Try.func19, Try.ntmps19
    go_wp2_with ((first | ((with_reducible refine tGuard ?_); (with_reducible refine w_stripE ?_ ?_); (focus (refine ⟨_, rfl, ?_⟩; first | (with_reducible rfl) | exact decide_eq_false (by omega) | exact decide_eq_true (by omega)))) | ((with_reducible refine tGuard ?_); first | ((with_reducible refine w_skip1 ?_ ?_); (focus (refine ⟨_, rfl, ?_⟩; first | (with_reducible rfl) | exact decide_eq_false (by omega) | exact decide_eq_true (by omega)))) | ((with_reducible refine w_skip0 ?_ ?_); (focus (refine ⟨_, rfl, ?_⟩; first | (with_reducible rfl) | exact decide_eq_false (by omega) | exact decide_eq_true (by omega))))) | ((with_reducible refine tBox (some 1) ?_); refine w_box M _ _ rfl rfl _ rfl (C) rfl ?_; clear M; intro gm w1 M) | ((with_reducible refine tLoad ?_); go_must (refine w_at _ _ rfl (by exact ev_tmp rfl) ?_; intro hx; (first | refine w_load M 2 _ _ rfl rfl hx rfl (by decide +kernel) (by with_reducible first | exact Nk.out | exact Ne.out | exact Na.out | exact No.out | exact Np.out | exact Nv.out | exact Ni.out | exact Npv.out) ?_ | refine w_loadA M 2 _ _ rfl rfl hx rfl (by decide +kernel) _ _ _ Hr.out.1 Hr.out.2.1 (by rw [bs_length, Hr.out.2.2]; kernel_rfl) ?_ | refine w_loadA M 2 _ _ rfl rfl hx rfl (by decide +kernel) _ _ _ Hlf.out.1 Hlf.out.2.1 (by rw [bs_length, Hlf.out.2.2]; kernel_rfl) ?_ | refine w_loadA M 2 _ _ rfl rfl hx rfl (by decide +kernel) _ _ _ Hrt.out.1 Hrt.out.2.1 (by rw [bs_length, Hrt.out.2.2]; kernel_rfl) ?_ | refine w_loadA M 2 _ _ rfl rfl hx rfl (by decide +kernel) _ _ _ B.out.1 B.out.2 (by kernel_rfl) ?_ | refine w_load M 1 _ _ rfl rfl hx rfl (by decide +kernel) (by with_reducible first | exact Nk.out | exact Ne.out | exact Na.out | exact No.out | exact Np.out | exact Nv.out | exact Ni.out | exact Npv.out) ?_ | refine w_loadA M 1 _ _ rfl rfl hx rfl (by decide +kernel) _ _ _ Hr.out.1 Hr.out.2.1 (by rw [bs_length, Hr.out.2.2]; kernel_rfl) ?_ | refine w_loadA M 1 _ _ rfl rfl hx rfl (by decide +kernel) _ _ _ Hlf.out.1 Hlf.out.2.1 (by rw [bs_length, Hlf.out.2.2]; kernel_rfl) ?_ | refine w_loadA M 1 _ _ rfl rfl hx rfl (by decide +kernel) _ _ _ Hrt.out.1 Hrt.out.2.1 (by rw [bs_length, Hrt.out.2.2]; kernel_rfl) ?_ | refine w_loadA M 1 _ _ rfl rfl hx rfl (by decide +kernel) _ _ _ B.out.1 B.out.2 (by kernel_rfl) ?_ | refine w_loadMs M 0 _ _ rfl rfl hx rfl (by decide +kernel) (by kernel_rfl) (by repeat' (first | exact kindE_fit _ _ | refine Mf.set_fit ?_ _ _ | refine Hf.set_fit ?_ (by assumption) _ | refine Ms.fit_bt ?_ _ _ rfl | refine Ms.fit_pv ?_ rfl)) ?_); clear hx)) | ((with_reducible refine tAlloc (some 2) 30 ?_); refine w_alloc M _ rfl rfl (.agg (msgC zeroM).toArray) (msgC zeroM) (by kernel_rfl) rfl ?_; clear M; intro gr w1 M) | ((with_reducible refine tAlloc (some 3) 30 ?_); refine w_alloc M _ rfl rfl (.agg (msgC zeroM).toArray) (msgC zeroM) (by kernel_rfl) rfl ?_; clear M; intro gx w1 M) | ((with_reducible refine tStore ?_); go_must (refine w_at2 _ _ _ rfl (by exact ev_tmp rfl) (by first | exact ev_tmp rfl | exact ev_const) ?_; intro hx hy; (first | refine w_storeMs (m := kindE 1 e) M 0 _ _ _ rfl rfl hx rfl hy rfl (by kernel_rfl) (kindE_fit _ _) zeroM_fit ?_ | refine w_storeMs (m := kindE 2 e) M 0 _ _ _ rfl rfl hx rfl hy rfl (by kernel_rfl) (kindE_fit _ _) zeroM_fit ?_ | refine w_storeMs (m := kindE 3 e) M 0 _ _ _ rfl rfl hx rfl hy rfl (by kernel_rfl) (kindE_fit _ _) zeroM_fit ?_ | refine w_storeMs (m := kindE 4 e) M 0 _ _ _ rfl rfl hx rfl hy rfl (by kernel_rfl) (kindE_fit _ _) zeroM_fit ?_ | refine w_storeMs (m := kindE 5 e) M 0 _ _ _ rfl rfl hx rfl hy rfl (by kernel_rfl) (kindE_fit _ _) zeroM_fit ?_ | refine w_storeMs (m := kindE 6 e) M 0 _ _ _ rfl rfl hx rfl hy rfl (by kernel_rfl) (kindE_fit _ _) zeroM_fit ?_ | refine w_storeMs (m := kindE 7 e) M 0 _ _ _ rfl rfl hx rfl hy rfl (by kernel_rfl) (kindE_fit _ _) zeroM_fit ?_ | refine w_storeMf M 0 _ _ _ rfl rfl hx rfl hy (by decide +kernel) (by repeat' (first | exact kindE_fit _ _ | refine Mf.set_fit ?_ _ _ | refine Hf.set_fit ?_ (by assumption) _ | refine Ms.fit_bt ?_ _ _ rfl | refine Ms.fit_pv ?_ rfl)) .a rfl ?_ | refine w_storeMf M 0 _ _ _ rfl rfl hx rfl hy (by decide +kernel) (by repeat' (first | exact kindE_fit _ _ | refine Mf.set_fit ?_ _ _ | refine Hf.set_fit ?_ (by assumption) _ | refine Ms.fit_bt ?_ _ _ rfl | refine Ms.fit_pv ?_ rfl)) .o rfl ?_ | refine w_storeMf M 0 _ _ _ rfl rfl hx rfl hy (by decide +kernel) (by repeat' (first | exact kindE_fit _ _ | refine Mf.set_fit ?_ _ _ | refine Hf.set_fit ?_ (by assumption) _ | refine Ms.fit_bt ?_ _ _ rfl | refine Ms.fit_pv ?_ rfl)) .p rfl ?_ | refine w_storeMf M 0 _ _ _ rfl rfl hx rfl hy (by decide +kernel) (by repeat' (first | exact kindE_fit _ _ | refine Mf.set_fit ?_ _ _ | refine Hf.set_fit ?_ (by assumption) _ | refine Ms.fit_bt ?_ _ _ rfl | refine Ms.fit_pv ?_ rfl)) .v rfl ?_ | refine w_storeMf M 0 _ _ _ rfl rfl hx rfl hy (by decide +kernel) (by repeat' (first | exact kindE_fit _ _ | refine Mf.set_fit ?_ _ _ | refine Hf.set_fit ?_ (by assumption) _ | refine Ms.fit_bt ?_ _ _ rfl | refine Ms.fit_pv ?_ rfl)) .i rfl ?_ | refine w_storeHf M 0 _ _ _ rfl rfl hx rfl hy (by assumption) (by kernel_rfl) (by repeat' (first | exact kindE_fit _ _ | refine Mf.set_fit ?_ _ _ | refine Hf.set_fit ?_ (by assumption) _ | refine Ms.fit_bt ?_ _ _ rfl | refine Ms.fit_pv ?_ rfl)) .r rfl ?_ | refine w_storeHf M 0 _ _ _ rfl rfl hx rfl hy (by assumption) (by kernel_rfl) (by repeat' (first | exact kindE_fit _ _ | refine Mf.set_fit ?_ _ _ | refine Hf.set_fit ?_ (by assumption) _ | refine Ms.fit_bt ?_ _ _ rfl | refine Ms.fit_pv ?_ rfl)) .lf rfl ?_ | refine w_storeHf M 0 _ _ _ rfl rfl hx rfl hy (by assumption) (by kernel_rfl) (by repeat' (first | exact kindE_fit _ _ | refine Mf.set_fit ?_ _ _ | refine Hf.set_fit ?_ (by assumption) _ | refine Ms.fit_bt ?_ _ _ rfl | refine Ms.fit_pv ?_ rfl)) .rt rfl ?_ | refine w_storeBt M 0 _ _ _ rfl rfl hx rfl hy (by kernel_rfl) rfl ?_ | refine w_storePv M 0 _ _ _ rfl rfl hx rfl hy rfl rfl (by decide +kernel) (by repeat' (first | exact kindE_fit _ _ | refine Mf.set_fit ?_ _ _ | refine Hf.set_fit ?_ (by assumption) _ | refine Ms.fit_bt ?_ _ _ rfl | refine Ms.fit_pv ?_ rfl)) ?_ | refine w_storeMs M 1 _ _ _ rfl rfl hx rfl hy rfl (by kernel_rfl) (by repeat' (first | exact kindE_fit _ _ | refine Mf.set_fit ?_ _ _ | refine Hf.set_fit ?_ (by assumption) _ | refine Ms.fit_bt ?_ _ _ rfl | refine Ms.fit_pv ?_ rfl)) zeroM_fit ?_); clear hx hy M; intro w1 M; (try simp only [setC] at M))) | ((with_reducible refine tGuard ?_); refine w_strip rfl (by with_reducible rfl) ?_) | fail | ((with_reducible refine tLoad ?_); go_must (refine w_at _ _ rfl (by exact ev_tmp rfl) ?_; intro hx; (first | refine w_load M _ _ _ rfl rfl hx rfl (by decide +kernel) (by exact rfl) ?_ | refine w_loadR M _ _ _ rfl rfl hx rfl (by decide +kernel) (by kernel_rfl) ?_); clear hx)) | ((with_reducible refine tStore ?_); go_must (refine w_at2 _ _ _ rfl (by exact ev_tmp rfl) (by first | exact ev_tmp rfl | exact ev_const) ?_; intro hx hy; (first | refine w_store M _ _ _ _ rfl rfl hx rfl hy rfl rfl (by decide +kernel) (by first | decide | simp | (simp; omega)) ?_ | refine w_storeR M _ _ _ _ rfl rfl hx rfl _ hy rfl (by kernel_rfl) (by simp [Value.oneCell']) (by first | rfl | assumption) ?_); clear hx hy M; intro w1 M; (try simp only [setC] at M))) | ((with_reducible refine tBox _ ?_); (refine w_box M _ _ rfl rfl _ rfl _ rfl ?_; clear M; intro g w1 M))) <;> (try conv => arg 5; simp only [Act.put, List.setIfInBounds_toArray, setC]))
    first
      | exact bodyPost_ret (results_row rfl _ _ gr 0 _ _ rfl (M.ok 1 _ rfl).2.1 Try.underlying30 rfl (by rw [msgC_len (by repeat' (first | exact kindE_fit _ _ | refine Mf.set_fit ?_ _ _ | refine Hf.set_fit ?_ (by assumption) _ | refine Ms.fit_bt ?_ _ _ rfl | refine Ms.fit_pv ?_ rfl))]; kernel_rfl)) rfl ⟨.slice none 0 0, .slice none 0 0, rfl, M.below, fun w2 _ => seesL_nil _ _ opV_len w2, fun w2 _ => seesL_nil _ _ prV_len w2⟩
      | exact bodyPost_ret (results_row rfl _ _ gr 0 _ _ rfl (M.ok 1 _ rfl).2.1 Try.underlying30 rfl (by rw [msgC_len (by repeat' (first | exact kindE_fit _ _ | refine Mf.set_fit ?_ _ _ | refine Hf.set_fit ?_ (by assumption) _ | refine Ms.fit_bt ?_ _ _ rfl | refine Ms.fit_pv ?_ rfl))]; kernel_rfl)) rfl ⟨.slice op ops.length oc, .slice none 0 0, rfl, M.below, fun _ h => h, fun w2 _ => seesL_nil _ _ prV_len w2⟩
      | exact bodyPost_ret (results_row rfl _ _ gr 0 _ _ rfl (M.ok 1 _ rfl).2.1 Try.underlying30 rfl (by rw [msgC_len (by repeat' (first | exact kindE_fit _ _ | refine Mf.set_fit ?_ _ _ | refine Hf.set_fit ?_ (by assumption) _ | refine Ms.fit_bt ?_ _ _ rfl | refine Ms.fit_pv ?_ rfl))]; kernel_rfl)) rfl ⟨.slice none 0 0, .slice pp prs.length pc, rfl, M.below, fun w2 _ => seesL_nil _ _ opV_len w2, fun _ h => h⟩
end Go.Proofs.Ytoaabclemeibhaa

/- The walk of the reference's Same, of messages. Conditions: lengths. -/
namespace Go.Proofs.Ytoaabclemeibhaa
open Go.RowKit Go.TL
set_option maxRecDepth 100000 in
set_option maxHeartbeats 16000000 in
theorem rSame18_c (L1 L2 : Lm) (ov pv ov' pv' : Value) (w : World) (hL : L1.fit) (hL' : L2.fit) (S : SeesL w 3 opV ov L1.ops) (T : SeesL w 2 prV pv L1.prs) (S' : SeesL w 3 opV ov' L2.ops) (T' : SeesL w 2 prV pv' L2.prs)
    (h1 : L1.ops.length ≤ 1000000) (h2 : L1.prs.length ≤ 1000000) (h3 : L2.ops.length ≤ 1000000) (h4 : L2.prs.length ≤ 1000000) :
    Calls Try.prog 13 #[.agg (msgC (L1.ms ov pv)).toArray, .agg (msgC (L2.ms ov' pv')).toArray] w fun r w' => r = .returned (.bool (decide (L1 = L2))) ∧ Below w.heap.size w w' := by
  have M := Mem.start [] w
  obtain ⟨k, e, a, o, bi, be, ops, p, r, v, i, lf, rt, prs⟩ := L1
  obtain ⟨k', e', a', o', bi', be', ops', p', r', v', i', lf', rt', prs'⟩ := L2
  dsimp only at S T S' T' h1 h2 h3 h4
  obtain ⟨op, oc, rfl, _⟩ := S.form
  obtain ⟨pp, pc, rfl, _⟩ := T.form
  obtain ⟨op', oc', rfl, _⟩ := S'.form
  obtain ⟨pp', pc', rfl, _⟩ := T'.form
  have X1 := msg_cells (Lm.ms_fit hL (ov := .slice op ops.length oc) (pv := .slice pp prs.length pc) rfl rfl)
  have X2 := msg_cells (Lm.ms_fit hL' (ov := .slice op' ops'.length oc') (pv := .slice pp' prs'.length pc') rfl rfl)
  simp only [Lm.ms] at X1 X2 ⊢
  obtain ⟨C1, e1⟩ : ∃ C, C = msgC ⟨k, e, a, o, bi, be, .slice op ops.length oc, p, r, v, i, lf, rt, .slice pp prs.length pc⟩ := ⟨_, rfl⟩
  obtain ⟨C2, e2⟩ : ∃ C, C = msgC ⟨k', e', a', o', bi', be', .slice op' ops'.length oc', p', r', v', i', lf', rt', .slice pp' prs'.length pc'⟩ := ⟨_, rfl⟩
  rw [← e1] at X1
  rw [← e2] at X2
  rw [← e1, ← e2]
  clear e1 e2 hL hL'
  obtain ⟨N1k, N1e, N1a, N1o, N1p, N1v, N1i, N1pv, ⟨_, _, b1⟩, ⟨_, _, r1⟩, ⟨_, _, l1⟩, ⟨_, _, t1⟩, c1, _⟩ := X1
  obtain ⟨N2k, N2e, N2a, N2o, N2p, N2v, N2i, N2pv, ⟨_, _, b2⟩, ⟨_, _, r2⟩, ⟨_, _, l2⟩, ⟨_, _, t2⟩, c2, _⟩ := X2
  replace N1k := Lib.hid N1k
  replace N1e := Lib.hid N1e
  replace N1a := Lib.hid N1a
  replace N1o := Lib.hid N1o
  replace N1p := Lib.hid N1p
  replace N1v := Lib.hid N1v
  replace N1i := Lib.hid N1i
  replace N1pv := Lib.hid N1pv
  have B1 := Lib.hid b1
  have H1r := Lib.hid r1
  have H1lf := Lib.hid l1
  have H1rt := Lib.hid t1
  have hr1 := r1.2.2
  have hl1 := l1.2.2
  have ht1 := t1.2.2
  clear b1 r1 l1 t1 c1
  replace N2k := Lib.hid N2k
  replace N2e := Lib.hid N2e
  replace N2a := Lib.hid N2a
  replace N2o := Lib.hid N2o
  replace N2p := Lib.hid N2p
  replace N2v := Lib.hid N2v
  replace N2i := Lib.hid N2i
  replace N2pv := Lib.hid N2pv
  have B2 := Lib.hid b2
  have H2r := Lib.hid r2
  have H2lf := Lib.hid l2
  have H2rt := Lib.hid t2
  have hr2 := r2.2.2
  have hl2 := l2.2.2
  have ht2 := t2.2.2
  clear b2 r2 l2 t2 c2
  have BS := fun w S S' => rSame_c bi be bi' be' ops ops' (.slice op ops.length oc) (.slice op' ops'.length oc') w S S' h1 h3
  have RF : ¬ ((Lm.mk k e a o bi be ops p r v i lf rt prs) = (Lm.mk k' e' a' o' bi' be' ops' p' r' v' i' lf' rt' prs')) → decide ((Lm.mk k e a o bi be ops p r v i lf rt prs) = (Lm.mk k' e' a' o' bi' be' ops' p' r' v' i' lf' rt' prs')) = false := fun h => decide_eq_false h
  have RT : (Lm.mk k e a o bi be ops p r v i lf rt prs) = (Lm.mk k' e' a' o' bi' be' ops' p' r' v' i' lf' rt' prs') → decide ((Lm.mk k e a o bi be ops p r v i lf rt prs) = (Lm.mk k' e' a' o' bi' be' ops' p' r' v' i' lf' rt' prs')) = true := fun h => decide_eq_true h
  obtain ⟨R, eR⟩ : ∃ R, R = decide ((Lm.mk k e a o bi be ops p r v i lf rt prs) = (Lm.mk k' e' a' o' bi' be' ops' p' r' v' i' lf' rt' prs')) := ⟨_, rfl⟩
  rw [← eR] at RF RT ⊢
  replace RF := Lib.hid RF
  replace RT := Lib.hid RT
  clear eR
  have hne := @eqP_ne prs prs'
  have heq := @eqP_eq prs prs'
  replace hne := Lib.hid hne
  replace heq := Lib.hid heq
  by_cases hn : prs.length = prs'.length
  · have hq : ((prs.length : Int) != (prs'.length : Int)) = false := by simp; omega
    go_enter Try.func13, Try.ntmps13
    simp only [List.append_eq, List.cons_append, List.nil_append]
    replace hn := Lib.hid hn
    go_wp2_with ((first | ((with_reducible refine tBox (some 2) ?_); refine w_box M _ _ rfl rfl _ rfl (C1) rfl ?_; clear M; intro ga w1 M) | ((with_reducible refine tBox (some 3) ?_); refine w_box M _ _ rfl rfl _ rfl (C2) rfl ?_; clear M; intro gb w1 M) | ((with_reducible refine tLoad ?_); go_must (refine w_at _ _ rfl (by exact ev_tmp rfl) ?_; intro hx; (first | refine w_load M 0 _ _ rfl rfl hx rfl (by decide +kernel) (by with_reducible first | exact N2k.out | exact N2e.out | exact N2a.out | exact N2o.out | exact N2p.out | exact N2v.out | exact N2i.out | exact N2pv.out) ?_ | refine w_loadA M 0 _ _ rfl rfl hx rfl (by decide +kernel) _ _ _ H2r.out.1 H2r.out.2.1 (by rw [bs_length, H2r.out.2.2]; kernel_rfl) ?_ | refine w_loadA M 0 _ _ rfl rfl hx rfl (by decide +kernel) _ _ _ H2lf.out.1 H2lf.out.2.1 (by rw [bs_length, H2lf.out.2.2]; kernel_rfl) ?_ | refine w_loadA M 0 _ _ rfl rfl hx rfl (by decide +kernel) _ _ _ H2rt.out.1 H2rt.out.2.1 (by rw [bs_length, H2rt.out.2.2]; kernel_rfl) ?_ | refine w_loadA M 0 _ _ rfl rfl hx rfl (by decide +kernel) _ _ _ B2.out.1 B2.out.2 (by kernel_rfl) ?_ | refine w_load M 1 _ _ rfl rfl hx rfl (by decide +kernel) (by with_reducible first | exact N1k.out | exact N1e.out | exact N1a.out | exact N1o.out | exact N1p.out | exact N1v.out | exact N1i.out | exact N1pv.out) ?_ | refine w_loadA M 1 _ _ rfl rfl hx rfl (by decide +kernel) _ _ _ H1r.out.1 H1r.out.2.1 (by rw [bs_length, H1r.out.2.2]; kernel_rfl) ?_ | refine w_loadA M 1 _ _ rfl rfl hx rfl (by decide +kernel) _ _ _ H1lf.out.1 H1lf.out.2.1 (by rw [bs_length, H1lf.out.2.2]; kernel_rfl) ?_ | refine w_loadA M 1 _ _ rfl rfl hx rfl (by decide +kernel) _ _ _ H1rt.out.1 H1rt.out.2.1 (by rw [bs_length, H1rt.out.2.2]; kernel_rfl) ?_ | refine w_loadA M 1 _ _ rfl rfl hx rfl (by decide +kernel) _ _ _ B1.out.1 B1.out.2 (by kernel_rfl) ?_); clear hx)) | ((with_reducible refine tGuard ?_); refine w_strip rfl (by with_reducible rfl) ?_) | fail | ((with_reducible refine tLoad ?_); go_must (refine w_at _ _ rfl (by exact ev_tmp rfl) ?_; intro hx; (first | refine w_load M _ _ _ rfl (by first | exact at0 | exact at1) hx rfl (by decide +kernel) (by exact rfl) ?_ | refine w_loadR M _ _ _ rfl (by first | exact at0 | exact at1) hx rfl (by decide +kernel) (by kernel_rfl) ?_); clear hx)) | ((with_reducible refine tStore ?_); go_must (refine w_at2 _ _ _ rfl (by exact ev_tmp rfl) (by first | exact ev_tmp rfl | exact ev_const) ?_; intro hx hy; (first | refine w_store M _ _ _ _ rfl (by first | exact at0 | exact at1) hx rfl hy rfl rfl (by decide +kernel) (by first | decide | simp | (simp; omega)) ?_ | refine w_storeR M _ _ _ _ rfl (by first | exact at0 | exact at1) hx rfl _ hy rfl (by kernel_rfl) (by simp [Value.oneCell']) (by first | rfl | assumption) ?_); clear hx hy M; intro w1 M; (try simp only [setC] at M))) | ((with_reducible refine tBox _ ?_); (refine w_box M _ _ rfl rfl _ rfl _ rfl ?_; clear M; intro g w1 M))) <;> (try conv => arg 5; simp only [Act.put, List.setIfInBounds_toArray, setC]))
    go_loopw [5] (fun iv wr => ∃ j : Nat, j ≤ prs.length ∧ iv = .int .i64 j ∧ Hid (∀ (n : Nat), n < j → prs[n]? = prs'[n]?) ∧ Mem [] w wr [.row gb C2, .row ga C1]) (fun iv _ => prs.length - (intOf iv).toNat)
    case atStart => exact ⟨0, by omega, rfl, Lib.hid (by omega), M⟩
    case round =>
      clear M
      obtain ⟨j, hj, rfl, HJ, M⟩ := hrel
      by_cases hlt : j < prs.length
      · obtain ⟨gp, so, rfl⟩ := T.addr (by omega)
        obtain ⟨gp', so', rfl⟩ := T'.addr (by have := hn.out; omega)
        have hkm : j < prs'.length := by have := hn.out; omega
        obtain ⟨⟨a1, b1⟩, hx⟩ : ∃ x, prs[j]? = some x := ⟨_, List.getElem?_eq_getElem hlt⟩
        obtain ⟨⟨c1, d1⟩, hy⟩ : ∃ x, prs'[j]? = some x := ⟨_, List.getElem?_eq_getElem hkm⟩
        have HX := Lib.hid hx; clear hx
        have HY := Lib.hid hy; clear hy
        by_cases hab : (a1, b1) = (c1, d1)
        · simp only [Prod.mk.injEq] at hab
          obtain ⟨rfl, rfl⟩ := hab
          go_wp2_with ((first | ((with_reducible show wpList _ _ _ (Oper.mk _ (Op.load 72 _) _ _ _ _ :: _) _ _); go_must (refine w_at _ _ rfl (by exact ev_tmp rfl) ?_; intro hx; (first | refine w_seeA M T HX.out _ _ rfl hx rfl (by decide +kernel) (by first | (with_reducible rfl) | omega) (by kernel_rfl) ?_ | refine w_seeA M T' HY.out _ _ rfl hx rfl (by decide +kernel) (by first | (with_reducible rfl) | omega) (by kernel_rfl) ?_); clear hx; (try conv => arg 5; simp only [Act.put, List.setIfInBounds_toArray, setC, prV_eq]))) | ((with_reducible show Code.wp _ (Code.region 6 _ _) _ _ _); go_must (have MR := M; refine region_lowc [(0, false), (2, false), (5, false), (7, false), (1, false), (3, false), (4, false), (6, false), (8, false), (9, false), (10, false)] [(24, .cells), (29, .cells)] [(1, _), (6, _), (4, _), (9, _)] (IxOk MR [1, 0]) 11 (by kernel_rfl) (by kernel_rfl) rfl (by kernel_rfl) (lows_cons (stab_ix MR 1 106 rfl rfl (by decide) (by decide +kernel) N1pv.out) (lows_cons (stab_ix MR 0 106 rfl rfl (by decide) (by decide +kernel) N2pv.out) (lows_cons (stab_seeA MR T HX.out rfl (by decide +kernel) (by kernel_rfl)) (lows_cons (stab_seeA MR T' HY.out rfl (by decide +kernel) (by kernel_rfl)) lows_nil)))) (ixOk_self MR _) ?_; replace M := M.drew; simp only [planC, opAt, List.getElem?_toArray, List.getElem?_cons_zero, List.getElem?_cons_succ, Option.getD_some])) | ((with_reducible refine tLoad ?_); go_must (refine w_at _ _ rfl (by exact ev_tmp rfl) ?_; intro hx; (first | refine w_load M 0 _ _ rfl rfl hx rfl (by decide +kernel) (by with_reducible first | exact N2k.out | exact N2e.out | exact N2a.out | exact N2o.out | exact N2p.out | exact N2v.out | exact N2i.out | exact N2pv.out) ?_ | refine w_loadA M 0 _ _ rfl rfl hx rfl (by decide +kernel) _ _ _ H2r.out.1 H2r.out.2.1 (by rw [bs_length, H2r.out.2.2]; kernel_rfl) ?_ | refine w_loadA M 0 _ _ rfl rfl hx rfl (by decide +kernel) _ _ _ H2lf.out.1 H2lf.out.2.1 (by rw [bs_length, H2lf.out.2.2]; kernel_rfl) ?_ | refine w_loadA M 0 _ _ rfl rfl hx rfl (by decide +kernel) _ _ _ H2rt.out.1 H2rt.out.2.1 (by rw [bs_length, H2rt.out.2.2]; kernel_rfl) ?_ | refine w_loadA M 0 _ _ rfl rfl hx rfl (by decide +kernel) _ _ _ B2.out.1 B2.out.2 (by kernel_rfl) ?_ | refine w_load M 1 _ _ rfl rfl hx rfl (by decide +kernel) (by with_reducible first | exact N1k.out | exact N1e.out | exact N1a.out | exact N1o.out | exact N1p.out | exact N1v.out | exact N1i.out | exact N1pv.out) ?_ | refine w_loadA M 1 _ _ rfl rfl hx rfl (by decide +kernel) _ _ _ H1r.out.1 H1r.out.2.1 (by rw [bs_length, H1r.out.2.2]; kernel_rfl) ?_ | refine w_loadA M 1 _ _ rfl rfl hx rfl (by decide +kernel) _ _ _ H1lf.out.1 H1lf.out.2.1 (by rw [bs_length, H1lf.out.2.2]; kernel_rfl) ?_ | refine w_loadA M 1 _ _ rfl rfl hx rfl (by decide +kernel) _ _ _ H1rt.out.1 H1rt.out.2.1 (by rw [bs_length, H1rt.out.2.2]; kernel_rfl) ?_ | refine w_loadA M 1 _ _ rfl rfl hx rfl (by decide +kernel) _ _ _ B1.out.1 B1.out.2 (by kernel_rfl) ?_); clear hx)) | ((with_reducible show Seg _ _ _ _); go_must (first | refine Seg.intro ⟨fun h => absurd rfl h, ?_⟩ | refine Seg.intro ⟨fun _ => (by repeat' (first | exact ixOk_nil M.kept | refine ixOk_cons rfl (by first | exact M.ok 0 _ rfl | exact M.ok 1 _ rfl | exact M.ok 2 _ rfl | exact M.ok 3 _ rfl) ?_)), ?_⟩ | refine Seg.intro ⟨(by repeat' (first | (with_reducible exact needs_nil) | refine needs_at rfl (by first | (show Shape.ok Shape.nums _ = true; exact nums_bs _) | rfl | (simp [Shape.ok, Shape.strict, aggV, plain1]; done)) ?_)), (by repeat' (first | (with_reducible exact ats_nil) | refine ats_cons (by first | exact ev_tmp rfl | rfl) ?_)), ?_⟩)) | ((with_reducible show OnlyN _ _ _ _ _); refine OnlyN.intro (by kernel_rfl) ?_) | ((with_reducible refine tGuard ?_); refine w_strip rfl (by with_reducible rfl) ?_) | fail | ((with_reducible refine tLoad ?_); go_must (refine w_at _ _ rfl (by exact ev_tmp rfl) ?_; intro hx; (first | refine w_load M _ _ _ rfl (by first | exact at0 | exact at1) hx rfl (by decide +kernel) (by exact rfl) ?_ | refine w_loadR M _ _ _ rfl (by first | exact at0 | exact at1) hx rfl (by decide +kernel) (by kernel_rfl) ?_); clear hx)) | ((with_reducible refine tStore ?_); go_must (refine w_at2 _ _ _ rfl (by exact ev_tmp rfl) (by first | exact ev_tmp rfl | exact ev_const) ?_; intro hx hy; (first | refine w_store M _ _ _ _ rfl (by first | exact at0 | exact at1) hx rfl hy rfl rfl (by decide +kernel) (by first | decide | simp | (simp; omega)) ?_ | refine w_storeR M _ _ _ _ rfl (by first | exact at0 | exact at1) hx rfl _ hy rfl (by kernel_rfl) (by simp [Value.oneCell']) (by first | rfl | assumption) ?_); clear hx hy M; intro w1 M; (try simp only [setC] at M))) | ((with_reducible refine tBox _ ?_); (refine w_box M _ _ rfl rfl _ rfl _ rfl ?_; clear M; intro g w1 M))) <;> (try conv => arg 5; simp only [Act.put, List.setIfInBounds_toArray, setC]))
          go_roundw
          case rel => exact ⟨j + 1, by omega, by go_num, Lib.hid fun n hn => by
            rcases Nat.lt_succ_iff_lt_or_eq.1 hn with hn | rfl
            · exact HJ.out n hn
            · exact HX.out.trans HY.out.symm, M⟩
          case measure => simp [intOf]; omega
        · have hz := hne.out j _ _ HX.out HY.out hab
          have e0 := RF.out (fun h => by injection h; subst_vars; rw [beq_self_eq_true] at hz; cases hz)
          subst e0
          clear hz
          have hab := Lib.hid (prV_ne hab)
          go_wp2_with ((first | ((with_reducible show wpList _ _ _ (Oper.mk _ (Op.load 72 _) _ _ _ _ :: _) _ _); go_must (refine w_at _ _ rfl (by exact ev_tmp rfl) ?_; intro hx; (first | refine w_seeA M T HX.out _ _ rfl hx rfl (by decide +kernel) (by first | (with_reducible rfl) | omega) (by kernel_rfl) ?_ | refine w_seeA M T' HY.out _ _ rfl hx rfl (by decide +kernel) (by first | (with_reducible rfl) | omega) (by kernel_rfl) ?_); clear hx; (try conv => arg 5; simp only [Act.put, List.setIfInBounds_toArray, setC, prV_eq]))) | ((with_reducible show Code.wp _ (Code.region 6 _ _) _ _ _); go_must (have MR := M; refine region_lowc [(0, false), (2, false), (5, false), (7, false), (1, false), (3, false), (4, false), (6, false), (8, false), (9, false), (10, false)] [(24, .cells), (29, .cells)] [(1, _), (6, _), (4, _), (9, _)] (IxOk MR [1, 0]) 11 (by kernel_rfl) (by kernel_rfl) rfl (by kernel_rfl) (lows_cons (stab_ix MR 1 106 rfl rfl (by decide) (by decide +kernel) N1pv.out) (lows_cons (stab_ix MR 0 106 rfl rfl (by decide) (by decide +kernel) N2pv.out) (lows_cons (stab_seeA MR T HX.out rfl (by decide +kernel) (by kernel_rfl)) (lows_cons (stab_seeA MR T' HY.out rfl (by decide +kernel) (by kernel_rfl)) lows_nil)))) (ixOk_self MR _) ?_; replace M := M.drew; simp only [planC, opAt, List.getElem?_toArray, List.getElem?_cons_zero, List.getElem?_cons_succ, Option.getD_some])) | ((with_reducible refine tLoad ?_); go_must (refine w_at _ _ rfl (by exact ev_tmp rfl) ?_; intro hx; (first | refine w_load M 0 _ _ rfl rfl hx rfl (by decide +kernel) (by with_reducible first | exact N2k.out | exact N2e.out | exact N2a.out | exact N2o.out | exact N2p.out | exact N2v.out | exact N2i.out | exact N2pv.out) ?_ | refine w_loadA M 0 _ _ rfl rfl hx rfl (by decide +kernel) _ _ _ H2r.out.1 H2r.out.2.1 (by rw [bs_length, H2r.out.2.2]; kernel_rfl) ?_ | refine w_loadA M 0 _ _ rfl rfl hx rfl (by decide +kernel) _ _ _ H2lf.out.1 H2lf.out.2.1 (by rw [bs_length, H2lf.out.2.2]; kernel_rfl) ?_ | refine w_loadA M 0 _ _ rfl rfl hx rfl (by decide +kernel) _ _ _ H2rt.out.1 H2rt.out.2.1 (by rw [bs_length, H2rt.out.2.2]; kernel_rfl) ?_ | refine w_loadA M 0 _ _ rfl rfl hx rfl (by decide +kernel) _ _ _ B2.out.1 B2.out.2 (by kernel_rfl) ?_ | refine w_load M 1 _ _ rfl rfl hx rfl (by decide +kernel) (by with_reducible first | exact N1k.out | exact N1e.out | exact N1a.out | exact N1o.out | exact N1p.out | exact N1v.out | exact N1i.out | exact N1pv.out) ?_ | refine w_loadA M 1 _ _ rfl rfl hx rfl (by decide +kernel) _ _ _ H1r.out.1 H1r.out.2.1 (by rw [bs_length, H1r.out.2.2]; kernel_rfl) ?_ | refine w_loadA M 1 _ _ rfl rfl hx rfl (by decide +kernel) _ _ _ H1lf.out.1 H1lf.out.2.1 (by rw [bs_length, H1lf.out.2.2]; kernel_rfl) ?_ | refine w_loadA M 1 _ _ rfl rfl hx rfl (by decide +kernel) _ _ _ H1rt.out.1 H1rt.out.2.1 (by rw [bs_length, H1rt.out.2.2]; kernel_rfl) ?_ | refine w_loadA M 1 _ _ rfl rfl hx rfl (by decide +kernel) _ _ _ B1.out.1 B1.out.2 (by kernel_rfl) ?_); clear hx)) | ((with_reducible show Seg _ _ _ _); go_must (first | refine Seg.intro ⟨fun h => absurd rfl h, ?_⟩ | refine Seg.intro ⟨fun _ => (by repeat' (first | exact ixOk_nil M.kept | refine ixOk_cons rfl (by first | exact M.ok 0 _ rfl | exact M.ok 1 _ rfl | exact M.ok 2 _ rfl | exact M.ok 3 _ rfl) ?_)), ?_⟩ | refine Seg.intro ⟨(by repeat' (first | (with_reducible exact needs_nil) | refine needs_at rfl (by first | (show Shape.ok Shape.nums _ = true; exact nums_bs _) | rfl | (simp [Shape.ok, Shape.strict, aggV, plain1]; done)) ?_)), (by repeat' (first | (with_reducible exact ats_nil) | refine ats_cons (by first | exact ev_tmp rfl | rfl) ?_)), ?_⟩)) | ((with_reducible show OnlyN _ _ _ _ _); refine OnlyN.intro (by kernel_rfl) ?_) | ((with_reducible refine tGuard ?_); refine w_strip rfl (by with_reducible rfl) ?_) | fail | ((with_reducible refine tLoad ?_); go_must (refine w_at _ _ rfl (by exact ev_tmp rfl) ?_; intro hx; (first | refine w_load M _ _ _ rfl (by first | exact at0 | exact at1) hx rfl (by decide +kernel) (by exact rfl) ?_ | refine w_loadR M _ _ _ rfl (by first | exact at0 | exact at1) hx rfl (by decide +kernel) (by kernel_rfl) ?_); clear hx)) | ((with_reducible refine tStore ?_); go_must (refine w_at2 _ _ _ rfl (by exact ev_tmp rfl) (by first | exact ev_tmp rfl | exact ev_const) ?_; intro hx hy; (first | refine w_store M _ _ _ _ rfl (by first | exact at0 | exact at1) hx rfl hy rfl rfl (by decide +kernel) (by first | decide | simp | (simp; omega)) ?_ | refine w_storeR M _ _ _ _ rfl (by first | exact at0 | exact at1) hx rfl _ hy rfl (by kernel_rfl) (by simp [Value.oneCell']) (by first | rfl | assumption) ?_); clear hx hy M; intro w1 M; (try simp only [setC] at M))) | ((with_reducible refine tBox _ ?_); (refine w_box M _ _ rfl rfl _ rfl _ rfl ?_; clear M; intro g w1 M))) <;> (try conv => arg 5; simp only [Act.put, List.setIfInBounds_toArray, setC]))
          all_goals (first | exact absurd ⟨‹a1 = c1›, ‹b1 = d1›⟩ hab.out | (go_ret; exact ⟨rfl, M.below⟩))
      · obtain rfl : j = prs.length := by omega
        have hz : (prs == prs') = true := heq.out hn.out HJ.out
        have hp : prs = prs' := beq_iff_eq.1 hz
        clear hz HJ
        have hkm : ¬ prs.length < prs.length := by omega
        rcases ref_first k k' e a o bi be e' a' o' bi' be' p v i p' v' i' ops ops' r lf rt r' lf' rt' prs prs' with hc | ⟨rfl, hc⟩ | ⟨rfl, rfl, hc⟩ | ⟨rfl, rfl, rfl, hc⟩ | ⟨rfl, rfl, rfl, rfl, hc⟩ | ⟨rfl, rfl, rfl, rfl, ⟨rfl, rfl, rfl⟩, hc⟩ | ⟨rfl, rfl, rfl, rfl, ⟨rfl, rfl, rfl⟩, rfl, hc⟩ | ⟨rfl, rfl, rfl, rfl, ⟨rfl, rfl, rfl⟩, rfl, rfl, hc⟩ | ⟨rfl, rfl, rfl, rfl, ⟨rfl, rfl, rfl⟩, rfl, rfl, rfl, hc⟩ | ⟨rfl, rfl, rfl, rfl, ⟨rfl, rfl, rfl⟩, rfl, rfl, rfl, rfl, hc⟩ | ⟨rfl, rfl, rfl, rfl, ⟨rfl, rfl, rfl⟩, rfl, rfl, rfl, rfl, rfl, hc⟩ | ⟨rfl, rfl, rfl, rfl, ⟨rfl, rfl, rfl⟩, rfl, rfl, rfl, rfl, rfl, rfl⟩
        all_goals
          first
            | (have e0 : R = false := RF.out (fun h => by injection h; first | exact hc (by assumption) | exact hc (congrArg I8 (by assumption)) | (subst_vars; rw [sameB_iff.2 ⟨rfl, rfl, rfl⟩] at hc; cases hc)))
            | (have e0 : R = true := RT.out (by rw [hp]))
          subst e0
          (try rw [sameB_iff.2 ⟨rfl, rfl, rfl⟩] at BS)
          (try rw [hc] at BS)
          (try have hc' := beq_eq_false_iff_ne.2 hc)
          (try clear hc)
          replace BS := Lib.hid BS
          clear hp
          go_wp2_with ((first | ((with_reducible refine tGuard ?_); (with_reducible refine w_stripE ?_ ?_); (focus (refine ⟨_, rfl, ?_⟩; first | (with_reducible rfl) | exact decide_eq_false (by omega) | exact decide_eq_true (by omega)))) | ((with_reducible refine tGuard ?_); first | ((with_reducible refine w_skip1 ?_ ?_); (focus (refine ⟨_, rfl, ?_⟩; first | (with_reducible rfl) | exact decide_eq_false (by omega) | exact decide_eq_true (by omega)))) | ((with_reducible refine w_skip0 ?_ ?_); (focus (refine ⟨_, rfl, ?_⟩; first | (with_reducible rfl) | exact decide_eq_false (by omega) | exact decide_eq_true (by omega))))) | ((with_reducible refine tLoad ?_); go_must (refine w_at _ _ rfl (by exact ev_tmp rfl) ?_; intro hx; (first | refine w_load M 0 _ _ rfl rfl hx rfl (by decide +kernel) (by with_reducible first | exact N2k.out | exact N2e.out | exact N2a.out | exact N2o.out | exact N2p.out | exact N2v.out | exact N2i.out | exact N2pv.out) ?_ | refine w_loadA M 0 _ _ rfl rfl hx rfl (by decide +kernel) _ _ _ H2r.out.1 H2r.out.2.1 (by rw [bs_length, H2r.out.2.2]; kernel_rfl) ?_ | refine w_loadA M 0 _ _ rfl rfl hx rfl (by decide +kernel) _ _ _ H2lf.out.1 H2lf.out.2.1 (by rw [bs_length, H2lf.out.2.2]; kernel_rfl) ?_ | refine w_loadA M 0 _ _ rfl rfl hx rfl (by decide +kernel) _ _ _ H2rt.out.1 H2rt.out.2.1 (by rw [bs_length, H2rt.out.2.2]; kernel_rfl) ?_ | refine w_loadA M 0 _ _ rfl rfl hx rfl (by decide +kernel) _ _ _ B2.out.1 B2.out.2 (by kernel_rfl) ?_ | refine w_load M 1 _ _ rfl rfl hx rfl (by decide +kernel) (by with_reducible first | exact N1k.out | exact N1e.out | exact N1a.out | exact N1o.out | exact N1p.out | exact N1v.out | exact N1i.out | exact N1pv.out) ?_ | refine w_loadA M 1 _ _ rfl rfl hx rfl (by decide +kernel) _ _ _ H1r.out.1 H1r.out.2.1 (by rw [bs_length, H1r.out.2.2]; kernel_rfl) ?_ | refine w_loadA M 1 _ _ rfl rfl hx rfl (by decide +kernel) _ _ _ H1lf.out.1 H1lf.out.2.1 (by rw [bs_length, H1lf.out.2.2]; kernel_rfl) ?_ | refine w_loadA M 1 _ _ rfl rfl hx rfl (by decide +kernel) _ _ _ H1rt.out.1 H1rt.out.2.1 (by rw [bs_length, H1rt.out.2.2]; kernel_rfl) ?_ | refine w_loadA M 1 _ _ rfl rfl hx rfl (by decide +kernel) _ _ _ B1.out.1 B1.out.2 (by kernel_rfl) ?_); clear hx)) | (go_at_call 31; go_must (refine (BS.out _ (S.now M) (S'.now M)).mono ?_; rintro e w1 ⟨rfl, hb⟩; replace M := M.call hb; clear hb)) | ((with_reducible refine tGuard ?_); refine w_strip rfl (by with_reducible rfl) ?_) | fail | ((with_reducible refine tLoad ?_); go_must (refine w_at _ _ rfl (by exact ev_tmp rfl) ?_; intro hx; (first | refine w_load M _ _ _ rfl (by first | exact at0 | exact at1) hx rfl (by decide +kernel) (by exact rfl) ?_ | refine w_loadR M _ _ _ rfl (by first | exact at0 | exact at1) hx rfl (by decide +kernel) (by kernel_rfl) ?_); clear hx)) | ((with_reducible refine tStore ?_); go_must (refine w_at2 _ _ _ rfl (by exact ev_tmp rfl) (by first | exact ev_tmp rfl | exact ev_const) ?_; intro hx hy; (first | refine w_store M _ _ _ _ rfl (by first | exact at0 | exact at1) hx rfl hy rfl rfl (by decide +kernel) (by first | decide | simp | (simp; omega)) ?_ | refine w_storeR M _ _ _ _ rfl (by first | exact at0 | exact at1) hx rfl _ hy rfl (by kernel_rfl) (by simp [Value.oneCell']) (by first | rfl | assumption) ?_); clear hx hy M; intro w1 M; (try simp only [setC] at M))) | ((with_reducible refine tBox _ ?_); (refine w_box M _ _ rfl rfl _ rfl _ rfl ?_; clear M; intro g w1 M))) <;> (try conv => arg 5; simp only [Act.put, List.setIfInBounds_toArray, setC]))
          go_ret
          exact ⟨by first | rfl | simp, M.below⟩
  · have e0 := RF.out (fun h => by injection h; subst_vars; exact hn rfl)
    subst e0
    have hq : ((prs.length : Int) != (prs'.length : Int)) = true := by simp; omega
    go_enter Try.func13, Try.ntmps13
    go_wp2_with ((first | ((with_reducible refine tBox (some 2) ?_); refine w_box M _ _ rfl rfl _ rfl (C1) rfl ?_; clear M; intro ga w1 M) | ((with_reducible refine tBox (some 3) ?_); refine w_box M _ _ rfl rfl _ rfl (C2) rfl ?_; clear M; intro gb w1 M) | ((with_reducible refine tLoad ?_); go_must (refine w_at _ _ rfl (by exact ev_tmp rfl) ?_; intro hx; (first | refine w_load M 0 _ _ rfl rfl hx rfl (by decide +kernel) (by with_reducible first | exact N2k.out | exact N2e.out | exact N2a.out | exact N2o.out | exact N2p.out | exact N2v.out | exact N2i.out | exact N2pv.out) ?_ | refine w_loadA M 0 _ _ rfl rfl hx rfl (by decide +kernel) _ _ _ H2r.out.1 H2r.out.2.1 (by rw [bs_length, H2r.out.2.2]; kernel_rfl) ?_ | refine w_loadA M 0 _ _ rfl rfl hx rfl (by decide +kernel) _ _ _ H2lf.out.1 H2lf.out.2.1 (by rw [bs_length, H2lf.out.2.2]; kernel_rfl) ?_ | refine w_loadA M 0 _ _ rfl rfl hx rfl (by decide +kernel) _ _ _ H2rt.out.1 H2rt.out.2.1 (by rw [bs_length, H2rt.out.2.2]; kernel_rfl) ?_ | refine w_loadA M 0 _ _ rfl rfl hx rfl (by decide +kernel) _ _ _ B2.out.1 B2.out.2 (by kernel_rfl) ?_ | refine w_load M 1 _ _ rfl rfl hx rfl (by decide +kernel) (by with_reducible first | exact N1k.out | exact N1e.out | exact N1a.out | exact N1o.out | exact N1p.out | exact N1v.out | exact N1i.out | exact N1pv.out) ?_ | refine w_loadA M 1 _ _ rfl rfl hx rfl (by decide +kernel) _ _ _ H1r.out.1 H1r.out.2.1 (by rw [bs_length, H1r.out.2.2]; kernel_rfl) ?_ | refine w_loadA M 1 _ _ rfl rfl hx rfl (by decide +kernel) _ _ _ H1lf.out.1 H1lf.out.2.1 (by rw [bs_length, H1lf.out.2.2]; kernel_rfl) ?_ | refine w_loadA M 1 _ _ rfl rfl hx rfl (by decide +kernel) _ _ _ H1rt.out.1 H1rt.out.2.1 (by rw [bs_length, H1rt.out.2.2]; kernel_rfl) ?_ | refine w_loadA M 1 _ _ rfl rfl hx rfl (by decide +kernel) _ _ _ B1.out.1 B1.out.2 (by kernel_rfl) ?_); clear hx)) | ((with_reducible refine tGuard ?_); refine w_strip rfl (by with_reducible rfl) ?_) | fail | ((with_reducible refine tLoad ?_); go_must (refine w_at _ _ rfl (by exact ev_tmp rfl) ?_; intro hx; (first | refine w_load M _ _ _ rfl (by first | exact at0 | exact at1) hx rfl (by decide +kernel) (by exact rfl) ?_ | refine w_loadR M _ _ _ rfl (by first | exact at0 | exact at1) hx rfl (by decide +kernel) (by kernel_rfl) ?_); clear hx)) | ((with_reducible refine tStore ?_); go_must (refine w_at2 _ _ _ rfl (by exact ev_tmp rfl) (by first | exact ev_tmp rfl | exact ev_const) ?_; intro hx hy; (first | refine w_store M _ _ _ _ rfl (by first | exact at0 | exact at1) hx rfl hy rfl rfl (by decide +kernel) (by first | decide | simp | (simp; omega)) ?_ | refine w_storeR M _ _ _ _ rfl (by first | exact at0 | exact at1) hx rfl _ hy rfl (by kernel_rfl) (by simp [Value.oneCell']) (by first | rfl | assumption) ?_); clear hx hy M; intro w1 M; (try simp only [setC] at M))) | ((with_reducible refine tBox _ ?_); (refine w_box M _ _ rfl rfl _ rfl _ rfl ?_; clear M; intro g w1 M))) <;> (try conv => arg 5; simp only [Act.put, List.setIfInBounds_toArray, setC]))
    go_ret
    exact ⟨rfl, M.below⟩
end Go.Proofs.Ytoaabclemeibhaa

/- The walk of the reference's Right. Conditions: lengths. -/
namespace Go.Proofs.Ytoaabclemeibhaa
open Go.RowKit Go.TL
set_option maxRecDepth 100000 in
set_option maxHeartbeats 8000000 in
theorem rRight_c (i e : Int) (ops : List Opr) (v : Value) (w : World) (S : SeesL w 3 opV v ops) (hl : ops.length ≤ 1000000) (hm : ∀ x ∈ ops, x.2.1.length ≤ 100000000 ∧ x.2.2.length ≤ 100000000) :
    Calls Try.prog 61 #[.agg #[.int .i64 i, .int .i64 e, v]] w fun e' w' => e' = .returned (.int .i64 (rightB i e ops)) ∧ Below w.heap.size w w' := by
  have M := Mem.start [] w
  obtain ⟨q, cap, rfl, hc⟩ := S.form
  by_cases h : i < 1 ∨ 4611686018427387904 < i ∨ e < 1
  · rw [right_n h]
    by_cases h1 : i < 1
    · clear h
      go_enter Try.func61, Try.ntmps61
      go_wp2_with ((first | ((with_reducible refine tBox (some 1) ?_); refine w_box M _ _ rfl rfl _ rfl ([.int .i64 i, .int .i64 e, .slice q ops.length cap]) rfl ?_; clear M; intro gb w1 M) | ((with_reducible refine tGuard ?_); (with_reducible refine w_stripE ?_ ?_); (focus (refine ⟨_, rfl, ?_⟩; first | (with_reducible rfl) | exact decide_eq_false (by omega) | exact decide_eq_true (by omega)))) | ((with_reducible refine tGuard ?_); first | refine w_strip rfl (by with_reducible rfl) ?_ | ((fail_if_success (refine w_lit false rfl (by with_reducible rfl) ?_)); (fail_if_success (refine w_lit true rfl (by with_reducible rfl) ?_)); refine w_case rfl ?_ ?_ <;> (intro hgd; rw [hgd]; try (exfalso; simp at hgd; omega)))) | fail | ((with_reducible refine tLoad ?_); go_must (refine w_at _ _ rfl (by exact ev_tmp rfl) ?_; intro hx; (first | refine w_load M _ _ _ rfl (by first | exact at0) hx rfl (by decide +kernel) (by exact rfl) ?_ | refine w_loadR M _ _ _ rfl (by first | exact at0) hx rfl (by decide +kernel) (by kernel_rfl) ?_); clear hx)) | ((with_reducible refine tStore ?_); go_must (refine w_at2 _ _ _ rfl (by exact ev_tmp rfl) (by first | exact ev_tmp rfl | exact ev_const) ?_; intro hx hy; (first | refine w_store M _ _ _ _ rfl (by first | exact at0) hx rfl hy rfl rfl (by decide +kernel) (by first | decide | simp | (simp; omega)) ?_ | refine w_storeR M _ _ _ _ rfl (by first | exact at0) hx rfl _ hy rfl (by kernel_rfl) (by simp [Value.oneCell']) (by first | rfl | assumption) ?_); clear hx hy M; intro w1 M; (try simp only [setC] at M))) | ((with_reducible refine tBox _ ?_); (refine w_box M _ _ rfl rfl _ rfl _ rfl ?_; clear M; intro g w1 M))) <;> (try conv => arg 5; simp only [Act.put, List.setIfInBounds_toArray, setC]))
      go_ret
      exact ⟨rfl, M.below⟩
    · have h1' : 1 ≤ i := by omega
      by_cases h2 : 4611686018427387904 < i
      · clear h
        go_enter Try.func61, Try.ntmps61
        go_wp2_with ((first | ((with_reducible refine tBox (some 1) ?_); refine w_box M _ _ rfl rfl _ rfl ([.int .i64 i, .int .i64 e, .slice q ops.length cap]) rfl ?_; clear M; intro gb w1 M) | ((with_reducible refine tGuard ?_); (with_reducible refine w_stripE ?_ ?_); (focus (refine ⟨_, rfl, ?_⟩; first | (with_reducible rfl) | exact decide_eq_false (by omega) | exact decide_eq_true (by omega)))) | ((with_reducible refine tGuard ?_); first | refine w_strip rfl (by with_reducible rfl) ?_ | ((fail_if_success (refine w_lit false rfl (by with_reducible rfl) ?_)); (fail_if_success (refine w_lit true rfl (by with_reducible rfl) ?_)); refine w_case rfl ?_ ?_ <;> (intro hgd; rw [hgd]; try (exfalso; simp at hgd; omega)))) | fail | ((with_reducible refine tLoad ?_); go_must (refine w_at _ _ rfl (by exact ev_tmp rfl) ?_; intro hx; (first | refine w_load M _ _ _ rfl (by first | exact at0) hx rfl (by decide +kernel) (by exact rfl) ?_ | refine w_loadR M _ _ _ rfl (by first | exact at0) hx rfl (by decide +kernel) (by kernel_rfl) ?_); clear hx)) | ((with_reducible refine tStore ?_); go_must (refine w_at2 _ _ _ rfl (by exact ev_tmp rfl) (by first | exact ev_tmp rfl | exact ev_const) ?_; intro hx hy; (first | refine w_store M _ _ _ _ rfl (by first | exact at0) hx rfl hy rfl rfl (by decide +kernel) (by first | decide | simp | (simp; omega)) ?_ | refine w_storeR M _ _ _ _ rfl (by first | exact at0) hx rfl _ hy rfl (by kernel_rfl) (by simp [Value.oneCell']) (by first | rfl | assumption) ?_); clear hx hy M; intro w1 M; (try simp only [setC] at M))) | ((with_reducible refine tBox _ ?_); (refine w_box M _ _ rfl rfl _ rfl _ rfl ?_; clear M; intro g w1 M))) <;> (try conv => arg 5; simp only [Act.put, List.setIfInBounds_toArray, setC]))
        go_ret
        exact ⟨rfl, M.below⟩
      · have h2' : i ≤ 4611686018427387904 := by omega
        have h3' : e < 1 := by omega
        clear h
        go_enter Try.func61, Try.ntmps61
        go_wp2_with ((first | ((with_reducible refine tBox (some 1) ?_); refine w_box M _ _ rfl rfl _ rfl ([.int .i64 i, .int .i64 e, .slice q ops.length cap]) rfl ?_; clear M; intro gb w1 M) | ((with_reducible refine tGuard ?_); (with_reducible refine w_stripE ?_ ?_); (focus (refine ⟨_, rfl, ?_⟩; first | (with_reducible rfl) | exact decide_eq_false (by omega) | exact decide_eq_true (by omega)))) | ((with_reducible refine tGuard ?_); first | refine w_strip rfl (by with_reducible rfl) ?_ | ((fail_if_success (refine w_lit false rfl (by with_reducible rfl) ?_)); (fail_if_success (refine w_lit true rfl (by with_reducible rfl) ?_)); refine w_case rfl ?_ ?_ <;> (intro hgd; rw [hgd]; try (exfalso; simp at hgd; omega)))) | fail | ((with_reducible refine tLoad ?_); go_must (refine w_at _ _ rfl (by exact ev_tmp rfl) ?_; intro hx; (first | refine w_load M _ _ _ rfl (by first | exact at0) hx rfl (by decide +kernel) (by exact rfl) ?_ | refine w_loadR M _ _ _ rfl (by first | exact at0) hx rfl (by decide +kernel) (by kernel_rfl) ?_); clear hx)) | ((with_reducible refine tStore ?_); go_must (refine w_at2 _ _ _ rfl (by exact ev_tmp rfl) (by first | exact ev_tmp rfl | exact ev_const) ?_; intro hx hy; (first | refine w_store M _ _ _ _ rfl (by first | exact at0) hx rfl hy rfl rfl (by decide +kernel) (by first | decide | simp | (simp; omega)) ?_ | refine w_storeR M _ _ _ _ rfl (by first | exact at0) hx rfl _ hy rfl (by kernel_rfl) (by simp [Value.oneCell']) (by first | rfl | assumption) ?_); clear hx hy M; intro w1 M; (try simp only [setC] at M))) | ((with_reducible refine tBox _ ?_); (refine w_box M _ _ rfl rfl _ rfl _ rfl ?_; clear M; intro g w1 M))) <;> (try conv => arg 5; simp only [Act.put, List.setIfInBounds_toArray, setC]))
        go_ret
        exact ⟨rfl, M.below⟩
  obtain ⟨h1, h2, h3⟩ : 1 ≤ i ∧ i ≤ 4611686018427387904 ∧ 1 ≤ e := by omega
  by_cases h4 : 4 < ops.length
  · rw [right_4 h h4]
    have h4' : (4 : Int) < (ops.length : Int) := by omega
    clear h
    go_enter Try.func61, Try.ntmps61
    go_wp2_with ((first | ((with_reducible refine tBox (some 1) ?_); refine w_box M _ _ rfl rfl _ rfl ([.int .i64 i, .int .i64 e, .slice q ops.length cap]) rfl ?_; clear M; intro gb w1 M) | ((with_reducible refine tGuard ?_); (with_reducible refine w_stripE ?_ ?_); (focus (refine ⟨_, rfl, ?_⟩; first | (with_reducible rfl) | exact decide_eq_false (by omega) | exact decide_eq_true (by omega)))) | ((with_reducible refine tGuard ?_); first | refine w_strip rfl (by with_reducible rfl) ?_ | ((fail_if_success (refine w_lit false rfl (by with_reducible rfl) ?_)); (fail_if_success (refine w_lit true rfl (by with_reducible rfl) ?_)); refine w_case rfl ?_ ?_ <;> (intro hgd; rw [hgd]; try (exfalso; simp at hgd; omega)))) | fail | ((with_reducible refine tLoad ?_); go_must (refine w_at _ _ rfl (by exact ev_tmp rfl) ?_; intro hx; (first | refine w_load M _ _ _ rfl (by first | exact at0) hx rfl (by decide +kernel) (by exact rfl) ?_ | refine w_loadR M _ _ _ rfl (by first | exact at0) hx rfl (by decide +kernel) (by kernel_rfl) ?_); clear hx)) | ((with_reducible refine tStore ?_); go_must (refine w_at2 _ _ _ rfl (by exact ev_tmp rfl) (by first | exact ev_tmp rfl | exact ev_const) ?_; intro hx hy; (first | refine w_store M _ _ _ _ rfl (by first | exact at0) hx rfl hy rfl rfl (by decide +kernel) (by first | decide | simp | (simp; omega)) ?_ | refine w_storeR M _ _ _ _ rfl (by first | exact at0) hx rfl _ hy rfl (by kernel_rfl) (by simp [Value.oneCell']) (by first | rfl | assumption) ?_); clear hx hy M; intro w1 M; (try simp only [setC] at M))) | ((with_reducible refine tBox _ ?_); (refine w_box M _ _ rfl rfl _ rfl _ rfl ?_; clear M; intro g w1 M))) <;> (try conv => arg 5; simp only [Act.put, List.setIfInBounds_toArray, setC]))
    go_ret
    exact ⟨rfl, M.below⟩
  rw [right_e h (by omega)]
  have h4' : (ops.length : Int) ≤ 4 := by omega
  have HB := fun k x r => @each_bad cutE ops k x r
  have HG := @each_all cutE ops
  obtain ⟨R, eR⟩ : ∃ R, R = eachE cutE ops := ⟨_, rfl⟩
  rw [← eR] at HB HG ⊢
  replace HB := Lib.hid HB
  replace HG := Lib.hid HG
  clear eR h
  go_enter Try.func61, Try.ntmps61
  go_wp2_with ((first | ((with_reducible refine tBox (some 1) ?_); refine w_box M _ _ rfl rfl _ rfl ([.int .i64 i, .int .i64 e, .slice q ops.length cap]) rfl ?_; clear M; intro gb w1 M) | ((with_reducible refine tGuard ?_); (with_reducible refine w_stripE ?_ ?_); (focus (refine ⟨_, rfl, ?_⟩; first | (with_reducible rfl) | exact decide_eq_false (by omega) | exact decide_eq_true (by omega)))) | ((with_reducible refine tGuard ?_); first | refine w_strip rfl (by with_reducible rfl) ?_ | ((fail_if_success (refine w_lit false rfl (by with_reducible rfl) ?_)); (fail_if_success (refine w_lit true rfl (by with_reducible rfl) ?_)); refine w_case rfl ?_ ?_ <;> (intro hgd; rw [hgd]; try (exfalso; simp at hgd; omega)))) | fail | ((with_reducible refine tLoad ?_); go_must (refine w_at _ _ rfl (by exact ev_tmp rfl) ?_; intro hx; (first | refine w_load M _ _ _ rfl (by first | exact at0) hx rfl (by decide +kernel) (by exact rfl) ?_ | refine w_loadR M _ _ _ rfl (by first | exact at0) hx rfl (by decide +kernel) (by kernel_rfl) ?_); clear hx)) | ((with_reducible refine tStore ?_); go_must (refine w_at2 _ _ _ rfl (by exact ev_tmp rfl) (by first | exact ev_tmp rfl | exact ev_const) ?_; intro hx hy; (first | refine w_store M _ _ _ _ rfl (by first | exact at0) hx rfl hy rfl rfl (by decide +kernel) (by first | decide | simp | (simp; omega)) ?_ | refine w_storeR M _ _ _ _ rfl (by first | exact at0) hx rfl _ hy rfl (by kernel_rfl) (by simp [Value.oneCell']) (by first | rfl | assumption) ?_); clear hx hy M; intro w1 M; (try simp only [setC] at M))) | ((with_reducible refine tBox _ ?_); (refine w_box M _ _ rfl rfl _ rfl _ rfl ?_; clear M; intro g w1 M))) <;> (try conv => arg 5; simp only [Act.put, List.setIfInBounds_toArray, setC]))
  go_loopw [3] (fun iv wr => ∃ k : Nat, k ≤ ops.length ∧ iv = .int .i64 k ∧ Hid (∀ (j : Nat) (y : Opr), j < k → ops[j]? = some y → opE cutE y = 0) ∧ Mem [] w wr [.row gb [.int .i64 i, .int .i64 e, .slice q ops.length cap]]) (fun iv _ => ops.length - (intOf iv).toNat)
  case atStart => exact ⟨0, by omega, rfl, Lib.hid (by omega), M⟩
  case round =>
    clear M
    obtain ⟨k, hk, rfl, HK, M⟩ := hrel
    by_cases hlt : k < ops.length
    · obtain ⟨g, so, rfl⟩ := S.addr (by omega)
      obtain ⟨⟨q, a, b⟩, hx⟩ : ∃ x, ops[k]? = some x := ⟨_, List.getElem?_eq_getElem hlt⟩
      obtain ⟨ha, hb⟩ := hm (q, a, b) (List.mem_of_getElem? hx)
      simp only at ha hb
      have HX := Lib.hid hx
      clear hx
      by_cases hq : q = 1 ∨ q = 2
      · have HQ := Lib.hid hq
        have HI : I8 q = 1 ∨ I8 q = 2 := by rcases hq with rfl | rfl; exact .inl rfl; exact .inr rfl
        have C := fun w => Cut11_c a w (by omega)
        obtain ⟨⟨c, d, ok⟩, en⟩ : ∃ R, R = cutL a := ⟨_, rfl⟩
        rw [← en] at C
        simp only at C
        replace C := Lib.hid C
        clear hq
        cases ok with
        | true =>
          have EN : Hid (cutE a = 0) := Lib.hid (by unfold cutE; rw [← en]; rfl)
          have V := fun w => value12_c q a b w hb
          have ho := op_val (f := cutE) (b := b) HQ.out EN.out
          obtain ⟨n, en⟩ : ∃ n, n = valE q b := ⟨_, rfl⟩
          rw [← en] at V ho
          have HO := Lib.hid ho
          replace V := Lib.hid V
          clear en ho
          rename_i en0
          clear en0
          by_cases hn : n = 0
          · subst hn
            rcases HI with HI | HI
            all_goals
              have V2 := V.out
              rw [HI] at V2
              replace V2 := Lib.hid V2
              go_wp2_with ((first | ((with_reducible refine tGuard ?_); (with_reducible refine w_stripE ?_ ?_); (focus (refine ⟨_, rfl, ?_⟩; first | (with_reducible rfl) | exact decide_eq_false (by omega) | exact decide_eq_true (by omega)))) | ((with_reducible refine tGuard ?_); first | ((with_reducible refine w_skip1 ?_ ?_); (focus (refine ⟨_, rfl, ?_⟩; first | (with_reducible rfl) | exact decide_eq_false (by omega) | exact decide_eq_true (by omega)))) | ((with_reducible refine w_skip0 ?_ ?_); (focus (refine ⟨_, rfl, ?_⟩; first | (with_reducible rfl) | exact decide_eq_false (by omega) | exact decide_eq_true (by omega))))) | ((with_reducible refine tLoad ?_); refine w_at _ _ rfl (by exact ev_tmp rfl) ?_; intro hx; first | (refine w_seeA M S HX.out _ _ rfl hx rfl (by decide +kernel) (by first | (with_reducible rfl) | omega) (by kernel_rfl) ?_; clear hx; (try conv => arg 5; simp only [Act.put, List.setIfInBounds_toArray, setC, opV_eq])) | (refine w_see M S HX.out _ _ rfl hx rfl (by decide +kernel) 0 (by first | (with_reducible rfl) | omega) rfl ?_; clear hx) | (refine w_see M S HX.out _ _ rfl hx rfl (by decide +kernel) 1 (by first | (with_reducible rfl) | omega) rfl ?_; clear hx) | (refine w_see M S HX.out _ _ rfl hx rfl (by decide +kernel) 2 (by first | (with_reducible rfl) | omega) rfl ?_; clear hx)) | (go_at_call 78; go_must (refine (C.out _).mono ?_; rintro e w1 ⟨rfl, hb⟩; replace M := M.call hb; clear hb)) | (go_at_call 79; go_must (refine (V2.out _).mono ?_; rintro e w1 ⟨rfl, hb⟩; replace M := M.call hb; clear hb)) | ((with_reducible refine tGuard ?_); refine w_strip rfl (by with_reducible rfl) ?_) | fail | ((with_reducible refine tLoad ?_); go_must (refine w_at _ _ rfl (by exact ev_tmp rfl) ?_; intro hx; (first | refine w_load M _ _ _ rfl (by first | exact at0) hx rfl (by decide +kernel) (by exact rfl) ?_ | refine w_loadR M _ _ _ rfl (by first | exact at0) hx rfl (by decide +kernel) (by kernel_rfl) ?_); clear hx)) | ((with_reducible refine tStore ?_); go_must (refine w_at2 _ _ _ rfl (by exact ev_tmp rfl) (by first | exact ev_tmp rfl | exact ev_const) ?_; intro hx hy; (first | refine w_store M _ _ _ _ rfl (by first | exact at0) hx rfl hy rfl rfl (by decide +kernel) (by first | decide | simp | (simp; omega)) ?_ | refine w_storeR M _ _ _ _ rfl (by first | exact at0) hx rfl _ hy rfl (by kernel_rfl) (by simp [Value.oneCell']) (by first | rfl | assumption) ?_); clear hx hy M; intro w1 M; (try simp only [setC] at M))) | ((with_reducible refine tBox _ ?_); (refine w_box M _ _ rfl rfl _ rfl _ rfl ?_; clear M; intro g w1 M))) <;> (try conv => arg 5; simp only [Act.put, List.setIfInBounds_toArray, setC]))
              go_roundw
              case rel => exact ⟨k + 1, by omega, by go_num, Lib.hid fun j y hj hy => by
                rcases Nat.lt_succ_iff_lt_or_eq.1 hj with hj | rfl
                · exact HK.out j y hj hy
                · have := HX.out; rw [hy] at this; cases this; exact HO.out, M⟩
              case measure => simp [intOf]; omega
          · have e : R = n := HB.out k _ _ HX.out HK.out HO.out hn
            subst e
            have hz : ((R : Int) == 0) = false := by simp; exact hn
            have hz' : ((R : Int) != 0) = true := by simp; exact hn
            clear hn
            rcases HI with HI | HI
            all_goals
              have V2 := V.out
              rw [HI] at V2
              replace V2 := Lib.hid V2
              go_wp2_with ((first | ((with_reducible refine tGuard ?_); (with_reducible refine w_stripE ?_ ?_); (focus (refine ⟨_, rfl, ?_⟩; first | (with_reducible rfl) | exact decide_eq_false (by omega) | exact decide_eq_true (by omega)))) | ((with_reducible refine tGuard ?_); first | ((with_reducible refine w_skip1 ?_ ?_); (focus (refine ⟨_, rfl, ?_⟩; first | (with_reducible rfl) | exact decide_eq_false (by omega) | exact decide_eq_true (by omega)))) | ((with_reducible refine w_skip0 ?_ ?_); (focus (refine ⟨_, rfl, ?_⟩; first | (with_reducible rfl) | exact decide_eq_false (by omega) | exact decide_eq_true (by omega))))) | ((with_reducible refine tLoad ?_); refine w_at _ _ rfl (by exact ev_tmp rfl) ?_; intro hx; first | (refine w_seeA M S HX.out _ _ rfl hx rfl (by decide +kernel) (by first | (with_reducible rfl) | omega) (by kernel_rfl) ?_; clear hx; (try conv => arg 5; simp only [Act.put, List.setIfInBounds_toArray, setC, opV_eq])) | (refine w_see M S HX.out _ _ rfl hx rfl (by decide +kernel) 0 (by first | (with_reducible rfl) | omega) rfl ?_; clear hx) | (refine w_see M S HX.out _ _ rfl hx rfl (by decide +kernel) 1 (by first | (with_reducible rfl) | omega) rfl ?_; clear hx) | (refine w_see M S HX.out _ _ rfl hx rfl (by decide +kernel) 2 (by first | (with_reducible rfl) | omega) rfl ?_; clear hx)) | (go_at_call 78; go_must (refine (C.out _).mono ?_; rintro e w1 ⟨rfl, hb⟩; replace M := M.call hb; clear hb)) | (go_at_call 79; go_must (refine (V2.out _).mono ?_; rintro e w1 ⟨rfl, hb⟩; replace M := M.call hb; clear hb)) | ((with_reducible refine tGuard ?_); refine w_strip rfl (by with_reducible rfl) ?_) | fail | ((with_reducible refine tLoad ?_); go_must (refine w_at _ _ rfl (by exact ev_tmp rfl) ?_; intro hx; (first | refine w_load M _ _ _ rfl (by first | exact at0) hx rfl (by decide +kernel) (by exact rfl) ?_ | refine w_loadR M _ _ _ rfl (by first | exact at0) hx rfl (by decide +kernel) (by kernel_rfl) ?_); clear hx)) | ((with_reducible refine tStore ?_); go_must (refine w_at2 _ _ _ rfl (by exact ev_tmp rfl) (by first | exact ev_tmp rfl | exact ev_const) ?_; intro hx hy; (first | refine w_store M _ _ _ _ rfl (by first | exact at0) hx rfl hy rfl rfl (by decide +kernel) (by first | decide | simp | (simp; omega)) ?_ | refine w_storeR M _ _ _ _ rfl (by first | exact at0) hx rfl _ hy rfl (by kernel_rfl) (by simp [Value.oneCell']) (by first | rfl | assumption) ?_); clear hx hy M; intro w1 M; (try simp only [setC] at M))) | ((with_reducible refine tBox _ ?_); (refine w_box M _ _ rfl rfl _ rfl _ rfl ?_; clear M; intro g w1 M))) <;> (try conv => arg 5; simp only [Act.put, List.setIfInBounds_toArray, setC]))
              go_ret
              exact ⟨rfl, M.below⟩
        | false =>
          have e : R = 20 := HB.out k _ _ HX.out HK.out ((op_path HQ.out (by simp only; unfold cutE; rw [← en]; simp)).trans (by simp only; unfold cutE; rw [← en]; rfl)) (by decide)
          subst e
          clear en
          rcases HI with HI | HI
          all_goals
            go_wp2_with ((first | ((with_reducible refine tGuard ?_); (with_reducible refine w_stripE ?_ ?_); (focus (refine ⟨_, rfl, ?_⟩; first | (with_reducible rfl) | exact decide_eq_false (by omega) | exact decide_eq_true (by omega)))) | ((with_reducible refine tGuard ?_); first | ((with_reducible refine w_skip1 ?_ ?_); (focus (refine ⟨_, rfl, ?_⟩; first | (with_reducible rfl) | exact decide_eq_false (by omega) | exact decide_eq_true (by omega)))) | ((with_reducible refine w_skip0 ?_ ?_); (focus (refine ⟨_, rfl, ?_⟩; first | (with_reducible rfl) | exact decide_eq_false (by omega) | exact decide_eq_true (by omega))))) | ((with_reducible refine tLoad ?_); refine w_at _ _ rfl (by exact ev_tmp rfl) ?_; intro hx; first | (refine w_seeA M S HX.out _ _ rfl hx rfl (by decide +kernel) (by first | (with_reducible rfl) | omega) (by kernel_rfl) ?_; clear hx; (try conv => arg 5; simp only [Act.put, List.setIfInBounds_toArray, setC, opV_eq])) | (refine w_see M S HX.out _ _ rfl hx rfl (by decide +kernel) 0 (by first | (with_reducible rfl) | omega) rfl ?_; clear hx) | (refine w_see M S HX.out _ _ rfl hx rfl (by decide +kernel) 1 (by first | (with_reducible rfl) | omega) rfl ?_; clear hx) | (refine w_see M S HX.out _ _ rfl hx rfl (by decide +kernel) 2 (by first | (with_reducible rfl) | omega) rfl ?_; clear hx)) | (go_at_call 78; go_must (refine (C.out _).mono ?_; rintro e w1 ⟨rfl, hb⟩; replace M := M.call hb; clear hb)) | ((with_reducible refine tGuard ?_); refine w_strip rfl (by with_reducible rfl) ?_) | fail | ((with_reducible refine tLoad ?_); go_must (refine w_at _ _ rfl (by exact ev_tmp rfl) ?_; intro hx; (first | refine w_load M _ _ _ rfl (by first | exact at0) hx rfl (by decide +kernel) (by exact rfl) ?_ | refine w_loadR M _ _ _ rfl (by first | exact at0) hx rfl (by decide +kernel) (by kernel_rfl) ?_); clear hx)) | ((with_reducible refine tStore ?_); go_must (refine w_at2 _ _ _ rfl (by exact ev_tmp rfl) (by first | exact ev_tmp rfl | exact ev_const) ?_; intro hx hy; (first | refine w_store M _ _ _ _ rfl (by first | exact at0) hx rfl hy rfl rfl (by decide +kernel) (by first | decide | simp | (simp; omega)) ?_ | refine w_storeR M _ _ _ _ rfl (by first | exact at0) hx rfl _ hy rfl (by kernel_rfl) (by simp [Value.oneCell']) (by first | rfl | assumption) ?_); clear hx hy M; intro w1 M; (try simp only [setC] at M))) | ((with_reducible refine tBox _ ?_); (refine w_box M _ _ rfl rfl _ rfl _ rfl ?_; clear M; intro g w1 M))) <;> (try conv => arg 5; simp only [Act.put, List.setIfInBounds_toArray, setC]))
            go_ret
            exact ⟨rfl, M.below⟩
      · have e : R = 10 := HB.out k _ _ HX.out HK.out (op_kind hq) (by decide)
        subst e
        obtain ⟨h1, h1'⟩ := I8_ne (q := q) (c := 1) (fun h => hq (.inl h))
        obtain ⟨h2, h2'⟩ := I8_ne (q := q) (c := 2) (fun h => hq (.inr h))
        rw [show I8 1 = 1 from rfl] at h1 h1'
        rw [show I8 2 = 2 from rfl] at h2 h2'
        clear hq
        go_wp2_with ((first | ((with_reducible refine tGuard ?_); (with_reducible refine w_stripE ?_ ?_); (focus (refine ⟨_, rfl, ?_⟩; first | (with_reducible rfl) | exact decide_eq_false (by omega) | exact decide_eq_true (by omega)))) | ((with_reducible refine tGuard ?_); first | ((with_reducible refine w_skip1 ?_ ?_); (focus (refine ⟨_, rfl, ?_⟩; first | (with_reducible rfl) | exact decide_eq_false (by omega) | exact decide_eq_true (by omega)))) | ((with_reducible refine w_skip0 ?_ ?_); (focus (refine ⟨_, rfl, ?_⟩; first | (with_reducible rfl) | exact decide_eq_false (by omega) | exact decide_eq_true (by omega))))) | ((with_reducible refine tLoad ?_); refine w_at _ _ rfl (by exact ev_tmp rfl) ?_; intro hx; first | (refine w_seeA M S HX.out _ _ rfl hx rfl (by decide +kernel) (by first | (with_reducible rfl) | omega) (by kernel_rfl) ?_; clear hx; (try conv => arg 5; simp only [Act.put, List.setIfInBounds_toArray, setC, opV_eq])) | (refine w_see M S HX.out _ _ rfl hx rfl (by decide +kernel) 0 (by first | (with_reducible rfl) | omega) rfl ?_; clear hx) | (refine w_see M S HX.out _ _ rfl hx rfl (by decide +kernel) 1 (by first | (with_reducible rfl) | omega) rfl ?_; clear hx) | (refine w_see M S HX.out _ _ rfl hx rfl (by decide +kernel) 2 (by first | (with_reducible rfl) | omega) rfl ?_; clear hx)) | ((with_reducible refine tGuard ?_); refine w_strip rfl (by with_reducible rfl) ?_) | fail | ((with_reducible refine tLoad ?_); go_must (refine w_at _ _ rfl (by exact ev_tmp rfl) ?_; intro hx; (first | refine w_load M _ _ _ rfl (by first | exact at0) hx rfl (by decide +kernel) (by exact rfl) ?_ | refine w_loadR M _ _ _ rfl (by first | exact at0) hx rfl (by decide +kernel) (by kernel_rfl) ?_); clear hx)) | ((with_reducible refine tStore ?_); go_must (refine w_at2 _ _ _ rfl (by exact ev_tmp rfl) (by first | exact ev_tmp rfl | exact ev_const) ?_; intro hx hy; (first | refine w_store M _ _ _ _ rfl (by first | exact at0) hx rfl hy rfl rfl (by decide +kernel) (by first | decide | simp | (simp; omega)) ?_ | refine w_storeR M _ _ _ _ rfl (by first | exact at0) hx rfl _ hy rfl (by kernel_rfl) (by simp [Value.oneCell']) (by first | rfl | assumption) ?_); clear hx hy M; intro w1 M; (try simp only [setC] at M))) | ((with_reducible refine tBox _ ?_); (refine w_box M _ _ rfl rfl _ rfl _ rfl ?_; clear M; intro g w1 M))) <;> (try conv => arg 5; simp only [Act.put, List.setIfInBounds_toArray, setC]))
        go_ret
        exact ⟨rfl, M.below⟩
    · obtain rfl : k = ops.length := by omega
      obtain rfl : R = 0 := HG.out fun j x hx => HK.out j x (List.getElem?_eq_some_iff.1 hx).1 hx
      go_wp2_with ((first | ((with_reducible refine tGuard ?_); refine w_strip rfl (by with_reducible rfl) ?_) | fail | ((with_reducible refine tLoad ?_); go_must (refine w_at _ _ rfl (by exact ev_tmp rfl) ?_; intro hx; (first | refine w_load M _ _ _ rfl (by first | exact at0) hx rfl (by decide +kernel) (by exact rfl) ?_ | refine w_loadR M _ _ _ rfl (by first | exact at0) hx rfl (by decide +kernel) (by kernel_rfl) ?_); clear hx)) | ((with_reducible refine tStore ?_); go_must (refine w_at2 _ _ _ rfl (by exact ev_tmp rfl) (by first | exact ev_tmp rfl | exact ev_const) ?_; intro hx hy; (first | refine w_store M _ _ _ _ rfl (by first | exact at0) hx rfl hy rfl rfl (by decide +kernel) (by first | decide | simp | (simp; omega)) ?_ | refine w_storeR M _ _ _ _ rfl (by first | exact at0) hx rfl _ hy rfl (by kernel_rfl) (by simp [Value.oneCell']) (by first | rfl | assumption) ?_); clear hx hy M; intro w1 M; (try simp only [setC] at M))) | ((with_reducible refine tBox _ ?_); (refine w_box M _ _ rfl rfl _ rfl _ rfl ?_; clear M; intro g w1 M))) <;> (try conv => arg 5; simp only [Act.put, List.setIfInBounds_toArray, setC]))
      go_ret
      exact ⟨rfl, M.below⟩
end Go.Proofs.Ytoaabclemeibhaa

/- The walk of the reference's Bytes. Conditions: lengths; the numbers are int's. -/
namespace Go.Proofs.Ytoaabclemeibhaa
open Go.RowKit Go.TL
set_option maxRecDepth 100000 in
set_option maxHeartbeats 8000000 in
theorem rBytes_c (i e : Int) (he : e ≤ 9223372036854775807) (ops : List Opr) (v : Value) (w : World) (S : SeesL w 3 opV v ops) (hl : ops.length ≤ 1000) (hm0 : ∀ x ∈ ops, x.2.1.length ≤ 100000000 ∧ x.2.2.length ≤ 100000000) :
    Calls Try.prog 37 #[.agg #[.int .i64 i, .int .i64 e, v]] w fun r w' => r = .returned (.tuple #[.string (mkS (bytesB i e ops).1), .int .i64 (bytesB i e ops).2]) ∧ Below w.heap.size w w' := by
  have M := Mem.start [] w
  have Y := fun w (S : SeesL w 3 opV v ops) => rRight_c i e ops v w S (by omega) (fun x hx => by have := hm0 x hx; omega)
  have BN := @bytesB_no i e ops
  have BO := @bytesB_ok i e ops
  have RO := @right_ok i e ops
  have hm : rightB i e ops = 0 → ∀ x ∈ ops, x.2.1.length ≤ 1000 ∧ x.2.2.length ≤ 1000 := fun h x hx => by
    obtain ⟨_, k2, k3, _⟩ := right_fit h x hx
    omega
  obtain ⟨A, eA⟩ : ∃ A, A = bytesB i e ops := ⟨_, rfl⟩
  obtain ⟨R, eR⟩ : ∃ R, R = rightB i e ops := ⟨_, rfl⟩
  rw [← eA, ← eR] at BN
  rw [← eA, ← eR] at BO
  rw [← eR] at RO Y hm
  rw [← eA]
  replace Y := Lib.hid Y
  clear eA eR
  obtain ⟨p, cap, rfl, hc⟩ := S.form
  by_cases hR : R = 0
  · subst hR
    obtain ⟨h1, h2, h3, h4, _⟩ := RO rfl
    have e0 := BO rfl
    replace hm := hm rfl
    clear BN BO RO
    obtain ⟨i, rfl⟩ : ∃ n : Nat, i = n := ⟨i.toNat, by omega⟩
    obtain ⟨e, rfl⟩ : ∃ n : Nat, e = n := ⟨e.toNat, by omega⟩
    rw [Int.toNat_natCast, Int.toNat_natCast] at e0
    unfold batB at e0
    subst e0
    have hni := numL_length_le i (by omega)
    have hne := numL_length_le e (by omega)
    have hnn := numL_length_le ops.length (by omega)
    have hz : (i : Int) ≤ 4611686018427387904 := by omega
    have hz' : (e : Int) ≤ 9223372036854775807 := by omega
    have hz2 : 0 ≤ (i : Int) := by omega
    have hz3 : 0 ≤ (e : Int) := by omega
    go_enter Try.func37, Try.ntmps37
    have hmB := fun k => opsB_len (l := ops.take k) (fun x hx => hm x (List.mem_of_mem_take hx))
    go_wp2_with ((first | ((with_reducible refine tBox (some 1) ?_); refine w_box M _ _ rfl rfl _ rfl ([.int .i64 i, .int .i64 e, .slice p ops.length cap]) rfl ?_; clear M; intro gb w1 M) | (go_at_call 61; go_must (refine (Y.out _ (S.now M)).mono ?_; rintro e w1 ⟨rfl, hb⟩; replace M := M.call hb; clear hb)) | ((with_reducible show Code.wp _ (Code.region 4 _ _) _ _ _); go_must (have MR := M; refine region_lowc [(0, false), (4, false), (9, false), (1, false), (2, false), (5, false), (6, false), (10, false), (11, false), (12, false), (3, true), (7, true), (8, false), (13, true), (14, false), (15, false)] [(13, .int), (17, .int), (23, .int), (15, .str), (19, .str), (20, .str), (25, .str)] [(1, _), (5, _), (10, _)] (IxOk MR [0]) 16 (by kernel_rfl) (by kernel_rfl) rfl (by kernel_rfl) (lows_cons (by first | exact stab_ix MR 0 0 rfl rfl (by decide) (by decide +kernel) rfl | exact stab_ixB MR 0 0 rfl rfl (by decide) (by decide +kernel) (by first | assumption | omega) | exact stab_ix32 MR 0 0 rfl rfl (by decide) (by decide +kernel) (by first | assumption | omega | (simp; omega)) | exact stab_ixH MR 0 rfl rfl (by decide) (by decide +kernel) (by first | assumption | exact lenI | exact lenS ‹_› | rfl) (by decide +kernel) | exact stab_ixW32 MR 0 rfl rfl (by decide) (by decide +kernel) (by first | assumption | exact lenI | exact lenS ‹_› | rfl) (by decide +kernel) | exact stab_ixR MR 0 rfl rfl (by decide) (by decide +kernel) (by kernel_rfl) | exact stab_ixW MR 0 rfl rfl (by decide) (by first | assumption | exact lenI | exact lenS ‹_› | rfl) (by decide) Try.underlying41 Try.underlying5 Try.underlying9 | exact stab_ixS MR 0 rfl rfl (by decide) (by first | rfl | simp | assumption) Try.underlying41 Try.underlying5 Try.underlying9) (lows_cons (by first | exact stab_ix MR 0 1 rfl rfl (by decide) (by decide +kernel) rfl | exact stab_ixB MR 0 1 rfl rfl (by decide) (by decide +kernel) (by first | assumption | omega) | exact stab_ix32 MR 0 1 rfl rfl (by decide) (by decide +kernel) (by first | assumption | omega | (simp; omega)) | exact stab_ixH MR 0 rfl rfl (by decide) (by decide +kernel) (by first | assumption | exact lenI | exact lenS ‹_› | rfl) (by decide +kernel) | exact stab_ixW32 MR 0 rfl rfl (by decide) (by decide +kernel) (by first | assumption | exact lenI | exact lenS ‹_› | rfl) (by decide +kernel) | exact stab_ixR MR 0 rfl rfl (by decide) (by decide +kernel) (by kernel_rfl) | exact stab_ixW MR 0 rfl rfl (by decide) (by first | assumption | exact lenI | exact lenS ‹_› | rfl) (by decide) Try.underlying41 Try.underlying5 Try.underlying9 | exact stab_ixS MR 0 rfl rfl (by decide) (by first | rfl | simp | assumption) Try.underlying41 Try.underlying5 Try.underlying9) (lows_cons (by first | exact stab_ix MR 0 2 rfl rfl (by decide) (by decide +kernel) rfl | exact stab_ixB MR 0 2 rfl rfl (by decide) (by decide +kernel) (by first | assumption | omega) | exact stab_ix32 MR 0 2 rfl rfl (by decide) (by decide +kernel) (by first | assumption | omega | (simp; omega)) | exact stab_ixH MR 0 rfl rfl (by decide) (by decide +kernel) (by first | assumption | exact lenI | exact lenS ‹_› | rfl) (by decide +kernel) | exact stab_ixW32 MR 0 rfl rfl (by decide) (by decide +kernel) (by first | assumption | exact lenI | exact lenS ‹_› | rfl) (by decide +kernel) | exact stab_ixR MR 0 rfl rfl (by decide) (by decide +kernel) (by kernel_rfl) | exact stab_ixW MR 0 rfl rfl (by decide) (by first | assumption | exact lenI | exact lenS ‹_› | rfl) (by decide) Try.underlying41 Try.underlying5 Try.underlying9 | exact stab_ixS MR 0 rfl rfl (by decide) (by first | rfl | simp | assumption) Try.underlying41 Try.underlying5 Try.underlying9) lows_nil))) (ixOk_self MR _) ?_; replace M := M.drew; simp only [planC, opAt, List.getElem?_toArray, List.getElem?_cons_zero, List.getElem?_cons_succ, Option.getD_some])) | (go_at_call 65; go_must ((first | (with_reducible refine (Num12_c i _ (I64_nat i (by omega)) _ (by omega)).mono ?_) | (with_reducible refine (Num12_c e _ (I64_nat e (by omega)) _ (by omega)).mono ?_) | (with_reducible refine (Num12_c ops.length _ (I64_nat ops.length (by omega)) _ (by omega)).mono ?_)); rintro e w1 ⟨rfl, hb⟩; replace M := M.call hb; clear hb)) | ((with_reducible show Seg _ _ _ _); go_must (first | refine Seg.intro ⟨fun h => absurd rfl h, ?_⟩ | refine Seg.intro ⟨fun _ => (by repeat' (first | exact ixOk_nil M.kept | refine ixOk_cons rfl (by first | exact M.ok 0 _ rfl | exact M.ok 1 _ rfl | exact M.ok 2 _ rfl) ?_)), ?_⟩ | refine Seg.intro ⟨(by repeat' (first | (with_reducible exact needs_nil) | refine needs_at rfl (by first | (show Shape.ok Shape.nums _ = true; exact nums_bs _) | rfl) ?_)), (by repeat' (first | (with_reducible exact ats_nil) | refine ats_cons (by first | exact ev_tmp rfl | rfl) ?_)), ?_⟩)) | ((with_reducible show OnlyN _ _ _ _ _); refine OnlyN.intro (by kernel_rfl) ?_) | ((with_reducible refine tGuard ?_); refine w_strip rfl (by with_reducible rfl) ?_) | ((with_reducible refine tConv _ 41 9 ?_); go_must (first | refine w_stringW M _ _ _ _ _ rfl rfl (by first | exact at0) rfl (by first | assumption | exact lenI | exact lenS ‹_› | rfl) (by decide) Try.underlying41 Try.underlying5 Try.underlying9 ?_ | refine w_string M _ _ _ _ _ rfl rfl (by first | exact at0) (by first | rfl | (simp; done) | assumption) rfl Try.underlying41 Try.underlying5 Try.underlying9 ?_)) | ((with_reducible refine tLoad ?_); go_must (refine w_at _ _ rfl (by exact ev_tmp rfl) ?_; intro hx; (first | refine w_load M _ _ _ rfl (by first | exact at0) hx rfl (by decide +kernel) (by exact rfl) ?_ | refine w_loadB M _ _ _ rfl (by first | exact at0) hx rfl (by decide +kernel) (by first | assumption | omega | (simp; omega)) ?_ | refine w_loadH M _ _ _ rfl (by first | exact at0) hx rfl (by decide +kernel) (by first | assumption | exact lenI | exact lenS ‹_› | rfl) (by decide +kernel) ?_ | refine w_loadR M _ _ _ rfl (by first | exact at0) hx rfl (by decide +kernel) (by kernel_rfl) ?_); clear hx)) | ((with_reducible refine tStore ?_); go_must (refine w_at2 _ _ _ rfl (by exact ev_tmp rfl) (by first | exact ev_tmp rfl | exact ev_const) ?_; intro hx hy; (first | refine w_storeB M _ _ _ _ rfl (by first | exact at0) hx rfl hy (by decide +kernel) (by first | assumption | omega | (simp; omega)) ?_ | refine w_storeH M _ _ _ _ rfl (by first | exact at0) hx rfl hy (by first | assumption | exact lenI | exact lenS ‹_› | rfl) (by decide +kernel) (by first | assumption | exact lenI | exact lenS ‹_› | rfl) ?_ | refine w_store M _ _ _ _ rfl (by first | exact at0) hx rfl hy rfl rfl (by decide +kernel) (by first | decide | simp | (simp; omega)) ?_ | refine w_storeR M _ _ _ _ rfl (by first | exact at0) hx rfl _ hy rfl (by kernel_rfl) (by simp [Value.oneCell']) (by first | rfl | assumption) ?_); clear hx hy M; intro w1 M; (try simp only [setC] at M))) | ((with_reducible refine tBox _ ?_); (refine w_box M _ _ rfl rfl _ rfl _ rfl ?_; clear M; intro g w1 M))) <;> (try conv => arg 5; simp only [Act.put, List.setIfInBounds_toArray, setC]))
    go_loopw [5, 6] (fun sv iv wr => ∃ (k : Nat), k ≤ ops.length ∧ iv = .int .i64 k ∧ sv = .string (mkS (numL i ++ (numL e ++ (numL ops.length ++ (ops.take k).flatMap opB)))) ∧ Mem [] w wr [.row gb [.int .i64 i, .int .i64 e, .slice p ops.length cap]]) (fun _ iv _ => ops.length - (intOf iv).toNat)
    case atStart => exact ⟨0, by omega, rfl, by simp, M⟩
    case round =>
      clear M
      obtain ⟨k, hk, rfl, rfl, M⟩ := hrel
      have hB := hmB k
      have hk2 : (ops.take k).length ≤ k := List.length_take_le _ _
      by_cases hlt : k < ops.length
      · obtain ⟨g, so, rfl⟩ := S.addr (by omega)
        obtain ⟨⟨q, a, b⟩, hx⟩ : ∃ x, ops[k]? = some x := ⟨_, List.getElem?_eq_getElem hlt⟩
        obtain ⟨ha, hb⟩ := hm (q, a, b) (List.mem_of_getElem? hx)
        simp only at ha hb
        have HT := Lib.hid (flatO_take hx)
        obtain ⟨d, ed⟩ : ∃ d, d = numL i ++ (numL e ++ (numL ops.length ++ (ops.take k).flatMap opB)) := ⟨_, rfl⟩
        have hd : d.length ≤ 3000000 := by rw [ed]; simp only [List.length_append]; omega
        rw [← ed]
        have ED := Lib.hid ed
        have HX := Lib.hid hx
        have hta : (textL a).length ≤ 1010 := by unfold textL; have := numL_length_le a.length (by omega); simp; omega
        have htb : (textL b).length ≤ 1010 := by unfold textL; have := numL_length_le b.length (by omega); simp; omega
        clear hx ed hmB hB
        by_cases hq : q = 1
        · have HQ := Lib.hid hq
          have hq1 : (I8 q == 1) = true := by rw [hq]; rfl
          clear hq
          go_wp2_with ((first | ((with_reducible refine tLoad ?_); refine w_at _ _ rfl (by exact ev_tmp rfl) ?_; intro hx; first | (refine w_seeA M S HX.out _ _ rfl hx rfl (by decide +kernel) (by first | (with_reducible rfl) | omega) (by kernel_rfl) ?_; clear hx) | (refine w_see M S HX.out _ _ rfl hx rfl (by decide +kernel) 0 (by first | (with_reducible rfl) | omega) rfl ?_; clear hx) | (refine w_see M S HX.out _ _ rfl hx rfl (by decide +kernel) 1 (by first | (with_reducible rfl) | omega) rfl ?_; clear hx) | (refine w_see M S HX.out _ _ rfl hx rfl (by decide +kernel) 2 (by first | (with_reducible rfl) | omega) rfl ?_; clear hx)) | (go_at_call 66; go_must (refine (Text12_c _ _ (by omega)).mono ?_; rintro e w1 ⟨rfl, hb⟩; replace M := M.call hb; clear hb)) | ((with_reducible show wpList _ _ _ (Oper.mk _ (Op.buildSlice 41 1 _) _ _ _ _ :: _) _ _); go_must (refine w_buildSliceB M bytesT _ rfl rfl (by first | exact ev_tmp rfl | exact ev_const) ?_; clear M; intro g w1 M)) | ((with_reducible show Code.wp _ (Code.region 8 _ _) _ _ _); go_must (have MR := M; refine region_fork (.rd 0 (.rd 1 (.rd 3 (.rd 10 (.rd 12 (.rd 2 (.rd 4 (.rd 5 (.rd 6 (.rd 11 (.rd 13 (.rd 14 (.rd 15 (.alt 7 (.alt 8 (.rd 9 (.wr 16 (.rd 17 (.rd 18 .nil)))) (.wr 16 (.wr 8 (.rd 9 (.rd 17 (.rd 18 .nil)))))) (.wr 16 (.wr 7 (.wr 8 (.rd 9 (.rd 17 (.rd 18 .nil)))))))))))))))))))) [(34, .str), (42, .str), (43, .str), (50, .str)] [(2, _), (6, _), (11, _), (15, _)] (IxOk MR [0]) 19 (by kernel_rfl) (by kernel_rfl) rfl (by kernel_rfl) (lows_cons (by first | exact stab_ix MR 0 2 rfl rfl (by decide) (by decide +kernel) rfl | exact stab_ixB MR 0 2 rfl rfl (by decide) (by decide +kernel) (by first | assumption | omega) | exact stab_ix32 MR 0 2 rfl rfl (by decide) (by decide +kernel) (by first | assumption | omega | (simp; omega)) | exact stab_ixH MR 0 rfl rfl (by decide) (by decide +kernel) (by first | assumption | exact lenI | exact lenS ‹_› | rfl) (by decide +kernel) | exact stab_ixW32 MR 0 rfl rfl (by decide) (by decide +kernel) (by first | assumption | exact lenI | exact lenS ‹_› | rfl) (by decide +kernel) | exact stab_ixR MR 0 rfl rfl (by decide) (by decide +kernel) (by kernel_rfl) | exact stab_ixW MR 0 rfl rfl (by decide) (by first | assumption | exact lenI | exact lenS ‹_› | rfl) (by decide) Try.underlying41 Try.underlying5 Try.underlying9 | exact stab_ixS MR 0 rfl rfl (by decide) (by first | rfl | simp | assumption) Try.underlying41 Try.underlying5 Try.underlying9) (lows_cons (stab_see MR S HX.out 0 rfl (by decide +kernel) rfl) (lows_cons (by first | exact stab_ix MR 0 2 rfl rfl (by decide) (by decide +kernel) rfl | exact stab_ixB MR 0 2 rfl rfl (by decide) (by decide +kernel) (by first | assumption | omega) | exact stab_ix32 MR 0 2 rfl rfl (by decide) (by decide +kernel) (by first | assumption | omega | (simp; omega)) | exact stab_ixH MR 0 rfl rfl (by decide) (by decide +kernel) (by first | assumption | exact lenI | exact lenS ‹_› | rfl) (by decide +kernel) | exact stab_ixW32 MR 0 rfl rfl (by decide) (by decide +kernel) (by first | assumption | exact lenI | exact lenS ‹_› | rfl) (by decide +kernel) | exact stab_ixR MR 0 rfl rfl (by decide) (by decide +kernel) (by kernel_rfl) | exact stab_ixW MR 0 rfl rfl (by decide) (by first | assumption | exact lenI | exact lenS ‹_› | rfl) (by decide) Try.underlying41 Try.underlying5 Try.underlying9 | exact stab_ixS MR 0 rfl rfl (by decide) (by first | rfl | simp | assumption) Try.underlying41 Try.underlying5 Try.underlying9) (lows_cons (stab_see MR S HX.out 1 rfl (by decide +kernel) rfl) lows_nil)))) (ixOk_self MR _) ?_; replace M := M.drew; simp only [planT, opAt, List.getElem?_toArray, List.getElem?_cons_zero, List.getElem?_cons_succ, Option.getD_some])) | (with_reducible refine Seg.alt ?_ ?_) | ((with_reducible show Seg _ _ _ _); go_must (first | refine Seg.intro ⟨fun h => absurd rfl h, ?_⟩ | refine Seg.intro ⟨fun _ => (by repeat' (first | exact ixOk_nil M.kept | refine ixOk_cons rfl (by first | exact M.ok 0 _ rfl | exact M.ok 1 _ rfl | exact M.ok 2 _ rfl | exact M.ok 3 _ rfl) ?_)), ?_⟩ | refine Seg.intro ⟨(by repeat' (first | (with_reducible exact needs_nil) | refine needs_at rfl (by first | (show Shape.ok Shape.nums _ = true; exact nums_bs _) | rfl) ?_)), (by repeat' (first | (with_reducible exact ats_nil) | refine ats_cons (by first | exact ev_tmp rfl | rfl) ?_)), ?_⟩)) | ((with_reducible show OnlyN _ _ _ _ _); refine OnlyN.intro (by kernel_rfl) ?_) | ((with_reducible refine tGuard ?_); refine w_strip rfl (by with_reducible rfl) ?_) | ((with_reducible refine tConv _ 41 9 ?_); go_must (first | refine w_stringW M _ _ _ _ _ rfl rfl (by first | exact at0 | exact at1) rfl (by first | assumption | exact lenI | exact lenS ‹_› | rfl) (by decide) Try.underlying41 Try.underlying5 Try.underlying9 ?_ | refine w_string M _ _ _ _ _ rfl rfl (by first | exact at0 | exact at1) (by first | rfl | (simp; done) | assumption) rfl Try.underlying41 Try.underlying5 Try.underlying9 ?_)) | ((with_reducible refine tLoad ?_); go_must (refine w_at _ _ rfl (by exact ev_tmp rfl) ?_; intro hx; (first | refine w_load M _ _ _ rfl (by first | exact at0 | exact at1) hx rfl (by decide +kernel) (by exact rfl) ?_ | refine w_loadB M _ _ _ rfl (by first | exact at0 | exact at1) hx rfl (by decide +kernel) (by first | assumption | omega | (simp; omega)) ?_ | refine w_loadH M _ _ _ rfl (by first | exact at0 | exact at1) hx rfl (by decide +kernel) (by first | assumption | exact lenI | exact lenS ‹_› | rfl) (by decide +kernel) ?_ | refine w_loadR M _ _ _ rfl (by first | exact at0 | exact at1) hx rfl (by decide +kernel) (by kernel_rfl) ?_); clear hx)) | ((with_reducible refine tStore ?_); go_must (refine w_at2 _ _ _ rfl (by exact ev_tmp rfl) (by first | exact ev_tmp rfl | exact ev_const) ?_; intro hx hy; (first | refine w_storeB M _ _ _ _ rfl (by first | exact at0 | exact at1) hx rfl hy (by decide +kernel) (by first | assumption | omega | (simp; omega)) ?_ | refine w_storeH M _ _ _ _ rfl (by first | exact at0 | exact at1) hx rfl hy (by first | assumption | exact lenI | exact lenS ‹_› | rfl) (by decide +kernel) (by first | assumption | exact lenI | exact lenS ‹_› | rfl) ?_ | refine w_store M _ _ _ _ rfl (by first | exact at0 | exact at1) hx rfl hy rfl rfl (by decide +kernel) (by first | decide | simp | (simp; omega)) ?_ | refine w_storeR M _ _ _ _ rfl (by first | exact at0 | exact at1) hx rfl _ hy rfl (by kernel_rfl) (by simp [Value.oneCell']) (by first | rfl | assumption) ?_); clear hx hy M; intro w1 M; (try simp only [setC] at M))) | ((with_reducible refine tBox _ ?_); (refine w_box M _ _ rfl rfl _ rfl _ rfl ?_; clear M; intro g w1 M))) <;> (try conv => arg 5; simp only [Act.put, List.setIfInBounds_toArray, setC]))
          all_goals
            go_roundw
            case rel => exact ⟨k + 1, by omega, by go_num, by
              rw [HT.out, opB_put HQ.out]
              have e9 : numL i ++ (numL e ++ (numL ops.length ++ ((ops.take k).flatMap opB ++ ([q] ++ textL a ++ textL b)))) = d ++ [q] ++ textL a ++ textL b := by rw [ED.out]; simp only [List.append_assoc]
              rw [e9]; simp only [List.append_assoc, List.cons_append, List.nil_append], M.tail⟩
            case measure => simp [intOf]; omega
        · have HQ := Lib.hid hq
          obtain ⟨hq1, hq2⟩ := I8_ne (q := q) (c := 1) hq
          rw [show I8 1 = 1 from rfl] at hq1 hq2
          clear hq
          go_wp2_with ((first | ((with_reducible refine tLoad ?_); refine w_at _ _ rfl (by exact ev_tmp rfl) ?_; intro hx; first | (refine w_seeA M S HX.out _ _ rfl hx rfl (by decide +kernel) (by first | (with_reducible rfl) | omega) (by kernel_rfl) ?_; clear hx) | (refine w_see M S HX.out _ _ rfl hx rfl (by decide +kernel) 0 (by first | (with_reducible rfl) | omega) rfl ?_; clear hx) | (refine w_see M S HX.out _ _ rfl hx rfl (by decide +kernel) 1 (by first | (with_reducible rfl) | omega) rfl ?_; clear hx) | (refine w_see M S HX.out _ _ rfl hx rfl (by decide +kernel) 2 (by first | (with_reducible rfl) | omega) rfl ?_; clear hx)) | (go_at_call 66; go_must (refine (Text12_c _ _ (by omega)).mono ?_; rintro e w1 ⟨rfl, hb⟩; replace M := M.call hb; clear hb)) | ((with_reducible show wpList _ _ _ (Oper.mk _ (Op.buildSlice 41 1 _) _ _ _ _ :: _) _ _); go_must (refine w_buildSliceB M bytesT _ rfl rfl (by first | exact ev_tmp rfl | exact ev_const) ?_; clear M; intro g w1 M)) | ((with_reducible show Code.wp _ (Code.region 8 _ _) _ _ _); go_must (have MR := M; refine region_fork (.rd 0 (.rd 1 (.rd 3 (.rd 10 (.rd 12 (.rd 2 (.rd 4 (.rd 5 (.rd 6 (.rd 11 (.rd 13 (.rd 14 (.rd 15 (.alt 7 (.alt 8 (.rd 9 (.wr 16 (.rd 17 (.rd 18 .nil)))) (.wr 16 (.wr 8 (.rd 9 (.rd 17 (.rd 18 .nil)))))) (.wr 16 (.wr 7 (.wr 8 (.rd 9 (.rd 17 (.rd 18 .nil)))))))))))))))))))) [(34, .str), (42, .str), (43, .str), (50, .str)] [(2, _), (6, _), (11, _), (15, _)] (IxOk MR [0]) 19 (by kernel_rfl) (by kernel_rfl) rfl (by kernel_rfl) (lows_cons (by first | exact stab_ix MR 0 2 rfl rfl (by decide) (by decide +kernel) rfl | exact stab_ixB MR 0 2 rfl rfl (by decide) (by decide +kernel) (by first | assumption | omega) | exact stab_ix32 MR 0 2 rfl rfl (by decide) (by decide +kernel) (by first | assumption | omega | (simp; omega)) | exact stab_ixH MR 0 rfl rfl (by decide) (by decide +kernel) (by first | assumption | exact lenI | exact lenS ‹_› | rfl) (by decide +kernel) | exact stab_ixW32 MR 0 rfl rfl (by decide) (by decide +kernel) (by first | assumption | exact lenI | exact lenS ‹_› | rfl) (by decide +kernel) | exact stab_ixR MR 0 rfl rfl (by decide) (by decide +kernel) (by kernel_rfl) | exact stab_ixW MR 0 rfl rfl (by decide) (by first | assumption | exact lenI | exact lenS ‹_› | rfl) (by decide) Try.underlying41 Try.underlying5 Try.underlying9 | exact stab_ixS MR 0 rfl rfl (by decide) (by first | rfl | simp | assumption) Try.underlying41 Try.underlying5 Try.underlying9) (lows_cons (stab_see MR S HX.out 0 rfl (by decide +kernel) rfl) (lows_cons (by first | exact stab_ix MR 0 2 rfl rfl (by decide) (by decide +kernel) rfl | exact stab_ixB MR 0 2 rfl rfl (by decide) (by decide +kernel) (by first | assumption | omega) | exact stab_ix32 MR 0 2 rfl rfl (by decide) (by decide +kernel) (by first | assumption | omega | (simp; omega)) | exact stab_ixH MR 0 rfl rfl (by decide) (by decide +kernel) (by first | assumption | exact lenI | exact lenS ‹_› | rfl) (by decide +kernel) | exact stab_ixW32 MR 0 rfl rfl (by decide) (by decide +kernel) (by first | assumption | exact lenI | exact lenS ‹_› | rfl) (by decide +kernel) | exact stab_ixR MR 0 rfl rfl (by decide) (by decide +kernel) (by kernel_rfl) | exact stab_ixW MR 0 rfl rfl (by decide) (by first | assumption | exact lenI | exact lenS ‹_› | rfl) (by decide) Try.underlying41 Try.underlying5 Try.underlying9 | exact stab_ixS MR 0 rfl rfl (by decide) (by first | rfl | simp | assumption) Try.underlying41 Try.underlying5 Try.underlying9) (lows_cons (stab_see MR S HX.out 1 rfl (by decide +kernel) rfl) lows_nil)))) (ixOk_self MR _) ?_; replace M := M.drew; simp only [planT, opAt, List.getElem?_toArray, List.getElem?_cons_zero, List.getElem?_cons_succ, Option.getD_some])) | (with_reducible refine Seg.alt ?_ ?_) | ((with_reducible show Seg _ _ _ _); go_must (first | refine Seg.intro ⟨fun h => absurd rfl h, ?_⟩ | refine Seg.intro ⟨fun _ => (by repeat' (first | exact ixOk_nil M.kept | refine ixOk_cons rfl (by first | exact M.ok 0 _ rfl | exact M.ok 1 _ rfl | exact M.ok 2 _ rfl | exact M.ok 3 _ rfl) ?_)), ?_⟩ | refine Seg.intro ⟨(by repeat' (first | (with_reducible exact needs_nil) | refine needs_at rfl (by first | (show Shape.ok Shape.nums _ = true; exact nums_bs _) | rfl) ?_)), (by repeat' (first | (with_reducible exact ats_nil) | refine ats_cons (by first | exact ev_tmp rfl | rfl) ?_)), ?_⟩)) | ((with_reducible show OnlyN _ _ _ _ _); refine OnlyN.intro (by kernel_rfl) ?_) | ((with_reducible refine tGuard ?_); refine w_strip rfl (by with_reducible rfl) ?_) | ((with_reducible refine tConv _ 41 9 ?_); go_must (first | refine w_stringW M _ _ _ _ _ rfl rfl (by first | exact at0 | exact at1) rfl (by first | assumption | exact lenI | exact lenS ‹_› | rfl) (by decide) Try.underlying41 Try.underlying5 Try.underlying9 ?_ | refine w_string M _ _ _ _ _ rfl rfl (by first | exact at0 | exact at1) (by first | rfl | (simp; done) | assumption) rfl Try.underlying41 Try.underlying5 Try.underlying9 ?_)) | ((with_reducible refine tLoad ?_); go_must (refine w_at _ _ rfl (by exact ev_tmp rfl) ?_; intro hx; (first | refine w_load M _ _ _ rfl (by first | exact at0 | exact at1) hx rfl (by decide +kernel) (by exact rfl) ?_ | refine w_loadB M _ _ _ rfl (by first | exact at0 | exact at1) hx rfl (by decide +kernel) (by first | assumption | omega | (simp; omega)) ?_ | refine w_loadH M _ _ _ rfl (by first | exact at0 | exact at1) hx rfl (by decide +kernel) (by first | assumption | exact lenI | exact lenS ‹_› | rfl) (by decide +kernel) ?_ | refine w_loadR M _ _ _ rfl (by first | exact at0 | exact at1) hx rfl (by decide +kernel) (by kernel_rfl) ?_); clear hx)) | ((with_reducible refine tStore ?_); go_must (refine w_at2 _ _ _ rfl (by exact ev_tmp rfl) (by first | exact ev_tmp rfl | exact ev_const) ?_; intro hx hy; (first | refine w_storeB M _ _ _ _ rfl (by first | exact at0 | exact at1) hx rfl hy (by decide +kernel) (by first | assumption | omega | (simp; omega)) ?_ | refine w_storeH M _ _ _ _ rfl (by first | exact at0 | exact at1) hx rfl hy (by first | assumption | exact lenI | exact lenS ‹_› | rfl) (by decide +kernel) (by first | assumption | exact lenI | exact lenS ‹_› | rfl) ?_ | refine w_store M _ _ _ _ rfl (by first | exact at0 | exact at1) hx rfl hy rfl rfl (by decide +kernel) (by first | decide | simp | (simp; omega)) ?_ | refine w_storeR M _ _ _ _ rfl (by first | exact at0 | exact at1) hx rfl _ hy rfl (by kernel_rfl) (by simp [Value.oneCell']) (by first | rfl | assumption) ?_); clear hx hy M; intro w1 M; (try simp only [setC] at M))) | ((with_reducible refine tBox _ ?_); (refine w_box M _ _ rfl rfl _ rfl _ rfl ?_; clear M; intro g w1 M))) <;> (try conv => arg 5; simp only [Act.put, List.setIfInBounds_toArray, setC]))
          all_goals
            go_roundw
            case rel => exact ⟨k + 1, by omega, by go_num, by
              rw [HT.out, opB_del HQ.out]
              have e9 : numL i ++ (numL e ++ (numL ops.length ++ ((ops.take k).flatMap opB ++ ([q] ++ textL a)))) = d ++ [q] ++ textL a := by rw [ED.out]; simp only [List.append_assoc]
              rw [e9]; simp only [List.append_assoc, List.cons_append, List.nil_append], M.tail⟩
            case measure => simp [intOf]; omega
      · obtain rfl : k = ops.length := by omega
        rw [List.take_length]
        go_wp2_with ((first | ((with_reducible refine tGuard ?_); refine w_strip rfl (by with_reducible rfl) ?_) | ((with_reducible refine tConv _ 41 9 ?_); go_must (first | refine w_stringW M _ _ _ _ _ rfl rfl (by first | exact at0) rfl (by first | assumption | exact lenI | exact lenS ‹_› | rfl) (by decide) Try.underlying41 Try.underlying5 Try.underlying9 ?_ | refine w_string M _ _ _ _ _ rfl rfl (by first | exact at0) (by first | rfl | (simp; done) | assumption) rfl Try.underlying41 Try.underlying5 Try.underlying9 ?_)) | ((with_reducible refine tLoad ?_); go_must (refine w_at _ _ rfl (by exact ev_tmp rfl) ?_; intro hx; (first | refine w_load M _ _ _ rfl (by first | exact at0) hx rfl (by decide +kernel) (by exact rfl) ?_ | refine w_loadB M _ _ _ rfl (by first | exact at0) hx rfl (by decide +kernel) (by first | assumption | omega | (simp; omega)) ?_ | refine w_loadH M _ _ _ rfl (by first | exact at0) hx rfl (by decide +kernel) (by first | assumption | exact lenI | exact lenS ‹_› | rfl) (by decide +kernel) ?_ | refine w_loadR M _ _ _ rfl (by first | exact at0) hx rfl (by decide +kernel) (by kernel_rfl) ?_); clear hx)) | ((with_reducible refine tStore ?_); go_must (refine w_at2 _ _ _ rfl (by exact ev_tmp rfl) (by first | exact ev_tmp rfl | exact ev_const) ?_; intro hx hy; (first | refine w_storeB M _ _ _ _ rfl (by first | exact at0) hx rfl hy (by decide +kernel) (by first | assumption | omega | (simp; omega)) ?_ | refine w_storeH M _ _ _ _ rfl (by first | exact at0) hx rfl hy (by first | assumption | exact lenI | exact lenS ‹_› | rfl) (by decide +kernel) (by first | assumption | exact lenI | exact lenS ‹_› | rfl) ?_ | refine w_store M _ _ _ _ rfl (by first | exact at0) hx rfl hy rfl rfl (by decide +kernel) (by first | decide | simp | (simp; omega)) ?_ | refine w_storeR M _ _ _ _ rfl (by first | exact at0) hx rfl _ hy rfl (by kernel_rfl) (by simp [Value.oneCell']) (by first | rfl | assumption) ?_); clear hx hy M; intro w1 M; (try simp only [setC] at M))) | ((with_reducible refine tBox _ ?_); (refine w_box M _ _ rfl rfl _ rfl _ rfl ?_; clear M; intro g w1 M))) <;> (try conv => arg 5; simp only [Act.put, List.setIfInBounds_toArray, setC]))
        go_ret2
        exact ⟨rfl, M.below⟩
  · have e0 := BN hR
    subst e0
    clear BN BO RO
    have hz : ((R : Int) == 0) = false := by simp; exact hR
    have hz' : ((R : Int) != 0) = true := by simp; exact hR
    clear hR
    go_enter Try.func37, Try.ntmps37
    go_wp2_with ((first | ((with_reducible refine tBox (some 1) ?_); refine w_box M _ _ rfl rfl _ rfl ([.int .i64 i, .int .i64 e, .slice p ops.length cap]) rfl ?_; clear M; intro gb w1 M) | (go_at_call 61; go_must (refine (Y.out _ (S.now M)).mono ?_; rintro e w1 ⟨rfl, hb⟩; replace M := M.call hb; clear hb)) | ((with_reducible refine tGuard ?_); refine w_strip rfl (by with_reducible rfl) ?_) | ((with_reducible refine tConv _ 41 9 ?_); go_must (first | refine w_stringW M _ _ _ _ _ rfl rfl (by first | exact at0) rfl (by first | assumption | exact lenI | exact lenS ‹_› | rfl) (by decide) Try.underlying41 Try.underlying5 Try.underlying9 ?_ | refine w_string M _ _ _ _ _ rfl rfl (by first | exact at0) (by first | rfl | (simp; done) | assumption) rfl Try.underlying41 Try.underlying5 Try.underlying9 ?_)) | ((with_reducible refine tLoad ?_); go_must (refine w_at _ _ rfl (by exact ev_tmp rfl) ?_; intro hx; (first | refine w_load M _ _ _ rfl (by first | exact at0) hx rfl (by decide +kernel) (by exact rfl) ?_ | refine w_loadB M _ _ _ rfl (by first | exact at0) hx rfl (by decide +kernel) (by first | assumption | omega | (simp; omega)) ?_ | refine w_loadH M _ _ _ rfl (by first | exact at0) hx rfl (by decide +kernel) (by first | assumption | exact lenI | exact lenS ‹_› | rfl) (by decide +kernel) ?_ | refine w_loadR M _ _ _ rfl (by first | exact at0) hx rfl (by decide +kernel) (by kernel_rfl) ?_); clear hx)) | ((with_reducible refine tStore ?_); go_must (refine w_at2 _ _ _ rfl (by exact ev_tmp rfl) (by first | exact ev_tmp rfl | exact ev_const) ?_; intro hx hy; (first | refine w_storeB M _ _ _ _ rfl (by first | exact at0) hx rfl hy (by decide +kernel) (by first | assumption | omega | (simp; omega)) ?_ | refine w_storeH M _ _ _ _ rfl (by first | exact at0) hx rfl hy (by first | assumption | exact lenI | exact lenS ‹_› | rfl) (by decide +kernel) (by first | assumption | exact lenI | exact lenS ‹_› | rfl) ?_ | refine w_store M _ _ _ _ rfl (by first | exact at0) hx rfl hy rfl rfl (by decide +kernel) (by first | decide | simp | (simp; omega)) ?_ | refine w_storeR M _ _ _ _ rfl (by first | exact at0) hx rfl _ hy rfl (by kernel_rfl) (by simp [Value.oneCell']) (by first | rfl | assumption) ?_); clear hx hy M; intro w1 M; (try simp only [setC] at M))) | ((with_reducible refine tBox _ ?_); (refine w_box M _ _ rfl rfl _ rfl _ rfl ?_; clear M; intro g w1 M))) <;> (try conv => arg 5; simp only [Act.put, List.setIfInBounds_toArray, setC]))
    go_ret2
    exact ⟨rfl, M.below⟩
end Go.Proofs.Ytoaabclemeibhaa

/- The walk of layer 18's reference's Right. Conditions: lengths; the numbers are int's. -/
namespace Go
namespace TL
theorem right_no {L : Lm} (hL : L.fit) (hr : L.rng) (hk : isK L.k = true) (h : ¬ (okL L = true ∧ onlyL L = L)) : (bytesM L).2 = 1 := by
  rw [bytesM_eq hL hr, if_pos hk, if_neg h]
theorem right_yes {L : Lm} (hL : L.fit) (hr : L.rng) (hk : isK L.k = true) (h : onlyL L = L) (hv : L.v ≤ 4) (hi : L.i ≤ 15) (h0 : ∀ q : Mf, 0 ≤ q.gl L) (hn : L.prs.length ≤ 48) (hp : L.prs.all okP = true) (hb : L.k = 2 → (bytesB L.bi L.be L.ops).2 = 0 ∧ (bytesB L.bi L.be L.ops).1.length ≤ 512) : (bytesM L).2 = 0 := by
  have ho : okL L = true := by
    refine List.all_eq_true.2 fun f hf => ?_
    cases f with
    | num q =>
      simp only [Fld.ok, decide_eq_true_eq]
      have h1 := h0 q
      have h2 := (hr.num q).2
      refine ⟨h1, ?_⟩
      cases q
      case v => exact hv
      case i => exact hi
      all_goals exact h2
    | hash q => rfl
    | bat =>
      have hk2 : L.k = 2 := by
        rcases kinds hk with e | e | e | e | e | e | e
        case inr.inl => exact e
        all_goals (rw [e] at hf; exfalso; simp [fdsL] at hf)
      obtain ⟨b1, b2⟩ := hb hk2
      simp only [Fld.ok, Bool.and_eq_true, beq_iff_eq, decide_eq_true_eq]
      exact ⟨b1, b2⟩
    | prs =>
      simp only [Fld.ok, Bool.and_eq_true, decide_eq_true_eq]
      exact ⟨hn, hp⟩
  rw [bytesM_eq hL hr, if_pos hk, if_pos ⟨ho, h⟩]
end TL
end Go
namespace Go.Proofs.Ytoaabclemeibhaa
open Go.RowKit Go.TL
set_option maxRecDepth 100000 in
set_option maxHeartbeats 32000000 in
theorem Right18_none (L : Lm) (ov pv : Value) (w : World) (hL : L.fit) (hr : L.rng) (S : SeesL w 3 opV ov L.ops) (T : SeesL w 2 prV pv L.prs) (hk : isK L.k = false) : Calls Try.prog 20 #[.agg (msgC (L.ms ov pv)).toArray] w fun r w' => r = .returned (.int .i64 (bytesM L).2) ∧ Below w.heap.size w w' := by
  have M := Mem.start [] w
  obtain ⟨op, oc, rfl, _⟩ := S.form
  obtain ⟨pp, pc, rfl, _⟩ := T.form
  have X := msg_cells (Lm.ms_fit hL (ov := .slice op L.ops.length oc) (pv := .slice pp L.prs.length pc) rfl rfl)
  simp only [Lm.ms] at X
  have kne : ∀ j : UInt8, isK L.k = false → isK j = true → L.k ≠ j := fun j h1 h2 e => by rw [e, h2] at h1; cases h1
  have R10 : isK L.k = false → (bytesM L).2 = 10 := fun h => by rw [bytesM_kind h]
  have hkb : isK L.k = true ↔ 1 ≤ L.k.toNat ∧ L.k.toNat ≤ 7 := by unfold isK; exact decide_eq_true_iff
  have e0 := R10 hk
  rw [e0]
  obtain ⟨C, eC⟩ : ∃ C, C = msgC (L.ms (.slice op L.ops.length oc) (.slice pp L.prs.length pc)) := ⟨_, rfl⟩
  rw [← eC]
  have Nk : C[0]? = some (.int .u8 (I8 L.k)) := by rw [eC]; exact X.k
  replace Nk := Lib.hid Nk
  have hno : ¬ (1 ≤ L.k.toNat ∧ L.k.toNat ≤ 7) := fun h => by rw [hkb.2 h] at hk; cases hk
  clear eC X R10 hkb e0 kne hk
  obtain ⟨k, ek⟩ : ∃ k, k = L.k := ⟨_, rfl⟩
  rw [← ek] at Nk hno
  clear ek
  have hI : (I8 k : Int) = (k.toNat : Int) := I8_eq k
  obtain ⟨z, ez⟩ : ∃ z, z = I8 k := ⟨_, rfl⟩
  rw [← ez] at Nk hI
  clear ez
  by_cases h1 : z < 1
  · clear hI hno
    go_enter Try.func20, Try.ntmps20
    go_wp2_with ((first | ((with_reducible refine tGuard ?_); (with_reducible refine w_stripE ?_ ?_); (focus (refine ⟨_, rfl, ?_⟩; first | (with_reducible rfl) | exact decide_eq_false (by omega) | exact decide_eq_true (by omega)))) | ((with_reducible refine tGuard ?_); first | ((with_reducible refine w_skip1 ?_ ?_); (focus (refine ⟨_, rfl, ?_⟩; first | (with_reducible rfl) | exact decide_eq_false (by omega) | exact decide_eq_true (by omega)))) | ((with_reducible refine w_skip0 ?_ ?_); (focus (refine ⟨_, rfl, ?_⟩; first | (with_reducible rfl) | exact decide_eq_false (by omega) | exact decide_eq_true (by omega))))) | ((with_reducible refine tBox (some 1) ?_); refine w_box M _ _ rfl rfl _ rfl (C) rfl ?_; clear M; intro gm w1 M) | ((with_reducible refine tLoad ?_); go_must (refine w_at _ _ rfl (by exact ev_tmp rfl) ?_; intro hx; refine w_load M 0 _ _ rfl rfl hx rfl (by decide +kernel) Nk.out ?_; clear hx)) | ((with_reducible refine tGuard ?_); refine w_strip rfl (by with_reducible rfl) ?_) | fail | ((with_reducible refine tLoad ?_); go_must (refine w_at _ _ rfl (by exact ev_tmp rfl) ?_; intro hx; (first | refine w_load M _ _ _ rfl rfl hx rfl (by decide +kernel) (by exact rfl) ?_ | refine w_loadR M _ _ _ rfl rfl hx rfl (by decide +kernel) (by kernel_rfl) ?_); clear hx)) | ((with_reducible refine tStore ?_); go_must (refine w_at2 _ _ _ rfl (by exact ev_tmp rfl) (by first | exact ev_tmp rfl | exact ev_const) ?_; intro hx hy; (first | refine w_store M _ _ _ _ rfl rfl hx rfl hy rfl rfl (by decide +kernel) (by first | decide | simp | (simp; omega)) ?_ | refine w_storeR M _ _ _ _ rfl rfl hx rfl _ hy rfl (by kernel_rfl) (by simp [Value.oneCell']) (by first | rfl | assumption) ?_); clear hx hy M; intro w1 M; (try simp only [setC] at M))) | ((with_reducible refine tBox _ ?_); (refine w_box M _ _ rfl rfl _ rfl _ rfl ?_; clear M; intro g w1 M))) <;> (try conv => arg 5; simp only [Act.put, List.setIfInBounds_toArray, setC]))
    go_ret
    exact ⟨rfl, M.below⟩
  · have h7 : 7 < z := by omega
    clear hI hno
    go_enter Try.func20, Try.ntmps20
    go_wp2_with ((first | ((with_reducible refine tGuard ?_); (with_reducible refine w_stripE ?_ ?_); (focus (refine ⟨_, rfl, ?_⟩; first | (with_reducible rfl) | exact decide_eq_false (by omega) | exact decide_eq_true (by omega)))) | ((with_reducible refine tGuard ?_); first | ((with_reducible refine w_skip1 ?_ ?_); (focus (refine ⟨_, rfl, ?_⟩; first | (with_reducible rfl) | exact decide_eq_false (by omega) | exact decide_eq_true (by omega)))) | ((with_reducible refine w_skip0 ?_ ?_); (focus (refine ⟨_, rfl, ?_⟩; first | (with_reducible rfl) | exact decide_eq_false (by omega) | exact decide_eq_true (by omega))))) | ((with_reducible refine tBox (some 1) ?_); refine w_box M _ _ rfl rfl _ rfl (C) rfl ?_; clear M; intro gm w1 M) | ((with_reducible refine tLoad ?_); go_must (refine w_at _ _ rfl (by exact ev_tmp rfl) ?_; intro hx; refine w_load M 0 _ _ rfl rfl hx rfl (by decide +kernel) Nk.out ?_; clear hx)) | ((with_reducible refine tGuard ?_); refine w_strip rfl (by with_reducible rfl) ?_) | fail | ((with_reducible refine tLoad ?_); go_must (refine w_at _ _ rfl (by exact ev_tmp rfl) ?_; intro hx; (first | refine w_load M _ _ _ rfl rfl hx rfl (by decide +kernel) (by exact rfl) ?_ | refine w_loadR M _ _ _ rfl rfl hx rfl (by decide +kernel) (by kernel_rfl) ?_); clear hx)) | ((with_reducible refine tStore ?_); go_must (refine w_at2 _ _ _ rfl (by exact ev_tmp rfl) (by first | exact ev_tmp rfl | exact ev_const) ?_; intro hx hy; (first | refine w_store M _ _ _ _ rfl rfl hx rfl hy rfl rfl (by decide +kernel) (by first | decide | simp | (simp; omega)) ?_ | refine w_storeR M _ _ _ _ rfl rfl hx rfl _ hy rfl (by kernel_rfl) (by simp [Value.oneCell']) (by first | rfl | assumption) ?_); clear hx hy M; intro w1 M; (try simp only [setC] at M))) | ((with_reducible refine tBox _ ?_); (refine w_box M _ _ rfl rfl _ rfl _ rfl ?_; clear M; intro g w1 M))) <;> (try conv => arg 5; simp only [Act.put, List.setIfInBounds_toArray, setC]))
    go_ret
    exact ⟨rfl, M.below⟩
set_option maxRecDepth 100000 in
set_option maxHeartbeats 32000000 in
theorem Right18_fail1 (L : Lm) (ov pv : Value) (w : World) (hL : L.fit) (hr : L.rng) (S : SeesL w 3 opV ov L.ops) (T : SeesL w 2 prV pv L.prs) (hk : isK L.k = true) (h : (¬ L = onlyL L) ∨ (L = onlyL L ∧ ¬ 0 ≤ L.e) ∨ (L = onlyL L ∧ 0 ≤ L.e ∧ ¬ 0 ≤ L.a) ∨ (L = onlyL L ∧ 0 ≤ L.e ∧ 0 ≤ L.a ∧ ¬ 0 ≤ L.o) ∨ (L = onlyL L ∧ 0 ≤ L.e ∧ 0 ≤ L.a ∧ 0 ≤ L.o ∧ ¬ 0 ≤ L.p)) : Calls Try.prog 20 #[.agg (msgC (L.ms ov pv)).toArray] w fun r w' => r = .returned (.int .i64 (bytesM L).2) ∧ Below w.heap.size w w' := by
  have M := Mem.start [] w
  obtain ⟨op, oc, rfl, _⟩ := S.form
  obtain ⟨pp, pc, rfl, _⟩ := T.form
  have X := msg_cells (Lm.ms_fit hL (ov := .slice op L.ops.length oc) (pv := .slice pp L.prs.length pc) rfl rfl)
  simp only [Lm.ms] at X
  have kne : ∀ j : UInt8, isK L.k = false → isK j = true → L.k ≠ j := fun j h1 h2 e => by rw [e, h2] at h1; cases h1
  have R10 : isK L.k = false → (bytesM L).2 = 10 := fun h => by rw [bytesM_kind h]
  have hkb : isK L.k = true ↔ 1 ≤ L.k.toNat ∧ L.k.toNat ≤ 7 := by unfold isK; exact decide_eq_true_iff
  obtain ⟨hk1, hk7⟩ := hkb.1 hk
  clear hkb R10 kne
  have OC := fun w S T => Only18_c L (.slice op L.ops.length oc) (.slice pp L.prs.length pc) w hL hk S T
  have hfo := onlyL_fit hL
  have SC := fun w ov' pv' S T S' T' => rSame18_c L (onlyL L) (.slice op L.ops.length oc) (.slice pp L.prs.length pc) ov' pv' w hL hfo S T S' T' (by have := hr.o1; omega) (by have := hr.p1; omega) (by have := (onlyL_lens hr).1; omega) (by have := (onlyL_lens hr).2; omega)
  have YC := fun w S => rBytes_c L.bi L.be hr.be L.ops (.slice op L.ops.length oc) w S hr.o1 (fun x hx => by have := hr.o2 x hx; omega)
  have RN := right_no hL hr hk
  have RY := right_yes hL hr hk
  have NOK := @num_ok L
  have POK := @prs_ok L
  have BOK := @bat_ok L
  have hp2 := hr.p2
  have hp1 := hr.p1
  obtain ⟨R, eR⟩ : ∃ R, R = (bytesM L).2 := ⟨_, rfl⟩
  rw [← eR] at RN RY ⊢
  clear eR hL
  obtain ⟨C, eC⟩ : ∃ C, C = msgC (L.ms (.slice op L.ops.length oc) (.slice pp L.prs.length pc)) := ⟨_, rfl⟩
  have eC' : C = msgC ⟨L.k, L.e, L.a, L.o, L.bi, L.be, .slice op L.ops.length oc, L.p, L.r, L.v, L.i, L.lf, L.rt, .slice pp L.prs.length pc⟩ := eC
  rw [← eC'] at X
  rw [← eC] at OC SC ⊢
  clear eC eC'
  obtain ⟨Nk, Ne, Na, No, Np, Nv, Ni, Npv, ⟨_, _, b1⟩, _, _, _, HLEN, _⟩ := X
  replace Nk := Lib.hid Nk
  replace Ne := Lib.hid Ne
  replace Na := Lib.hid Na
  replace No := Lib.hid No
  replace Np := Lib.hid Np
  replace Nv := Lib.hid Nv
  replace Ni := Lib.hid Ni
  replace Npv := Lib.hid Npv
  have B := Lib.hid b1
  replace HLEN := Lib.hid HLEN
  clear b1
  replace OC := Lib.hid OC
  rcases h with hs | ⟨hs, ce⟩ | ⟨hs, ce, ca⟩ | ⟨hs, ce, ca, co⟩ | ⟨hs, ce, ca, co, cp⟩
  all_goals
    have e0 : R = 1 := RN (fun h => by
      have ne := NOK h.2 h.1 .e
      have na := NOK h.2 h.1 .a
      have no := NOK h.2 h.1 .o
      have np := NOK h.2 h.1 .p
      have nv := NOK h.2 h.1 .v
      have ni := NOK h.2 h.1 .i
      have nk := (POK h.2 h.1).1
      simp only [Mf.gl, Mf.most] at ne na no np nv ni
      first | exact absurd h.2.symm hs | omega)
    subst e0
    first | rw [decide_eq_true hs] at SC | rw [decide_eq_false hs] at SC
    replace SC := Lib.hid SC
    clear hs RN NOK POK
    obtain ⟨⟨b, eb⟩, eY⟩ : ∃ Y, Y = bytesB L.bi L.be L.ops := ⟨_, rfl⟩
    rw [← eY] at YC BOK RY
    simp only at YC BOK RY
    clear eY
    replace YC := Lib.hid YC
    replace BOK := Lib.hid BOK
    replace RY := Lib.hid RY
    have hg1 : ¬ I8 L.k < 1 := by rw [I8_eq]; omega
    have hg2 : ¬ 7 < I8 L.k := by rw [I8_eq]; omega
    clear hk1 hk7
    cases hk2 : (I8 L.k == 2)
    all_goals
      go_enter Try.func20, Try.ntmps20
      go_wp2_with ((first | ((with_reducible refine tGuard ?_); (with_reducible refine w_stripE ?_ ?_); (focus (refine ⟨_, rfl, ?_⟩; first | (with_reducible rfl) | exact decide_eq_false (by omega) | exact decide_eq_true (by omega)))) | ((with_reducible refine tGuard ?_); first | ((with_reducible refine w_skip1 ?_ ?_); (focus (refine ⟨_, rfl, ?_⟩; first | (with_reducible rfl) | exact decide_eq_false (by omega) | exact decide_eq_true (by omega)))) | ((with_reducible refine w_skip0 ?_ ?_); (focus (refine ⟨_, rfl, ?_⟩; first | (with_reducible rfl) | exact decide_eq_false (by omega) | exact decide_eq_true (by omega))))) | ((with_reducible refine tBox (some 1) ?_); refine w_box M _ _ rfl rfl _ rfl (C) rfl ?_; clear M; intro gm w1 M) | (go_at_call 19; go_must (refine (OC.out _ (S.now M) (T.now M)).mono ?_; rintro e w1 ⟨ov', pv', rfl, hb, S1, T1⟩; replace M := M.call hb; clear hb)) | (go_at_call 13; go_must (refine (SC.out _ ov' pv' (S.now M) (T.now M) (S1 _ (S.now M)) (T1 _ (T.now M))).mono ?_; rintro e w1 ⟨rfl, hb⟩; replace M := M.call hb; clear hb)) | (go_at_call 37; go_must (refine (YC.out _ (S.now M)).mono ?_; rintro e w1 ⟨rfl, hb⟩; replace M := M.call hb; clear hb)) | ((with_reducible show Code.wp _ (Code.region 3 _ _) _ _ _); go_must (have MR := M; refine region_lowc [(0, false), (1, true), (2, true), (3, true), (4, true), (5, true), (6, true), (7, true), (8, true), (9, true), (10, true), (11, true), (12, true), (13, true), (14, true), (15, true), (16, true), (17, true), (18, true), (19, true), (20, true), (21, true), (22, true), (23, true), (24, true), (25, true), (26, true), (27, true), (28, true), (29, true), (30, true), (31, true), (32, true), (33, true), (34, true), (35, true), (36, true), (37, true), (38, true), (39, true), (40, true), (41, true), (42, true), (43, true), (44, true), (45, true), (46, true), (47, true), (48, true), (49, true), (50, true)] [] [(0, _)] (IxOk MR [0]) 50 (by kernel_rfl) (by kernel_rfl) rfl (by kernel_rfl) (lows_cons (stab_ixR MR 0 rfl rfl (by decide) (by decide +kernel) (by rw [HLEN.out]; kernel_rfl)) lows_nil) (ixOk_self MR _) ?_; replace M := M.drew; simp only [planC, opAt, List.getElem?_toArray, List.getElem?_cons_zero, List.getElem?_cons_succ, Option.getD_some])) | ((with_reducible refine tLoad ?_); go_must (refine w_at _ _ rfl (by exact ev_tmp rfl) ?_; intro hx; (first | refine w_load M 0 _ _ rfl rfl hx rfl (by decide +kernel) (by with_reducible first | exact Nk.out | exact Ne.out | exact Na.out | exact No.out | exact Np.out | exact Nv.out | exact Ni.out | exact Npv.out) ?_ | refine w_loadA M 0 _ _ rfl rfl hx rfl (by decide +kernel) _ _ _ B.out.1 B.out.2 (by kernel_rfl) ?_ | refine w_loadR M 0 _ _ rfl rfl hx rfl (by decide +kernel) (by rw [HLEN.out]; kernel_rfl) ?_); clear hx)) | ((with_reducible show Seg _ _ _ _); go_must (first | refine Seg.intro ⟨fun h => absurd rfl h, ?_⟩ | refine Seg.intro ⟨fun _ => (by repeat' (first | exact ixOk_nil M.kept | refine ixOk_cons rfl (by first | exact M.ok 0 _ rfl | exact M.ok 1 _ rfl) ?_)), ?_⟩ | refine Seg.intro ⟨(by repeat' (first | (with_reducible exact needs_nil) | refine needs_at rfl (by first | (show Shape.ok Shape.nums _ = true; exact nums_bs _) | rfl) ?_)), (by repeat' (first | (with_reducible exact ats_nil) | refine ats_cons (by first | exact ev_tmp rfl | rfl) ?_)), ?_⟩)) | ((with_reducible show OnlyN _ _ _ _ _); refine OnlyN.intro (by kernel_rfl) ?_) | ((with_reducible refine tGuard ?_); refine w_strip rfl (by with_reducible rfl) ?_) | fail | ((with_reducible refine tLoad ?_); go_must (refine w_at _ _ rfl (by exact ev_tmp rfl) ?_; intro hx; (first | refine w_load M _ _ _ rfl rfl hx rfl (by decide +kernel) (by exact rfl) ?_ | refine w_loadR M _ _ _ rfl rfl hx rfl (by decide +kernel) (by kernel_rfl) ?_); clear hx)) | ((with_reducible refine tStore ?_); go_must (refine w_at2 _ _ _ rfl (by exact ev_tmp rfl) (by first | exact ev_tmp rfl | exact ev_const) ?_; intro hx hy; (first | refine w_store M _ _ _ _ rfl rfl hx rfl hy rfl rfl (by decide +kernel) (by first | decide | simp | (simp; omega)) ?_ | refine w_storeR M _ _ _ _ rfl rfl hx rfl _ hy rfl (by kernel_rfl) (by simp [Value.oneCell']) (by first | rfl | assumption) ?_); clear hx hy M; intro w1 M; (try simp only [setC] at M))) | ((with_reducible refine tBox _ ?_); (refine w_box M _ _ rfl rfl _ rfl _ rfl ?_; clear M; intro g w1 M))) <;> (try conv => arg 5; simp only [Act.put, List.setIfInBounds_toArray, setC]))
      go_loopw [3, 6] (fun bv iv wr => bv = .bool false ∧ Mem [] w wr [.row gm C]) (fun _ _ _ => 0)
      case atStart => exact ⟨by first | rfl | (rw [decide_eq_false (by omega)]), M⟩
      case round =>
        clear M
        obtain ⟨rfl, M⟩ := hrel
        go_wp2_with ((first | ((with_reducible refine tGuard ?_); (with_reducible refine w_stripE ?_ ?_); (focus (refine ⟨_, rfl, ?_⟩; first | (with_reducible rfl) | exact decide_eq_false (by omega) | exact decide_eq_true (by omega)))) | ((with_reducible refine tGuard ?_); first | ((with_reducible refine w_skip1 ?_ ?_); (focus (refine ⟨_, rfl, ?_⟩; first | (with_reducible rfl) | exact decide_eq_false (by omega) | exact decide_eq_true (by omega)))) | ((with_reducible refine w_skip0 ?_ ?_); (focus (refine ⟨_, rfl, ?_⟩; first | (with_reducible rfl) | exact decide_eq_false (by omega) | exact decide_eq_true (by omega))))) | ((with_reducible refine tGuard ?_); refine w_strip rfl (by with_reducible rfl) ?_) | fail | ((with_reducible refine tLoad ?_); go_must (refine w_at _ _ rfl (by exact ev_tmp rfl) ?_; intro hx; (first | refine w_load M _ _ _ rfl rfl hx rfl (by decide +kernel) (by exact rfl) ?_ | refine w_loadR M _ _ _ rfl rfl hx rfl (by decide +kernel) (by kernel_rfl) ?_); clear hx)) | ((with_reducible refine tStore ?_); go_must (refine w_at2 _ _ _ rfl (by exact ev_tmp rfl) (by first | exact ev_tmp rfl | exact ev_const) ?_; intro hx hy; (first | refine w_store M _ _ _ _ rfl rfl hx rfl hy rfl rfl (by decide +kernel) (by first | decide | simp | (simp; omega)) ?_ | refine w_storeR M _ _ _ _ rfl rfl hx rfl _ hy rfl (by kernel_rfl) (by simp [Value.oneCell']) (by first | rfl | assumption) ?_); clear hx hy M; intro w1 M; (try simp only [setC] at M))) | ((with_reducible refine tBox _ ?_); (refine w_box M _ _ rfl rfl _ rfl _ rfl ?_; clear M; intro g w1 M))) <;> (try conv => arg 5; simp only [Act.put, List.setIfInBounds_toArray, setC]))
        go_ret
        exact ⟨rfl, M.below⟩
set_option maxRecDepth 100000 in
set_option maxHeartbeats 32000000 in
theorem Right18_fail2 (L : Lm) (ov pv : Value) (w : World) (hL : L.fit) (hr : L.rng) (S : SeesL w 3 opV ov L.ops) (T : SeesL w 2 prV pv L.prs) (hk : isK L.k = true) (h : (L = onlyL L ∧ 0 ≤ L.e ∧ 0 ≤ L.a ∧ 0 ≤ L.o ∧ 0 ≤ L.p ∧ ¬ 0 ≤ L.v) ∨ (L = onlyL L ∧ 0 ≤ L.e ∧ 0 ≤ L.a ∧ 0 ≤ L.o ∧ 0 ≤ L.p ∧ 0 ≤ L.v ∧ ¬ L.v ≤ 4) ∨ (L = onlyL L ∧ 0 ≤ L.e ∧ 0 ≤ L.a ∧ 0 ≤ L.o ∧ 0 ≤ L.p ∧ 0 ≤ L.v ∧ L.v ≤ 4 ∧ ¬ 0 ≤ L.i) ∨ (L = onlyL L ∧ 0 ≤ L.e ∧ 0 ≤ L.a ∧ 0 ≤ L.o ∧ 0 ≤ L.p ∧ 0 ≤ L.v ∧ L.v ≤ 4 ∧ 0 ≤ L.i ∧ ¬ L.i ≤ 15) ∨ (L = onlyL L ∧ 0 ≤ L.e ∧ 0 ≤ L.a ∧ 0 ≤ L.o ∧ 0 ≤ L.p ∧ 0 ≤ L.v ∧ L.v ≤ 4 ∧ 0 ≤ L.i ∧ L.i ≤ 15 ∧ ¬ L.prs.length ≤ 48)) : Calls Try.prog 20 #[.agg (msgC (L.ms ov pv)).toArray] w fun r w' => r = .returned (.int .i64 (bytesM L).2) ∧ Below w.heap.size w w' := by
  have M := Mem.start [] w
  obtain ⟨op, oc, rfl, _⟩ := S.form
  obtain ⟨pp, pc, rfl, _⟩ := T.form
  have X := msg_cells (Lm.ms_fit hL (ov := .slice op L.ops.length oc) (pv := .slice pp L.prs.length pc) rfl rfl)
  simp only [Lm.ms] at X
  have kne : ∀ j : UInt8, isK L.k = false → isK j = true → L.k ≠ j := fun j h1 h2 e => by rw [e, h2] at h1; cases h1
  have R10 : isK L.k = false → (bytesM L).2 = 10 := fun h => by rw [bytesM_kind h]
  have hkb : isK L.k = true ↔ 1 ≤ L.k.toNat ∧ L.k.toNat ≤ 7 := by unfold isK; exact decide_eq_true_iff
  obtain ⟨hk1, hk7⟩ := hkb.1 hk
  clear hkb R10 kne
  have OC := fun w S T => Only18_c L (.slice op L.ops.length oc) (.slice pp L.prs.length pc) w hL hk S T
  have hfo := onlyL_fit hL
  have SC := fun w ov' pv' S T S' T' => rSame18_c L (onlyL L) (.slice op L.ops.length oc) (.slice pp L.prs.length pc) ov' pv' w hL hfo S T S' T' (by have := hr.o1; omega) (by have := hr.p1; omega) (by have := (onlyL_lens hr).1; omega) (by have := (onlyL_lens hr).2; omega)
  have YC := fun w S => rBytes_c L.bi L.be hr.be L.ops (.slice op L.ops.length oc) w S hr.o1 (fun x hx => by have := hr.o2 x hx; omega)
  have RN := right_no hL hr hk
  have RY := right_yes hL hr hk
  have NOK := @num_ok L
  have POK := @prs_ok L
  have BOK := @bat_ok L
  have hp2 := hr.p2
  have hp1 := hr.p1
  obtain ⟨R, eR⟩ : ∃ R, R = (bytesM L).2 := ⟨_, rfl⟩
  rw [← eR] at RN RY ⊢
  clear eR hL
  obtain ⟨C, eC⟩ : ∃ C, C = msgC (L.ms (.slice op L.ops.length oc) (.slice pp L.prs.length pc)) := ⟨_, rfl⟩
  have eC' : C = msgC ⟨L.k, L.e, L.a, L.o, L.bi, L.be, .slice op L.ops.length oc, L.p, L.r, L.v, L.i, L.lf, L.rt, .slice pp L.prs.length pc⟩ := eC
  rw [← eC'] at X
  rw [← eC] at OC SC ⊢
  clear eC eC'
  obtain ⟨Nk, Ne, Na, No, Np, Nv, Ni, Npv, ⟨_, _, b1⟩, _, _, _, HLEN, _⟩ := X
  replace Nk := Lib.hid Nk
  replace Ne := Lib.hid Ne
  replace Na := Lib.hid Na
  replace No := Lib.hid No
  replace Np := Lib.hid Np
  replace Nv := Lib.hid Nv
  replace Ni := Lib.hid Ni
  replace Npv := Lib.hid Npv
  have B := Lib.hid b1
  replace HLEN := Lib.hid HLEN
  clear b1
  replace OC := Lib.hid OC
  rcases h with ⟨hs, ce, ca, co, cp, cv⟩ | ⟨hs, ce, ca, co, cp, cv, cv4⟩ | ⟨hs, ce, ca, co, cp, cv, cv4, ci⟩ | ⟨hs, ce, ca, co, cp, cv, cv4, ci, ci15⟩ | ⟨hs, ce, ca, co, cp, cv, cv4, ci, ci15, cn⟩
  all_goals
    have e0 : R = 1 := RN (fun h => by
      have ne := NOK h.2 h.1 .e
      have na := NOK h.2 h.1 .a
      have no := NOK h.2 h.1 .o
      have np := NOK h.2 h.1 .p
      have nv := NOK h.2 h.1 .v
      have ni := NOK h.2 h.1 .i
      have nk := (POK h.2 h.1).1
      simp only [Mf.gl, Mf.most] at ne na no np nv ni
      first | exact absurd h.2.symm hs | omega)
    subst e0
    first | rw [decide_eq_true hs] at SC | rw [decide_eq_false hs] at SC
    replace SC := Lib.hid SC
    clear hs RN NOK POK
    obtain ⟨⟨b, eb⟩, eY⟩ : ∃ Y, Y = bytesB L.bi L.be L.ops := ⟨_, rfl⟩
    rw [← eY] at YC BOK RY
    simp only at YC BOK RY
    clear eY
    replace YC := Lib.hid YC
    replace BOK := Lib.hid BOK
    replace RY := Lib.hid RY
    have hg1 : ¬ I8 L.k < 1 := by rw [I8_eq]; omega
    have hg2 : ¬ 7 < I8 L.k := by rw [I8_eq]; omega
    clear hk1 hk7
    cases hk2 : (I8 L.k == 2)
    all_goals
      go_enter Try.func20, Try.ntmps20
      go_wp2_with ((first | ((with_reducible refine tGuard ?_); (with_reducible refine w_stripE ?_ ?_); (focus (refine ⟨_, rfl, ?_⟩; first | (with_reducible rfl) | exact decide_eq_false (by omega) | exact decide_eq_true (by omega)))) | ((with_reducible refine tGuard ?_); first | ((with_reducible refine w_skip1 ?_ ?_); (focus (refine ⟨_, rfl, ?_⟩; first | (with_reducible rfl) | exact decide_eq_false (by omega) | exact decide_eq_true (by omega)))) | ((with_reducible refine w_skip0 ?_ ?_); (focus (refine ⟨_, rfl, ?_⟩; first | (with_reducible rfl) | exact decide_eq_false (by omega) | exact decide_eq_true (by omega))))) | ((with_reducible refine tBox (some 1) ?_); refine w_box M _ _ rfl rfl _ rfl (C) rfl ?_; clear M; intro gm w1 M) | (go_at_call 19; go_must (refine (OC.out _ (S.now M) (T.now M)).mono ?_; rintro e w1 ⟨ov', pv', rfl, hb, S1, T1⟩; replace M := M.call hb; clear hb)) | (go_at_call 13; go_must (refine (SC.out _ ov' pv' (S.now M) (T.now M) (S1 _ (S.now M)) (T1 _ (T.now M))).mono ?_; rintro e w1 ⟨rfl, hb⟩; replace M := M.call hb; clear hb)) | (go_at_call 37; go_must (refine (YC.out _ (S.now M)).mono ?_; rintro e w1 ⟨rfl, hb⟩; replace M := M.call hb; clear hb)) | ((with_reducible show Code.wp _ (Code.region 3 _ _) _ _ _); go_must (have MR := M; refine region_lowc [(0, false), (1, true), (2, true), (3, true), (4, true), (5, true), (6, true), (7, true), (8, true), (9, true), (10, true), (11, true), (12, true), (13, true), (14, true), (15, true), (16, true), (17, true), (18, true), (19, true), (20, true), (21, true), (22, true), (23, true), (24, true), (25, true), (26, true), (27, true), (28, true), (29, true), (30, true), (31, true), (32, true), (33, true), (34, true), (35, true), (36, true), (37, true), (38, true), (39, true), (40, true), (41, true), (42, true), (43, true), (44, true), (45, true), (46, true), (47, true), (48, true), (49, true), (50, true)] [] [(0, _)] (IxOk MR [0]) 50 (by kernel_rfl) (by kernel_rfl) rfl (by kernel_rfl) (lows_cons (stab_ixR MR 0 rfl rfl (by decide) (by decide +kernel) (by rw [HLEN.out]; kernel_rfl)) lows_nil) (ixOk_self MR _) ?_; replace M := M.drew; simp only [planC, opAt, List.getElem?_toArray, List.getElem?_cons_zero, List.getElem?_cons_succ, Option.getD_some])) | ((with_reducible refine tLoad ?_); go_must (refine w_at _ _ rfl (by exact ev_tmp rfl) ?_; intro hx; (first | refine w_load M 0 _ _ rfl rfl hx rfl (by decide +kernel) (by with_reducible first | exact Nk.out | exact Ne.out | exact Na.out | exact No.out | exact Np.out | exact Nv.out | exact Ni.out | exact Npv.out) ?_ | refine w_loadA M 0 _ _ rfl rfl hx rfl (by decide +kernel) _ _ _ B.out.1 B.out.2 (by kernel_rfl) ?_ | refine w_loadR M 0 _ _ rfl rfl hx rfl (by decide +kernel) (by rw [HLEN.out]; kernel_rfl) ?_); clear hx)) | ((with_reducible show Seg _ _ _ _); go_must (first | refine Seg.intro ⟨fun h => absurd rfl h, ?_⟩ | refine Seg.intro ⟨fun _ => (by repeat' (first | exact ixOk_nil M.kept | refine ixOk_cons rfl (by first | exact M.ok 0 _ rfl | exact M.ok 1 _ rfl) ?_)), ?_⟩ | refine Seg.intro ⟨(by repeat' (first | (with_reducible exact needs_nil) | refine needs_at rfl (by first | (show Shape.ok Shape.nums _ = true; exact nums_bs _) | rfl) ?_)), (by repeat' (first | (with_reducible exact ats_nil) | refine ats_cons (by first | exact ev_tmp rfl | rfl) ?_)), ?_⟩)) | ((with_reducible show OnlyN _ _ _ _ _); refine OnlyN.intro (by kernel_rfl) ?_) | ((with_reducible refine tGuard ?_); refine w_strip rfl (by with_reducible rfl) ?_) | fail | ((with_reducible refine tLoad ?_); go_must (refine w_at _ _ rfl (by exact ev_tmp rfl) ?_; intro hx; (first | refine w_load M _ _ _ rfl rfl hx rfl (by decide +kernel) (by exact rfl) ?_ | refine w_loadR M _ _ _ rfl rfl hx rfl (by decide +kernel) (by kernel_rfl) ?_); clear hx)) | ((with_reducible refine tStore ?_); go_must (refine w_at2 _ _ _ rfl (by exact ev_tmp rfl) (by first | exact ev_tmp rfl | exact ev_const) ?_; intro hx hy; (first | refine w_store M _ _ _ _ rfl rfl hx rfl hy rfl rfl (by decide +kernel) (by first | decide | simp | (simp; omega)) ?_ | refine w_storeR M _ _ _ _ rfl rfl hx rfl _ hy rfl (by kernel_rfl) (by simp [Value.oneCell']) (by first | rfl | assumption) ?_); clear hx hy M; intro w1 M; (try simp only [setC] at M))) | ((with_reducible refine tBox _ ?_); (refine w_box M _ _ rfl rfl _ rfl _ rfl ?_; clear M; intro g w1 M))) <;> (try conv => arg 5; simp only [Act.put, List.setIfInBounds_toArray, setC]))
      go_loopw [3, 6] (fun bv iv wr => bv = .bool false ∧ Mem [] w wr [.row gm C]) (fun _ _ _ => 0)
      case atStart => exact ⟨by first | rfl | (rw [decide_eq_false (by omega)]), M⟩
      case round =>
        clear M
        obtain ⟨rfl, M⟩ := hrel
        go_wp2_with ((first | ((with_reducible refine tGuard ?_); (with_reducible refine w_stripE ?_ ?_); (focus (refine ⟨_, rfl, ?_⟩; first | (with_reducible rfl) | exact decide_eq_false (by omega) | exact decide_eq_true (by omega)))) | ((with_reducible refine tGuard ?_); first | ((with_reducible refine w_skip1 ?_ ?_); (focus (refine ⟨_, rfl, ?_⟩; first | (with_reducible rfl) | exact decide_eq_false (by omega) | exact decide_eq_true (by omega)))) | ((with_reducible refine w_skip0 ?_ ?_); (focus (refine ⟨_, rfl, ?_⟩; first | (with_reducible rfl) | exact decide_eq_false (by omega) | exact decide_eq_true (by omega))))) | ((with_reducible refine tGuard ?_); refine w_strip rfl (by with_reducible rfl) ?_) | fail | ((with_reducible refine tLoad ?_); go_must (refine w_at _ _ rfl (by exact ev_tmp rfl) ?_; intro hx; (first | refine w_load M _ _ _ rfl rfl hx rfl (by decide +kernel) (by exact rfl) ?_ | refine w_loadR M _ _ _ rfl rfl hx rfl (by decide +kernel) (by kernel_rfl) ?_); clear hx)) | ((with_reducible refine tStore ?_); go_must (refine w_at2 _ _ _ rfl (by exact ev_tmp rfl) (by first | exact ev_tmp rfl | exact ev_const) ?_; intro hx hy; (first | refine w_store M _ _ _ _ rfl rfl hx rfl hy rfl rfl (by decide +kernel) (by first | decide | simp | (simp; omega)) ?_ | refine w_storeR M _ _ _ _ rfl rfl hx rfl _ hy rfl (by kernel_rfl) (by simp [Value.oneCell']) (by first | rfl | assumption) ?_); clear hx hy M; intro w1 M; (try simp only [setC] at M))) | ((with_reducible refine tBox _ ?_); (refine w_box M _ _ rfl rfl _ rfl _ rfl ?_; clear M; intro g w1 M))) <;> (try conv => arg 5; simp only [Act.put, List.setIfInBounds_toArray, setC]))
        go_ret
        exact ⟨rfl, M.below⟩
end Go.Proofs.Ytoaabclemeibhaa
