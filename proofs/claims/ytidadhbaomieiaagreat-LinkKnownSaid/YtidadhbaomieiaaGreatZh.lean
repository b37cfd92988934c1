/- Texts of this seat, put together: LinkE, Frame, FrameW. Each begins with a remark that says what is proved in it, and under which conditions. -/
import Derived.ProofKit
import Derived.OpenShut
import Derived.ShutString
import Derived.ChangeOld
import Derived.Below
import Derived.Test.YtidadhbaomieiaaGreatZa
import Derived.Test.YtidadhbaomieiaaGreatZg
/- What a link that is nil says. Conditions: none. -/
namespace Go.Proofs.YtidadhbaomieiaaGreat
open Go.RowKit Go.TL
set_option maxRecDepth 100000 in
set_option maxHeartbeats 4000000 in
theorem ComeNil_c (fr to : Int) (data : List UInt8) (w : World) : Calls Tryz.prog 25 #[.pointer none, .agg #[.int .i64 fr, .int .i64 to, .string (mkS data)]] w fun e w' => e = .returned (.tuple #[.agg (msgC zeroM).toArray, .int .i64 2]) ∧ Below w.heap.size w w' := by
  have M := Mem.start [] w
  go_enter Tryz.func25, Tryz.ntmps25
  go_wp2_with ((first | ((with_reducible refine tGuard ?_); (with_reducible refine w_stripE ?_ ?_); (focus (refine ⟨_, rfl, ?_⟩; first | (with_reducible rfl) | exact decide_eq_false (by omega) | exact decide_eq_true (by omega)))) | ((with_reducible refine tGuard ?_); first | ((with_reducible refine w_skip1 ?_ ?_); (focus (refine ⟨_, rfl, ?_⟩; first | (with_reducible rfl) | exact decide_eq_false (by omega) | exact decide_eq_true (by omega)))) | ((with_reducible refine w_skip0 ?_ ?_); (focus (refine ⟨_, rfl, ?_⟩; first | (with_reducible rfl) | exact decide_eq_false (by omega) | exact decide_eq_true (by omega))))) | ((with_reducible refine tBox (some 3) ?_); refine w_box M _ _ rfl rfl _ rfl ([.int .i64 fr, .int .i64 to, .string (mkS data)]) rfl ?_; clear M; intro gp w1 M) | ((with_reducible refine tAlloc (some 4) 67 ?_); refine w_alloc M _ rfl rfl (.agg (msgC zeroM).toArray) (msgC zeroM) (by kernel_rfl) rfl ?_; clear M; intro gm w1 M) | ((with_reducible show Code.wp _ (Code.region 3 _ _) _ _ _); go_must (refine region_det [(0, false), (2, false), (3, false), (4, false), (1, false), (5, false), (6, false), (7, false), (8, false), (10, false), (11, false), (12, false), (9, false), (13, false), (14, false), (15, false), (16, false)] [(15, .ptr), (14, .int), (18, .int), (23, .ptr), (22, .int), (26, .int)] (by kernel_rfl) (by kernel_rfl) rfl (by kernel_rfl) ?_; replace M := M.drew; simp only [reord, opAt, List.map_cons, List.map_nil, List.getElem?_toArray, List.getElem?_cons_zero, List.getElem?_cons_succ, Option.getD_some])) | (go_at_call 50; go_must (refine (linkNone_nil _).mono ?_; rintro e w1 ⟨rfl, rfl⟩)) | ((with_reducible show wpList _ _ _ (Oper.mk _ (Op.store 67 _ _) _ _ _ _ :: _) _ _); refine w_at2 _ _ _ rfl (by exact ev_tmp rfl) (by first | exact ev_tmp rfl | exact ev_const) ?_; intro hx hy; refine w_storeMs (m := zeroM) M 0 _ _ _ rfl rfl hx rfl hy rfl (by kernel_rfl) zeroM_fit zeroM_fit ?_; clear hx hy M; intro w1 M; (try simp only [setC] at M)) | ((with_reducible show Seg _ _ _ _); go_must (first | refine Seg.intro ⟨fun h => absurd rfl h, ?_⟩ | refine Seg.intro ⟨fun _ => ixA, ?_⟩ | refine Seg.intro ⟨ndA, atA, ?_⟩)) | ((with_reducible show OnlyN _ _ _ _ _); refine OnlyN.intro (by kernel_rfl) ?_) | ((with_reducible refine tGuard ?_); first | refine gdS ?_ | (refine gdC ?_ ?_ <;> (intro hgd; rw [hgd]; try (exfalso; simp at hgd; omega)))) | fail | ((with_reducible refine tLoad ?_); go_must (refine ldS ?_)) | ((with_reducible refine tStore ?_); go_must (refine stS ?_; clear M; intro w1 M; (try simp only [setC] at M))) | ((with_reducible refine tBox _ ?_); (refine bxA M ?_; clear M; intro g w1 M))) <;> (try conv => arg 5; simp only [Act.put, List.setIfInBounds_toArray, setC]))
  exact bodyPost_ret (results_two rfl _ _ gm 0 (msgC zeroM) _ (.int .i64 2) rfl rfl (M.ok 0 _ at0).2.1 Tryz.underlying67 rfl (by rw [zeroM_len]; kernel_rfl)) rfl ⟨rfl, M.below⟩
set_option maxRecDepth 100000 in
set_option maxHeartbeats 4000000 in
theorem LinkCountNil_c (w : World) : Calls Tryz.prog 26 #[.pointer none] w fun e w' => e = .returned (.tuple #[.int .u32 0, .int .u64 0]) ∧ Below w.heap.size w w' := by
  have M := Mem.start [] w
  go_enter Tryz.func26, Tryz.ntmps26
  go_wp2_with ((first | ((with_reducible refine tGuard ?_); (with_reducible refine w_stripE ?_ ?_); (focus (refine ⟨_, rfl, ?_⟩; first | (with_reducible rfl) | exact decide_eq_false (by omega) | exact decide_eq_true (by omega)))) | ((with_reducible refine tGuard ?_); first | ((with_reducible refine w_skip1 ?_ ?_); (focus (refine ⟨_, rfl, ?_⟩; first | (with_reducible rfl) | exact decide_eq_false (by omega) | exact decide_eq_true (by omega)))) | ((with_reducible refine w_skip0 ?_ ?_); (focus (refine ⟨_, rfl, ?_⟩; first | (with_reducible rfl) | exact decide_eq_false (by omega) | exact decide_eq_true (by omega))))) | (go_at_call 50; go_must (refine (linkNone_nil _).mono ?_; rintro e w1 ⟨rfl, rfl⟩)) | ((with_reducible refine tGuard ?_); first | refine gdS ?_ | (refine gdC ?_ ?_ <;> (intro hgd; rw [hgd]; try (exfalso; simp at hgd; omega)))) | fail | ((with_reducible refine tLoad ?_); go_must (refine ldS ?_)) | ((with_reducible refine tStore ?_); go_must (refine stS ?_; clear M; intro w1 M; (try simp only [setC] at M))) | ((with_reducible refine tBox _ ?_); (refine bxA M ?_; clear M; intro g w1 M))) <;> (try conv => arg 5; simp only [Act.put, List.setIfInBounds_toArray, setC]))
  go_ret2
  exact ⟨rfl, M.below⟩
end Go.Proofs.YtidadhbaomieiaaGreat

/- What the statements' frames lean on: an array of bytes that came in; a byte that came in. No conditions but those each lemma names. -/
namespace Go
namespace TL
open Go.RowKit
theorem wf_u8 {a : Int} (h : (Lit.int .u8 a).wf = true) : ∃ x : UInt8, a = I8 x := by
  have hb : IntKind.u8.min ≤ a ∧ a ≤ IntKind.u8.max := by simpa [Lit.wf] using h
  have h0 : IntKind.u8.min = 0 := by decide
  have h1 : IntKind.u8.max = 255 := by decide
  rw [h0, h1] at hb
  refine ⟨UInt8.ofNat a.toNat, ?_⟩
  rw [I8_eq, UInt8.toNat_ofNat']
  omega
theorem eq_of_cells {n : Nat} (cs : List Value) (h : ∀ i, i < n → ∃ x : UInt8, (cs.drop i).take 1 = [vb x]) (hl : cs.length = n) : ∃ l : List UInt8, l.length = n ∧ cs = l.map vb := by
  induction n generalizing cs with
  | zero => exact ⟨[], rfl, by simpa using hl⟩
  | succ n ih =>
    cases cs with
    | nil => simp at hl
    | cons c cs =>
      obtain ⟨x, hx⟩ := h 0 (by omega)
      simp only [List.drop_zero, List.take_succ_cons, List.take_zero, List.cons.injEq, and_true] at hx
      obtain ⟨l, h1, h2⟩ := ih cs (fun i hi => by simpa using h (i + 1) (by omega)) (by simpa using hl)
      exact ⟨x :: l, by simp [h1], by rw [hx, h2]; rfl⟩
theorem open_arr {P : Program} {w : World} {H : Type} {enc : TypeId × Value → H} {base : Nat} {spare : Bool} {held : _} {r : Reach} {b0 : Nat} {t e : TypeId} {n : Nat} {v : Value} {d : DataW H} {p : List MemPlace} (hu : P.underlying t = some (.array n e)) (he : P.underlying e = some (.int .u8)) (hc : P.cellsOf e = 1) (hct : P.cellsOf t = n)
    (hv : Value.okWide P w r b0 t v) (h : DataW.Trod enc P w base held spare t v d p) : ∃ l : List UInt8, l.length = n ∧ v = .agg (l.map vb).toArray := by
  simp only [Value.okWide, hu] at hv
  obtain ⟨cs, rfl, hsz, _⟩ := hv
  obtain ⟨fuel, hf⟩ := h
  obtain ⟨xs, m, _, _, _, hxl, hi⟩ := DataW.trod_array hu hf
  obtain ⟨l, h1, h2⟩ := eq_of_cells (n := n) cs.toList (fun i hin => by
    have h3 := hi i hin
    rw [hc, Nat.mul_one, List.getElem?_eq_getElem (by omega)] at h3
    obtain ⟨k, h4, _, h5⟩ := DataW.trod_int he h3
    obtain ⟨x, rfl⟩ := wf_u8 h5
    exact ⟨x, h4⟩) (by rw [Array.length_toList, hsz, hct])
  exact ⟨l, h1, by rw [← h2]⟩
end TL
end Go

/- Frames of statements about words of 32 and 64 bits. No conditions but those each lemma names. -/
namespace Go
namespace TL
open Go.RowKit
theorem wf_u32 {a : Int} (h : (Lit.int .u32 a).wf = true) : ∃ x : UInt32, a = I32 x := by
  have hb : IntKind.u32.min ≤ a ∧ a ≤ IntKind.u32.max := by simpa [Lit.wf] using h
  have h0 : IntKind.u32.min = 0 := by decide
  have h1 : IntKind.u32.max = 4294967295 := by decide
  rw [h0, h1] at hb
  refine ⟨UInt32.ofNat a.toNat, ?_⟩
  rw [I32_eq, UInt32.toNat_ofNat']
  omega
theorem wf_u64 {a : Int} (h : (Lit.int .u64 a).wf = true) : ∃ x : UInt64, a = I64 x := by
  have hb : IntKind.u64.min ≤ a ∧ a ≤ IntKind.u64.max := by simpa [Lit.wf] using h
  have h0 : IntKind.u64.min = 0 := by decide
  have h1 : IntKind.u64.max = 18446744073709551615 := by decide
  rw [h0, h1] at hb
  refine ⟨UInt64.ofNat a.toNat, ?_⟩
  rw [I64_eq, UInt64.toNat_ofNat']
  omega
end TL
end Go
