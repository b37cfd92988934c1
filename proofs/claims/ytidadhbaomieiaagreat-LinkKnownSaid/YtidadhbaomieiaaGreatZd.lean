/- Texts of this seat, put together: Out, PackO, PackN, PackY0, OutNew, SealW, SealA, RefInL, InM, InT, SealR, RingL, RingA, RingB, RingC, SealB, RingD, SealD. Each begins with a remark that says what is proved in it, and under which conditions. -/
import Derived.IntWalk
import Derived.Test.YtidadhbaomieiaaGreatZb
import Derived.Test.YtidadhbaomieiaaGreatZc
/- A writer's object (pack.Out): its row, and the slice that it owns; pieces split and put together. No conditions. -/
namespace Go
namespace TL
open Go.RowKit
theorem Mem.split {F : List Nat} {w0 w : World} {a b c : Chunk} {L : List Chunk} (M : Mem F w0 w (c :: L)) (ha : a.ok w) (hb : b.ok w) (fa : ∀ k ∈ a.fp, k ∈ c.fp) (fb : ∀ k ∈ b.fp, k ∈ c.fp) (hd : ∀ k ∈ a.fp, k ∉ b.fp) : Mem F w0 w (a :: b :: L) := by
  have own0 := M.own 0 c rfl
  have nd0 : ∀ (j : Nat) (d : Chunk), L[j]? = some d → ∀ k ∈ c.fp, k ∉ d.fp := fun j d hj => M.nd 0 (j + 1) c d (by omega) rfl (by simpa using hj)
  refine ⟨M.kept, ?_, ?_, ?_⟩
  · rintro (_ | _ | i) d hd'
    · simp at hd'; subst hd'; exact ha
    · simp at hd'; subst hd'; exact hb
    · exact M.ok (i + 1) d (by simpa using hd')
  · rintro (_ | _ | i) d hd' k hk
    · simp at hd'; subst hd'; exact own0 k (fa k hk)
    · simp at hd'; subst hd'; exact own0 k (fb k hk)
    · exact M.own (i + 1) d (by simpa using hd') k hk
  · rintro (_ | _ | i) (_ | _ | j) x y hij hx hy k hk hk2
    · exact hij rfl
    · simp at hx hy; subst hx; subst hy; exact hd k hk hk2
    · simp at hx; subst hx; exact nd0 j y (by simpa using hy) k (fa k hk) hk2
    · simp at hx hy; subst hx; subst hy; exact hd k hk2 hk
    · exact hij rfl
    · simp at hx; subst hx; exact nd0 j y (by simpa using hy) k (fb k hk) hk2
    · simp at hy; subst hy; exact nd0 i x (by simpa using hx) k (fa k hk2) hk
    · simp at hy; subst hy; exact nd0 i x (by simpa using hx) k (fb k hk2) hk
    · exact M.nd (i + 1) (j + 1) x y (by omega) (by simpa using hx) (by simpa using hy) k hk hk2
theorem Mem.fuse {F : List Nat} {w0 w : World} {a b c : Chunk} {L : List Chunk} (M : Mem F w0 w (a :: b :: L)) (hc : c.ok w) (hf : ∀ k ∈ c.fp, k ∈ a.fp ∨ k ∈ b.fp) : Mem F w0 w (c :: L) := by
  have nd0 : ∀ (j : Nat) (d : Chunk), L[j]? = some d → ∀ k ∈ c.fp, k ∉ d.fp := fun j d hj k hk => by
    rcases hf k hk with h | h
    · exact M.nd 0 (j + 2) a d (by omega) rfl (by simpa using hj) k h
    · exact M.nd 1 (j + 2) b d (by omega) rfl (by simpa using hj) k h
  refine ⟨M.kept, ?_, ?_, ?_⟩
  · rintro (_ | i) d hd
    · simp at hd; subst hd; exact hc
    · exact M.ok (i + 2) d (by simpa using hd)
  · rintro (_ | i) d hd k hk
    · simp at hd; subst hd
      rcases hf k hk with h | h
      · exact M.own 0 a rfl k h
      · exact M.own 1 b rfl k h
    · exact M.own (i + 2) d (by simpa using hd) k hk
  · rintro (_ | i) (_ | j) x y hij hx hy k hk hk2
    · exact hij rfl
    · simp at hx; subst hx; exact nd0 j y (by simpa using hy) k hk hk2
    · simp at hy; subst hy; exact nd0 i x (by simpa using hx) k hk2 hk
    · exact M.nd (i + 2) (j + 2) x y (by omega) (by simpa using hx) (by simpa using hy) k hk hk2
theorem row_sees1 {w : World} {g : Nat} {b : UInt8} (h : (Chunk.row g (bs [b])).ok w) : SeesB w (.slice (some ⟨g, 0, none⟩) 1 1) [b] :=
  row_sees h (off := 0) (n := 1) (cap := 1) (by simp) (by omega) (by simp only [maxLen]; omega)
def outC (g : Nat) (v : Value) (l : List UInt8) : Chunk :=
  .obj (g :: v.ownBlock.toList) fun w => (Chunk.row g [v]).ok w ∧ (Chunk.sl 1 v l.length (bs l)).ok w ∧ g ∉ v.ownBlock.toList
theorem outC_ok {w : World} {g : Nat} {v : Value} {l : List UInt8} (h1 : (Chunk.row g [v]).ok w) (h2 : (Chunk.sl 1 v l.length (bs l)).ok w) (h3 : g ∉ v.ownBlock.toList) : (outC g v l).ok w := by
  refine ⟨fun k hk => ?_, ⟨h1, h2, h3⟩, fun w' hs hb => ⟨h1.stay hs fun k hk => hb k ?_, h2.stay hs fun k hk => hb k ?_, h3⟩⟩
  · rcases List.mem_cons.1 hk with rfl | hk
    · exact h1.lt _ (by simp [Chunk.fp])
    · exact h2.lt k hk
  · simp [Chunk.fp] at hk; subst hk; simp
  · exact List.mem_cons_of_mem _ hk
theorem Mem.outOpen {F : List Nat} {w0 w : World} {g : Nat} {v : Value} {l : List UInt8} {L : List Chunk} (M : Mem F w0 w (outC g v l :: L)) : Mem F w0 w (.row g [v] :: .sl 1 v l.length (bs l) :: L) := by
  obtain ⟨h1, h2, h3⟩ := (M.ok 0 _ rfl).2.1
  refine M.split h1 h2 (fun k hk => ?_) (fun k hk => List.mem_cons_of_mem _ hk) (fun k hk hk2 => ?_)
  · simp [Chunk.fp] at hk; subst hk; exact List.mem_cons_self
  · simp [Chunk.fp] at hk; subst hk; exact h3 hk2
theorem Mem.outShut {F : List Nat} {w0 w : World} {g : Nat} {v : Value} {l : List UInt8} {L : List Chunk} (M : Mem F w0 w (.row g [v] :: .sl 1 v l.length (bs l) :: L)) : Mem F w0 w (outC g v l :: L) := by
  refine M.fuse (outC_ok (M.ok 0 _ rfl) (M.ok 1 _ rfl) fun hk => M.nd 0 1 _ _ (by omega) rfl rfl g (by simp [Chunk.fp]) hk) fun k hk => ?_
  rcases List.mem_cons.1 hk with rfl | hk
  · exact .inl (by simp [Chunk.fp])
  · exact .inr hk
end TL
end Go

/- The walks of pack.Out's methods: what is written is behind what was. Conditions: lengths. -/
namespace Go.Proofs.YtidadhbaomieiaaGreat
open Go.RowKit Go.TL
set_option maxRecDepth 100000 in
set_option maxHeartbeats 1000000 in
theorem put_c (g : Nat) (v x : Value) (l news : List UInt8) (w : World) (h : (outC g v l).ok w) (hx : SeesB w x news) (hn : l.length + news.length ≤ 100000000) :
    Calls Tryz.prog 114 #[.pointer (some ⟨g, 0, none⟩), x] w fun e w' => e = .returned (.tuple #[]) ∧ ∃ v', Upd w (outC g v l) w' (outC g v' (l ++ news)) := by
  have hsrc : Src Tryz.prog w 1 x news.length (bs news) := Src_of_sees hx (bs_one _)
  have M := (Mem.start1 h).outOpen
  go_enter Tryz.func114, Tryz.ntmps114
  go_wp2_with ((first | ((with_reducible refine tGuard ?_); first | refine gdS ?_ | (refine gdC ?_ ?_ <;> (intro hgd; rw [hgd]; try (exfalso; simp at hgd; omega)))) | ((with_reducible refine tConv _ 70 9 ?_); go_must (refine cvB ?_)) | ((with_reducible refine tLoad ?_); go_must (refine ldB ?_)) | ((with_reducible refine tStore ?_); go_must (refine stB ?_; clear M; intro w1 M; (try simp only [setC] at M))) | ((with_reducible refine tBox _ ?_); (refine bxA M ?_; clear M; intro g w1 M)) | (at_builtin; go_must (refine w_append M 1 bytesT (.tmp 10) (.tmp 11) _ rfl uB rfl rfl rfl rfl _ _ hsrc (by simp only [maxLen]; omega) (by omega) ?_; clear M; intro p cap w1 M))) <;> (try conv => arg 5; simp only [Act.put, List.setIfInBounds_toArray, setC]))
  rw [← bs_append, ← List.length_append] at M
  exact bodyPost_end (results_none rfl _ _ _) rfl ⟨rfl, _, (M.outShut).upd1 0 rfl⟩
set_option maxRecDepth 100000 in
set_option maxHeartbeats 1000000 in
theorem Out_String_c (g : Nat) (v : Value) (l : List UInt8) (w : World) (h : (outC g v l).ok w) :
    Calls Tryz.prog 81 #[.pointer (some ⟨g, 0, none⟩)] w fun e w' => e = .returned (.string (mkS l)) ∧ w = w' := by
  have M := (Mem.start1 h).outOpen
  go_enter Tryz.func81, Tryz.ntmps81
  go_wp2_with ((first | ((with_reducible refine tGuard ?_); first | refine gdS ?_ | (refine gdC ?_ ?_ <;> (intro hgd; rw [hgd]; try (exfalso; simp at hgd; omega)))) | ((with_reducible refine tConv _ 70 9 ?_); go_must (refine cvB ?_)) | ((with_reducible refine tLoad ?_); go_must (refine ldB ?_)) | ((with_reducible refine tStore ?_); go_must (refine stB ?_; clear M; intro w1 M; (try simp only [setC] at M))) | ((with_reducible refine tBox _ ?_); (refine bxA M ?_; clear M; intro g w1 M))) <;> (try conv => arg 5; simp only [Act.put, List.setIfInBounds_toArray, setC]))
  go_ret
  exact ⟨rfl, rfl⟩
end Go.Proofs.YtidadhbaomieiaaGreat

/- The walks of pack.Out's Num, Text and Byte. Conditions: lengths. -/
namespace Go.Proofs.YtidadhbaomieiaaGreat
open Go.RowKit Go.TL
set_option maxHeartbeats 2000000 in
theorem Num_c (g : Nat) (v : Value) (l : List UInt8) (n : Nat) (a : Int) (ha : a = (n : Int)) (w : World) (h : n < 18446744073709551616) (hl : l.length ≤ 10000000) (ho : (outC g v l).ok w) :
    Calls Tryz.prog 113 #[.pointer (some ⟨g, 0, none⟩), .int .u64 a] w fun e w' => e = .returned (.tuple #[]) ∧ ∃ v', Upd w (outC g v l) w' (outC g v' (l ++ numL n)) := by
  subst ha
  have M := Mem.start1 ho
  have hn10 := numL_length_le n h
  go_enter Tryz.func113, Tryz.ntmps113
  go_wp2_with (first | (go_at_call 137; go_must (refine (size_c n _ h).mono ?_; rintro e w1 ⟨rfl, rfl⟩)))
  go_loopw [1, 4] (fun nv lv wr => ∃ (m : Nat) (d : List UInt8) (v' : Value), m < 18446744073709551616 ∧ d ++ numL m = numL n ∧ nv = .int .u64 m ∧ lv = .int .i64 (numL m).length ∧ Mem (outC g v l).fp w wr [outC g v' (l ++ d)]) (fun _ lv _ => (intOf lv).toNat)
  case atStart => exact ⟨n, [], v, h, rfl, rfl, rfl, by simpa using M⟩
  case round =>
    clear M
    obtain ⟨m, d, v', hm, hd, rfl, rfl, M⟩ := hrel
    have hdl : d.length ≤ 10 := by have := congrArg List.length hd; simp at this; omega
    by_cases h128 : m < 128
    · have e1 := numL_small h128
      rw [e1] at hd ⊢
      rw [List.length_singleton]
      go_wp2_with (first | ((with_reducible show wpList _ _ _ (Oper.mk _ (Op.buildSlice 70 1 _) _ _ _ _ :: _) _ _); go_must (refine w_buildSliceB M bytesT _ rfl rfl (by first | exact ev_tmp rfl | exact ev_const) ?_; clear M; intro g w1 M; (try conv => arg 5; simp only [Act.put, List.setIfInBounds_toArray, setC]))) | (go_at_call 114; go_must (refine (put_c _ _ _ _ [_] _ (M.ok 1 _ rfl) (row_sees1 (M.ok 0 _ rfl)) (by simp; omega)).mono ?_; rintro e w2 ⟨rfl, v1, U⟩; replace M := (M.upd 1 rfl U).tail; clear U)))
      simp only [List.set_cons_zero] at M
      rw [w8_nat, List.append_assoc, hd] at M
      exact bodyPost_end (results_none rfl _ _ _) rfl ⟨rfl, _, M.upd1 0 rfl⟩
    · have e1 := numL_big (n := m) (by omega)
      obtain ⟨k, ek⟩ : ∃ k, k = (numL (m / 128)).length := ⟨_, rfl⟩
      have hk : 0 < k := by rw [ek]; exact numL_pos _
      have e2 : (numL m).length = k + 1 := by rw [e1, ek]; rfl
      rw [e2]
      go_wp2_with (first | ((with_reducible show wpList _ _ _ (Oper.mk _ (Op.buildSlice 70 1 _) _ _ _ _ :: _) _ _); go_must (refine w_buildSliceB M bytesT _ rfl rfl (by first | exact ev_tmp rfl | exact ev_const) ?_; clear M; intro g w1 M; (try conv => arg 5; simp only [Act.put, List.setIfInBounds_toArray, setC]))) | (go_at_call 114; go_must (refine (put_c _ _ _ _ [_] _ (M.ok 1 _ rfl) (row_sees1 (M.ok 0 _ rfl)) (by simp; omega)).mono ?_; rintro e w2 ⟨rfl, v1, U⟩; replace M := (M.upd 1 rfl U).tail; clear U)))
      simp only [List.set_cons_zero] at M
      have eb : w8 (m : Int) ||| 128 = UInt8.ofNat (m % 128 + 128) := by
        rw [w8_nat]; exact or128 m
      rw [eb, List.append_assoc] at M
      have hk10 : k ≤ 10 := by have := numL_length_le (m / 128) (by omega); omega
      refine ⟨⟨m / 128, d ++ [UInt8.ofNat (m % 128 + 128)], v1, by omega, by rw [← hd, e1]; simp, by go_num, by rw [← ek, IntWalk.wrap64_in _ (by omega)], M⟩, ?_⟩
      rw [← ek, IntWalk.wrap64_in _ (by omega)]
      simp only [intOf]; omega
set_option maxHeartbeats 1000000 in
/-- A text's bytes. -/
theorem Out_Text_c (g : Nat) (v : Value) (l t : List UInt8) (w : World) (ht : t.length ≤ 1000000) (hl : l.length ≤ 1000000) (ho : (outC g v l).ok w) :
    Calls Tryz.prog 80 #[.pointer (some ⟨g, 0, none⟩), .string (mkS t)] w fun e w' => e = .returned (.tuple #[]) ∧ ∃ v', Upd w (outC g v l) w' (outC g v' (l ++ textL t)) := by
  have M := Mem.start1 ho
  have hn := numL_length_le t.length (by omega)
  go_enter Tryz.func80, Tryz.ntmps80
  go_wp2_with (first | ((with_reducible refine tConv (some 11) 9 70 ?_); go_must (refine w_bytes M _ _ _ _ rfl rfl rfl Tryz.underlying9 Tryz.underlying70 Tryz.underlying5 (by first | omega | (simp; omega)) ?_; clear M; intro gb capgb w1 hcapgb M; (try conv => arg 5; simp only [Act.put, List.setIfInBounds_toArray, setC]))) | (go_at_call 113; go_must (refine (Num_c _ _ _ t.length _ (I64_nat _ (by omega)) _ (by omega) (by omega) (M.ok 0 _ rfl)).mono ?_; rintro e w2 ⟨rfl, v1, U⟩; replace M := M.upd 0 rfl U; clear U; simp only [List.set_cons_zero] at M)) | (go_at_call 114; go_must (refine (put_c _ _ _ _ _ _ (M.ok 1 _ rfl) (SeesB.of_own (M.ok 0 _ rfl) rfl) (by simp; omega)).mono ?_; rintro e w2 ⟨rfl, v1, U⟩; replace M := (M.upd 1 rfl U).tail; clear U)))
  simp only [List.set_cons_zero, List.append_assoc] at M
  exact bodyPost_end (results_none rfl _ _ _) rfl ⟨rfl, _, M.upd1 0 rfl⟩
end Go.Proofs.YtidadhbaomieiaaGreat

/- The walks of pack.In.Byte and pack.In.Num, for seats without batches. Conditions: lengths. -/
namespace Go.Proofs.YtidadhbaomieiaaGreat
open Go.RowKit Go.TL
section
variable (g : Nat) (x : InS) (w : World) (h : (Chunk.row g (inV x)).ok w)
include h
set_option maxRecDepth 100000 in
set_option maxHeartbeats 2000000 in
theorem In_Byte_c (hf : x.fit) :
    Calls Tryz.prog 61 #[.pointer (some ⟨g, 0, none⟩)] w fun e w' => e = .returned (.int .u8 x.byte.1) ∧ Upd w (.row g (inV x)) w' (.row g (inV x.byte.2)) := by
  obtain ⟨rest, read, err⟩ := x
  have M := Mem.start1 (c := .row g [.string (mkS rest), .int .i64 (read : Nat), .int .i64 (err : Nat)]) h
  by_cases h0 : err = 0
  · subst h0
    cases rest with
    | nil =>
      go_enter Tryz.func61, Tryz.ntmps61
      go_wp2_with ((first | (go_at_call 94; go_must (refine (reads_ok g _ _ h rfl).mono ?_; rintro e w1 ⟨rfl, rfl⟩)) | ((with_reducible refine tGuard ?_); refine gdS ?_) | ((with_reducible refine tConv _ 70 9 ?_); go_must (refine cvB ?_)) | ((with_reducible refine tLoad ?_); go_must (refine ldB ?_)) | ((with_reducible refine tStore ?_); go_must (refine stB ?_; clear M; intro w1 M; (try simp only [setC] at M))) | ((with_reducible refine tBox _ ?_); (refine bxA M ?_; clear M; intro g w1 M))) <;> (try conv => arg 5; simp only [Act.put, List.setIfInBounds_toArray, setC]))
      go_ret
      exact ⟨rfl, M.upd1 0 rfl⟩
    | cons b r =>
      have hb : ((b.toNat : Nat) : Int) = I8 b := (I8_eq b).symm
      have e : InS.byte ⟨b :: r, read, 0⟩ = (b.toNat, InS.take ⟨b :: r, read, 0⟩ 1 0) := rfl
      rw [e]; simp only [hb]; clear e hb
      go_enter Tryz.func61, Tryz.ntmps61
      go_wp2_with ((first | (go_at_call 94; go_must (refine (reads_ok g _ _ h rfl).mono ?_; rintro e w1 ⟨rfl, rfl⟩)) | (go_at_call 96; go_must (refine (takes_ok g _ _ (M.ok 0 _ rfl) hf 1 (by simp) _ _ rfl rfl).mono ?_; rintro e w1 ⟨rfl, U⟩; replace M := M.upd 0 rfl U; clear U)) | ((with_reducible refine tGuard ?_); refine gdS ?_) | ((with_reducible refine tConv _ 70 9 ?_); go_must (refine cvB ?_)) | ((with_reducible refine tLoad ?_); go_must (refine ldB ?_)) | ((with_reducible refine tStore ?_); go_must (refine stB ?_; clear M; intro w1 M; (try simp only [setC] at M))) | ((with_reducible refine tBox _ ?_); (refine bxA M ?_; clear M; intro g w1 M))) <;> (try conv => arg 5; simp only [Act.put, List.setIfInBounds_toArray, setC]))
      go_ret
      exact ⟨rfl, M.upd1 0 rfl⟩
  · have e1 : InS.byte ⟨rest, read, err⟩ = (0, ⟨rest, read, err⟩) := by unfold InS.byte; rw [if_neg h0]
    rw [e1]; clear e1
    have H0 := Lib.hid h0
    clear h0
    go_enter Tryz.func61, Tryz.ntmps61
    go_wp2_with (first | (go_at_call 94; go_must (refine (reads_no g _ _ h H0.out).mono ?_; rintro e w1 ⟨rfl, rfl⟩)))
    go_ret
    exact ⟨rfl, M.upd1 0 rfl⟩
end
section
variable (g : Nat) (x : InS) (w : World) (h : (Chunk.row g (inV x)).ok w)
include h
set_option maxRecDepth 100000 in
set_option maxHeartbeats 2000000 in
theorem In_Num_c (hf : x.fit) :
    Calls Tryz.prog 59 #[.pointer (some ⟨g, 0, none⟩)] w fun e w' => e = .returned (.int .u64 (x.most maxU).1) ∧ Upd w (.row g (inV x)) w' (.row g (inV (x.most maxU).2)) := by
  have M := Mem.start1 h
  have hl : x.rest.length ≤ 1000000000 := by unfold InS.fit at hf; omega
  by_cases h0 : x.err = 0
  · have e1 : x.most maxU = ((readN x.rest maxU).1, x.take (readN x.rest maxU).2.1 (readN x.rest maxU).2.2) := by unfold InS.most; rw [if_pos h0]
    rw [e1]; clear e1
    obtain ⟨⟨n, b, er⟩, eR⟩ : ∃ R, R = readN x.rest maxU := ⟨_, rfl⟩
    have hb := (read_le eR.symm).1
    have hz := read_err x.rest maxU
    have B := number_c x.rest w hl
    rw [← eR] at B hz ⊢
    have B := Lib.hid B
    have HZ := Lib.hid hz
    clear eR hz
    simp only
    have H0 := Lib.hid h0
    clear h0
    by_cases he : er = 0
    · subst he
      go_enter Tryz.func59, Tryz.ntmps59
      go_wp2_with ((first | (go_at_call 94; go_must (refine (reads_ok g x _ h H0.out).mono ?_; rintro e w1 ⟨rfl, rfl⟩)) | (go_at_call 97; go_must (refine (B.out).mono ?_; rintro e w1 ⟨rfl, rfl⟩)) | (go_at_call 96; go_must (refine (takes_ok g x _ (M.ok 0 _ rfl) hf b hb _ _ rfl rfl).mono ?_; rintro e w1 ⟨rfl, U⟩; replace M := M.upd 0 rfl U; clear U)) | ((with_reducible refine tGuard ?_); first | refine gdS ?_ | (refine gdC ?_ ?_ <;> (intro hgd; rw [hgd]; try (exfalso; simp at hgd; omega)))) | ((with_reducible refine tConv _ 70 9 ?_); go_must (refine cvB ?_)) | ((with_reducible refine tLoad ?_); go_must (refine ldB ?_)) | ((with_reducible refine tStore ?_); go_must (refine stB ?_; clear M; intro w1 M; (try simp only [setC] at M))) | ((with_reducible refine tBox _ ?_); (refine bxA M ?_; clear M; intro g w1 M))) <;> (try conv => arg 5; simp only [Act.put, List.setIfInBounds_toArray, setC]))
      go_ret
      exact ⟨rfl, M.upd1 0 rfl⟩
    · obtain ⟨rfl, rfl⟩ : n = 0 ∧ b = 0 := by
        have := HZ.out; simp at this; omega
      go_enter Tryz.func59, Tryz.ntmps59
      go_wp2_with ((first | (go_at_call 94; go_must (refine (reads_ok g x _ h H0.out).mono ?_; rintro e w1 ⟨rfl, rfl⟩)) | (go_at_call 97; go_must (refine (B.out).mono ?_; rintro e w1 ⟨rfl, rfl⟩)) | (go_at_call 96; go_must (refine (takes_no g x _ (M.ok 0 _ rfl) 0 er he _ _ rfl).mono ?_; rintro e w1 ⟨rfl, U⟩; replace M := M.upd 0 rfl U; clear U)) | ((with_reducible refine tGuard ?_); first | refine gdS ?_ | (refine gdC ?_ ?_ <;> (intro hgd; rw [hgd]; try (exfalso; simp at hgd; omega)))) | ((with_reducible refine tConv _ 70 9 ?_); go_must (refine cvB ?_)) | ((with_reducible refine tLoad ?_); go_must (refine ldB ?_)) | ((with_reducible refine tStore ?_); go_must (refine stB ?_; clear M; intro w1 M; (try simp only [setC] at M))) | ((with_reducible refine tBox _ ?_); (refine bxA M ?_; clear M; intro g w1 M))) <;> (try conv => arg 5; simp only [Act.put, List.setIfInBounds_toArray, setC]))
      go_ret
      exact ⟨rfl, M.upd1 0 rfl⟩
  · have e1 : x.most maxU = (0, x) := by unfold InS.most; rw [if_neg h0]
    rw [e1]; clear e1
    have H0 := Lib.hid h0
    clear h0
    go_enter Tryz.func59, Tryz.ntmps59
    go_wp2_with (first | (go_at_call 94; go_must (refine (reads_no g x _ h H0.out).mono ?_; rintro e w1 ⟨rfl, rfl⟩)))
    go_ret
    exact ⟨rfl, M.upd1 0 rfl⟩
end
end Go.Proofs.YtidadhbaomieiaaGreat

/- A new writer, as a piece of the walk's memory. No conditions. -/
namespace Go
namespace TL
open Go.RowKit
/-- A new writer. -/
theorem Mem.outNew {F : List Nat} {w0 w : World} {g : Nat} {L : List Chunk} (M : Mem F w0 w (.row g [.slice none 0 0] :: L)) : Mem F w0 w (outC g (.slice none 0 0) [] :: L) := by
  have M2 := M.nil 1
  have M3 : Mem F w0 w (.row g [.slice none 0 0] :: .sl 1 (.slice none 0 0) ([] : List UInt8).length (bs []) :: L) := by
    refine M2.pick _ (fun i => if i = 0 then 1 else if i = 1 then 0 else i) ?_ ?_
    · intro i j hi hj h
      by_cases i0 : i = 0 <;> by_cases i1 : i = 1 <;> by_cases j0 : j = 0 <;> by_cases j1 : j = 1 <;> simp_all <;> omega
    · intro i c h
      match i with
      | 0 => exact h
      | 1 => exact h
      | i + 2 => simpa using h
  exact M3.outShut
end TL
end Go

/- Envelopes in memory: their cells, and what may be done to them. No conditions but those each law names. -/
namespace Go
namespace TL
open Go.RowKit
/-- An envelope's cells. -/
def envC (k : Int) (b : UInt32) (n : UInt64) (d t : List UInt8) : List Value := .int .i64 k :: .int .u32 (I32 b) :: .int .u64 (I64 n) :: .string (mkS d) :: bs t
def zeroT : List UInt8 := List.replicate 32 0
theorem zeroT_len : zeroT.length = 32 := List.length_replicate
theorem envC_len (k : Int) (b : UInt32) (n : UInt64) (d t : List UInt8) : (envC k b n d t).length = t.length + 4 := by unfold envC; simp only [List.length_cons, bs_length]
theorem envC_data (k : Int) (b : UInt32) (n : UInt64) (d e t : List UInt8) : (envC k b n d t).set 3 (.string (mkS e)) = envC k b n e t := rfl
theorem envC_n (k : Int) (b : UInt32) (n m : UInt64) (d t : List UInt8) : (envC k b n d t).set 2 (.int .u64 (I64 m)) = envC k b m d t := rfl
theorem envC_one (k : Int) (b : UInt32) (n : UInt64) (d t : List UInt8) : ∀ v ∈ envC k b n d t, v.oneCell' = true := by
  intro v hv
  unfold envC at hv
  simp only [List.mem_cons] at hv
  rcases hv with rfl | rfl | rfl | rfl | hv
  · rfl
  · rfl
  · rfl
  · rfl
  · exact bs_one _ v hv
section
variable {P : Program} {ops : Array Oper} {rest : List Oper} {o : Oper} {a : Act} {w w0 : World} {Q : Exit → Act → World → Prop} {F : List Nat} {L : List Chunk} {g : Nat} {k : Int} {b : UInt32} {n : UInt64} {d tg : List UInt8}
/-- The whole of it. -/
theorem w_loadE (M : Mem F w0 w L) (i : Nat) (t : TypeId) (x : Operand) (ho : o.op = .load t x) (hi : L[i]? = some (.row g (envC k b n d tg))) (hx : a.eval x = .pointer (some ⟨g, 0, none⟩)) (hw : Region.wanted o (yielded ops a.tmps) = true)
    (ht : rowT P t = true) (hn : (P.info? t).map (·.size) = some 36) (hg : tg.length = 32) (h : wpList P ops Q rest (a.put o.dst (.agg (envC k b n d tg).toArray)) w) : wpList P ops Q (o :: rest) a w :=
  w_loadR M i t x ho hi hx hw ht (by rw [envC_len, hg]; exact hn) h
/-- Its tag. -/
theorem w_loadTag (M : Mem F w0 w L) (i : Nat) (t : TypeId) (x : Operand) (ho : o.op = .load t x) (hi : L[i]? = some (.row g (envC k b n d tg))) (hx : a.eval x = .pointer (some ⟨g, 4, none⟩)) (hw : Region.wanted o (yielded ops a.tmps) = true)
    (ht : rowT P t = true) (hn : (P.info? t).map (·.size) = some 32) (hg : tg.length = 32) (h : wpList P ops Q rest (a.put o.dst (.agg (bs tg).toArray)) w) : wpList P ops Q (o :: rest) a w :=
  w_loadA M i t x ho hi hx hw ht [.int .i64 k, .int .u32 (I32 b), .int .u64 (I64 n), .string (mkS d)] (bs tg) [] (by rw [List.append_nil]; rfl) rfl (by rw [bs_length, hg]; exact hn) h
/-- A byte of its tag. -/
theorem w_loadTagB (M : Mem F w0 w L) (i : Nat) (t : TypeId) (x : Operand) (ho : o.op = .load t x) (hi : L[i]? = some (.row g (envC k b n d tg))) {off : Nat} (hx : a.eval x = .pointer (some ⟨g, off, none⟩)) (hw : Region.wanted o (yielded ops a.tmps) = true)
    (ht : scalarT P t = true) (j : Nat) (hoff : off = 4 + j) (hlt : j < tg.length) (h : wpList P ops Q rest (a.put o.dst (.int .u8 (I8 (tg.getD j 0)))) w) : wpList P ops Q (o :: rest) a w := by
  refine w_load M i t x ho hi hx hw ht ?_ h
  rw [hoff, Nat.add_comm]
  show (bs tg)[j]? = _
  exact getD_some hlt
/-- The whole of it is stored. -/
theorem w_storeE (M : Mem F w0 w L) (i : Nat) (t : TypeId) (x y : Operand) (ho : o.op = .store t x y) {k' : Int} {b' : UInt32} {n' : UInt64} {d' tg' : List UInt8} (hi : L[i]? = some (.row g (envC k' b' n' d' tg'))) (hx : a.eval x = .pointer (some ⟨g, 0, none⟩)) (hw : Region.wanted o (yielded ops a.tmps) = true)
    {C : Array Value} (hy : a.eval y = .agg C) (hC : C = (envC k b n d tg).toArray) (hn : (P.info? t).map (·.size) = some 36) (hg : tg.length = 32) (hg' : tg'.length = 32)
    (h : ∀ w' : World, Mem F w0 w' (L.set i (.row g (envC k b n d tg))) → wpList P ops Q rest (a.put o.dst undef) w') : wpList P ops Q (o :: rest) a w :=
  w_storeR M i t x y ho hi hx hw (envC k b n d tg) hy hC (by rw [envC_len, hg]; exact hn) (envC_one _ _ _ _ _) (by rw [envC_len, envC_len, hg, hg']) h
/-- Its tag is stored. -/
theorem w_storeTag (M : Mem F w0 w L) (i : Nat) (t : TypeId) (x y : Operand) (ho : o.op = .store t x y) {tg' : List UInt8} (hi : L[i]? = some (.row g (envC k b n d tg'))) (hx : a.eval x = .pointer (some ⟨g, 4, none⟩)) (hw : Region.wanted o (yielded ops a.tmps) = true)
    (hy : a.eval y = .agg (bs tg).toArray) (hn : (P.info? t).map (·.size) = some 32) (hg : tg.length = 32) (hg' : tg'.length = 32)
    (h : ∀ w' : World, Mem F w0 w' (L.set i (.row g (envC k b n d tg))) → wpList P ops Q rest (a.put o.dst undef) w') : wpList P ops Q (o :: rest) a w := by
  refine w_storeA M i t x y ho hi hx hw (bs tg) hy rfl (by rw [bs_length, hg]; exact hn) (bs_one _) [.int .i64 k, .int .u32 (I32 b), .int .u64 (I64 n), .string (mkS d)] (bs tg') [] (by rw [List.append_nil]; rfl) rfl (by rw [bs_length, bs_length, hg, hg']) ?_
  intro w' M'
  rw [List.append_nil] at M'
  exact h w' M'
/-- Its data are stored. -/
theorem w_storeData (M : Mem F w0 w L) (i : Nat) (t : TypeId) (x y : Operand) (ho : o.op = .store t x y) {d' : List UInt8} (hi : L[i]? = some (.row g (envC k b n d' tg))) (hx : a.eval x = .pointer (some ⟨g, 3, none⟩)) (hw : Region.wanted o (yielded ops a.tmps) = true)
    (hy : a.eval y = .string (mkS d)) (hn : (P.info? t).map (·.size) = some 1)
    (h : ∀ w' : World, Mem F w0 w' (L.set i (.row g (envC k b n d tg))) → wpList P ops Q rest (a.put o.dst undef) w') : wpList P ops Q (o :: rest) a w :=
  w_store M i t x y ho hi hx hw hy rfl rfl hn (by rw [envC_len]; omega) fun w' M' => h w' M'
/-- Its number is stored. -/
theorem w_storeNum (M : Mem F w0 w L) (i : Nat) (t : TypeId) (x y : Operand) (ho : o.op = .store t x y) {n' : UInt64} (hi : L[i]? = some (.row g (envC k b n' d tg))) (hx : a.eval x = .pointer (some ⟨g, 2, none⟩)) (hw : Region.wanted o (yielded ops a.tmps) = true)
    (hy : a.eval y = .int .u64 (I64 n)) (hn : (P.info? t).map (·.size) = some 1)
    (h : ∀ w' : World, Mem F w0 w' (L.set i (.row g (envC k b n d tg))) → wpList P ops Q rest (a.put o.dst undef) w') : wpList P ops Q (o :: rest) a w :=
  w_store M i t x y ho hi hx hw hy rfl rfl hn (by rw [envC_len]; omega) fun w' M' => h w' M'
/-- A byte of its tag is stored. -/
theorem w_storeTagB (M : Mem F w0 w L) (i : Nat) (t : TypeId) (x y : Operand) (ho : o.op = .store t x y) (hi : L[i]? = some (.row g (envC k b n d tg))) {off : Nat} (hx : a.eval x = .pointer (some ⟨g, off, none⟩)) (hw : Region.wanted o (yielded ops a.tmps) = true)
    {c : UInt8} (hy : a.eval y = .int .u8 (I8 c)) (hn : (P.info? t).map (·.size) = some 1) (j : Nat) (hoff : off = 4 + j) (hlt : j < tg.length)
    (h : ∀ w' : World, Mem F w0 w' (L.set i (.row g (envC k b n d (tg.set j c)))) → wpList P ops Q rest (a.put o.dst undef) w') : wpList P ops Q (o :: rest) a w := by
  refine w_store M i t x y ho hi hx hw hy rfl rfl hn (by rw [envC_len]; omega) fun w' M' => h w' ?_
  have e : (envC k b n d tg).set off (.int .u8 (I8 c)) = envC k b n d (tg.set j c) := by
    rw [hoff, Nat.add_comm]
    show .int .i64 k :: .int .u32 (I32 b) :: .int .u64 (I64 n) :: .string (mkS d) :: (bs tg).set j (vb c) = _
    rw [← bs_set]; rfl
  rw [← e]; exact M'
theorem seesTag {w : World} (h : (Chunk.row g (envC k b n d tg)).ok w) (hg : tg.length = 32) : SeesB w (.slice (some ⟨g, 4, none⟩) 32 32) tg := by
  refine ⟨by simp [hg], .inr ⟨g, 4, 32, by rw [hg], h.1, by omega, by decide, ?_⟩⟩
  have := rangeAt_drop h.2.1 4
  rw [Nat.zero_add] at this
  exact this
/-- string(x.Tag[:]). -/
theorem w_stringTag (M : Mem F w0 w L) (i : Nat) (src dst e : TypeId) (x : Operand) (ho : o.op = .convert src dst x) (hw : Region.wanted o (yielded ops a.tmps) = true) (hi : L[i]? = some (.row g (envC k b n d tg))) (hx : a.eval x = .slice (some ⟨g, 4, none⟩) 32 32)
    (hg : tg.length = 32) (hs : P.underlying src = some (.slice e)) (he : P.underlying e = some (.int .u8)) (hd : P.underlying dst = some .string)
    (h : wpList P ops Q rest (a.put o.dst (.string (mkS tg))) w) : wpList P ops Q (o :: rest) a w :=
  wpW hw fun _ hK => by
    have hr := SeesB.run_string (P := P) (seesTag (M.ok i _ hi) hg) src dst e hs he hd w (grownBy_refl _ _)
    unfold Oper.wp execOp
    simp only [ho, hx, Sem.run_bind, hr, Result.andThen_ok]
    exact hK _ _ h
theorem stab_strTag (M : Mem F w0 w L) {is : List Nat} (i : Nat) {src dst e : TypeId} {x : Operand} (ho : o.op = .convert src dst x) (hi : L[i]? = some (.row g (envC k b n d tg))) (hin : i ∈ is) (hg : tg.length = 32) (hs : P.underlying src = some (.slice e)) (he : P.underlying e = some (.int .u8)) (hd : P.underlying dst = some .string) : Stab P (IxOk M is) o (.slice (some ⟨g, 4, none⟩) 32 32) :=
  stab_conv ho _ tg (fun _ hw => seesTag (hw.2 i hin _ hi) hg) hs he hd
theorem stab_env (M : Mem F w0 w L) {is : List Nat} (i : Nat) {t : TypeId} {x : Operand} (ho : o.op = .load t x) (hi : L[i]? = some (.row g (envC k b n d tg))) (hin : i ∈ is) (ht : rowT P t = true) (hn : (P.info? t).map (·.size) = some 36) (hg : tg.length = 32) : Stab P (IxOk M is) o (.pointer (some ⟨g, 0, none⟩)) :=
  stab_ixR M i ho hi hin ht (by rw [envC_len, hg]; exact hn)
theorem stab_tag (M : Mem F w0 w L) {is : List Nat} (i : Nat) {t : TypeId} {x : Operand} (ho : o.op = .load t x) (hi : L[i]? = some (.row g (envC k b n d tg))) (hin : i ∈ is) (ht : rowT P t = true) (hn : (P.info? t).map (·.size) = some 32) (hg : tg.length = 32) : Stab P (IxOk M is) o (.pointer (some ⟨g, 4, none⟩)) :=
  stab_ixA M i 4 ho hi hin ht [.int .i64 k, .int .u32 (I32 b), .int .u64 (I64 n), .string (mkS d)] (bs tg) [] (by rw [List.append_nil]; rfl) rfl (by rw [bs_length, hg]; exact hn)
end
theorem results_two {P : Program} {fn : Func} {p q : Tmp} {ty : TypeId} (h : fn.results = #[.cell p ty, .tmp q]) (tmps : Array Value) (w : World) (b o : Nat) (cs : List Value) (d : TypeDesc) (z : Value)
    (hp : tmps.getD p undef = .pointer (some ⟨b, o, none⟩)) (hz : tmps.getD q undef = z) (hc : w.rangeAt b o cs) (hu : P.underlying ty = some d) (hd : d.isRow = true) (hi : (P.info? ty).map (·.size) = some cs.length) :
    (results fn tmps).run P w = .ok (.tuple #[.agg cs.toArray, z]) w := by
  have hp' : tmps[p]?.getD undef = .pointer (some ⟨b, o, none⟩) := by simpa using hp
  have hz' : tmps[q]?.getD undef = z := by simpa using hz
  simp [results, h, hp', hz', asAddr, run_loadVar_mid w b o ty cs d hc hu hd hi]
end TL
end Go

/- The walks of package seal's inner functions: right, numbers, stream, tag. Conditions: lengths. -/
namespace Go
namespace TL
def rightE (k : Int) (d : List UInt8) : Bool := decide (0 ≤ k) && (decide (k ≤ 1048576) && decide ((d.length : Int) ≤ 8192))
/-- An envelope's numbers. -/
def headL (k : Nat) (b : UInt32) (n : UInt64) : List UInt8 := numL k ++ (numL b.toNat ++ numL n.toNat)
def nonceL (b : UInt32) (n : UInt64) : List UInt8 := bigB b.toUInt64 4 ++ bigB n 8
theorem nonceL_len (b : UInt32) (n : UInt64) : (nonceL b n).length = 12 := by unfold nonceL; rw [List.length_append, bigB_length, bigB_length]
def encL : List UInt8 := [101, 110, 99]
def macT : List UInt8 := [109, 97, 99]
/-- An envelope's text, sealed or opened. -/
def sealL (key : List UInt8) (b : UInt32) (n : UInt64) (text : List UInt8) : List UInt8 := streamL (macL key encL) (nonceL b n) text
/-- The tag that an envelope must have. -/
def tagL (key : List UInt8) (k : Nat) (b : UInt32) (n : UInt64) (about data : List UInt8) : List UInt8 := macL (macL key macT) (headL k b n ++ (textL about ++ textL data))
theorem headL_len (k : Nat) (b : UInt32) (n : UInt64) (h : k < 18446744073709551616) : (headL k b n).length ≤ 30 := by
  have h1 := numL_length_le k h
  have h2 := numL_length_le b.toNat (by have := b.toNat_lt; omega)
  have h3 := numL_length_le n.toNat (by have := n.toNat_lt; omega)
  unfold headL; simp only [List.length_append]; omega
end TL
end Go
namespace Go.Proofs.YtidadhbaomieiaaGreat
open Go.RowKit Go.TL
set_option maxRecDepth 100000 in
set_option maxHeartbeats 2000000 in
theorem sealRight_c (k : Int) (b : UInt32) (n : UInt64) (d t : List UInt8) (w : World) :
    Calls Tryz.prog 74 #[.agg (envC k b n d t).toArray] w fun e w' => e = .returned (.bool (rightE k d)) ∧ Below w.heap.size w w' := by
  have M := Mem.start [] w
  unfold rightE
  by_cases h1 : 0 ≤ k
  · by_cases h2 : k ≤ 1048576
    · by_cases h3 : (d.length : Int) ≤ 8192
      · rw [decide_eq_true h1, decide_eq_true h2, decide_eq_true h3]
        go_enter Tryz.func74, Tryz.ntmps74
        go_wp2_with ((first | ((with_reducible refine tBox (some 1) ?_); refine w_box M _ _ rfl rfl _ rfl (envC k b n d t) rfl ?_; clear M; intro gx w1 M) | ((with_reducible refine tGuard ?_); (with_reducible refine w_stripE ?_ ?_); (focus (refine ⟨_, rfl, ?_⟩; first | (with_reducible rfl) | exact decide_eq_false (by omega) | exact decide_eq_true (by omega)))) | ((with_reducible refine tGuard ?_); first | ((with_reducible refine w_skip1 ?_ ?_); (focus (refine ⟨_, rfl, ?_⟩; first | (with_reducible rfl) | exact decide_eq_false (by omega) | exact decide_eq_true (by omega)))) | ((with_reducible refine w_skip0 ?_ ?_); (focus (refine ⟨_, rfl, ?_⟩; first | (with_reducible rfl) | exact decide_eq_false (by omega) | exact decide_eq_true (by omega))))) | ((with_reducible refine tGuard ?_); refine gdS ?_) | fail | ((with_reducible refine tLoad ?_); go_must (refine ldS ?_)) | ((with_reducible refine tStore ?_); go_must (refine stS ?_; clear M; intro w1 M; (try simp only [setC] at M))) | ((with_reducible refine tBox _ ?_); (refine bxA M ?_; clear M; intro g w1 M))) <;> (try conv => arg 5; simp only [Act.put, List.setIfInBounds_toArray, setC]))
        go_ret
        exact ⟨rfl, M.below⟩
      · rw [decide_eq_true h1, decide_eq_true h2, decide_eq_false h3]
        go_enter Tryz.func74, Tryz.ntmps74
        go_wp2_with ((first | ((with_reducible refine tBox (some 1) ?_); refine w_box M _ _ rfl rfl _ rfl (envC k b n d t) rfl ?_; clear M; intro gx w1 M) | ((with_reducible refine tGuard ?_); (with_reducible refine w_stripE ?_ ?_); (focus (refine ⟨_, rfl, ?_⟩; first | (with_reducible rfl) | exact decide_eq_false (by omega) | exact decide_eq_true (by omega)))) | ((with_reducible refine tGuard ?_); first | ((with_reducible refine w_skip1 ?_ ?_); (focus (refine ⟨_, rfl, ?_⟩; first | (with_reducible rfl) | exact decide_eq_false (by omega) | exact decide_eq_true (by omega)))) | ((with_reducible refine w_skip0 ?_ ?_); (focus (refine ⟨_, rfl, ?_⟩; first | (with_reducible rfl) | exact decide_eq_false (by omega) | exact decide_eq_true (by omega))))) | ((with_reducible refine tGuard ?_); refine gdS ?_) | fail | ((with_reducible refine tLoad ?_); go_must (refine ldS ?_)) | ((with_reducible refine tStore ?_); go_must (refine stS ?_; clear M; intro w1 M; (try simp only [setC] at M))) | ((with_reducible refine tBox _ ?_); (refine bxA M ?_; clear M; intro g w1 M))) <;> (try conv => arg 5; simp only [Act.put, List.setIfInBounds_toArray, setC]))
        go_ret
        exact ⟨rfl, M.below⟩
    · rw [decide_eq_true h1, decide_eq_false h2]
      go_enter Tryz.func74, Tryz.ntmps74
      go_wp2_with ((first | ((with_reducible refine tBox (some 1) ?_); refine w_box M _ _ rfl rfl _ rfl (envC k b n d t) rfl ?_; clear M; intro gx w1 M) | ((with_reducible refine tGuard ?_); (with_reducible refine w_stripE ?_ ?_); (focus (refine ⟨_, rfl, ?_⟩; first | (with_reducible rfl) | exact decide_eq_false (by omega) | exact decide_eq_true (by omega)))) | ((with_reducible refine tGuard ?_); first | ((with_reducible refine w_skip1 ?_ ?_); (focus (refine ⟨_, rfl, ?_⟩; first | (with_reducible rfl) | exact decide_eq_false (by omega) | exact decide_eq_true (by omega)))) | ((with_reducible refine w_skip0 ?_ ?_); (focus (refine ⟨_, rfl, ?_⟩; first | (with_reducible rfl) | exact decide_eq_false (by omega) | exact decide_eq_true (by omega))))) | ((with_reducible refine tGuard ?_); refine gdS ?_) | fail | ((with_reducible refine tLoad ?_); go_must (refine ldS ?_)) | ((with_reducible refine tStore ?_); go_must (refine stS ?_; clear M; intro w1 M; (try simp only [setC] at M))) | ((with_reducible refine tBox _ ?_); (refine bxA M ?_; clear M; intro g w1 M))) <;> (try conv => arg 5; simp only [Act.put, List.setIfInBounds_toArray, setC]))
      go_ret
      exact ⟨rfl, M.below⟩
  · rw [decide_eq_false h1]
    go_enter Tryz.func74, Tryz.ntmps74
    go_wp2_with ((first | ((with_reducible refine tBox (some 1) ?_); refine w_box M _ _ rfl rfl _ rfl (envC k b n d t) rfl ?_; clear M; intro gx w1 M) | ((with_reducible refine tGuard ?_); (with_reducible refine w_stripE ?_ ?_); (focus (refine ⟨_, rfl, ?_⟩; first | (with_reducible rfl) | exact decide_eq_false (by omega) | exact decide_eq_true (by omega)))) | ((with_reducible refine tGuard ?_); first | ((with_reducible refine w_skip1 ?_ ?_); (focus (refine ⟨_, rfl, ?_⟩; first | (with_reducible rfl) | exact decide_eq_false (by omega) | exact decide_eq_true (by omega)))) | ((with_reducible refine w_skip0 ?_ ?_); (focus (refine ⟨_, rfl, ?_⟩; first | (with_reducible rfl) | exact decide_eq_false (by omega) | exact decide_eq_true (by omega))))) | ((with_reducible refine tGuard ?_); refine gdS ?_) | fail | ((with_reducible refine tLoad ?_); go_must (refine ldS ?_)) | ((with_reducible refine tStore ?_); go_must (refine stS ?_; clear M; intro w1 M; (try simp only [setC] at M))) | ((with_reducible refine tBox _ ?_); (refine bxA M ?_; clear M; intro g w1 M))) <;> (try conv => arg 5; simp only [Act.put, List.setIfInBounds_toArray, setC]))
    go_ret
    exact ⟨rfl, M.below⟩
set_option maxRecDepth 100000 in
set_option maxHeartbeats 400000 in
theorem numbers_c (g : Nat) (v : Value) (l : List UInt8) (k : Nat) (b : UInt32) (n : UInt64) (d t : List UInt8) (w : World) (hk : k ≤ 1048576) (hl : l.length ≤ 1000000) (ho : (outC g v l).ok w) :
    Calls Tryz.prog 79 #[.pointer (some ⟨g, 0, none⟩), .agg (envC k b n d t).toArray] w fun e w' => e = .returned (.tuple #[]) ∧ ∃ v', Upd w (outC g v l) w' (outC g v' (l ++ headL k b n)) := by
  have M := Mem.start1 ho
  have h1 := numL_length_le k (by omega)
  have h2 := numL_length_le b.toNat (by have := b.toNat_lt; omega)
  have hb := b.toNat_lt
  have hn := n.toNat_lt
  have e1 := I64_nat k (by omega)
  have e2 : I64 b.toUInt64 = ((b.toNat : Nat) : Int) := by rw [I64_eq, UInt32.toNat_toUInt64]
  replace e2 := Lib.hid fun _ : Unit => e2
  go_enter Tryz.func79, Tryz.ntmps79
  go_wp2_with ((first | ((with_reducible refine tBox (some 3) ?_); refine w_box M _ _ rfl rfl _ rfl (envC k b n d t) rfl ?_; clear M; intro gx w1 M) | (go_at_call 113; go_must (first | (with_reducible refine (Num_c _ _ _ k (k : Int) rfl _ (by omega) (by first | omega | (simp only [List.length_append]; omega)) (M.ok 1 _ rfl)).mono ?_) | (with_reducible refine (Num_c _ _ _ b.toNat (I64 b.toUInt64) (e2.out ()) _ (by omega) (by first | omega | (simp only [List.length_append]; omega)) (M.ok 1 _ rfl)).mono ?_) | (with_reducible refine (Num_c _ _ _ n.toNat (I64 n) (I64_eq n) _ (by omega) (by first | omega | (simp only [List.length_append]; omega)) (M.ok 1 _ rfl)).mono ?_)); rintro e w2 ⟨rfl, v1, U⟩; replace M := M.upd 1 rfl U; clear U) | ((with_reducible refine tGuard ?_); first | refine gdS ?_ | (refine gdC ?_ ?_ <;> (intro hgd; rw [hgd]; try (exfalso; simp at hgd; omega)))) | fail | ((with_reducible refine tLoad ?_); go_must (refine ldS ?_)) | ((with_reducible refine tStore ?_); go_must (refine stS ?_; clear M; intro w1 M; (try simp only [setC] at M))) | ((with_reducible refine tBox _ ?_); (refine bxA M ?_; clear M; intro g w1 M))) <;> (try conv => arg 5; simp only [Act.put, List.setIfInBounds_toArray, setC]))
  simp only [List.append_assoc] at M
  exact bodyPost_end (results_none rfl _ _ _) rfl ⟨rfl, _, (M.tail).upd1 0 rfl⟩
set_option maxRecDepth 100000 in
set_option maxHeartbeats 2000000 in
theorem sealStream_c (key : List UInt8) (k : Int) (b : UInt32) (n : UInt64) (d t text : List UInt8) (w : World) (hk : key.length = 32) (hx : text.length ≤ 1000000) :
    Calls Tryz.prog 75 #[.agg (bs key).toArray, .agg (envC k b n d t).toArray, .string (mkS text)] w fun e w' => e = .returned (.string (mkS (sealL key b n text))) ∧ Below w.heap.size w w' := by
  have M := Mem.start [] w
  have KC := fun w => Key_c key encL w hk (by decide)
  have SE : sealL key b n text = streamL (macL key encL) (nonceL b n) text := rfl
  have hm := macL_len key encL
  have SC := fun w => Stream_c (macL key encL) (nonceL b n) text w hm (nonceL_len b n) hx
  have A1 := fun (w : World) hok => sealPutc (.slice none 0 0) [] b.toUInt64 4 w hok (by omega) (by simp)
  have A2 := fun v (w : World) hok => sealPutc v (bigB b.toUInt64 4) n 8 w hok (by omega) (by rw [bigB_length]; omega)
  have hb1 := bigB_length b.toUInt64 4
  have hn0 := nonceL_len b n
  have hno : bigB b.toUInt64 4 ++ bigB n 8 = nonceL b n := rfl
  rw [hno] at A2
  rw [List.nil_append, show ((4 : Nat) : Int) = 4 from rfl] at A1
  rw [show ((8 : Nat) : Int) = 8 from rfl] at A2
  obtain ⟨m, em⟩ : ∃ m, m = macL key encL := ⟨_, rfl⟩
  rw [← em] at KC SE hm SC
  obtain ⟨nn, enn⟩ : ∃ x, x = nonceL b n := ⟨_, rfl⟩
  rw [← enn] at SE SC A2 hn0
  obtain ⟨b4, eb4⟩ : ∃ x, x = bigB b.toUInt64 4 := ⟨_, rfl⟩
  rw [← eb4] at A1 A2 hb1
  rw [hb1] at A1 A2
  rw [hn0] at A2
  obtain ⟨r, er⟩ : ∃ x, x = sealL key b n text := ⟨_, rfl⟩
  rw [SE] at er
  rw [← er] at SC
  have ER := Lib.hid fun _ : Unit => (show sealL key b n text = r from SE.trans er.symm)
  replace KC := Lib.hid KC
  replace SC := Lib.hid SC
  replace A1 := Lib.hid A1
  replace A2 := Lib.hid A2
  clear em enn eb4 er SE hno
  go_enter Tryz.func75, Tryz.ntmps75
  have NI := Lib.hid fun _ : Unit => (show (List.replicate 12 (0 : UInt8)).take 0 ++ (nn.take 12 ++ (List.replicate 12 0).drop (0 + 12)) = nn by rw [List.take_zero, List.nil_append, List.take_of_length_le (by omega)]; simp)
  have hz : (List.replicate 12 (0 : UInt8)).length = 12 := List.length_replicate
  go_wp2_with ((first | ((with_reducible refine tBox (some 3) ?_); refine w_box M _ _ rfl rfl _ rfl (bs key) rfl ?_; clear M; intro gk w1 M) | ((with_reducible refine tBox (some 4) ?_); refine w_box M _ _ rfl rfl _ rfl (envC k b n d t) rfl ?_; clear M; intro gx w1 M) | ((with_reducible refine tAlloc (some 7) 194 ?_); refine w_alloc M _ rfl rfl (.agg (Array.replicate 12 (.int .u8 0))) (bs (List.replicate 12 (0 : UInt8))) (by kernel_rfl) rfl ?_; clear M; intro gn w1 M) | ((with_reducible show Code.wp _ (Code.region 2 _ _) _ _ _); go_must (have MR := M; refine region_lowc [(0, false), (1, false), (5, false), (2, false), (3, false), (6, false), (4, true), (7, true), (8, true)] [(10, .int)] [(2, _), (6, _)] (IxOk MR [1]) 9 (by kernel_rfl) (by kernel_rfl) rfl (by kernel_rfl) (lowA MR 1 1 (lowA MR 1 2 lows_nil)) (ixOk_self MR _) ?_; replace M := M.drew; simp only [planC, opAt, List.getElem?_toArray, List.getElem?_cons_zero, List.getElem?_cons_succ, Option.getD_some])) | ((with_reducible show Code.wp _ (Code.region 3 _ _) _ _ _); go_must (have MR := M; refine region_lowc [(3, false), (0, false), (2, false), (1, true), (4, true), (5, false)] [] [(0, _), (2, _)] (IxOk MR [2, 0]) 6 (by kernel_rfl) (by kernel_rfl) rfl (by kernel_rfl) (lowA MR 2 0 (lowA MR 0 0 lows_nil)) (ixOk_self MR _) ?_; replace M := M.drew; simp only [planC, opAt, List.getElem?_toArray, List.getElem?_cons_zero, List.getElem?_cons_succ, Option.getD_some])) | (go_at_call 108; go_must (first | (replace M := M.nil 1; with_reducible refine (A1.out _ (M.ok 0 _ rfl)).mono ?_; rintro e w1 ⟨p1, c1, rfl, U⟩; replace M := M.upd 0 rfl U; clear U; simp only [List.set_cons_zero] at M) | (with_reducible refine (A2.out _ _ (M.ok 0 _ rfl)).mono ?_; rintro e w1 ⟨p2, c2, rfl, U⟩; replace M := M.upd 0 rfl U; clear U; simp only [List.set_cons_zero] at M))) | ((with_reducible show wpList _ _ _ (Oper.mk _ (Op.call ⟨Callee.builtin Builtin.copy, _, _⟩) _ _ _ _ :: _) _ _); go_must (refine w_copyB M 1 bytesT _ _ _ rfl rfl rfl rfl rfl (sees_of (M.ok 0 _ rfl) hn0.symm) 12 (by omega) (by omega) ?_; clear M; intro w1 M; simp only [List.set_cons_succ, List.set_cons_zero] at M; rw [NI.out ()] at M; replace M := M.tail)) | (go_at_call 110; go_must (refine (KC.out _).mono ?_; rintro e w1 ⟨rfl, hb⟩; replace M := M.call hb; clear hb)) | (go_at_call 109; go_must (refine (SC.out _).mono ?_; rintro e w1 ⟨rfl, hb⟩; replace M := M.call hb; clear hb)) | ((with_reducible show Seg _ _ _ _); go_must (first | refine Seg.intro ⟨fun h => absurd rfl h, ?_⟩ | refine Seg.intro ⟨fun _ => ixA, ?_⟩ | refine Seg.intro ⟨ndA, atA, ?_⟩)) | ((with_reducible show OnlyN _ _ _ _ _); refine OnlyN.intro (by kernel_rfl) ?_) | ((with_reducible refine tGuard ?_); first | refine gdS ?_ | (refine gdC ?_ ?_ <;> (intro hgd; rw [hgd]; try (exfalso; simp at hgd; omega)))) | ((with_reducible refine tConv _ 70 9 ?_); go_must (refine cvB ?_)) | ((with_reducible refine tLoad ?_); go_must (refine ldB ?_)) | ((with_reducible refine tStore ?_); go_must (refine stB ?_; clear M; intro w1 M; (try simp only [setC] at M))) | ((with_reducible refine tBox _ ?_); (refine bxA M ?_; clear M; intro g w1 M))) <;> (try conv => arg 5; simp only [Act.put, List.setIfInBounds_toArray, setC]))
  go_ret
  exact ⟨congrArg (fun x => Ending.returned (.string (mkS x))) (ER.out ()).symm, M.below⟩
set_option maxRecDepth 100000 in
set_option maxHeartbeats 2000000 in
theorem sealTag_c (key : List UInt8) (k : Nat) (b : UInt32) (n : UInt64) (d t about : List UInt8) (w : World) (hk : key.length = 32) (ht : t.length = 32) (hkk : k ≤ 1048576) (ha : about.length ≤ 100000) (hd : d.length ≤ 100000) :
    Calls Tryz.prog 76 #[.agg (bs key).toArray, .agg (envC k b n d t).toArray, .string (mkS about)] w fun e w' => e = .returned (.agg (bs (tagL key k b n about d)).toArray) ∧ Below w.heap.size w w' := by
  have M := Mem.start [] w
  have KC := fun w => Key_c key macT w hk (by decide)
  have SE : tagL key k b n about d = macL (macL key macT) (headL k b n ++ (textL about ++ textL d)) := rfl
  have hm := macL_len key macT
  have hh := headL_len k b n (by omega)
  have hta : (textL about).length ≤ 100010 := by unfold textL; have := numL_length_le about.length (by omega); simp; omega
  have htd : (textL d).length ≤ 100010 := by unfold textL; have := numL_length_le d.length (by omega); simp; omega
  have NC := fun (g : Nat) (v : Value) (w : World) hok => numbers_c g v [] k b n d t w hkk (by simp) hok
  have T1 := fun (g : Nat) (v : Value) (w : World) hok => Out_Text_c g v (headL k b n) about w (by omega) (by omega) hok
  have T2 := fun (g : Nat) (v : Value) (w : World) hok => Out_Text_c g v (headL k b n ++ textL about) d w (by omega) (by simp; omega) hok
  have TC := fun w => Tag_c (macL key macT) (headL k b n ++ (textL about ++ textL d)) w (by omega) (by simp; omega)
  rw [List.append_assoc] at T2
  rw [List.nil_append] at NC
  obtain ⟨m, em⟩ : ∃ m, m = macL key macT := ⟨_, rfl⟩
  rw [← em] at KC SE hm TC
  obtain ⟨h0, eh⟩ : ∃ x, x = headL k b n := ⟨_, rfl⟩
  rw [← eh] at SE NC T1 T2 TC hh
  obtain ⟨u2, eu⟩ : ∃ x, x = h0 ++ (textL about ++ textL d) := ⟨_, rfl⟩
  rw [← eu] at SE T2 TC
  obtain ⟨u1, eu1⟩ : ∃ x, x = h0 ++ textL about := ⟨_, rfl⟩
  rw [← eu1] at T1 T2
  obtain ⟨r, er⟩ : ∃ x, x = macL m u2 := ⟨_, rfl⟩
  have hr : r.length = 32 := by rw [er]; exact macL_len _ _
  rw [← er] at SE TC
  have ER := Lib.hid fun _ : Unit => SE
  replace KC := Lib.hid KC
  replace NC := Lib.hid NC
  replace T1 := Lib.hid T1
  replace T2 := Lib.hid T2
  replace TC := Lib.hid TC
  clear em eh eu eu1 er SE hta htd hh
  go_enter Tryz.func76, Tryz.ntmps76
  go_wp2_with ((first | ((with_reducible refine tBox (some 3) ?_); refine w_box M _ _ rfl rfl _ rfl (bs key) rfl ?_; clear M; intro gk w1 M) | ((with_reducible refine tBox (some 4) ?_); refine w_box M _ _ rfl rfl _ rfl (envC k b n d t) rfl ?_; clear M; intro gx w1 M) | ((with_reducible refine tAlloc (some 6) 64 ?_); refine w_alloc M _ rfl rfl (.agg (Array.replicate 32 (.int .u8 0))) (bs (List.replicate 32 (0 : UInt8))) (by kernel_rfl) rfl ?_; clear M; intro gr w1 M) | (((with_reducible refine tAlloc (some 7) 155 ?_); refine w_alloc M _ rfl rfl (.agg #[.slice none 0 0]) ([.slice none 0 0]) (by kernel_rfl) rfl ?_; clear M; intro go w1 M); replace M := M.outNew) | ((with_reducible refine tAlloc (some 8) 50 ?_); refine w_alloc M _ rfl rfl (.agg (Array.replicate 32 (.int .u8 0))) (bs (List.replicate 32 (0 : UInt8))) (by kernel_rfl) rfl ?_; clear M; intro gm w1 M) | (go_at_call 79; go_must (refine (NC.out _ _ _ (M.ok 0 _ rfl)).mono ?_; rintro e w2 ⟨rfl, v1, U⟩; replace M := M.upd 0 rfl U; clear U; simp only [List.set_cons_zero] at M)) | (go_at_call 80; go_must ((first | (with_reducible refine (T1.out _ _ _ (M.ok 0 _ rfl)).mono ?_) | (with_reducible refine (T2.out _ _ _ (M.ok 0 _ rfl)).mono ?_)); rintro e w2 ⟨rfl, v2, U⟩; replace M := M.upd 0 rfl U; clear U; simp only [List.set_cons_zero] at M)) | (go_at_call 110; go_must (refine (KC.out _).mono ?_; rintro e w1 ⟨rfl, hb⟩; replace M := M.call hb; clear hb)) | (go_at_call 47; go_must (refine (TC.out _).mono ?_; rintro e w1 ⟨rfl, hb⟩; replace M := M.call hb; clear hb)) | (go_at_call 81; go_must (refine (Out_String_c _ _ _ _ (M.ok 1 _ rfl)).mono ?_; rintro e w1 ⟨rfl, rfl⟩)) | ((with_reducible show Code.wp _ (Code.region 6 _ _) _ _ _); go_must (have MR := M; refine region_lowc [(0, false), (1, false), (2, true), (3, true), (4, true)] [] [(1, _)] (IxOk MR [0]) 4 (by kernel_rfl) (by kernel_rfl) rfl (by kernel_rfl) (lowA MR 0 0 lows_nil) (ixOk_self MR _) ?_; replace M := M.drew; simp only [planC, opAt, List.getElem?_toArray, List.getElem?_cons_zero, List.getElem?_cons_succ, Option.getD_some])) | ((with_reducible refine tLoad ?_); refine w_at _ _ rfl (by exact ev_tmp rfl) ?_; intro hx; (first | refine w_loadE M _ _ _ rfl (by first | exact at2 | exact at3) hx rfl (by decide +kernel) (by decide +kernel) (by first | assumption | exact zeroT_len | exact macL_len _ _) ?_ | refine w_loadTag M _ _ _ rfl (by first | exact at2 | exact at3) hx rfl (by decide +kernel) (by decide +kernel) (by first | assumption | exact zeroT_len | exact macL_len _ _) ?_); clear hx) | ((with_reducible refine tStore ?_); refine w_at2 _ _ _ rfl (by first | exact ev_tmp rfl | exact ev_const) (by first | exact ev_tmp rfl | exact ev_const) ?_; intro hx hy; (first | refine w_storeE M _ _ _ _ rfl (by first | exact at2 | exact at3) hx rfl hy rfl (by decide +kernel) (by first | assumption | exact zeroT_len | exact macL_len _ _) (by first | assumption | exact zeroT_len | exact macL_len _ _) ?_ | refine w_storeE (k := 0) (b := 0) (n := 0) (d := []) (tg := zeroT) M _ _ _ _ rfl (by first | exact at2 | exact at3) hx rfl hy rfl (by decide +kernel) zeroT_len (by first | assumption | exact zeroT_len | exact macL_len _ _) ?_ | refine w_storeE (tg := zeroT) M _ _ _ _ rfl (by first | exact at2 | exact at3) hx rfl hy rfl (by decide +kernel) zeroT_len (by first | assumption | exact zeroT_len | exact macL_len _ _) ?_ | refine w_storeTag M _ _ _ _ rfl (by first | exact at2 | exact at3) hx rfl hy (by decide +kernel) (by first | assumption | exact zeroT_len | exact macL_len _ _) (by first | assumption | exact zeroT_len | exact macL_len _ _) ?_ | refine w_storeData M _ _ _ _ rfl (by first | exact at2 | exact at3) hx rfl hy (by decide +kernel) ?_ | refine w_storeNum M _ _ _ _ rfl (by first | exact at2 | exact at3) hx rfl hy (by decide +kernel) ?_); clear hx hy M; intro w1 M; (try simp only [setC] at M)) | ((with_reducible refine tConv _ 70 9 ?_); (first | refine w_stringTag M _ _ _ _ _ rfl rfl (by first | exact at2 | exact at3) rfl (by first | assumption | exact zeroT_len | exact macL_len _ _) Tryz.underlying70 Tryz.underlying5 Tryz.underlying9 ?_)) | ((with_reducible show Seg _ _ _ _); go_must (first | refine Seg.intro ⟨fun h => absurd rfl h, ?_⟩ | refine Seg.intro ⟨fun _ => ixA, ?_⟩ | refine Seg.intro ⟨ndA, atA, ?_⟩)) | ((with_reducible show OnlyN _ _ _ _ _); refine OnlyN.intro (by kernel_rfl) ?_) | ((with_reducible refine tGuard ?_); first | refine gdS ?_ | (refine gdC ?_ ?_ <;> (intro hgd; rw [hgd]; try (exfalso; simp at hgd; omega)))) | ((with_reducible refine tConv _ 70 9 ?_); go_must (refine cvB ?_)) | ((with_reducible refine tLoad ?_); go_must (refine ldB ?_)) | ((with_reducible refine tStore ?_); go_must (refine stB ?_; clear M; intro w1 M; (try simp only [setC] at M))) | ((with_reducible refine tBox _ ?_); (refine bxA M ?_; clear M; intro g w1 M))) <;> (try conv => arg 5; simp only [Act.put, List.setIfInBounds_toArray, setC]))
  exact bodyPost_ret (results_row rfl _ _ gr 0 (bs r) _ rfl (M.ok 2 _ rfl).2.1 Tryz.underlying64 rfl (by rw [bs_length, hr]; kernel_rfl)) rfl ⟨congrArg (fun x => Ending.returned (.agg (bs x).toArray)) (ER.out ()).symm, M.below⟩
end Go.Proofs.YtidadhbaomieiaaGreat

/- Plain laws of the reference's reader (layer 12's In), and that it does what pack.In does. No program in this text. No conditions but those each lemma names. -/
namespace Go
namespace TL
/-- The reference's reader: what is left, the first fault. -/
structure RS where
  rest : List UInt8
  err : Nat
def RS.num (x : RS) (m : Nat) : Nat × RS :=
  if x.err = 0 then ((readN x.rest m).1, if (readN x.rest m).2.2 = 0 then ⟨x.rest.drop (readN x.rest m).2.1, 0⟩ else ⟨x.rest, (readN x.rest m).2.2⟩) else (0, x)
def RS.text (x : RS) (m : Nat) : List UInt8 × RS :=
  if (x.num m).2.err = 0 then
    if (x.num m).1 ≤ (x.num m).2.rest.length then ((x.num m).2.rest.take (x.num m).1, ⟨(x.num m).2.rest.drop (x.num m).1, 0⟩) else ([], ⟨(x.num m).2.rest, 7⟩)
  else ([], (x.num m).2)
/-- Both readers stand alike. -/
def Alike (x : InS) (y : RS) : Prop := x.err = y.err ∧ (x.err = 0 → x.rest = y.rest)
theorem Alike.most {x : InS} {y : RS} (h : Alike x y) (m : Nat) : (x.most m).1 = (y.num m).1 ∧ Alike (x.most m).2 (y.num m).2 := by
  obtain ⟨h1, h2⟩ := h
  unfold InS.most RS.num
  by_cases h0 : x.err = 0
  · rw [if_pos h0, if_pos (h1 ▸ h0), h2 h0]
    refine ⟨rfl, ?_⟩
    unfold InS.take
    by_cases e : (readN y.rest m).2.2 = 0
    · rw [if_pos e]; simp only [if_pos e]; exact ⟨rfl, fun _ => by rw [h2 h0]⟩
    · rw [if_neg e]; simp only [if_neg e]; exact ⟨rfl, fun h => absurd h e⟩
  · rw [if_neg h0, if_neg (h1 ▸ h0)]
    exact ⟨rfl, h1, fun h => absurd h h0⟩
theorem Alike.text {x : InS} {y : RS} (h : Alike x y) (m : Nat) : (x.text m).1 = (y.text m).1 ∧ Alike (x.text m).2 (y.text m).2 := by
  obtain ⟨h1, h2⟩ := h
  unfold InS.text RS.text RS.num
  by_cases h0 : x.err = 0
  · rw [if_pos h0]
    simp only [if_pos (h1 ▸ h0 : y.err = 0), h2 h0]
    unfold InS.take
    have hl := (read_le (s := y.rest) (most := m) rfl).1
    by_cases e : (readN y.rest m).2.2 = 0
    · simp only [if_pos e, if_true]
      rw [List.length_drop]
      by_cases g : (readN y.rest m).1 ≤ y.rest.length - (readN y.rest m).2.1
      · simp only [if_pos g]
        refine ⟨trivial, rfl, fun _ => ?_⟩
        simp only [List.drop_drop, h2 h0]
      · simp only [if_neg g]
        exact ⟨trivial, rfl, fun h => by simp at h⟩
    · simp only [if_neg e]
      exact ⟨trivial, rfl, fun h => absurd h e⟩
  · rw [if_neg h0]
    simp only [if_neg (h1 ▸ h0 : ¬ y.err = 0)]
    exact ⟨trivial, h1, fun h => absurd h h0⟩
theorem numV_snoc (l : List UInt8) (b : UInt8) : numV (l ++ [b]) = numV l + b.toNat % 128 * 128 ^ l.length := by
  induction l with
  | nil => simp [numV]
  | cons c l ih =>
    simp only [List.cons_append, numV, ih, List.length_cons, Nat.pow_succ]
    have e : 128 * (b.toNat % 128 * 128 ^ l.length) = b.toNat % 128 * (128 ^ l.length * 128) := by rw [Nat.mul_comm 128, Nat.mul_assoc]
    omega
theorem numV_take (s : List UInt8) (k : Nat) (h : k < s.length) : numV (s.take (k + 1)) = numV (s.take k) + (s.getD k 0).toNat % 128 * 128 ^ k := by
  rw [List.take_succ_eq_append_getElem h, numV_snoc, List.length_take, Nat.min_eq_left (by omega), List.getD_eq_getElem?_getD, List.getElem?_eq_getElem h]; rfl
theorem numV_take_lt (s : List UInt8) (k : Nat) (h : k ≤ s.length) : numV (s.take k) < 128 ^ k := by
  have := numV_lt (s.take k)
  rwa [List.length_take, Nat.min_eq_left h] at this
/-- The reference's round, its byte put on. -/
theorem or_shl (n b k : Nat) (hn : n < 128 ^ k) : n ||| b * 2 ^ (7 * k) = n + b * 128 ^ k := by
  have e : (128 : Nat) ^ k = 2 ^ (7 * k) := by rw [show (128 : Nat) = 2 ^ 7 from rfl, ← Nat.pow_mul]
  rw [e] at hn ⊢
  rw [Nat.or_comm, ← Nat.shiftLeft_eq, ← Nat.shiftLeft_add_eq_or_of_lt hn, Nat.add_comm]
end TL
end Go

/- Plain laws of pack's reader: it stays within its bounds; behind a fault nothing is read. No program in this text. No conditions but those each lemma names. -/
namespace Go
namespace TL
theorem readN_le (s : List UInt8) (m : Nat) : (readN s m).2.1 ≤ s.length ∧ (readN s m).2.1 ≤ 10 ∧ (readN s m).1 ≤ m := read_le (s := s) (most := m) rfl
def inStart (s : List UInt8) : InS := ⟨s, 0, 0⟩
/-! ### The reader stays within its bounds -/
theorem InS.take_fit {x : InS} {k e : Nat} (h : x.fit) (hk : k ≤ x.rest.length) : (x.take k e).fit := by
  unfold InS.take InS.fit at *
  split
  · simp only [List.length_drop]; omega
  · exact h
theorem InS.most_fit {x : InS} (h : x.fit) (m : Nat) : (x.most m).2.fit := by
  unfold InS.most
  split
  · exact InS.take_fit h (read_le (s := x.rest) (most := m) rfl).1
  · exact h
theorem InS.text_fit {x : InS} (h : x.fit) (m : Nat) : (x.text m).2.fit := by
  unfold InS.text
  split
  · split
    · split
      · have := (readN_le x.rest m).1
        exact InS.take_fit h (by omega)
      · exact InS.take_fit h (Nat.zero_le _)
    · exact InS.take_fit h (Nat.zero_le _)
  · exact h
theorem InS.byte_fit {x : InS} (h : x.fit) : x.byte.2.fit := by
  unfold InS.byte
  split
  · split
    · exact InS.take_fit h (Nat.zero_le _)
    · rename_i b l e; exact InS.take_fit h (by rw [e]; simp)
  · exact h
theorem InS.most_le (x : InS) (m : Nat) : (x.most m).1 ≤ m := by
  unfold InS.most
  split
  · exact (read_le (s := x.rest) (most := m) rfl).2.2
  · exact Nat.zero_le _
theorem InS.text_len (x : InS) (m : Nat) : (x.text m).1.length ≤ m := by
  unfold InS.text
  split
  · split
    · split
      · have := (readN_le x.rest m).2.2
        simp; omega
      · simp
    · simp
  · simp
/-- Behind a fault nothing is read. -/
theorem InS.text_err {x : InS} (h : x.err ≠ 0) (m : Nat) : x.text m = ([], x) := by unfold InS.text; rw [if_neg h]
theorem InS.most_err {x : InS} (h : x.err ≠ 0) (m : Nat) : x.most m = (0, x) := by unfold InS.most; rw [if_neg h]
theorem fin_err {x : InS} (h : x.err ≠ 0) : x.fin = x.err := by unfold InS.fin; rw [if_neg h]
end TL
end Go

/- Plain laws of pack's reader: numbers and texts, read back and cut. No program in this text. No conditions but those each lemma names. -/
namespace Go
namespace TL
/-! ### Numbers and texts, read back and cut -/
theorem most_num {m n k : Nat} {r : List UInt8} (h : n ≤ m) (h64 : n < 18446744073709551616) : InS.most ⟨numL n ++ r, k, 0⟩ m = (n, ⟨r, k + (numL n).length, 0⟩) := by
  unfold InS.most InS.take
  simp only [if_true]
  rw [read_num n m r h64, if_neg (by omega)]
  simp
theorem text_text {m k : Nat} {t r : List UInt8} (h : t.length ≤ m) (h64 : t.length < 18446744073709551616) : InS.text ⟨textL t ++ r, k, 0⟩ m = (t, ⟨r, k + (textL t).length, 0⟩) := by
  unfold InS.text InS.take textL
  have e := read_num t.length m (t ++ r) h64
  rw [if_neg (by omega)] at e
  simp only [if_true, List.append_assoc]
  rw [e]
  simp only [if_true]
  rw [if_pos (by simp)]
  simp [List.drop_append]
theorem most_cut {m n k j : Nat} {r : List UInt8} (h : n ≤ m) (h64 : n < 18446744073709551616) :
    InS.most ⟨(numL n ++ r).take j, k, 0⟩ m = if j < (numL n).length then (0, ⟨(numL n).take j, k, 7⟩) else (n, ⟨r.take (j - (numL n).length), k + (numL n).length, 0⟩) := by
  rw [List.take_append]
  by_cases hj : j < (numL n).length
  · rw [if_pos hj, show j - (numL n).length = 0 by omega, List.take_zero, List.append_nil]
    unfold InS.most InS.take
    simp only [if_true]
    rw [read_short n m j h64 hj]; simp
  · rw [if_neg hj, List.take_of_length_le (by omega : (numL n).length ≤ j)]
    exact most_num h h64
theorem text_cut {m k j : Nat} {t r : List UInt8} (h : t.length ≤ m) (h64 : t.length < 18446744073709551616) :
    if j < (textL t).length then (InS.text ⟨(textL t ++ r).take j, k, 0⟩ m).2.err = 7 else InS.text ⟨(textL t ++ r).take j, k, 0⟩ m = (t, ⟨r.take (j - (textL t).length), k + (textL t).length, 0⟩) := by
  by_cases hj : j < (textL t).length
  · rw [if_pos hj]
    rw [List.take_append, show j - (textL t).length = 0 by omega, List.take_zero, List.append_nil]
    unfold textL at hj ⊢
    rw [List.take_append]
    unfold InS.text InS.take
    simp only [if_true]
    by_cases h2 : j < (numL t.length).length
    · rw [show j - (numL t.length).length = 0 by omega, List.take_zero, List.append_nil, read_short t.length m j h64 h2]
      simp
    · have e := read_num t.length m (t.take (j - (numL t.length).length)) h64
      rw [if_neg (by omega)] at e
      rw [List.take_of_length_le (by omega : (numL t.length).length ≤ j), e]
      simp only [if_true]
      rw [List.length_append] at hj
      rw [if_neg (by rw [List.length_append, List.length_take]; omega)]
      rfl
  · rw [if_neg hj, List.take_append, List.take_of_length_le (by omega : (textL t).length ≤ j)]
    exact text_text h h64
theorem most_ok {x : InS} {m n : Nat} {y : InS} (h : x.most m = (n, y)) (hx : x.err = 0) (hy : y.err = 0) : x.rest = numL n ++ y.rest ∧ n ≤ m := by
  unfold InS.most InS.take at h
  rw [if_pos hx] at h
  obtain ⟨⟨a, b, c⟩, e⟩ : ∃ R, R = readN x.rest m := ⟨_, rfl⟩
  rw [← e] at h
  simp only [Prod.mk.injEq] at h
  obtain ⟨rfl, rfl⟩ := h
  by_cases hc : c = 0
  · subst hc
    obtain ⟨h1, h2, h3, _⟩ := read_ok e.symm
    simp only [if_true]
    exact ⟨h1, h3⟩
  · rw [if_neg hc] at hy; exact absurd hy hc
theorem text_ok {x : InS} {m : Nat} {t : List UInt8} {y : InS} (h : x.text m = (t, y)) (hx : x.err = 0) (hy : y.err = 0) : x.rest = textL t ++ y.rest ∧ t.length ≤ m := by
  have hlen := InS.text_len x m
  rw [h] at hlen
  refine ⟨?_, hlen⟩
  unfold InS.text InS.take at h
  rw [if_pos hx] at h
  obtain ⟨⟨a, b, c⟩, e⟩ : ∃ R, R = readN x.rest m := ⟨_, rfl⟩
  rw [← e] at h
  by_cases hc : c = 0
  · subst hc
    obtain ⟨h1, h2, h3, _⟩ := read_ok e.symm
    simp only [if_true] at h
    split at h
    · rename_i hl
      simp only [Prod.mk.injEq] at h
      obtain ⟨rfl, rfl⟩ := h
      have e2 : ((x.rest.drop b).take a).length = a := by simp; omega
      unfold textL
      rw [e2, List.append_assoc]
      simp only
      rw [← List.drop_drop, List.take_append_drop]
      exact h1
    · simp only [Prod.mk.injEq] at h
      obtain ⟨_, rfl⟩ := h
      simp at hy
  · simp only [if_neg hc, Prod.mk.injEq] at h
    obtain ⟨_, rfl⟩ := h
    exact absurd hy hc
theorem most_err0 {x : InS} {m : Nat} (h : (x.most m).2.err = 0) : x.err = 0 := by
  by_cases hx : x.err = 0
  · exact hx
  · rw [InS.most_err hx] at h; exact h
theorem text_err0 {x : InS} {m : Nat} (h : (x.text m).2.err = 0) : x.err = 0 := by
  by_cases hx : x.err = 0
  · exact hx
  · rw [InS.text_err hx] at h; exact h
end TL
end Go

/- Plain laws of an envelope's bytes: read back, cut, only. No program in this text. No conditions but those each lemma names. -/
namespace Go
namespace TL
structure Env where
  k : Nat
  b : UInt32
  n : UInt64
  d : List UInt8
  t : List UInt8
def zeroE : Env := ⟨0, 0, 0, [], List.replicate 32 0⟩
/-- An envelope's bytes. -/
def envB (x : Env) : List UInt8 := numL x.k ++ (numL x.b.toNat ++ (numL x.n.toNat ++ (textL x.d ++ x.t)))
def rightEnv (x : Env) : Prop := x.k ≤ 1048576 ∧ x.d.length ≤ 8192 ∧ x.t.length = 32
/-- A tag's bytes are read, one by one. -/
def tagS (x0 : InS) : Nat → InS × List UInt8
  | 0 => (x0, List.replicate 32 0)
  | n + 1 => ((tagS x0 n).1.byte.2, (tagS x0 n).2.set n (UInt8.ofNat (tagS x0 n).1.byte.1))
theorem tagS_succ (x0 : InS) (n : Nat) : tagS x0 (n + 1) = ((tagS x0 n).1.byte.2, (tagS x0 n).2.set n (UInt8.ofNat (tagS x0 n).1.byte.1)) := rfl
theorem tagS_len (x0 : InS) : ∀ n, (tagS x0 n).2.length = 32
  | 0 => List.length_replicate
  | n + 1 => by rw [tagS_succ, List.length_set]; exact tagS_len x0 n
theorem tagS_fit {x0 : InS} (h : x0.fit) : ∀ n, (tagS x0 n).1.fit
  | 0 => h
  | n + 1 => InS.byte_fit (tagS_fit h n)
structure Nums where
  k : Nat
  b : Nat
  n : Nat
  d : List UInt8
  x : InS
def numsS (s : List UInt8) : Nums :=
  let a := (InS.mk s 0 0).most 1048576
  let b := a.2.most 4294967295
  let c := b.2.most maxU
  let d := c.2.text 8192
  ⟨a.1, b.1, c.1, d.1, d.2⟩
/-- The envelope that bytes are, or the fault. -/
def readS (s : List UInt8) : Env × Nat :=
  let a := numsS s
  let e := tagS a.x 32
  if e.1.fin = 0 then (⟨a.k, UInt32.ofNat a.b, UInt64.ofNat a.n, a.d, e.2⟩, 0) else (zeroE, e.1.fin)
theorem readS_zero {s : List UInt8} (h : (readS s).2 ≠ 0) : readS s = (zeroE, (readS s).2) := by
  unfold readS at h ⊢
  simp only at h ⊢
  by_cases e : (tagS (numsS s).x 32).1.fin = 0
  · rw [if_pos e] at h; exact absurd rfl h
  · rw [if_neg e]
theorem byte_has (x : InS) : ∃ q : UInt8, x.byte.1 = q.toNat := by
  unfold InS.byte
  split
  · split
    · exact ⟨0, rfl⟩
    · rename_i b _ _; exact ⟨b, rfl⟩
  · exact ⟨0, rfl⟩
theorem byte_cons (b : UInt8) (r : List UInt8) (k : Nat) : (InS.mk (b :: r) k 0).byte = (b.toNat, ⟨r, k + 1, 0⟩) := rfl
theorem byte_nil (k : Nat) : (InS.mk [] k 0).byte = (0, ⟨[], k, 7⟩) := rfl
theorem byte_bad {x : InS} (h : x.err ≠ 0) : x.byte = (0, x) := by unfold InS.byte; rw [if_neg h]
theorem byte_ok {x : InS} (h : x.byte.2.err = 0) : x.err = 0 ∧ x.rest = UInt8.ofNat x.byte.1 :: x.byte.2.rest := by
  obtain ⟨rest, read, err⟩ := x
  by_cases e : err = 0
  · subst e
    cases rest with
    | nil => cases h
    | cons b r => rw [byte_cons]; exact ⟨rfl, by rw [UInt8.ofNat_toNat]⟩
  · rw [byte_bad e] at h; exact absurd h e
theorem set_take_succ (l : List UInt8) (j : Nat) (v : UInt8) (h : j < l.length) : (l.set j v).take (j + 1) = l.take j ++ [v] := by
  rw [List.take_succ_eq_append_getElem (by simpa using h), List.getElem_set_self, List.take_set_of_le (Nat.le_refl j)]
theorem tagS_back (t r : List UInt8) (k : Nat) (ht : t.length = 32) : ∀ n, n ≤ 32 → (tagS ⟨t ++ r, k, 0⟩ n).1 = ⟨t.drop n ++ r, k + n, 0⟩ ∧ (tagS ⟨t ++ r, k, 0⟩ n).2.take n = t.take n
  | 0, _ => ⟨rfl, rfl⟩
  | n + 1, h => by
    obtain ⟨h1, h2⟩ := tagS_back t r k ht n (by omega)
    have hd : t.drop n = t[n] :: t.drop (n + 1) := List.drop_eq_getElem_cons (by omega)
    have hl := tagS_len ⟨t ++ r, k, 0⟩ n
    rw [tagS_succ, h1, hd, List.cons_append, byte_cons]
    refine ⟨rfl, ?_⟩
    rw [set_take_succ _ _ _ (by omega), h2, UInt8.ofNat_toNat, List.take_succ_eq_append_getElem (by omega)]
theorem tagS_bad {x : InS} (h : x.err ≠ 0) : ∀ n, (tagS x n).1 = x
  | 0 => rfl
  | n + 1 => by rw [tagS_succ, tagS_bad h n, byte_bad h]
theorem tagS_only {x : InS} : ∀ n, n ≤ 32 → (tagS x n).1.err = 0 → x.err = 0 ∧ x.rest = (tagS x n).2.take n ++ (tagS x n).1.rest
  | 0, _, h => ⟨h, rfl⟩
  | n + 1, hn, h => by
    rw [tagS_succ] at h ⊢
    obtain ⟨e1, e2⟩ := byte_ok h
    obtain ⟨h1, h2⟩ := tagS_only n (by omega) e1
    have hl := tagS_len x n
    refine ⟨h1, ?_⟩
    rw [set_take_succ _ _ _ (by omega), h2, e2]
    simp
theorem nums_back (x : Env) (h : rightEnv x) (r : List UInt8) : ∃ k, numsS (numL x.k ++ (numL x.b.toNat ++ (numL x.n.toNat ++ (textL x.d ++ r)))) = ⟨x.k, x.b.toNat, x.n.toNat, x.d, ⟨r, k, 0⟩⟩ := by
  obtain ⟨h1, h2, _⟩ := h
  have hb := x.b.toNat_lt
  have hn := x.n.toNat_lt
  unfold numsS
  simp only
  rw [most_num h1 (by omega)]
  simp only
  rw [most_num (by omega) (by omega)]
  simp only
  rw [most_num (by unfold maxU; omega) (by omega)]
  simp only
  rw [text_text h2 (by omega)]
  exact ⟨_, rfl⟩
/-- An envelope's bytes, read, are it; nothing may be behind them. -/
theorem read_env (x : Env) (h : rightEnv x) (r : List UInt8) : readS (envB x ++ r) = if r = [] then (x, 0) else (zeroE, 8) := by
  have e : envB x ++ r = numL x.k ++ (numL x.b.toNat ++ (numL x.n.toNat ++ (textL x.d ++ (x.t ++ r)))) := by unfold envB; simp only [List.append_assoc]
  obtain ⟨k, hk⟩ := nums_back x h (x.t ++ r)
  obtain ⟨t1, t2⟩ := tagS_back x.t r k h.2.2 32 (Nat.le_refl _)
  have hl := tagS_len ⟨x.t ++ r, k, 0⟩ 32
  rw [List.take_of_length_le (by omega), List.take_of_length_le (by have := h.2.2; omega)] at t2
  rw [List.drop_eq_nil_of_le (by have := h.2.2; omega), List.nil_append] at t1
  unfold readS
  rw [e, hk]
  simp only
  rw [t1, t2]
  by_cases hr : r = []
  · subst hr
    have hf : (InS.mk [] (k + 32) 0).fin = 0 := rfl
    rw [if_pos rfl, if_pos hf, UInt32.ofNat_toNat, UInt64.ofNat_toNat]
  · have hf : (InS.mk r (k + 32) 0).fin = 8 := by unfold InS.fin; rw [if_pos rfl, if_neg (by simpa using hr)]
    rw [if_neg hr, hf, if_neg (by decide)]
/-- Without its last byte it ends too early. -/
theorem read_envless (x : Env) (h : rightEnv x) : readS ((envB x).take ((envB x).length - 1)) = (zeroE, 7) := by
  have h3 := h.2.2
  have hl : (envB x).length = (numL x.k ++ (numL x.b.toNat ++ (numL x.n.toNat ++ textL x.d))).length + 32 := by unfold envB; simp only [List.length_append, h3]; omega
  have e : (envB x).take ((envB x).length - 1) = numL x.k ++ (numL x.b.toNat ++ (numL x.n.toNat ++ (textL x.d ++ x.t.take 31))) := by
    have e1 : envB x = (numL x.k ++ (numL x.b.toNat ++ (numL x.n.toNat ++ textL x.d))) ++ x.t := by unfold envB; simp only [List.append_assoc]
    rw [hl, e1, show (numL x.k ++ (numL x.b.toNat ++ (numL x.n.toNat ++ textL x.d))).length + 32 - 1 = (numL x.k ++ (numL x.b.toNat ++ (numL x.n.toNat ++ textL x.d))).length + 31 by omega, List.take_append, List.take_of_length_le (by omega)]
    rw [Nat.add_sub_cancel_left]
    simp only [List.append_assoc]
  obtain ⟨k, hk⟩ := nums_back x h (x.t.take 31)
  have key : ∀ (t : List UInt8) (k : Nat), t.length = 31 → (tagS ⟨t, k, 0⟩ 32).1.fin = 7 := by
    intro t k ht
    have g : ∀ n, n ≤ 31 → (tagS ⟨t, k, 0⟩ n).1 = ⟨t.drop n, k + n, 0⟩ := by
      intro n
      induction n with
      | zero => intro _; rfl
      | succ n ih =>
        intro hn
        have hd : t.drop n = t[n] :: t.drop (n + 1) := List.drop_eq_getElem_cons (by omega)
        rw [tagS_succ, ih (by omega), hd, byte_cons]; rfl
    have g31 := g 31 (Nat.le_refl _)
    rw [List.drop_eq_nil_of_le (by omega)] at g31
    rw [show (32 : Nat) = 31 + 1 from rfl, tagS_succ, g31, byte_nil]; rfl
  have hf := key (x.t.take 31) k (by rw [List.length_take]; omega)
  unfold readS
  rw [e, hk]
  simp only
  rw [hf, if_neg (by decide)]
/-- What is read is right, and has just these bytes. -/
theorem read_envonly {s : List UInt8} (h : (readS s).2 = 0) : s = envB (readS s).1 ∧ rightEnv (readS s).1 := by
  obtain ⟨⟨a, x1⟩, e1⟩ : ∃ R, R = (InS.mk s 0 0).most 1048576 := ⟨_, rfl⟩
  obtain ⟨⟨b, x2⟩, e2⟩ : ∃ R, R = x1.most 4294967295 := ⟨_, rfl⟩
  obtain ⟨⟨c, x3⟩, e3⟩ : ∃ R, R = x2.most maxU := ⟨_, rfl⟩
  obtain ⟨⟨d, x4⟩, e4⟩ : ∃ R, R = x3.text 8192 := ⟨_, rfl⟩
  have en : numsS s = ⟨a, b, c, d, x4⟩ := by unfold numsS; simp only [← e1, ← e2, ← e3, ← e4]
  have g := fun h => tagS_only (x := x4) 32 (Nat.le_refl _) h
  have hl := tagS_len x4 32
  obtain ⟨⟨x5, t⟩, e5⟩ : ∃ R, R = tagS x4 32 := ⟨_, rfl⟩
  rw [← e5] at g hl
  simp only at g hl
  have er : readS s = if x5.fin = 0 then (⟨a, UInt32.ofNat b, UInt64.ofNat c, d, t⟩, 0) else (zeroE, x5.fin) := by unfold readS; simp only [en, ← e5]
  rw [er] at h ⊢
  by_cases e : x5.fin = 0
  · rw [if_pos e]
    simp only
    have he : x5.err = 0 ∧ x5.rest = [] := by
      unfold InS.fin at e
      by_cases q1 : x5.err = 0
      · rw [if_pos q1] at e
        refine ⟨q1, ?_⟩
        by_cases q2 : x5.rest.length = 0
        · simpa using q2
        · rw [if_neg q2] at e; cases e
      · rw [if_neg q1] at e; exact absurd e q1
    obtain ⟨g1, g2⟩ := g he.1
    rw [he.2, List.append_nil, List.take_of_length_le (by omega)] at g2
    have f3 : x3.err = 0 := text_err0 (m := 8192) (by rw [← e4]; exact g1)
    have f2 : x2.err = 0 := most_err0 (m := maxU) (by rw [← e3]; exact f3)
    have f1 : x1.err = 0 := most_err0 (m := 4294967295) (by rw [← e2]; exact f2)
    obtain ⟨a1, a2⟩ := most_ok e1.symm rfl f1
    obtain ⟨b1, b2⟩ := most_ok e2.symm f1 f2
    obtain ⟨c1, c2⟩ := most_ok e3.symm f2 f3
    obtain ⟨d1, d2⟩ := text_ok e4.symm f3 g1
    rw [maxU_eq] at c2
    refine ⟨?_, a2, d2, hl⟩
    unfold envB
    simp only
    rw [UInt32.toNat_ofNat', UInt64.toNat_ofNat', Nat.mod_eq_of_lt (by omega), Nat.mod_eq_of_lt (by omega), ← g2, ← d1, ← c1, ← b1]
    exact a1
  · rw [if_neg e] at h; exact absurd h e
end TL
end Go

/- Plain: what a ring computes: its keys, what it wraps and opens. No program in this text. Conditions: lengths. -/
namespace Go
namespace TL
def ringT : List UInt8 := [114, 105, 110, 103]
/-- A master's key of a number. -/
def ringU (m : List UInt8) (u : UInt64) : List UInt8 := macL m (ringT ++ bigB u 8)
def ringK (m : List UInt8) (k : Nat) : List UInt8 := ringU m (w64 (k : Int))
theorem ringK_len (m : List UInt8) (k : Nat) : (ringK m k).length = 32 := macL_length _ _
structure RingS where
  m : List UInt8
  c : Nat
  b : UInt32
  n : UInt64
/-- The envelope to which a text is sealed. -/
def RingS.env (R : RingS) (about text : List UInt8) : Env :=
  ⟨R.c, R.b, R.n, sealL (ringK R.m R.c) R.b R.n text, tagL (ringK R.m R.c) R.c R.b R.n about (sealL (ringK R.m R.c) R.b R.n text)⟩
/-- What an envelope's bytes are opened to, or what bars it. -/
def openL (m : List UInt8) (c : Nat) (s about : List UInt8) : List UInt8 × Nat :=
  if (readS s).2 ≠ 0 then ([], (readS s).2) else if c < (readS s).1.k then ([], 20) else
    if (readS s).1.t = tagL (ringK m (readS s).1.k) (readS s).1.k (readS s).1.b (readS s).1.n about (readS s).1.d then (sealL (ringK m (readS s).1.k) (readS s).1.b (readS s).1.n (readS s).1.d, 0) else ([], 13)
theorem RingS.env_right {R : RingS} (about text : List UInt8) (hc : R.c ≤ 1048576) (ht : text.length ≤ 8192) : rightEnv (R.env about text) :=
  ⟨hc, by show (sealL _ _ _ _).length ≤ 8192; unfold sealL; rw [streamL_len]; exact ht, macL_length _ _⟩
theorem RingS.env_bytes (R : RingS) (about text : List UInt8) :
    headL R.c R.b R.n ++ (textL (sealL (ringK R.m R.c) R.b R.n text) ++ tagL (ringK R.m R.c) R.c R.b R.n about (sealL (ringK R.m R.c) R.b R.n text)) = envB (R.env about text) := by
  unfold headL envB RingS.env; simp only [List.append_assoc]
theorem envB_length {x : Env} (h : rightEnv x) : (envB x).length ≤ 8600 := by
  obtain ⟨k, b, n, d, t⟩ := x
  obtain ⟨h1, h2, h3⟩ := h
  simp only at h1 h2 h3
  have e : envB ⟨k, b, n, d, t⟩ = headL k b n ++ (textL d ++ t) := by unfold headL envB; simp only [List.append_assoc]
  rw [e]
  have a1 := headL_len k b n (by omega)
  have a2 : (textL d).length ≤ 8210 := by unfold textL; have := numL_length_le d.length (by omega); simp; omega
  simp only [List.length_append]; omega
/-- What a ring's envelope's bytes are read as. -/
theorem RingS.read {R : RingS} (about text : List UInt8) (hc : R.c ≤ 1048576) (ht : text.length ≤ 8192) : readS (envB (R.env about text)) = (R.env about text, 0) := by
  have h := read_env (R.env about text) (RingS.env_right about text hc ht) []
  rw [List.append_nil, if_pos rfl] at h
  exact h
theorem openL_ok {R : RingS} (about text : List UInt8) (hc : R.c ≤ 1048576) (ht : text.length ≤ 8192) {c : Nat} (h : R.c ≤ c) : openL R.m c (envB (R.env about text)) about = (text, 0) := by
  unfold openL
  rw [RingS.read about text hc ht]
  simp only
  rw [if_neg (by simp), if_neg (by show ¬ c < R.c; omega)]
  have e : sealL (ringK R.m R.c) R.b R.n (sealL (ringK R.m R.c) R.b R.n text) = text := streamL_twice _ _ _
  show (if tagL (ringK R.m R.c) R.c R.b R.n about (sealL (ringK R.m R.c) R.b R.n text) = tagL (ringK R.m R.c) R.c R.b R.n about (sealL (ringK R.m R.c) R.b R.n text) then (sealL (ringK R.m R.c) R.b R.n (sealL (ringK R.m R.c) R.b R.n text), 0) else ([], 13)) = (text, 0)
  rw [if_pos rfl, e]
theorem openL_key {R : RingS} (m about about' text : List UInt8) (hc : R.c ≤ 1048576) (ht : text.length ≤ 8192) {c : Nat} (h : c < R.c) : openL m c (envB (R.env about text)) about' = ([], 20) := by
  unfold openL
  rw [RingS.read about text hc ht]
  simp only
  rw [if_neg (by simp)]
  exact if_pos h
theorem openL_bad {m : List UInt8} {c : Nat} {s about : List UInt8} (h : (readS s).2 ≠ 0) : openL m c s about = ([], (readS s).2) := by
  unfold openL; rw [if_pos h]
theorem openL_far {m : List UInt8} {c : Nat} {s about : List UInt8} (h : (readS s).2 = 0) (hk : c < (readS s).1.k) : openL m c s about = ([], 20) := by
  unfold openL; rw [if_neg (by simpa using h), if_pos hk]
theorem openL_mac {m : List UInt8} {c : Nat} {s about : List UInt8} (h : (readS s).2 = 0) (hk : ¬ c < (readS s).1.k) (ht : ¬ (readS s).1.t = tagL (ringK m (readS s).1.k) (readS s).1.k (readS s).1.b (readS s).1.n about (readS s).1.d) : openL m c s about = ([], 13) := by
  unfold openL; rw [if_neg (by simpa using h), if_neg hk, if_neg ht]
theorem openL_yes {m : List UInt8} {c : Nat} {s about : List UInt8} (h : (readS s).2 = 0) (hk : ¬ c < (readS s).1.k) (ht : (readS s).1.t = tagL (ringK m (readS s).1.k) (readS s).1.k (readS s).1.b (readS s).1.n about (readS s).1.d) : openL m c s about = (sealL (ringK m (readS s).1.k) (readS s).1.b (readS s).1.n (readS s).1.d, 0) := by
  unfold openL; rw [if_neg (by simpa using h), if_neg hk, if_pos ht]
/-- What is opened is no longer than what it was opened from may hold. -/
theorem openL_len (m : List UInt8) (c : Nat) (s about : List UInt8) : (openL m c s about).1.length ≤ 8192 := by
  unfold openL
  split
  · simp
  split
  · simp
  split
  · rename_i h _ _
    have hr := (read_envonly (s := s) (by simpa using h)).2.2.1
    show (sealL _ _ _ _).length ≤ 8192
    unfold sealL; rw [streamL_len]; exact hr
  · simp
end TL
end Go

/- The walks of ring.putBig, ring.Key and of a ring's key, made when it is first asked for. Conditions: the key's number, the master's length. -/
namespace Go
namespace TL
/-- A ring's row. -/
abbrev ringC (R : RingS) (gm : Nat) : List Value := [.string (mkS R.m), .int .i64 R.c, .int .u32 (I32 R.b), .int .u64 (I64 R.n), .map (some gm)]
def slotR (m : List UInt8) (x : Int × Nat) : Chunk := .row x.2 (onceR 1 0 (bs (ringU m (w64 x.1))))
/-- A ring's keys: the map, and the keys that were made. -/
def keysC (m : List UInt8) (gm : Nat) (l : List (Int × Nat)) : Chunk := grp [.blk gm (mapO l), grp (l.map (slotR m))]
def IsKeys (m : List UInt8) (gm : Nat) (K : Chunk) : Prop := ∃ l, K = keysC m gm l
theorem keys_join {m : List UInt8} {gm go : Nat} {l : List (Int × Nat)} {i : Int} {F : List Nat} {w0 w : World} {x1 x2 x3 x4 : Chunk} (M : Mem F w0 w [.row go (onceR 1 0 (bs (ringU m (w64 i)))), x1, x2, x3, x4, .blk gm (mapO (l ++ [(i, go)])), grp (l.map (slotR m))]) :
    Mem F w0 w [.blk gm (mapO (l ++ [(i, go)])), grp ((l ++ [(i, go)]).map (slotR m))] := by
  have M1 : Mem F w0 w [grp (l.map (slotR m)), .row go (onceR 1 0 (bs (ringU m (w64 i)))), .blk gm (mapO (l ++ [(i, go)]))] :=
    M.pick _ (fun i => if i = 0 then 6 else if i = 1 then 0 else 5) (by intro i j hi hj; simp at hi hj; rcases (by omega : i = 0 ∨ i = 1 ∨ i = 2) with rfl | rfl | rfl <;> rcases (by omega : j = 0 ∨ j = 1 ∨ j = 2) with rfl | rfl | rfl <;> simp) (by
      intro i c h
      match i, h with
      | 0, h => simpa using h
      | 1, h => simpa using h
      | 2, h => simpa using h)
  have M2 := (M1.opened rfl).shut ((l ++ [(i, go)]).map (slotR m)) [.blk gm (mapO (l ++ [(i, go)]))] (by simp [slotR])
  exact M2.pick _ (fun i => 1 - i) (by intro i j hi hj h; simp at hi hj; omega) (by
      intro i c h
      match i, h with
      | 0, h => simpa using h
      | 1, h => simpa using h)
section
variable {P : Program} {ops : Array Oper} {rest : List Oper} {o : Oper} {a : Act} {w w0 : World} {Q : Exit → Act → World → Prop} {g : Nat}
/-- A struct or an array in the midst of a row that is there now. -/
theorem w_okA {cs : List Value} (R' : (Chunk.row g cs).ok w) (t : TypeId) (x : Operand) (ho : o.op = .load t x) {off : Nat} (hx : a.eval x = .pointer (some ⟨g, off, none⟩)) (hw : Region.wanted o (yielded ops a.tmps) = true)
    (ht : rowT P t = true) (pre mid post : List Value) (hcs : cs = pre ++ (mid ++ post)) (hpre : pre.length = off) (hn : (P.info? t).map (·.size) = some mid.length) (h : wpList P ops Q rest (a.put o.dst (.agg mid.toArray)) w) : wpList P ops Q (o :: rest) a w := by
  exact wpW hw fun _ hK => by
    unfold rowT at ht
    cases hu : P.underlying t with
    | none => simp [hu] at ht
    | some d =>
      simp only [hu] at ht
      refine wp_load_mid t x ho g off hx mid d ?_ hu ht hn (hK _ _ h)
      intro j v hv
      have hj : j < mid.length := (List.getElem?_eq_some_iff.1 hv).1
      refine rowCell R' ?_
      rw [hcs, ← hpre, List.getElem?_append_right (by omega), Nat.add_sub_cancel_left, List.getElem?_append_left hj]; exact hv
end
end TL
end Go
namespace Go.Proofs.YtidadhbaomieiaaGreat
open Go.RowKit Go.TL
set_option maxRecDepth 100000 in
set_option maxHeartbeats 400000 in
theorem ringPut (base : Nat) (v : Value) (l : List UInt8) (x : UInt64) (n : Nat) (w : World) (hown : OwnB w base v l) (hbase : base ≤ w.heap.size) (hn : n ≤ 8) (hl : l.length ≤ 1000000000000) :
    Calls Tryz.prog 46 #[v, .int .u64 (I64 x), .int .i64 n] w fun e w' => ∃ v', e = .returned v' ∧ OwnB w' base v' (l ++ bigB x n) ∧ w.grownBy w' v.ownBlock ∧ FreshOr w v v' := by
  go_enter Tryz.func46, Tryz.ntmps46
  go_wp2
  go_loopw [0, 7] (fun b i wr => ∃ (j : Nat) (done : List UInt8), j ≤ n ∧ i = .int .i64 ((j : Int) - 1) ∧ done.length ≤ 8 ∧ done ++ bigB x j = bigB x n ∧ OwnB wr base b (l ++ done) ∧ w.grownBy wr v.ownBlock ∧ FreshOr w v b) (fun _ i _ => (intOf i + 1).toNat)
  case atStart => exact ⟨n, [], by omega, rfl, by simp, rfl, by simpa using hown, grownBy_refl _ _, .inl rfl⟩
  case round =>
    obtain ⟨j, done, hj, rfl, hd, H, ho, hg, hf⟩ := hrel
    have H' := Lib.hid H; clear H
    have ho' := Lib.hid ho; clear ho
    have hg' := Lib.hid hg; clear hg
    have hf' := Lib.hid hf; clear hf
    cases j with
    | zero =>
      go_wp2
      go_ret
      have hx : done = bigB x n := by have := H'.out; simpa [bigB] using this
      subst hx
      exact ⟨_, rfl, ho'.out, hg'.out, hf'.out⟩
    | succ i =>
      have e : ((i + 1 : Nat) : Int) - 1 = i := by omega
      rw [e]; clear e
      have b1 : 8 * (i : Int) ≤ 63 := by omega
      have b0 : 0 ≤ 8 * (i : Int) := by omega
      go_wp2_with (at_builtin; refine wpList_append_new bytesT rfl (.tmp 14) (.tmp 20) rfl base wr [_] _ _ rfl u0 (l ++ done) rfl ho'.out rfl ?_ ?_ ?_)
      · simp; omega
      · have := hg'.out.size; omega
      · intro v' w1 hown1 hg1 hf1
        have hg2 := Lib.hid (grow_step hg'.out hf'.out hg1)
        have hf2 := Lib.hid (fresh_trans hg'.out.size hf'.out hf1)
        have hown2 := Lib.hid hown1
        clear hown1 hg1 hf1
        go_wp2
        go_roundw
        case rel => exact ⟨i, done ++ [(x >>> (8 * UInt64.ofNat i)).toUInt8], by omega, by go_num, by have := bigB_length x n; rw [← H'.out] at this; simp [bigB, bigB_length] at this ⊢; omega, by rw [← H'.out]; simp [bigB], hown2.out, hg2.out, hf2.out⟩
        case measure => simp [intOf]
/-- The same, of a piece that is turned. -/
theorem ringPutc (v : Value) (l : List UInt8) (x : UInt64) (n : Nat) (w : World) (hok : (Chunk.sl 1 v l.length (bs l)).ok w) (hn : n ≤ 8) (hl : l.length ≤ 1000000000000) :
    Calls Tryz.prog 46 #[v, .int .u64 (I64 x), .int .i64 n] w fun e w' => ∃ p cap, e = .returned (.slice p (l ++ bigB x n).length cap) ∧ Upd w (.sl 1 v l.length (bs l)) w' (.sl 1 (.slice p (l ++ bigB x n).length cap) (l ++ bigB x n).length (bs (l ++ bigB x n))) :=
  (ringPut 0 v l x n w hok (Nat.zero_le _) hn hl).mono fun e w' h => by
    obtain ⟨v', rfl, ho, hg, hf⟩ := h
    obtain ⟨p, cap, rfl⟩ := Own.form0 ho
    refine ⟨p, cap, rfl, Kept.grown hg, ho, fun k hk => ?_⟩
    simp only [Chunk.fp, Option.mem_toList] at hk ⊢
    rcases hf with hf | ⟨g, h1, h2⟩
    · exact .inl (by rw [← hf]; exact hk)
    · rw [h1] at hk; cases hk; exact .inr h2
set_option maxRecDepth 100000 in
set_option maxHeartbeats 2000000 in
/-- A master's key. -/
theorem ringKey_c (m : List UInt8) (i : Int) (w : World) (hm : m.length ≤ 1000000) :
    Calls Tryz.prog 21 #[.string (mkS m), .int .i64 i] w fun e w' => e = .returned (.agg (bs (ringU m (w64 i))).toArray) ∧ Below w.heap.size w w' := by
  have M := Mem.start [] w
  have A1 := fun v (w : World) hok => ringPutc v ringT (w64 i) 8 w hok (by omega) (by decide)
  have TC := fun w => Tag_c m (ringT ++ bigB (w64 i) 8) w (by omega) (by rw [List.length_append, bigB_length]; decide)
  have hl : (ringT ++ bigB (w64 i) 8).length = 12 := by rw [List.length_append, bigB_length]; rfl
  have SE : ringU m (w64 i) = macL m (ringT ++ bigB (w64 i) 8) := rfl
  have hr : (macL m (ringT ++ bigB (w64 i) 8)).length = 32 := macL_len _ _
  obtain ⟨r, er⟩ : ∃ r, r = macL m (ringT ++ bigB (w64 i) 8) := ⟨_, rfl⟩
  rw [← er] at SE TC hr
  rw [SE]
  obtain ⟨q, eq⟩ : ∃ q, q = ringT ++ bigB (w64 i) 8 := ⟨_, rfl⟩
  rw [← eq] at TC A1 hl
  have A2 : ∀ (v : Value) (w : World), (Chunk.sl 1 v 4 (bs [114, 105, 110, 103])).ok w → Calls Tryz.prog 46 #[v, .int .u64 (I64 (w64 i)), .int .i64 8] w fun e w' => ∃ p cap, e = .returned (.slice p q.length cap) ∧ Upd w (.sl 1 v 4 (bs [114, 105, 110, 103])) w' (.sl 1 (.slice p q.length cap) q.length (bs q)) := A1
  replace A2 := Lib.hid A2
  replace TC := Lib.hid TC
  clear er eq A1 SE
  clear hl
  go_enter Tryz.func21, Tryz.ntmps21
  go_wp2_with ((first | ((with_reducible refine tAlloc (some 4) 50 ?_); refine w_alloc M _ rfl rfl (.agg (Array.replicate 32 (.int .u8 0))) (bs (List.replicate 32 (0 : UInt8))) (by kernel_rfl) rfl ?_; clear M; intro gr w1 M) | ((with_reducible show wpList _ _ _ (Oper.mk _ (Op.buildSlice 70 4 _) _ _ _ _ :: _) _ _); go_must (refine w_lit4 bytesT (b0 := 114) (b1 := 105) (b2 := 110) (b3 := 103) _ _ _ _ rfl rfl rfl rfl rfl rfl ?_; intro g wm eg ew; replace eg := Lib.hid eg; replace ew := Lib.hid ew)) | ((with_reducible show wpList _ _ _ (Oper.mk _ (Op.convert 70 70 _) _ _ _ _ :: _) _ _); go_must (refine w_mark (l := [114, 105, 110, 103]) M eg.out ew.out _ rfl rfl Tryz.underlying70 Tryz.underlying5 rfl (by decide) rfl ?_; clear M eg ew; intro w1 M)) | (go_at_call 46; go_must (with_reducible refine (A2.out _ _ (M.ok 0 _ rfl)).mono ?_; rintro e w1 ⟨p1, c1, rfl, U⟩; replace M := M.upd 0 rfl U; clear U; simp only [List.set_cons_zero] at M)) | (go_at_call 47; go_must (refine (TC.out _).mono ?_; rintro e w1 ⟨rfl, hb⟩; replace M := M.call hb; clear hb)) | ((with_reducible refine tGuard ?_); first | refine gdS ?_ | (refine gdC ?_ ?_ <;> (intro hgd; rw [hgd]; try (exfalso; simp at hgd; omega)))) | ((with_reducible refine tConv _ 70 9 ?_); go_must (refine cvB ?_)) | ((with_reducible refine tLoad ?_); go_must (refine ldB ?_)) | ((with_reducible refine tStore ?_); go_must (refine stB ?_; clear M; intro w1 M; (try simp only [setC] at M))) | ((with_reducible refine tBox _ ?_); (refine bxA M ?_; clear M; intro g w1 M))) <;> (try conv => arg 5; simp only [Act.put, List.setIfInBounds_toArray, setC]))
  exact bodyPost_ret (results_row rfl _ _ gr 0 (bs r) _ rfl (M.ok 1 _ rfl).2.1 Tryz.underlying50 rfl (by rw [bs_length, hr]; kernel_rfl)) rfl ⟨rfl, M.below⟩
set_option maxRecDepth 100000 in
set_option maxHeartbeats 2000000 in
/-- The closure that makes a key. -/
theorem key1_c {F : List Nat} {w0 w : World} {R : RingS} {g gm go gs gi gv : Nat} {i : Int} {z : List UInt8} {x : Chunk} {L : List Chunk} (hm : R.m.length ≤ 1000000) (RR : (Chunk.row g (ringC R gm)).ok w0) (nR : g ∉ F) (hz : z.length = 32)
    (M : Mem F w0 w (.row go (onceR 0 1 (bs z)) :: .row gs [.pointer (some ⟨go, 0, none⟩)] :: x :: .row gi [.int .i64 i] :: .row gv [.pointer (some ⟨g, 0, none⟩)] :: L)) :
    Calls Tryz.prog 78 #[.pointer (some ⟨gv, 0, none⟩), .pointer (some ⟨gi, 0, none⟩), .pointer (some ⟨gs, 0, none⟩)] w fun e w' => e = .returned (.tuple #[]) ∧ Mem F w0 w' (.row go (onceR 0 1 (bs (ringU R.m (w64 i)))) :: .row gs [.pointer (some ⟨go, 0, none⟩)] :: x :: .row gi [.int .i64 i] :: .row gv [.pointer (some ⟨g, 0, none⟩)] :: L) := by
  have KC := fun w => ringKey_c R.m i w hm
  have hr : (ringU R.m (w64 i)).length = 32 := macL_len _ _
  obtain ⟨r, er⟩ : ∃ r, r = ringU R.m (w64 i) := ⟨_, rfl⟩
  rw [← er] at KC hr ⊢
  replace KC := Lib.hid KC
  clear er
  go_enter Tryz.func78, Tryz.ntmps78
  go_wp2_with ((first | ((with_reducible show Code.wp _ (Code.region 0 _ _) _ _ _); go_must (have MR := M; refine region_lowc [(0, false), (1, false), (2, false), (3, false), (4, false), (5, false), (6, true), (7, true), (8, false), (9, true)] [(4, .ptr)] [(0, _), (1, _), (4, _), (5, _)] (IxOk MR [1, 4, 3]) 9 (by kernel_rfl) (by kernel_rfl) rfl (by kernel_rfl) (lowA MR 1 0 (lowA MR 4 0 (lows_cons (stab_rowF MR RR nR 0 rfl (by decide +kernel) rfl) (lowA MR 3 0 lows_nil)))) (ixOk_self MR _) ?_; replace M := M.drew; simp only [planC, opAt, List.getElem?_toArray, List.getElem?_cons_zero, List.getElem?_cons_succ, Option.getD_some])) | (go_at_call 21; go_must (refine (KC.out _).mono ?_; rintro e w1 ⟨rfl, hb⟩; replace M := M.call hb; clear hb)) | ((with_reducible show wpList _ _ _ (Oper.mk _ (Op.store 50 _ _) _ _ _ _ :: _) _ _); go_must (refine w_storeA M 0 _ _ _ rfl rfl rfl rfl (bs r) rfl rfl (by rw [bs_length, hr]; kernel_rfl) (bs_one r) [.int .u32 0, .int .i32 1, .int .u32 0] (bs z) [] (by simp) rfl (by rw [bs_length, bs_length, hr, hz]) ?_; clear M; intro w1 M; simp only [setC, List.append_nil, List.cons_append, List.nil_append] at M)) | ((with_reducible refine tLoad ?_); refine w_at _ _ rfl (by exact ev_tmp rfl) ?_; intro hx; (first | refine w_rowF M RR nR _ _ rfl hx rfl (by decide +kernel) (by exact rfl) ?_); clear hx) | ((with_reducible show Seg _ _ _ _); go_must (first | refine Seg.intro ⟨fun h => absurd rfl h, ?_⟩ | refine Seg.intro ⟨fun _ => ixA, ?_⟩ | refine Seg.intro ⟨ndA, atA, ?_⟩)) | ((with_reducible show OnlyN _ _ _ _ _); refine OnlyN.intro (by kernel_rfl) ?_) | ((with_reducible refine tGuard ?_); first | refine gdS ?_ | (refine gdC ?_ ?_ <;> (intro hgd; rw [hgd]; try (exfalso; simp at hgd; omega)))) | fail | ((with_reducible refine tLoad ?_); go_must (refine ldS ?_)) | ((with_reducible refine tStore ?_); go_must (refine stS ?_; clear M; intro w1 M; (try simp only [setC] at M))) | ((with_reducible refine tBox _ ?_); (refine bxA M ?_; clear M; intro g w1 M))) <;> (try conv => arg 5; simp only [Act.put, List.setIfInBounds_toArray, setC]))
  exact bodyPost_end (results_none rfl _ _ _) rfl ⟨rfl, M⟩
end Go.Proofs.YtidadhbaomieiaaGreat

/- The walk of a ring's key, made when it is first asked for. Conditions: the master's length. -/
namespace Go.Proofs.YtidadhbaomieiaaGreat
open Go.RowKit Go.TL
set_option maxRecDepth 100000 in
set_option maxHeartbeats 4000000 in
theorem ringkey_c (R : RingS) (g gm : Nat) (K : Chunk) (i : Int) (w : World) (hm : R.m.length ≤ 1000000) (RR : (Chunk.row g (ringC R gm)).ok w) (nR : g ∉ K.fp) (hK : K.ok w) (IK : IsKeys R.m gm K) :
    Calls Tryz.prog 40 #[.pointer (some ⟨g, 0, none⟩), .int .i64 i] w fun e w' => e = .returned (.agg (bs (ringU R.m (w64 i))).toArray) ∧ ∃ K', IsKeys R.m gm K' ∧ Upd w K w' K' := by
  obtain ⟨l, rfl⟩ := IK
  have M : Mem (keysC R.m gm l).fp w w [.blk gm (mapO l), grp (l.map (slotR R.m))] := Mem.startG hK
  have hmf : ∀ (fn : Fn) (first cap : Array Value) (w : World), (Instr.makeFunc fn first cap).run Tryz.prog w = .ok (.func fn first cap) w := fun _ _ _ _ => rfl
  have hr : (ringU R.m (w64 i)).length = 32 := macL_len _ _
  obtain ⟨F, eF⟩ : ∃ F, F = (keysC R.m gm l).fp := ⟨_, rfl⟩
  rw [← eF] at M nR
  have EF := Lib.hid fun _ : Unit => eF
  have hz0 : (List.replicate 32 (0 : UInt8)).length = 32 := List.length_replicate
  clear eF hK
  cases hl : lookP l i with
  | none =>
    have HL := Lib.hid hl
    clear hl
    have KU : ∀ (w' : World) (go : Nat) (x1 x2 x3 x4 : Chunk), Mem F w w' [.row go (onceR 1 0 (bs (ringU R.m (w64 i)))), x1, x2, x3, x4, .blk gm (mapO (l ++ [(i, go)])), grp (l.map (slotR R.m))] → ∃ K', IsKeys R.m gm K' ∧ Upd w (keysC R.m gm l) w' K' := by
      intro w' go x1 x2 x3 x4 M
      rw [EF.out ()] at M
      exact ⟨keysC R.m gm (l ++ [(i, go)]), ⟨_, rfl⟩, (keys_join M).updG [] rfl⟩
    replace KU := Lib.hid KU
    clear EF
    go_enter Tryz.func40, Tryz.ntmps40
    go_wp2_with ((first | ((with_reducible refine tBox (some 2) ?_); refine w_box M _ _ rfl rfl _ rfl ([.pointer (some ⟨g, 0, none⟩)]) rfl ?_; clear M; intro gv w1 M) | ((with_reducible refine tBox (some 3) ?_); refine w_box M _ _ rfl rfl _ rfl ([.int .i64 i]) rfl ?_; clear M; intro gi w1 M) | ((with_reducible refine tAlloc (some 4) 50 ?_); refine w_alloc M _ rfl rfl (.agg (Array.replicate 32 (.int .u8 0))) (bs (List.replicate 32 (0 : UInt8))) (by kernel_rfl) rfl ?_; clear M; intro gt w1 M) | ((with_reducible refine tAlloc (some 5) 140 ?_); refine w_alloc M _ rfl rfl (.pointer none) ([.pointer none]) (by kernel_rfl) rfl ?_; clear M; intro gs w1 M) | ((with_reducible refine tBox (some 19) ?_); refine w_box M _ _ rfl rfl _ rfl (onceR 0 0 (bs (List.replicate 32 0))) rfl ?_; clear M; intro go w1 M) | ((with_reducible show Code.wp _ (Code.region 1 _ _) _ _ _); go_must (have MR := M; refine region_fork (.rd 0 (.rd 1 (.rd 2 (.rd 3 (.rd 4 (.alt 5 (.rd 6 (.rd 7 (.rd 8 (.wr 9 (.wr 10 (.rd 11 .nil)))))) (.wr 9 (.wr 5 (.rd 6 (.rd 7 (.rd 8 (.wr 10 (.rd 11 .nil))))))))))))) [(8, .ptr)] [(0, _), (3, _), (4, _)] (IxOk MR [2, 1]) 12 (by kernel_rfl) (by kernel_rfl) rfl (by kernel_rfl) (lowA MR 2 0 (lows_cons (stab_rowF MR RR nR 4 rfl (by decide +kernel) rfl) (lowA MR 1 0 lows_nil))) (ixOk_self MR _) ?_; replace M := M.drew; simp only [planT, opAt, List.getElem?_toArray, List.getElem?_cons_zero, List.getElem?_cons_succ, Option.getD_some])) | ((with_reducible show Code.wp _ (Code.region 4 _ _) _ _ _); go_must (have MR := M; refine region_lowc [(0, false), (1, false), (2, false), (3, false), (4, false), (5, false), (6, true)] [(20, .ptr)] [(0, _), (3, _), (4, _), (5, _)] (IxOk MR [4, 3, 1]) 6 (by kernel_rfl) (by kernel_rfl) rfl (by kernel_rfl) (lowA MR 4 0 (lows_cons (stab_rowF MR RR nR 4 rfl (by decide +kernel) rfl) (lowA MR 3 0 (lowA MR 1 0 lows_nil)))) (ixOk_self MR _) ?_; replace M := M.drew; simp only [planC, opAt, List.getElem?_toArray, List.getElem?_cons_zero, List.getElem?_cons_succ, Option.getD_some])) | ((with_reducible show wpList _ _ _ (Oper.mk _ (Op.lookup _ _ _ true) _ _ _ _ :: _) _ _); go_must (first | refine w_lookNo M 3 _ _ _ rfl rfl Tryz.underlying88 Tryz.underlying3 (by kernel_rfl) rfl rfl rfl HL.out ?_ | refine w_lookNo M 4 _ _ _ rfl rfl Tryz.underlying88 Tryz.underlying3 (by kernel_rfl) rfl rfl rfl HL.out ?_)) | ((with_reducible show wpList _ _ _ (Oper.mk _ (Op.mapUpdate _ _ _ _) _ _ _ _ :: _) _ _); go_must (refine w_mapNew M 5 _ _ _ _ rfl rfl Tryz.underlying88 Tryz.underlying3 rfl rfl rfl rfl HL.out ?_; clear M; intro w1 M; simp only [setC] at M)) | (go_at_call 77; go_must (refine (do_first M (fun w1 M1 => key1_c hm RR nR hz0 M1)).mono ?_; rintro e w1 ⟨rfl, M2⟩; replace M := M2; clear M2)) | ((with_reducible show wpList _ _ _ (Oper.mk _ (Op.load 50 _) _ _ _ _ :: _) _ _); go_must (refine w_loadA M 0 _ _ rfl rfl rfl rfl (by decide +kernel) [.int .u32 1, .int .i32 0, .int .u32 0] (bs (ringU R.m (w64 i))) [] (by simp) rfl (by rw [bs_length, hr]; kernel_rfl) ?_)) | ((with_reducible refine tLoad ?_); refine w_at _ _ rfl (by exact ev_tmp rfl) ?_; intro hx; (first | refine w_rowF M RR nR _ _ rfl hx rfl (by decide +kernel) (by exact rfl) ?_); clear hx) | (with_reducible refine Seg.alt ?_ ?_) | ((with_reducible show Seg _ _ _ _); go_must (first | refine Seg.intro ⟨fun h => absurd rfl h, ?_⟩ | refine Seg.intro ⟨fun _ => ixA, ?_⟩ | refine Seg.intro ⟨ndA, atA, ?_⟩)) | ((with_reducible show OnlyN _ _ _ _ _); refine OnlyN.intro (by kernel_rfl) ?_) | ((with_reducible refine tGuard ?_); first | refine gdS ?_ | (refine gdC ?_ ?_ <;> (intro hgd; rw [hgd]; try (exfalso; simp at hgd; omega)))) | ((with_reducible refine tConv _ 70 9 ?_); go_must (refine cvB ?_)) | ((with_reducible refine tLoad ?_); go_must (refine ldB ?_)) | ((with_reducible refine tStore ?_); go_must (refine stB ?_; clear M; intro w1 M; (try simp only [setC] at M))) | ((with_reducible refine tBox _ ?_); (refine bxA M ?_; clear M; intro g w1 M))) <;> (try conv => arg 5; simp only [Act.put, List.setIfInBounds_toArray, setC]))
    all_goals exact bodyPost_ret (results_row rfl _ _ gt 0 (bs (ringU R.m (w64 i))) _ rfl (M.ok 2 _ rfl).2.1 Tryz.underlying50 rfl (by rw [bs_length, hr]; kernel_rfl)) rfl ⟨rfl, KU.out _ _ _ _ _ _ M⟩
  | some go =>
    obtain ⟨j, hj⟩ := lookP_mem hl
    have SO : ∀ (w' : World) (L : List Chunk) (n : Nat), Mem F w w' L → L[n]? = some (grp (l.map (slotR R.m))) → (Chunk.row go (onceR 1 0 (bs (ringU R.m (w64 i))))).ok w' := fun w' L n M h => (M.ok n _ h).2.1.1 j _ (by rw [List.getElem?_map, hj]; rfl)
    replace SO := Lib.hid SO
    have HL := Lib.hid hl
    clear hl hj
    have KU : ∀ (w' : World) (x1 x2 x3 x4 : Chunk), Mem F w w' [x1, x2, x3, x4, .blk gm (mapO l), grp (l.map (slotR R.m))] → ∃ K', IsKeys R.m gm K' ∧ Upd w (keysC R.m gm l) w' K' := by
      intro w' x1 x2 x3 x4 M
      rw [EF.out ()] at M
      exact ⟨keysC R.m gm l, ⟨_, rfl⟩, M.tail.tail.tail.tail.updG [] rfl⟩
    replace KU := Lib.hid KU
    clear EF
    go_enter Tryz.func40, Tryz.ntmps40
    go_wp2_with ((first | ((with_reducible refine tBox (some 2) ?_); refine w_box M _ _ rfl rfl _ rfl ([.pointer (some ⟨g, 0, none⟩)]) rfl ?_; clear M; intro gv w1 M) | ((with_reducible refine tBox (some 3) ?_); refine w_box M _ _ rfl rfl _ rfl ([.int .i64 i]) rfl ?_; clear M; intro gi w1 M) | ((with_reducible refine tAlloc (some 4) 50 ?_); refine w_alloc M _ rfl rfl (.agg (Array.replicate 32 (.int .u8 0))) (bs (List.replicate 32 (0 : UInt8))) (by kernel_rfl) rfl ?_; clear M; intro gt w1 M) | ((with_reducible refine tAlloc (some 5) 140 ?_); refine w_alloc M _ rfl rfl (.pointer none) ([.pointer none]) (by kernel_rfl) rfl ?_; clear M; intro gs w1 M) | ((with_reducible show Code.wp _ (Code.region 1 _ _) _ _ _); go_must (have MR := M; refine region_fork (.rd 0 (.rd 1 (.rd 2 (.rd 3 (.rd 4 (.alt 5 (.rd 6 (.rd 7 (.rd 8 (.wr 9 (.wr 10 (.rd 11 .nil)))))) (.wr 9 (.wr 5 (.rd 6 (.rd 7 (.rd 8 (.wr 10 (.rd 11 .nil))))))))))))) [(8, .ptr)] [(0, _), (3, _), (4, _)] (IxOk MR [2, 1]) 12 (by kernel_rfl) (by kernel_rfl) rfl (by kernel_rfl) (lowA MR 2 0 (lows_cons (stab_rowF MR RR nR 4 rfl (by decide +kernel) rfl) (lowA MR 1 0 lows_nil))) (ixOk_self MR _) ?_; replace M := M.drew; simp only [planT, opAt, List.getElem?_toArray, List.getElem?_cons_zero, List.getElem?_cons_succ, Option.getD_some])) | ((with_reducible show wpList _ _ _ (Oper.mk _ (Op.lookup _ _ _ true) _ _ _ _ :: _) _ _); go_must (first | refine w_lookYes M 3 _ _ _ rfl rfl Tryz.underlying88 Tryz.underlying3 rfl rfl rfl HL.out ?_ | refine w_lookYes M 4 _ _ _ rfl rfl Tryz.underlying88 Tryz.underlying3 rfl rfl rfl HL.out ?_)) | (go_at_call 77; go_must (refine (do_done (d := 1) (by decide) _ (rowCell (SO.out _ _ 5 M rfl) rfl)).mono ?_; rintro e w1 ⟨rfl, rfl⟩)) | ((with_reducible show wpList _ _ _ (Oper.mk _ (Op.load 50 _) _ _ _ _ :: _) _ _); go_must (refine w_okA (SO.out _ _ 5 M rfl) _ _ rfl rfl rfl (by decide +kernel) [.int .u32 1, .int .i32 0, .int .u32 0] (bs (ringU R.m (w64 i))) [] (by simp) rfl (by rw [bs_length, hr]; kernel_rfl) ?_)) | ((with_reducible refine tLoad ?_); refine w_at _ _ rfl (by exact ev_tmp rfl) ?_; intro hx; (first | refine w_rowF M RR nR _ _ rfl hx rfl (by decide +kernel) (by exact rfl) ?_); clear hx) | (with_reducible refine Seg.alt ?_ ?_) | ((with_reducible show Seg _ _ _ _); go_must (first | refine Seg.intro ⟨fun h => absurd rfl h, ?_⟩ | refine Seg.intro ⟨fun _ => ixA, ?_⟩ | refine Seg.intro ⟨ndA, atA, ?_⟩)) | ((with_reducible show OnlyN _ _ _ _ _); refine OnlyN.intro (by kernel_rfl) ?_) | ((with_reducible refine tGuard ?_); first | refine gdS ?_ | (refine gdC ?_ ?_ <;> (intro hgd; rw [hgd]; try (exfalso; simp at hgd; omega)))) | ((with_reducible refine tConv _ 70 9 ?_); go_must (refine cvB ?_)) | ((with_reducible refine tLoad ?_); go_must (refine ldB ?_)) | ((with_reducible refine tStore ?_); go_must (refine stB ?_; clear M; intro w1 M; (try simp only [setC] at M))) | ((with_reducible refine tBox _ ?_); (refine bxA M ?_; clear M; intro g w1 M))) <;> (try conv => arg 5; simp only [Act.put, List.setIfInBounds_toArray, setC]))
    all_goals exact bodyPost_ret (results_row rfl _ _ gt 0 (bs (ringU R.m (w64 i))) _ rfl (M.ok 1 _ rfl).2.1 Tryz.underlying50 rfl (by rw [bs_length, hr]; kernel_rfl)) rfl ⟨rfl, KU.out _ _ _ _ _ M⟩
end Go.Proofs.YtidadhbaomieiaaGreat

/- The walks of a ring's methods: New, none, Current, Rotate, Count. Conditions: the current key's number. -/
namespace Go.Proofs.YtidadhbaomieiaaGreat
open Go.RowKit Go.TL
/-- A ring, in memory. -/
def IsRing (g : Nat) (R : RingS) (c : Chunk) : Prop := ∃ gm K, IsKeys R.m gm K ∧ c = grp [.row g (ringC R gm), K]
theorem map_eql_nil {P : Program} {t k e : TypeId} (ht : P.underlying t = some (.map k e)) (g : Nat) (w : World) : (binOp .eql t (.map (some g)) (.map none)).run P w = .ok (.bool false) w := by
  have h : (Op.equalIn (9999 + 1) t (.map (some g)) (.map none)).run P w = .ok false w := by
    unfold Op.equalIn
    simp [run_underlying ht]
  have h' : (Op.equalIn Op.maxDepth t (.map (some g)) (.map none)).run P w = .ok false w := h
  unfold binOp Op.equal
  simp [h']
theorem map_eql_none {P : Program} {t k e : TypeId} (ht : P.underlying t = some (.map k e)) (w : World) : (binOp .eql t (.map none) (.map none)).run P w = .ok (.bool true) w := by
  have h : (Op.equalIn (9999 + 1) t (.map none) (.map none)).run P w = .ok true w := by
    unfold Op.equalIn
    simp [run_underlying ht]
  have h' : (Op.equalIn Op.maxDepth t (.map none) (.map none)).run P w = .ok true w := h
  unfold binOp Op.equal
  simp [h']
section
variable {g gm : Nat} {R : RingS} {K c : Chunk} {w : World}
theorem ring_row (h : (grp [.row g (ringC R gm), K]).ok w) : (Chunk.row g (ringC R gm)).ok w := h.2.1.1 0 _ rfl
theorem ring_keys (h : (grp [.row g (ringC R gm), K]).ok w) : K.ok w := h.2.1.1 1 _ rfl
theorem ring_apart (h : (grp [.row g (ringC R gm), K]).ok w) : g ∉ K.fp := fun hk => h.2.1.2 0 1 _ _ (by decide) rfl rfl g (by simp [Chunk.fp]) hk
set_option maxRecDepth 100000 in
set_option maxHeartbeats 2000000 in
theorem ringNone_nil (w : World) : Calls Tryz.prog 37 #[.pointer none] w fun e w' => e = .returned (.bool true) ∧ w = w' := by
  have M := Mem.start [] w
  go_enter Tryz.func37, Tryz.ntmps37
  go_wp2_with ((first | ((with_reducible refine tGuard ?_); first | refine gdS ?_ | (refine gdC ?_ ?_ <;> (intro hgd; rw [hgd]; try (exfalso; simp at hgd; omega)))) | fail | ((with_reducible refine tLoad ?_); go_must (refine ldS ?_)) | ((with_reducible refine tStore ?_); go_must (refine stS ?_; clear M; intro w1 M; (try simp only [setC] at M))) | ((with_reducible refine tBox _ ?_); (refine bxA M ?_; clear M; intro g w1 M))) <;> (try conv => arg 5; simp only [Act.put, List.setIfInBounds_toArray, setC]))
  go_ret
  exact ⟨rfl, rfl⟩
set_option maxRecDepth 100000 in
set_option maxHeartbeats 2000000 in
theorem ringNone_no (RR : (Chunk.row g (ringC R gm)).ok w) : Calls Tryz.prog 37 #[.pointer (some ⟨g, 0, none⟩)] w fun e w' => e = .returned (.bool false) ∧ w = w' := by
  have M := Mem.start [] w
  have nR : g ∉ ([] : List Nat) := by simp
  have hme := fun g w => map_eql_nil (P := Tryz.prog) Tryz.underlying88 g w
  go_enter Tryz.func37, Tryz.ntmps37
  go_wp2_with ((first | ((with_reducible refine tLoad ?_); refine w_at _ _ rfl (by exact ev_tmp rfl) ?_; intro hx; (first | refine w_rowF M RR nR _ _ rfl hx rfl (by decide +kernel) (by exact rfl) ?_); clear hx) | ((with_reducible refine tGuard ?_); first | refine gdS ?_ | (refine gdC ?_ ?_ <;> (intro hgd; rw [hgd]; try (exfalso; simp at hgd; omega)))) | fail | ((with_reducible refine tLoad ?_); go_must (refine ldS ?_)) | ((with_reducible refine tStore ?_); go_must (refine stS ?_; clear M; intro w1 M; (try simp only [setC] at M))) | ((with_reducible refine tBox _ ?_); (refine bxA M ?_; clear M; intro g w1 M))) <;> (try conv => arg 5; simp only [Act.put, List.setIfInBounds_toArray, setC]))
  go_ret
  exact ⟨rfl, rfl⟩
set_option maxRecDepth 100000 in
set_option maxHeartbeats 2000000 in
/-- What a ring tells. -/
theorem Current_c (h : c.ok w) (I : IsRing g R c) : Calls Tryz.prog 20 #[.pointer (some ⟨g, 0, none⟩)] w fun e w' => e = .returned (.int .i64 R.c) ∧ w = w' := by
  obtain ⟨gm, K, _, rfl⟩ := I
  have RR := ring_row h
  have M := Mem.start [] w
  have nR : g ∉ ([] : List Nat) := by simp
  go_enter Tryz.func20, Tryz.ntmps20
  go_wp2_with ((first | (go_at_call 37; go_must (refine (ringNone_no RR).mono ?_; rintro e w1 ⟨rfl, rfl⟩)) | ((with_reducible refine tLoad ?_); refine w_at _ _ rfl (by exact ev_tmp rfl) ?_; intro hx; (first | refine w_rowF M RR nR _ _ rfl hx rfl (by decide +kernel) (by exact rfl) ?_); clear hx) | ((with_reducible refine tGuard ?_); first | refine gdS ?_ | (refine gdC ?_ ?_ <;> (intro hgd; rw [hgd]; try (exfalso; simp at hgd; omega)))) | fail | ((with_reducible refine tLoad ?_); go_must (refine ldS ?_)) | ((with_reducible refine tStore ?_); go_must (refine stS ?_; clear M; intro w1 M; (try simp only [setC] at M))) | ((with_reducible refine tBox _ ?_); (refine bxA M ?_; clear M; intro g w1 M))) <;> (try conv => arg 5; simp only [Act.put, List.setIfInBounds_toArray, setC]))
  go_ret
  exact ⟨rfl, rfl⟩
set_option maxRecDepth 100000 in
set_option maxHeartbeats 2000000 in
theorem Count_c (h : c.ok w) (I : IsRing g R c) : Calls Tryz.prog 19 #[.pointer (some ⟨g, 0, none⟩)] w fun e w' => e = .returned (.tuple #[.int .u32 (I32 R.b), .int .u64 (I64 R.n)]) ∧ Below w.heap.size w w' := by
  obtain ⟨gm, K, _, rfl⟩ := I
  have RR := ring_row h
  have M := Mem.start [] w
  have nR : g ∉ ([] : List Nat) := by simp
  go_enter Tryz.func19, Tryz.ntmps19
  go_wp2_with ((first | (go_at_call 37; go_must (refine (ringNone_no RR).mono ?_; rintro e w1 ⟨rfl, rfl⟩)) | ((with_reducible show Code.wp _ (Code.region 3 _ _) _ _ _); go_must (have MR := M; refine region_lowc [(0, false), (1, false), (2, false), (4, false), (5, false), (6, false), (3, false), (7, true), (8, false), (9, false)] [(6, .ptr), (10, .ptr)] [(3, _)] (IxOk MR []) 10 (by kernel_rfl) (by kernel_rfl) rfl (by kernel_rfl) (lows_cons (stab_rowF MR RR nR 2 rfl (by decide +kernel) rfl) lows_nil) (ixOk_self MR _) ?_; replace M := M.drew; simp only [planC, opAt, List.getElem?_toArray, List.getElem?_cons_zero, List.getElem?_cons_succ, Option.getD_some])) | (go_at_call 38; go_must (refine (u64Load_c _ (I64 R.n) _ (rowCell (M.staysF RR (by simp)) rfl)).mono ?_; rintro e w1 ⟨rfl, rfl⟩)) | ((with_reducible refine tLoad ?_); refine w_at _ _ rfl (by exact ev_tmp rfl) ?_; intro hx; (first | refine w_rowF M RR nR _ _ rfl hx rfl (by decide +kernel) (by exact rfl) ?_); clear hx) | ((with_reducible show Seg _ _ _ _); go_must (first | refine Seg.intro ⟨fun h => absurd rfl h, ?_⟩ | refine Seg.intro ⟨fun _ => ixA, ?_⟩ | refine Seg.intro ⟨ndA, atA, ?_⟩)) | ((with_reducible show OnlyN _ _ _ _ _); refine OnlyN.intro (by kernel_rfl) ?_) | ((with_reducible refine tGuard ?_); first | refine gdS ?_ | (refine gdC ?_ ?_ <;> (intro hgd; rw [hgd]; try (exfalso; simp at hgd; omega)))) | fail | ((with_reducible refine tLoad ?_); go_must (refine ldS ?_)) | ((with_reducible refine tStore ?_); go_must (refine stS ?_; clear M; intro w1 M; (try simp only [setC] at M))) | ((with_reducible refine tBox _ ?_); (refine bxA M ?_; clear M; intro g w1 M))) <;> (try conv => arg 5; simp only [Act.put, List.setIfInBounds_toArray, setC]))
  go_ret2
  exact ⟨rfl, M.below⟩
set_option maxRecDepth 100000 in
set_option maxHeartbeats 2000000 in
/-- The next key. -/
theorem Rotate_ok (h : c.ok w) (I : IsRing g R c) (hc : R.c < 1048576) : Calls Tryz.prog 18 #[.pointer (some ⟨g, 0, none⟩)] w fun e w' => e = .returned (.int .i64 0) ∧ ∃ c', IsRing g { R with c := R.c + 1 } c' ∧ Upd w c w' c' := by
  obtain ⟨gm, K, IK, rfl⟩ := I
  have M : Mem (grp [.row g (ringC R gm), K]).fp w w [.row g (ringC R gm), K] := Mem.startG h
  have M : Mem (grp [.row g (ringC R gm), K]).fp w w [.row g [.string (mkS R.m), .int .i64 R.c, .int .u32 (I32 R.b), .int .u64 (I64 R.n), .map (some gm)], K] := M
  have N0 : ∀ w', Mem (grp [.row g (ringC R gm), K]).fp w w' [.row g [.string (mkS R.m), .int .i64 (R.c + 1), .int .u32 (I32 R.b), .int .u64 (I64 R.n), .map (some gm)], K] → Upd w (grp [.row g (ringC R gm), K]) w' (grp [.row g (ringC { R with c := R.c + 1 } gm), K]) := fun w' M => M.updG [] (by rw [ringC, ← Int.natCast_succ]; rfl)
  obtain ⟨F, eF⟩ : ∃ F, F = (grp [.row g (ringC R gm), K]).fp := ⟨_, rfl⟩
  obtain ⟨C0, eC⟩ : ∃ C, C = grp [.row g (ringC R gm), K] := ⟨_, rfl⟩
  rw [← eF] at M N0
  rw [← eC] at N0 ⊢
  clear eF eC h
  obtain ⟨cc, ec⟩ : ∃ z : Int, z = R.c := ⟨_, rfl⟩
  have hc1 : cc < 1048576 := by omega
  have hc0 : 0 ≤ cc := by omega
  have nn := fun (w1 : World) (L : List Chunk) (M' : Mem F w w1 (.row g (ringC R gm) :: L)) => ringNone_no (M'.ok 0 _ rfl)
  unfold ringC at nn
  rw [← ec] at M N0 nn
  replace N0 := Lib.hid N0
  replace nn := Lib.hid nn
  clear ec hc
  go_enter Tryz.func18, Tryz.ntmps18
  go_wp2_with ((first | (go_at_call 37; go_must (refine (nn.out _ _ M).mono ?_; rintro e w1 ⟨rfl, rfl⟩)) | ((with_reducible refine tGuard ?_); first | refine gdS ?_ | (refine gdC ?_ ?_ <;> (intro hgd; rw [hgd]; try (exfalso; simp at hgd; omega)))) | fail | ((with_reducible refine tLoad ?_); go_must (refine ldS ?_)) | ((with_reducible refine tStore ?_); go_must (refine stS ?_; clear M; intro w1 M; (try simp only [setC] at M))) | ((with_reducible refine tBox _ ?_); (refine bxA M ?_; clear M; intro g w1 M))) <;> (try conv => arg 5; simp only [Act.put, List.setIfInBounds_toArray, setC]))
  go_ret
  exact ⟨rfl, _, ⟨gm, K, IK, rfl⟩, N0.out _ M⟩
set_option maxRecDepth 100000 in
set_option maxHeartbeats 2000000 in
theorem Rotate_full (h : c.ok w) (I : IsRing g R c) (hc : R.c = 1048576) : Calls Tryz.prog 18 #[.pointer (some ⟨g, 0, none⟩)] w fun e w' => e = .returned (.int .i64 6) ∧ w = w' := by
  obtain ⟨gm, K, _, rfl⟩ := I
  have RR := ring_row h
  have M := Mem.start [] w
  have nR : g ∉ ([] : List Nat) := by simp
  have hc' : (R.c : Int) = 1048576 := by omega
  go_enter Tryz.func18, Tryz.ntmps18
  go_wp2_with ((first | (go_at_call 37; go_must (refine (ringNone_no RR).mono ?_; rintro e w1 ⟨rfl, rfl⟩)) | ((with_reducible refine tLoad ?_); refine w_at _ _ rfl (by exact ev_tmp rfl) ?_; intro hx; (first | refine w_rowF M RR nR _ _ rfl hx rfl (by decide +kernel) (by exact rfl) ?_); clear hx) | ((with_reducible refine tGuard ?_); first | refine gdS ?_ | (refine gdC ?_ ?_ <;> (intro hgd; rw [hgd]; try (exfalso; simp at hgd; omega)))) | fail | ((with_reducible refine tLoad ?_); go_must (refine ldS ?_)) | ((with_reducible refine tStore ?_); go_must (refine stS ?_; clear M; intro w1 M; (try simp only [setC] at M))) | ((with_reducible refine tBox _ ?_); (refine bxA M ?_; clear M; intro g w1 M))) <;> (try conv => arg 5; simp only [Act.put, List.setIfInBounds_toArray, setC]))
  go_ret
  exact ⟨rfl, rfl⟩
end
theorem new_join {F : List Nat} {w0 w : World} {g gm : Nat} {R : RingS} (M : Mem F w0 w [.row g (ringC R gm), .blk gm (mapO [])]) : ∃ c, IsRing g R c ∧ Mem F w0 w [c] := by
  have M1 := M.shut [] _ rfl
  have M2 : Mem F w0 w [.blk gm (mapO []), grp [], .row g (ringC R gm)] := M1.pick _ (fun i => if i = 0 then 2 else if i = 1 then 0 else 1) (by intro i j hi hj; simp at hi hj; rcases (by omega : i = 0 ∨ i = 1 ∨ i = 2) with rfl | rfl | rfl <;> rcases (by omega : j = 0 ∨ j = 1 ∨ j = 2) with rfl | rfl | rfl <;> simp) (by
      intro i c h
      match i, h with
      | 0, h => simpa using h
      | 1, h => simpa using h
      | 2, h => simpa using h)
  have M3 := M2.shut [.blk gm (mapO []), grp []] _ rfl
  have M4 : Mem F w0 w [.row g (ringC R gm), keysC R.m gm []] := M3.pick _ (fun i => 1 - i) (by intro i j hi hj h; simp at hi hj; omega) (by
      intro i c h
      match i, h with
      | 0, h => simpa using h
      | 1, h => simpa [keysC] using h)
  exact ⟨_, ⟨gm, _, ⟨_, rfl⟩, rfl⟩, M4.shut [.row g (ringC R gm), keysC R.m gm []] [] rfl⟩
set_option maxRecDepth 100000 in
set_option maxHeartbeats 2000000 in
/-- A new ring. -/
theorem New_ok (m : List UInt8) (c : Nat) (b : UInt32) (w : World) (hc : c ≤ 1048576) : Calls Tryz.prog 12 #[.string (mkS m), .int .i64 c, .int .u32 (I32 b)] w fun e w' => ∃ g C, e = .returned (.tuple #[.pointer (some ⟨g, 0, none⟩), .int .i64 0]) ∧ IsRing g ⟨m, c, b, 0⟩ C ∧ Mem [] w w' [C] := by
  have M := Mem.start [] w
  go_enter Tryz.func12, Tryz.ntmps12
  go_wp2_with ((first | ((with_reducible refine tGuard ?_); (with_reducible refine w_stripE ?_ ?_); (focus (refine ⟨_, rfl, ?_⟩; first | (with_reducible rfl) | exact decide_eq_false (by omega) | exact decide_eq_true (by omega)))) | ((with_reducible refine tGuard ?_); first | ((with_reducible refine w_skip1 ?_ ?_); (focus (refine ⟨_, rfl, ?_⟩; first | (with_reducible rfl) | exact decide_eq_false (by omega) | exact decide_eq_true (by omega)))) | ((with_reducible refine w_skip0 ?_ ?_); (focus (refine ⟨_, rfl, ?_⟩; first | (with_reducible rfl) | exact decide_eq_false (by omega) | exact decide_eq_true (by omega))))) | ((with_reducible show wpList _ _ _ (Oper.mk _ (Op.makeMap _ none) _ _ _ _ :: _) _ _); go_must (refine w_makeMap M _ rfl rfl ?_; clear M; intro gm w1 M)) | ((with_reducible refine tBox (some 19) ?_); refine w_box M _ _ rfl rfl _ rfl (ringC ⟨m, c, b, 0⟩ gm) rfl ?_; clear M; intro g w1 M) | ((with_reducible refine tGuard ?_); first | refine gdS ?_ | (refine gdC ?_ ?_ <;> (intro hgd; rw [hgd]; try (exfalso; simp at hgd; omega)))) | fail | ((with_reducible refine tLoad ?_); go_must (refine ldS ?_)) | ((with_reducible refine tStore ?_); go_must (refine stS ?_; clear M; intro w1 M; (try simp only [setC] at M))) | ((with_reducible refine tBox _ ?_); (refine bxA M ?_; clear M; intro g w1 M))) <;> (try conv => arg 5; simp only [Act.put, List.setIfInBounds_toArray, setC]))
  obtain ⟨C, IC, MC⟩ := new_join M
  go_ret2
  exact ⟨_, _, rfl, IC, MC⟩
set_option maxRecDepth 100000 in
set_option maxHeartbeats 2000000 in
theorem New_no (m : List UInt8) (c : Int) (b : UInt32) (w : World) (hc : c < 0 ∨ 1048576 < c) : Calls Tryz.prog 12 #[.string (mkS m), .int .i64 c, .int .u32 (I32 b)] w fun e w' => e = .returned (.tuple #[.pointer none, .int .i64 1]) ∧ Below w.heap.size w w' := by
  have M := Mem.start [] w
  rcases hc with hc | hc
  all_goals
    go_enter Tryz.func12, Tryz.ntmps12
    go_wp2_with ((first | ((with_reducible refine tGuard ?_); (with_reducible refine w_stripE ?_ ?_); (focus (refine ⟨_, rfl, ?_⟩; first | (with_reducible rfl) | exact decide_eq_false (by omega) | exact decide_eq_true (by omega)))) | ((with_reducible refine tGuard ?_); first | ((with_reducible refine w_skip1 ?_ ?_); (focus (refine ⟨_, rfl, ?_⟩; first | (with_reducible rfl) | exact decide_eq_false (by omega) | exact decide_eq_true (by omega)))) | ((with_reducible refine w_skip0 ?_ ?_); (focus (refine ⟨_, rfl, ?_⟩; first | (with_reducible rfl) | exact decide_eq_false (by omega) | exact decide_eq_true (by omega))))) | ((with_reducible refine tGuard ?_); first | refine gdS ?_ | (refine gdC ?_ ?_ <;> (intro hgd; rw [hgd]; try (exfalso; simp at hgd; omega)))) | fail | ((with_reducible refine tLoad ?_); go_must (refine ldS ?_)) | ((with_reducible refine tStore ?_); go_must (refine stS ?_; clear M; intro w1 M; (try simp only [setC] at M))) | ((with_reducible refine tBox _ ?_); (refine bxA M ?_; clear M; intro g w1 M))) <;> (try conv => arg 5; simp only [Act.put, List.setIfInBounds_toArray, setC]))
    go_ret2
    exact ⟨rfl, M.below⟩
end Go.Proofs.YtidadhbaomieiaaGreat

/- The walks of seal.Close, Open and Bytes. Conditions: lengths. -/
namespace Go
namespace TL
theorem rightE_k {k : Int} {d : List UInt8} (h : rightE k d = true) : 0 ≤ k ∧ k ≤ 1048576 ∧ d.length ≤ 8192 := by
  unfold rightE at h
  simp only [Bool.and_eq_true, decide_eq_true_eq] at h
  omega
end TL
end Go
namespace Go.Proofs.YtidadhbaomieiaaGreat
open Go.RowKit Go.TL
set_option maxRecDepth 100000 in
set_option maxHeartbeats 2000000 in
theorem Close_no (key : List UInt8) (k : Int) (b : UInt32) (n : UInt64) (about text : List UInt8) (w : World) (h : rightE k [] = false) :
    Calls Tryz.prog 39 #[.agg (bs key).toArray, .int .i64 k, .int .u32 (I32 b), .int .u64 (I64 n), .string (mkS about), .string (mkS text)] w fun e w' => e = .returned (.tuple #[.agg (envC 0 0 0 [] zeroT).toArray, .int .i64 1]) ∧ Below w.heap.size w w' := by
  have M := Mem.start [] w
  have R := fun w => sealRight_c k b n [] zeroT w
  rw [h] at R
  replace R := Lib.hid R
  clear h
  go_enter Tryz.func39, Tryz.ntmps39
  go_wp2_with ((first | ((with_reducible refine tBox (some 6) ?_); refine w_box M _ _ rfl rfl _ rfl (bs key) rfl ?_; clear M; intro gk w1 M) | ((with_reducible refine tAlloc (some 12) 75 ?_); refine w_alloc M _ rfl rfl (.agg (envC 0 0 0 [] zeroT).toArray) (envC 0 0 0 [] zeroT) (by kernel_rfl) rfl ?_; clear M; intro gr w1 M) | ((with_reducible refine tAlloc (some 14) 75 ?_); refine w_alloc M _ rfl rfl (.agg (envC 0 0 0 [] zeroT).toArray) (envC 0 0 0 [] zeroT) (by kernel_rfl) rfl ?_; clear M; intro gx w1 M) | (go_at_call 74; go_must (refine (R.out _).mono ?_; rintro e w1 ⟨rfl, hb⟩; replace M := M.call hb; clear hb)) | ((with_reducible refine tLoad ?_); refine w_at _ _ rfl (by exact ev_tmp rfl) ?_; intro hx; (first | refine w_loadE M _ _ _ rfl (by first | exact at0 | exact at1) hx rfl (by decide +kernel) (by decide +kernel) (by first | assumption | exact zeroT_len | exact macL_len _ _) ?_ | refine w_loadTag M _ _ _ rfl (by first | exact at0 | exact at1) hx rfl (by decide +kernel) (by decide +kernel) (by first | assumption | exact zeroT_len | exact macL_len _ _) ?_); clear hx) | ((with_reducible refine tStore ?_); refine w_at2 _ _ _ rfl (by first | exact ev_tmp rfl | exact ev_const) (by first | exact ev_tmp rfl | exact ev_const) ?_; intro hx hy; (first | refine w_storeE M _ _ _ _ rfl (by first | exact at0 | exact at1) hx rfl hy rfl (by decide +kernel) (by first | assumption | exact zeroT_len | exact macL_len _ _) (by first | assumption | exact zeroT_len | exact macL_len _ _) ?_ | refine w_storeE (k := 0) (b := 0) (n := 0) (d := []) (tg := zeroT) M _ _ _ _ rfl (by first | exact at0 | exact at1) hx rfl hy rfl (by decide +kernel) zeroT_len (by first | assumption | exact zeroT_len | exact macL_len _ _) ?_ | refine w_storeE (tg := zeroT) M _ _ _ _ rfl (by first | exact at0 | exact at1) hx rfl hy rfl (by decide +kernel) zeroT_len (by first | assumption | exact zeroT_len | exact macL_len _ _) ?_ | refine w_storeTag M _ _ _ _ rfl (by first | exact at0 | exact at1) hx rfl hy (by decide +kernel) (by first | assumption | exact zeroT_len | exact macL_len _ _) (by first | assumption | exact zeroT_len | exact macL_len _ _) ?_ | refine w_storeData M _ _ _ _ rfl (by first | exact at0 | exact at1) hx rfl hy (by decide +kernel) ?_ | refine w_storeNum M _ _ _ _ rfl (by first | exact at0 | exact at1) hx rfl hy (by decide +kernel) ?_); clear hx hy M; intro w1 M; (try simp only [setC] at M)) | ((with_reducible refine tConv _ 70 9 ?_); (first | refine w_stringTag M _ _ _ _ _ rfl rfl (by first | exact at0 | exact at1) rfl (by first | assumption | exact zeroT_len | exact macL_len _ _) Tryz.underlying70 Tryz.underlying5 Tryz.underlying9 ?_)) | ((with_reducible refine tGuard ?_); first | refine gdS ?_ | (refine gdC ?_ ?_ <;> (intro hgd; rw [hgd]; try (exfalso; simp at hgd; omega)))) | ((with_reducible refine tConv _ 70 9 ?_); go_must (refine cvB ?_)) | ((with_reducible refine tLoad ?_); go_must (refine ldB ?_)) | ((with_reducible refine tStore ?_); go_must (refine stB ?_; clear M; intro w1 M; (try simp only [setC] at M))) | ((with_reducible refine tBox _ ?_); (refine bxA M ?_; clear M; intro g w1 M))) <;> (try conv => arg 5; simp only [Act.put, List.setIfInBounds_toArray, setC]))
  exact bodyPost_ret (results_two rfl _ _ gr 0 (envC 0 0 0 [] zeroT) _ (.int .i64 1) rfl rfl (M.ok 1 _ rfl).2.1 Tryz.underlying75 rfl (by rw [envC_len, zeroT_len]; kernel_rfl)) rfl ⟨rfl, M.below⟩
set_option maxRecDepth 100000 in
set_option maxHeartbeats 2000000 in
theorem Close_long (key : List UInt8) (k : Int) (b : UInt32) (n : UInt64) (about text : List UInt8) (w : World) (h : rightE k [] = true) (hx : 8192 < text.length) :
    Calls Tryz.prog 39 #[.agg (bs key).toArray, .int .i64 k, .int .u32 (I32 b), .int .u64 (I64 n), .string (mkS about), .string (mkS text)] w fun e w' => e = .returned (.tuple #[.agg (envC 0 0 0 [] zeroT).toArray, .int .i64 3]) ∧ Below w.heap.size w w' := by
  have M := Mem.start [] w
  have R := fun w => sealRight_c k b n [] zeroT w
  rw [h] at R
  replace R := Lib.hid R
  clear h
  have hx' : (8192 : Int) < (text.length : Int) := by omega
  go_enter Tryz.func39, Tryz.ntmps39
  go_wp2_with ((first | ((with_reducible refine tBox (some 6) ?_); refine w_box M _ _ rfl rfl _ rfl (bs key) rfl ?_; clear M; intro gk w1 M) | ((with_reducible refine tAlloc (some 12) 75 ?_); refine w_alloc M _ rfl rfl (.agg (envC 0 0 0 [] zeroT).toArray) (envC 0 0 0 [] zeroT) (by kernel_rfl) rfl ?_; clear M; intro gr w1 M) | ((with_reducible refine tAlloc (some 14) 75 ?_); refine w_alloc M _ rfl rfl (.agg (envC 0 0 0 [] zeroT).toArray) (envC 0 0 0 [] zeroT) (by kernel_rfl) rfl ?_; clear M; intro gx w1 M) | (go_at_call 74; go_must (refine (R.out _).mono ?_; rintro e w1 ⟨rfl, hb⟩; replace M := M.call hb; clear hb)) | ((with_reducible refine tLoad ?_); refine w_at _ _ rfl (by exact ev_tmp rfl) ?_; intro hx; (first | refine w_loadE M _ _ _ rfl (by first | exact at0 | exact at1) hx rfl (by decide +kernel) (by decide +kernel) (by first | assumption | exact zeroT_len | exact macL_len _ _) ?_ | refine w_loadTag M _ _ _ rfl (by first | exact at0 | exact at1) hx rfl (by decide +kernel) (by decide +kernel) (by first | assumption | exact zeroT_len | exact macL_len _ _) ?_); clear hx) | ((with_reducible refine tStore ?_); refine w_at2 _ _ _ rfl (by first | exact ev_tmp rfl | exact ev_const) (by first | exact ev_tmp rfl | exact ev_const) ?_; intro hx hy; (first | refine w_storeE M _ _ _ _ rfl (by first | exact at0 | exact at1) hx rfl hy rfl (by decide +kernel) (by first | assumption | exact zeroT_len | exact macL_len _ _) (by first | assumption | exact zeroT_len | exact macL_len _ _) ?_ | refine w_storeE (k := 0) (b := 0) (n := 0) (d := []) (tg := zeroT) M _ _ _ _ rfl (by first | exact at0 | exact at1) hx rfl hy rfl (by decide +kernel) zeroT_len (by first | assumption | exact zeroT_len | exact macL_len _ _) ?_ | refine w_storeE (tg := zeroT) M _ _ _ _ rfl (by first | exact at0 | exact at1) hx rfl hy rfl (by decide +kernel) zeroT_len (by first | assumption | exact zeroT_len | exact macL_len _ _) ?_ | refine w_storeTag M _ _ _ _ rfl (by first | exact at0 | exact at1) hx rfl hy (by decide +kernel) (by first | assumption | exact zeroT_len | exact macL_len _ _) (by first | assumption | exact zeroT_len | exact macL_len _ _) ?_ | refine w_storeData M _ _ _ _ rfl (by first | exact at0 | exact at1) hx rfl hy (by decide +kernel) ?_ | refine w_storeNum M _ _ _ _ rfl (by first | exact at0 | exact at1) hx rfl hy (by decide +kernel) ?_); clear hx hy M; intro w1 M; (try simp only [setC] at M)) | ((with_reducible refine tConv _ 70 9 ?_); (first | refine w_stringTag M _ _ _ _ _ rfl rfl (by first | exact at0 | exact at1) rfl (by first | assumption | exact zeroT_len | exact macL_len _ _) Tryz.underlying70 Tryz.underlying5 Tryz.underlying9 ?_)) | ((with_reducible refine tGuard ?_); first | refine gdS ?_ | (refine gdC ?_ ?_ <;> (intro hgd; rw [hgd]; try (exfalso; simp at hgd; omega)))) | ((with_reducible refine tConv _ 70 9 ?_); go_must (refine cvB ?_)) | ((with_reducible refine tLoad ?_); go_must (refine ldB ?_)) | ((with_reducible refine tStore ?_); go_must (refine stB ?_; clear M; intro w1 M; (try simp only [setC] at M))) | ((with_reducible refine tBox _ ?_); (refine bxA M ?_; clear M; intro g w1 M))) <;> (try conv => arg 5; simp only [Act.put, List.setIfInBounds_toArray, setC]))
  exact bodyPost_ret (results_two rfl _ _ gr 0 (envC 0 0 0 [] zeroT) _ (.int .i64 3) rfl rfl (M.ok 1 _ rfl).2.1 Tryz.underlying75 rfl (by rw [envC_len, zeroT_len]; kernel_rfl)) rfl ⟨rfl, M.below⟩
set_option maxRecDepth 100000 in
set_option maxHeartbeats 2000000 in
theorem Close_ok (key : List UInt8) (k : Nat) (b : UInt32) (n : UInt64) (about text : List UInt8) (w : World) (hk : key.length = 32) (h : k ≤ 1048576) (hx : text.length ≤ 8192) (ha : about.length ≤ 100000) :
    Calls Tryz.prog 39 #[.agg (bs key).toArray, .int .i64 k, .int .u32 (I32 b), .int .u64 (I64 n), .string (mkS about), .string (mkS text)] w fun e w' => e = .returned (.tuple #[.agg (envC k b n (sealL key b n text) (tagL key k b n about (sealL key b n text))).toArray, .int .i64 0]) ∧ Below w.heap.size w w' := by
  have M := Mem.start [] w
  have R := fun w => sealRight_c k b n [] zeroT w
  have e1 : rightE (k : Int) [] = true := by unfold rightE; simp; omega
  rw [e1] at R
  clear e1
  have SC := fun w => sealStream_c key k b n [] zeroT text w hk (by omega)
  have hsl : (sealL key b n text).length ≤ 100000 := by unfold sealL; rw [streamL_len]; omega
  have TC := fun w => sealTag_c key k b n (sealL key b n text) zeroT about w hk zeroT_len h ha hsl
  have hr : (tagL key k b n about (sealL key b n text)).length = 32 := macL_len _ _
  obtain ⟨s, es⟩ : ∃ s, s = sealL key b n text := ⟨_, rfl⟩
  rw [← es] at SC TC hr
  rw [← es]
  obtain ⟨t, et⟩ : ∃ t, t = tagL key k b n about s := ⟨_, rfl⟩
  rw [← et] at TC hr
  rw [← et]
  replace R := Lib.hid R
  replace SC := Lib.hid SC
  replace TC := Lib.hid TC
  clear es et hsl
  have hx' : (text.length : Int) ≤ 8192 := by omega
  go_enter Tryz.func39, Tryz.ntmps39
  go_wp2_with ((first | (go_at_call 75; go_must (refine (SC.out _).mono ?_; rintro e w1 ⟨rfl, hb⟩; replace M := M.call hb; clear hb)) | (go_at_call 76; go_must (refine (TC.out _).mono ?_; rintro e w1 ⟨rfl, hb⟩; replace M := M.call hb; clear hb)) | ((with_reducible refine tBox (some 6) ?_); refine w_box M _ _ rfl rfl _ rfl (bs key) rfl ?_; clear M; intro gk w1 M) | ((with_reducible refine tAlloc (some 12) 75 ?_); refine w_alloc M _ rfl rfl (.agg (envC 0 0 0 [] zeroT).toArray) (envC 0 0 0 [] zeroT) (by kernel_rfl) rfl ?_; clear M; intro gr w1 M) | ((with_reducible refine tAlloc (some 14) 75 ?_); refine w_alloc M _ rfl rfl (.agg (envC 0 0 0 [] zeroT).toArray) (envC 0 0 0 [] zeroT) (by kernel_rfl) rfl ?_; clear M; intro gx w1 M) | (go_at_call 74; go_must (refine (R.out _).mono ?_; rintro e w1 ⟨rfl, hb⟩; replace M := M.call hb; clear hb)) | ((with_reducible refine tLoad ?_); refine w_at _ _ rfl (by exact ev_tmp rfl) ?_; intro hx; (first | refine w_loadE M _ _ _ rfl (by first | exact at0 | exact at1) hx rfl (by decide +kernel) (by decide +kernel) (by first | assumption | exact zeroT_len | exact macL_len _ _) ?_ | refine w_loadTag M _ _ _ rfl (by first | exact at0 | exact at1) hx rfl (by decide +kernel) (by decide +kernel) (by first | assumption | exact zeroT_len | exact macL_len _ _) ?_); clear hx) | ((with_reducible refine tStore ?_); refine w_at2 _ _ _ rfl (by first | exact ev_tmp rfl | exact ev_const) (by first | exact ev_tmp rfl | exact ev_const) ?_; intro hx hy; (first | refine w_storeE M _ _ _ _ rfl (by first | exact at0 | exact at1) hx rfl hy rfl (by decide +kernel) (by first | assumption | exact zeroT_len | exact macL_len _ _) (by first | assumption | exact zeroT_len | exact macL_len _ _) ?_ | refine w_storeE (k := 0) (b := 0) (n := 0) (d := []) (tg := zeroT) M _ _ _ _ rfl (by first | exact at0 | exact at1) hx rfl hy rfl (by decide +kernel) zeroT_len (by first | assumption | exact zeroT_len | exact macL_len _ _) ?_ | refine w_storeE (tg := zeroT) M _ _ _ _ rfl (by first | exact at0 | exact at1) hx rfl hy rfl (by decide +kernel) zeroT_len (by first | assumption | exact zeroT_len | exact macL_len _ _) ?_ | refine w_storeTag M _ _ _ _ rfl (by first | exact at0 | exact at1) hx rfl hy (by decide +kernel) (by first | assumption | exact zeroT_len | exact macL_len _ _) (by first | assumption | exact zeroT_len | exact macL_len _ _) ?_ | refine w_storeData M _ _ _ _ rfl (by first | exact at0 | exact at1) hx rfl hy (by decide +kernel) ?_ | refine w_storeNum M _ _ _ _ rfl (by first | exact at0 | exact at1) hx rfl hy (by decide +kernel) ?_); clear hx hy M; intro w1 M; (try simp only [setC] at M)) | ((with_reducible refine tConv _ 70 9 ?_); (first | refine w_stringTag M _ _ _ _ _ rfl rfl (by first | exact at0 | exact at1) rfl (by first | assumption | exact zeroT_len | exact macL_len _ _) Tryz.underlying70 Tryz.underlying5 Tryz.underlying9 ?_)) | ((with_reducible refine tGuard ?_); first | refine gdS ?_ | (refine gdC ?_ ?_ <;> (intro hgd; rw [hgd]; try (exfalso; simp at hgd; omega)))) | ((with_reducible refine tConv _ 70 9 ?_); go_must (refine cvB ?_)) | ((with_reducible refine tLoad ?_); go_must (refine ldB ?_)) | ((with_reducible refine tStore ?_); go_must (refine stB ?_; clear M; intro w1 M; (try simp only [setC] at M))) | ((with_reducible refine tBox _ ?_); (refine bxA M ?_; clear M; intro g w1 M))) <;> (try conv => arg 5; simp only [Act.put, List.setIfInBounds_toArray, setC]))
  exact bodyPost_ret (results_two rfl _ _ gr 0 (envC k b n s t) _ (.int .i64 0) rfl rfl (M.ok 1 _ rfl).2.1 Tryz.underlying75 rfl (by rw [envC_len, hr]; kernel_rfl)) rfl ⟨rfl, M.below⟩
set_option maxRecDepth 100000 in
set_option maxHeartbeats 2000000 in
theorem Open_no (key : List UInt8) (k : Int) (b : UInt32) (n : UInt64) (d t about : List UInt8) (w : World) (ht : t.length = 32) (h : rightE k d = false) :
    Calls Tryz.prog 43 #[.agg (bs key).toArray, .agg (envC k b n d t).toArray, .string (mkS about)] w fun e w' => e = .returned (.tuple #[.string (mkS []), .int .i64 1]) ∧ Below w.heap.size w w' := by
  have M := Mem.start [] w
  have R := fun w => sealRight_c k b n d t w
  rw [h] at R
  replace R := Lib.hid R
  clear h
  go_enter Tryz.func43, Tryz.ntmps43
  go_wp2_with ((first | ((with_reducible refine tBox (some 3) ?_); refine w_box M _ _ rfl rfl _ rfl (bs key) rfl ?_; clear M; intro gk w1 M) | ((with_reducible refine tBox (some 4) ?_); refine w_box M _ _ rfl rfl _ rfl (envC k b n d t) rfl ?_; clear M; intro gx w1 M) | (go_at_call 74; go_must (refine (R.out _).mono ?_; rintro e w1 ⟨rfl, hb⟩; replace M := M.call hb; clear hb)) | ((with_reducible refine tLoad ?_); refine w_at _ _ rfl (by exact ev_tmp rfl) ?_; intro hx; (first | refine w_loadE M _ _ _ rfl (by first | exact at0) hx rfl (by decide +kernel) (by decide +kernel) (by first | assumption | exact zeroT_len | exact macL_len _ _) ?_ | refine w_loadTag M _ _ _ rfl (by first | exact at0) hx rfl (by decide +kernel) (by decide +kernel) (by first | assumption | exact zeroT_len | exact macL_len _ _) ?_); clear hx) | ((with_reducible refine tStore ?_); refine w_at2 _ _ _ rfl (by first | exact ev_tmp rfl | exact ev_const) (by first | exact ev_tmp rfl | exact ev_const) ?_; intro hx hy; (first | refine w_storeE M _ _ _ _ rfl (by first | exact at0) hx rfl hy rfl (by decide +kernel) (by first | assumption | exact zeroT_len | exact macL_len _ _) (by first | assumption | exact zeroT_len | exact macL_len _ _) ?_ | refine w_storeE (k := 0) (b := 0) (n := 0) (d := []) (tg := zeroT) M _ _ _ _ rfl (by first | exact at0) hx rfl hy rfl (by decide +kernel) zeroT_len (by first | assumption | exact zeroT_len | exact macL_len _ _) ?_ | refine w_storeE (tg := zeroT) M _ _ _ _ rfl (by first | exact at0) hx rfl hy rfl (by decide +kernel) zeroT_len (by first | assumption | exact zeroT_len | exact macL_len _ _) ?_ | refine w_storeTag M _ _ _ _ rfl (by first | exact at0) hx rfl hy (by decide +kernel) (by first | assumption | exact zeroT_len | exact macL_len _ _) (by first | assumption | exact zeroT_len | exact macL_len _ _) ?_ | refine w_storeData M _ _ _ _ rfl (by first | exact at0) hx rfl hy (by decide +kernel) ?_ | refine w_storeNum M _ _ _ _ rfl (by first | exact at0) hx rfl hy (by decide +kernel) ?_); clear hx hy M; intro w1 M; (try simp only [setC] at M)) | ((with_reducible refine tConv _ 70 9 ?_); (first | refine w_stringTag M _ _ _ _ _ rfl rfl (by first | exact at0) rfl (by first | assumption | exact zeroT_len | exact macL_len _ _) Tryz.underlying70 Tryz.underlying5 Tryz.underlying9 ?_)) | ((with_reducible refine tGuard ?_); first | refine gdS ?_ | (refine gdC ?_ ?_ <;> (intro hgd; rw [hgd]; try (exfalso; simp at hgd; omega)))) | ((with_reducible refine tConv _ 70 9 ?_); go_must (refine cvB ?_)) | ((with_reducible refine tLoad ?_); go_must (refine ldB ?_)) | ((with_reducible refine tStore ?_); go_must (refine stB ?_; clear M; intro w1 M; (try simp only [setC] at M))) | ((with_reducible refine tBox _ ?_); (refine bxA M ?_; clear M; intro g w1 M))) <;> (try conv => arg 5; simp only [Act.put, List.setIfInBounds_toArray, setC]))
  go_ret2
  exact ⟨rfl, M.below⟩
set_option maxRecDepth 100000 in
set_option maxHeartbeats 2000000 in
theorem Open_mac (key : List UInt8) (k : Nat) (b : UInt32) (n : UInt64) (d t about : List UInt8) (w : World) (hk : key.length = 32) (ht : t.length = 32) (h : rightE k d = true) (ha : about.length ≤ 100000) (hne : t ≠ tagL key k b n about d) :
    Calls Tryz.prog 43 #[.agg (bs key).toArray, .agg (envC k b n d t).toArray, .string (mkS about)] w fun e w' => e = .returned (.tuple #[.string (mkS []), .int .i64 13]) ∧ Below w.heap.size w w' := by
  have M := Mem.start [] w
  have R := fun w => sealRight_c k b n d t w
  obtain ⟨_, hkk, hdd⟩ := rightE_k h
  have TC := fun w => sealTag_c key k b n d t about w hk ht (by omega) ha (by omega)
  have hr : (tagL key k b n about d).length = 32 := macL_len _ _
  obtain ⟨u, eu⟩ : ∃ u, u = tagL key k b n about d := ⟨_, rfl⟩
  rw [← eu] at TC hr hne
  have EC := fun w => Equal_c t u ht hr w
  rw [beq_eq_false_iff_ne.2 hne] at EC
  rw [h] at R
  replace R := Lib.hid R
  replace TC := Lib.hid TC
  replace EC := Lib.hid EC
  clear h eu hne
  go_enter Tryz.func43, Tryz.ntmps43
  go_wp2_with ((first | ((with_reducible refine tBox (some 3) ?_); refine w_box M _ _ rfl rfl _ rfl (bs key) rfl ?_; clear M; intro gk w1 M) | ((with_reducible refine tBox (some 4) ?_); refine w_box M _ _ rfl rfl _ rfl (envC k b n d t) rfl ?_; clear M; intro gx w1 M) | (go_at_call 74; go_must (refine (R.out _).mono ?_; rintro e w1 ⟨rfl, hb⟩; replace M := M.call hb; clear hb)) | (go_at_call 76; go_must (refine (TC.out _).mono ?_; rintro e w1 ⟨rfl, hb⟩; replace M := M.call hb; clear hb)) | (go_at_call 83; go_must (refine (EC.out _).mono ?_; rintro e w1 ⟨rfl, hb⟩; replace M := M.call hb; clear hb)) | ((with_reducible show Code.wp _ (Code.region 3 _ _) _ _ _); go_must (have MR := M; refine region_lowc [(0, false), (4, false), (1, false), (2, false), (3, false), (5, true), (6, true), (7, false), (8, false)] [] [(1, _), (2, _), (3, _)] (IxOk MR [0, 1]) 9 (by kernel_rfl) (by kernel_rfl) rfl (by kernel_rfl) (lows_cons (stab_tag MR 0 rfl rfl (by decide) (by decide +kernel) (by decide +kernel) (by first | assumption | exact zeroT_len)) (lowA MR 1 0 (lows_cons (stab_env MR 0 rfl rfl (by decide) (by decide +kernel) (by decide +kernel) (by first | assumption | exact zeroT_len)) lows_nil))) (ixOk_self MR _) ?_; replace M := M.drew; simp only [planC, opAt, List.getElem?_toArray, List.getElem?_cons_zero, List.getElem?_cons_succ, Option.getD_some])) | ((with_reducible refine tLoad ?_); refine w_at _ _ rfl (by exact ev_tmp rfl) ?_; intro hx; (first | refine w_loadE M _ _ _ rfl (by first | exact at0) hx rfl (by decide +kernel) (by decide +kernel) (by first | assumption | exact zeroT_len | exact macL_len _ _) ?_ | refine w_loadTag M _ _ _ rfl (by first | exact at0) hx rfl (by decide +kernel) (by decide +kernel) (by first | assumption | exact zeroT_len | exact macL_len _ _) ?_); clear hx) | ((with_reducible refine tStore ?_); refine w_at2 _ _ _ rfl (by first | exact ev_tmp rfl | exact ev_const) (by first | exact ev_tmp rfl | exact ev_const) ?_; intro hx hy; (first | refine w_storeE M _ _ _ _ rfl (by first | exact at0) hx rfl hy rfl (by decide +kernel) (by first | assumption | exact zeroT_len | exact macL_len _ _) (by first | assumption | exact zeroT_len | exact macL_len _ _) ?_ | refine w_storeE (k := 0) (b := 0) (n := 0) (d := []) (tg := zeroT) M _ _ _ _ rfl (by first | exact at0) hx rfl hy rfl (by decide +kernel) zeroT_len (by first | assumption | exact zeroT_len | exact macL_len _ _) ?_ | refine w_storeE (tg := zeroT) M _ _ _ _ rfl (by first | exact at0) hx rfl hy rfl (by decide +kernel) zeroT_len (by first | assumption | exact zeroT_len | exact macL_len _ _) ?_ | refine w_storeTag M _ _ _ _ rfl (by first | exact at0) hx rfl hy (by decide +kernel) (by first | assumption | exact zeroT_len | exact macL_len _ _) (by first | assumption | exact zeroT_len | exact macL_len _ _) ?_ | refine w_storeData M _ _ _ _ rfl (by first | exact at0) hx rfl hy (by decide +kernel) ?_ | refine w_storeNum M _ _ _ _ rfl (by first | exact at0) hx rfl hy (by decide +kernel) ?_); clear hx hy M; intro w1 M; (try simp only [setC] at M)) | ((with_reducible refine tConv _ 70 9 ?_); (first | refine w_stringTag M _ _ _ _ _ rfl rfl (by first | exact at0) rfl (by first | assumption | exact zeroT_len | exact macL_len _ _) Tryz.underlying70 Tryz.underlying5 Tryz.underlying9 ?_)) | ((with_reducible show Seg _ _ _ _); go_must (first | refine Seg.intro ⟨fun h => absurd rfl h, ?_⟩ | refine Seg.intro ⟨fun _ => ixA, ?_⟩ | refine Seg.intro ⟨ndA, atA, ?_⟩)) | ((with_reducible show OnlyN _ _ _ _ _); refine OnlyN.intro (by kernel_rfl) ?_) | ((with_reducible refine tGuard ?_); first | refine gdS ?_ | (refine gdC ?_ ?_ <;> (intro hgd; rw [hgd]; try (exfalso; simp at hgd; omega)))) | ((with_reducible refine tConv _ 70 9 ?_); go_must (refine cvB ?_)) | ((with_reducible refine tLoad ?_); go_must (refine ldB ?_)) | ((with_reducible refine tStore ?_); go_must (refine stB ?_; clear M; intro w1 M; (try simp only [setC] at M))) | ((with_reducible refine tBox _ ?_); (refine bxA M ?_; clear M; intro g w1 M))) <;> (try conv => arg 5; simp only [Act.put, List.setIfInBounds_toArray, setC]))
  go_ret2
  exact ⟨rfl, M.below⟩
set_option maxRecDepth 100000 in
set_option maxHeartbeats 2000000 in
theorem Open_ok (key : List UInt8) (k : Nat) (b : UInt32) (n : UInt64) (d about : List UInt8) (w : World) (hk : key.length = 32) (h : rightE k d = true) (ha : about.length ≤ 100000) :
    Calls Tryz.prog 43 #[.agg (bs key).toArray, .agg (envC k b n d (tagL key k b n about d)).toArray, .string (mkS about)] w fun e w' => e = .returned (.tuple #[.string (mkS (sealL key b n d)), .int .i64 0]) ∧ Below w.heap.size w w' := by
  have M := Mem.start [] w
  obtain ⟨_, hkk, hdd⟩ := rightE_k h
  have ht : (tagL key k b n about d).length = 32 := macL_len _ _
  have TC := fun w => sealTag_c key k b n d (tagL key k b n about d) about w hk ht (by omega) ha (by omega)
  obtain ⟨t, et⟩ : ∃ t, t = tagL key k b n about d := ⟨_, rfl⟩
  rw [← et] at TC ht
  rw [← et]
  have R := fun w => sealRight_c k b n d t w
  have EC := fun w => Equal_c t t ht ht w
  rw [beq_self_eq_true] at EC
  rw [h] at R
  have SC := fun w => sealStream_c key k b n d t d w hk (by omega)
  obtain ⟨s, es⟩ : ∃ s, s = sealL key b n d := ⟨_, rfl⟩
  rw [← es] at SC
  rw [← es]
  replace R := Lib.hid R
  replace TC := Lib.hid TC
  replace EC := Lib.hid EC
  replace SC := Lib.hid SC
  clear h et es
  go_enter Tryz.func43, Tryz.ntmps43
  go_wp2_with ((first | ((with_reducible refine tBox (some 3) ?_); refine w_box M _ _ rfl rfl _ rfl (bs key) rfl ?_; clear M; intro gk w1 M) | ((with_reducible refine tBox (some 4) ?_); refine w_box M _ _ rfl rfl _ rfl (envC k b n d t) rfl ?_; clear M; intro gx w1 M) | (go_at_call 74; go_must (refine (R.out _).mono ?_; rintro e w1 ⟨rfl, hb⟩; replace M := M.call hb; clear hb)) | (go_at_call 76; go_must (refine (TC.out _).mono ?_; rintro e w1 ⟨rfl, hb⟩; replace M := M.call hb; clear hb)) | (go_at_call 75; go_must (refine (SC.out _).mono ?_; rintro e w1 ⟨rfl, hb⟩; replace M := M.call hb; clear hb)) | (go_at_call 83; go_must (refine (EC.out _).mono ?_; rintro e w1 ⟨rfl, hb⟩; replace M := M.call hb; clear hb)) | ((with_reducible show Code.wp _ (Code.region 3 _ _) _ _ _); go_must (have MR := M; refine region_lowc [(0, false), (4, false), (1, false), (2, false), (3, false), (5, true), (6, true), (7, false), (8, false)] [] [(1, _), (2, _), (3, _)] (IxOk MR [0, 1]) 9 (by kernel_rfl) (by kernel_rfl) rfl (by kernel_rfl) (lows_cons (stab_tag MR 0 rfl rfl (by decide) (by decide +kernel) (by decide +kernel) (by first | assumption | exact zeroT_len)) (lowA MR 1 0 (lows_cons (stab_env MR 0 rfl rfl (by decide) (by decide +kernel) (by decide +kernel) (by first | assumption | exact zeroT_len)) lows_nil))) (ixOk_self MR _) ?_; replace M := M.drew; simp only [planC, opAt, List.getElem?_toArray, List.getElem?_cons_zero, List.getElem?_cons_succ, Option.getD_some])) | ((with_reducible refine tLoad ?_); refine w_at _ _ rfl (by exact ev_tmp rfl) ?_; intro hx; (first | refine w_loadE M _ _ _ rfl (by first | exact at0) hx rfl (by decide +kernel) (by decide +kernel) (by first | assumption | exact zeroT_len | exact macL_len _ _) ?_ | refine w_loadTag M _ _ _ rfl (by first | exact at0) hx rfl (by decide +kernel) (by decide +kernel) (by first | assumption | exact zeroT_len | exact macL_len _ _) ?_); clear hx) | ((with_reducible refine tStore ?_); refine w_at2 _ _ _ rfl (by first | exact ev_tmp rfl | exact ev_const) (by first | exact ev_tmp rfl | exact ev_const) ?_; intro hx hy; (first | refine w_storeE M _ _ _ _ rfl (by first | exact at0) hx rfl hy rfl (by decide +kernel) (by first | assumption | exact zeroT_len | exact macL_len _ _) (by first | assumption | exact zeroT_len | exact macL_len _ _) ?_ | refine w_storeE (k := 0) (b := 0) (n := 0) (d := []) (tg := zeroT) M _ _ _ _ rfl (by first | exact at0) hx rfl hy rfl (by decide +kernel) zeroT_len (by first | assumption | exact zeroT_len | exact macL_len _ _) ?_ | refine w_storeE (tg := zeroT) M _ _ _ _ rfl (by first | exact at0) hx rfl hy rfl (by decide +kernel) zeroT_len (by first | assumption | exact zeroT_len | exact macL_len _ _) ?_ | refine w_storeTag M _ _ _ _ rfl (by first | exact at0) hx rfl hy (by decide +kernel) (by first | assumption | exact zeroT_len | exact macL_len _ _) (by first | assumption | exact zeroT_len | exact macL_len _ _) ?_ | refine w_storeData M _ _ _ _ rfl (by first | exact at0) hx rfl hy (by decide +kernel) ?_ | refine w_storeNum M _ _ _ _ rfl (by first | exact at0) hx rfl hy (by decide +kernel) ?_); clear hx hy M; intro w1 M; (try simp only [setC] at M)) | ((with_reducible refine tConv _ 70 9 ?_); (first | refine w_stringTag M _ _ _ _ _ rfl rfl (by first | exact at0) rfl (by first | assumption | exact zeroT_len | exact macL_len _ _) Tryz.underlying70 Tryz.underlying5 Tryz.underlying9 ?_)) | ((with_reducible show Seg _ _ _ _); go_must (first | refine Seg.intro ⟨fun h => absurd rfl h, ?_⟩ | refine Seg.intro ⟨fun _ => ixA, ?_⟩ | refine Seg.intro ⟨ndA, atA, ?_⟩)) | ((with_reducible show OnlyN _ _ _ _ _); refine OnlyN.intro (by kernel_rfl) ?_) | ((with_reducible refine tGuard ?_); first | refine gdS ?_ | (refine gdC ?_ ?_ <;> (intro hgd; rw [hgd]; try (exfalso; simp at hgd; omega)))) | ((with_reducible refine tConv _ 70 9 ?_); go_must (refine cvB ?_)) | ((with_reducible refine tLoad ?_); go_must (refine ldB ?_)) | ((with_reducible refine tStore ?_); go_must (refine stB ?_; clear M; intro w1 M; (try simp only [setC] at M))) | ((with_reducible refine tBox _ ?_); (refine bxA M ?_; clear M; intro g w1 M))) <;> (try conv => arg 5; simp only [Act.put, List.setIfInBounds_toArray, setC]))
  go_ret2
  exact ⟨rfl, M.below⟩
set_option maxRecDepth 100000 in
set_option maxHeartbeats 2000000 in
theorem SealBytes_no (k : Int) (b : UInt32) (n : UInt64) (d t : List UInt8) (w : World) (ht : t.length = 32) (h : rightE k d = false) :
    Calls Tryz.prog 41 #[.agg (envC k b n d t).toArray] w fun e w' => e = .returned (.tuple #[.string (mkS []), .int .i64 1]) ∧ Below w.heap.size w w' := by
  have M := Mem.start [] w
  have R := fun w => sealRight_c k b n d t w
  rw [h] at R
  replace R := Lib.hid R
  clear h
  go_enter Tryz.func41, Tryz.ntmps41
  go_wp2_with ((first | ((with_reducible refine tBox (some 1) ?_); refine w_box M _ _ rfl rfl _ rfl (envC k b n d t) rfl ?_; clear M; intro gx w1 M) | (go_at_call 74; go_must (refine (R.out _).mono ?_; rintro e w1 ⟨rfl, hb⟩; replace M := M.call hb; clear hb)) | ((with_reducible refine tLoad ?_); refine w_at _ _ rfl (by exact ev_tmp rfl) ?_; intro hx; (first | refine w_loadE M _ _ _ rfl (by first | exact at0) hx rfl (by decide +kernel) (by decide +kernel) (by first | assumption | exact zeroT_len | exact macL_len _ _) ?_ | refine w_loadTag M _ _ _ rfl (by first | exact at0) hx rfl (by decide +kernel) (by decide +kernel) (by first | assumption | exact zeroT_len | exact macL_len _ _) ?_); clear hx) | ((with_reducible refine tStore ?_); refine w_at2 _ _ _ rfl (by first | exact ev_tmp rfl | exact ev_const) (by first | exact ev_tmp rfl | exact ev_const) ?_; intro hx hy; (first | refine w_storeE M _ _ _ _ rfl (by first | exact at0) hx rfl hy rfl (by decide +kernel) (by first | assumption | exact zeroT_len | exact macL_len _ _) (by first | assumption | exact zeroT_len | exact macL_len _ _) ?_ | refine w_storeE (k := 0) (b := 0) (n := 0) (d := []) (tg := zeroT) M _ _ _ _ rfl (by first | exact at0) hx rfl hy rfl (by decide +kernel) zeroT_len (by first | assumption | exact zeroT_len | exact macL_len _ _) ?_ | refine w_storeE (tg := zeroT) M _ _ _ _ rfl (by first | exact at0) hx rfl hy rfl (by decide +kernel) zeroT_len (by first | assumption | exact zeroT_len | exact macL_len _ _) ?_ | refine w_storeTag M _ _ _ _ rfl (by first | exact at0) hx rfl hy (by decide +kernel) (by first | assumption | exact zeroT_len | exact macL_len _ _) (by first | assumption | exact zeroT_len | exact macL_len _ _) ?_ | refine w_storeData M _ _ _ _ rfl (by first | exact at0) hx rfl hy (by decide +kernel) ?_ | refine w_storeNum M _ _ _ _ rfl (by first | exact at0) hx rfl hy (by decide +kernel) ?_); clear hx hy M; intro w1 M; (try simp only [setC] at M)) | ((with_reducible refine tConv _ 70 9 ?_); (first | refine w_stringTag M _ _ _ _ _ rfl rfl (by first | exact at0) rfl (by first | assumption | exact zeroT_len | exact macL_len _ _) Tryz.underlying70 Tryz.underlying5 Tryz.underlying9 ?_)) | ((with_reducible refine tGuard ?_); first | refine gdS ?_ | (refine gdC ?_ ?_ <;> (intro hgd; rw [hgd]; try (exfalso; simp at hgd; omega)))) | ((with_reducible refine tConv _ 70 9 ?_); go_must (refine cvB ?_)) | ((with_reducible refine tLoad ?_); go_must (refine ldB ?_)) | ((with_reducible refine tStore ?_); go_must (refine stB ?_; clear M; intro w1 M; (try simp only [setC] at M))) | ((with_reducible refine tBox _ ?_); (refine bxA M ?_; clear M; intro g w1 M))) <;> (try conv => arg 5; simp only [Act.put, List.setIfInBounds_toArray, setC]))
  go_ret2
  exact ⟨rfl, M.below⟩
set_option maxRecDepth 100000 in
set_option maxHeartbeats 2000000 in
theorem SealBytes_ok (k : Nat) (b : UInt32) (n : UInt64) (d t : List UInt8) (w : World) (ht : t.length = 32) (h : rightE k d = true) :
    Calls Tryz.prog 41 #[.agg (envC k b n d t).toArray] w fun e w' => e = .returned (.tuple #[.string (mkS (headL k b n ++ (textL d ++ t))), .int .i64 0]) ∧ Below w.heap.size w w' := by
  have M := Mem.start [] w
  have R := fun w => sealRight_c k b n d t w
  obtain ⟨_, hkk, hdd⟩ := rightE_k h
  rw [h] at R
  have hh := headL_len k b n (by omega)
  have NC := fun (g : Nat) (v : Value) (w : World) hok => numbers_c g v [] k b n d t w (by omega) (by simp) hok
  have T2 := fun (g : Nat) (v : Value) (w : World) hok => Out_Text_c g v (headL k b n) d w (by omega) (by omega) hok
  rw [List.nil_append] at NC
  rw [← List.append_assoc]
  obtain ⟨h0, eh⟩ : ∃ x, x = headL k b n := ⟨_, rfl⟩
  rw [← eh] at NC T2
  rw [← eh]
  obtain ⟨u, eu⟩ : ∃ x, x = h0 ++ textL d := ⟨_, rfl⟩
  rw [← eu] at T2
  rw [← eu]
  have hul : u.length ≤ 100000 := by rw [eu, eh, List.length_append]; unfold textL; have := numL_length_le d.length (by omega); simp; omega
  replace R := Lib.hid R
  replace NC := Lib.hid NC
  replace T2 := Lib.hid T2
  clear h eh eu hh
  go_enter Tryz.func41, Tryz.ntmps41
  go_wp2_with ((first | ((with_reducible refine tBox (some 1) ?_); refine w_box M _ _ rfl rfl _ rfl (envC k b n d t) rfl ?_; clear M; intro gx w1 M) | (((with_reducible refine tAlloc (some 4) 155 ?_); refine w_alloc M _ rfl rfl (.agg #[.slice none 0 0]) ([.slice none 0 0]) (by kernel_rfl) rfl ?_; clear M; intro go w1 M); replace M := M.outNew) | (go_at_call 74; go_must (refine (R.out _).mono ?_; rintro e w1 ⟨rfl, hb⟩; replace M := M.call hb; clear hb)) | (go_at_call 79; go_must (refine (NC.out _ _ _ (M.ok 0 _ rfl)).mono ?_; rintro e w2 ⟨rfl, v1, U⟩; replace M := M.upd 0 rfl U; clear U; simp only [List.set_cons_zero] at M)) | (go_at_call 80; go_must (refine (T2.out _ _ _ (M.ok 0 _ rfl)).mono ?_; rintro e w2 ⟨rfl, v2, U⟩; replace M := M.upd 0 rfl U; clear U; simp only [List.set_cons_zero] at M)) | (go_at_call 81; go_must (refine (Out_String_c _ _ _ _ (M.ok 0 _ rfl)).mono ?_; rintro e w1 ⟨rfl, rfl⟩)) | ((with_reducible show Code.wp _ (Code.region 6 _ _) _ _ _); go_must (have MR := M; refine region_lowc [(1, false), (2, false), (3, false), (0, true), (4, false), (5, false), (6, false)] [(13, .str), (16, .str)] [(3, _)] (IxOk MR [1]) 7 (by kernel_rfl) (by kernel_rfl) rfl (by kernel_rfl) (lows_cons (stab_strTag MR 1 rfl rfl (by decide) (by first | assumption | exact zeroT_len) Tryz.underlying70 Tryz.underlying5 Tryz.underlying9) lows_nil) (ixOk_self MR _) ?_; replace M := M.drew; simp only [planC, opAt, List.getElem?_toArray, List.getElem?_cons_zero, List.getElem?_cons_succ, Option.getD_some])) | ((with_reducible refine tLoad ?_); refine w_at _ _ rfl (by exact ev_tmp rfl) ?_; intro hx; (first | refine w_loadE M _ _ _ rfl (by first | exact at0 | exact at1) hx rfl (by decide +kernel) (by decide +kernel) (by first | assumption | exact zeroT_len | exact macL_len _ _) ?_ | refine w_loadTag M _ _ _ rfl (by first | exact at0 | exact at1) hx rfl (by decide +kernel) (by decide +kernel) (by first | assumption | exact zeroT_len | exact macL_len _ _) ?_); clear hx) | ((with_reducible refine tStore ?_); refine w_at2 _ _ _ rfl (by first | exact ev_tmp rfl | exact ev_const) (by first | exact ev_tmp rfl | exact ev_const) ?_; intro hx hy; (first | refine w_storeE M _ _ _ _ rfl (by first | exact at0 | exact at1) hx rfl hy rfl (by decide +kernel) (by first | assumption | exact zeroT_len | exact macL_len _ _) (by first | assumption | exact zeroT_len | exact macL_len _ _) ?_ | refine w_storeE (k := 0) (b := 0) (n := 0) (d := []) (tg := zeroT) M _ _ _ _ rfl (by first | exact at0 | exact at1) hx rfl hy rfl (by decide +kernel) zeroT_len (by first | assumption | exact zeroT_len | exact macL_len _ _) ?_ | refine w_storeE (tg := zeroT) M _ _ _ _ rfl (by first | exact at0 | exact at1) hx rfl hy rfl (by decide +kernel) zeroT_len (by first | assumption | exact zeroT_len | exact macL_len _ _) ?_ | refine w_storeTag M _ _ _ _ rfl (by first | exact at0 | exact at1) hx rfl hy (by decide +kernel) (by first | assumption | exact zeroT_len | exact macL_len _ _) (by first | assumption | exact zeroT_len | exact macL_len _ _) ?_ | refine w_storeData M _ _ _ _ rfl (by first | exact at0 | exact at1) hx rfl hy (by decide +kernel) ?_ | refine w_storeNum M _ _ _ _ rfl (by first | exact at0 | exact at1) hx rfl hy (by decide +kernel) ?_); clear hx hy M; intro w1 M; (try simp only [setC] at M)) | ((with_reducible refine tConv _ 70 9 ?_); (first | refine w_stringTag M _ _ _ _ _ rfl rfl (by first | exact at0 | exact at1) rfl (by first | assumption | exact zeroT_len | exact macL_len _ _) Tryz.underlying70 Tryz.underlying5 Tryz.underlying9 ?_)) | ((with_reducible show Seg _ _ _ _); go_must (first | refine Seg.intro ⟨fun h => absurd rfl h, ?_⟩ | refine Seg.intro ⟨fun _ => ixA, ?_⟩ | refine Seg.intro ⟨ndA, atA, ?_⟩)) | ((with_reducible show OnlyN _ _ _ _ _); refine OnlyN.intro (by kernel_rfl) ?_) | ((with_reducible refine tGuard ?_); first | refine gdS ?_ | (refine gdC ?_ ?_ <;> (intro hgd; rw [hgd]; try (exfalso; simp at hgd; omega)))) | ((with_reducible refine tConv _ 70 9 ?_); go_must (refine cvB ?_)) | ((with_reducible refine tLoad ?_); go_must (refine ldB ?_)) | ((with_reducible refine tStore ?_); go_must (refine stB ?_; clear M; intro w1 M; (try simp only [setC] at M))) | ((with_reducible refine tBox _ ?_); (refine bxA M ?_; clear M; intro g w1 M))) <;> (try conv => arg 5; simp only [Act.put, List.setIfInBounds_toArray, setC]))
  go_ret2
  exact ⟨rfl, M.below⟩
end Go.Proofs.YtidadhbaomieiaaGreat

/- The walk of a ring's Wrap. Conditions: lengths, and the bounds of its numbers. -/
namespace Go.Proofs.YtidadhbaomieiaaGreat
open Go.RowKit Go.TL
section
variable {g : Nat} {R : RingS} {c : Chunk} {w : World}
/-- The count goes up. -/
theorem count_up {gm : Nat} (RR : (Chunk.row g (ringC R gm)).ok w) : Calls Tryz.prog 42 #[.pointer (some ⟨g, 3, none⟩), .int .u64 1] w fun e w' => e = .returned (.int .u64 (I64 (R.n + 1))) ∧ Upd w (.row g (ringC R gm)) w' (.row g (ringC { R with n := R.n + 1 } gm)) :=
  (u64Add_c ⟨g, 3, none⟩ R.n w (rowCell RR rfl) (by have := RR.2.2 3 (by simp); rw [Nat.zero_add] at this; exact this.2)).mono fun _ _ h => ⟨h.1, by rw [h.2]; exact upd_setCell RR (by simp) _⟩
set_option maxRecDepth 100000 in
set_option maxHeartbeats 4000000 in
theorem Wrap_ok (about text : List UInt8) (h : c.ok w) (I : IsRing g R c) (hm : R.m.length ≤ 1000000) (hc : R.c ≤ 1048576) (hn : R.n.toNat < 9223372036854775808) (hx : text.length ≤ 8192) (ha : about.length ≤ 100000) :
    Calls Tryz.prog 14 #[.pointer (some ⟨g, 0, none⟩), .string (mkS about), .string (mkS text)] w fun e w' => e = .returned (.tuple #[.string (mkS (envB (R.env about text))), .int .i64 0]) ∧ ∃ c', IsRing g { R with n := R.n + 1 } c' ∧ Upd w c w' c' := by
  obtain ⟨gm, K, IK, rfl⟩ := I
  obtain ⟨m, cc, bb, n⟩ := R
  simp only at hm hc hn IK ⊢
  have M : Mem (grp [.row g (ringC ⟨m, cc, bb, n⟩ gm), K]).fp w w [.row g (ringC ⟨m, cc, bb, n⟩ gm), K] := Mem.startG h
  have N0 : ∀ w' K' x, IsKeys m gm K' → Mem (grp [.row g (ringC ⟨m, cc, bb, n⟩ gm), K]).fp w w' [x, .row g (ringC ⟨m, cc, bb, n + 1⟩ gm), K'] → ∃ c', IsRing g ⟨m, cc, bb, n + 1⟩ c' ∧ Upd w (grp [.row g (ringC ⟨m, cc, bb, n⟩ gm), K]) w' c' := fun w' K' x IK' M => ⟨_, ⟨gm, K', IK', rfl⟩, M.tail.updG [] rfl⟩
  obtain ⟨F, eF⟩ : ∃ F, F = (grp [.row g (ringC ⟨m, cc, bb, n⟩ gm), K]).fp := ⟨_, rfl⟩
  rw [← eF] at M N0
  have hk : (ringK m cc).length = 32 := ringK_len _ _
  have CC := fun w => Close_ok (ringK m cc) cc bb n about text w hk hc hx ha
  have hB : headL cc bb n ++ (textL (sealL (ringK m cc) bb n text) ++ tagL (ringK m cc) cc bb n about (sealL (ringK m cc) bb n text)) = envB (RingS.env ⟨m, cc, bb, n⟩ about text) := RingS.env_bytes ⟨m, cc, bb, n⟩ about text
  have BC := fun w => SealBytes_ok cc bb n (sealL (ringK m cc) bb n text) (tagL (ringK m cc) cc bb n about (sealL (ringK m cc) bb n text)) w (macL_len _ _) (by unfold rightE; simp [sealL, streamL_len]; omega)
  rw [hB] at BC
  have ht : (tagL (ringK m cc) cc bb n about (sealL (ringK m cc) bb n text)).length = 32 := macL_len _ _
  obtain ⟨B, eB⟩ : ∃ B, B = envB (RingS.env ⟨m, cc, bb, n⟩ about text) := ⟨_, rfl⟩
  rw [← eB] at BC ⊢
  obtain ⟨d, ed⟩ : ∃ d, d = sealL (ringK m cc) bb n text := ⟨_, rfl⟩
  rw [← ed] at CC BC ht
  obtain ⟨t, et⟩ : ∃ t, t = tagL (ringK m cc) cc bb n about d := ⟨_, rfl⟩
  rw [← et] at CC BC ht
  have KC := fun (w : World) RR nR hK => ringkey_c ⟨m, cc, bb, n⟩ g gm K cc w hm RR nR hK IK
  rw [show ringU m (w64 (cc : Int)) = ringK m cc from rfl] at KC
  obtain ⟨kk, ek⟩ : ∃ k, k = ringK m cc := ⟨_, rfl⟩
  rw [← ek] at CC KC hk
  have M : Mem F w w [.row g [.string (mkS m), .int .i64 cc, .int .u32 (I32 bb), .int .u64 (I64 n), .map (some gm)], K] := M
  have NN : ∀ w1, (Chunk.row g [.string (mkS m), .int .i64 cc, .int .u32 (I32 bb), .int .u64 (I64 n), .map (some gm)]).ok w1 → _ := fun w1 RR => ringNone_no (R := ⟨m, cc, bb, n⟩) RR
  have CU : ∀ w1, (Chunk.row g [.string (mkS m), .int .i64 cc, .int .u32 (I32 bb), .int .u64 (I64 n), .map (some gm)]).ok w1 → _ := fun w1 RR => count_up (R := ⟨m, cc, bb, n⟩) RR
  have LU : ∀ w1, (Chunk.row g [.string (mkS m), .int .i64 cc, .int .u32 (I32 bb), .int .u64 (I64 n), .map (some gm)]).ok w1 → _ := fun w1 RR => u64Load_c ⟨g, 3, none⟩ (I64 n) w1 (rowCell RR rfl)
  have hn' : I64 n < 9223372036854775808 := by rw [I64_eq]; omega
  unfold ringC at KC CU
  simp only at KC CU
  obtain ⟨nn, en⟩ : ∃ nn, nn = I64 n := ⟨_, rfl⟩
  rw [← en] at hn' M NN CU LU KC CC
  replace NN := Lib.hid NN
  replace CU := Lib.hid CU
  replace LU := Lib.hid LU
  replace KC := Lib.hid KC
  replace CC := Lib.hid CC
  replace BC := Lib.hid BC
  replace N0 := Lib.hid N0
  clear eF eB ed et ek hB h hn hc en
  go_enter Tryz.func14, Tryz.ntmps14
  go_wp2_with ((first | ((with_reducible refine tGuard ?_); (with_reducible refine w_stripE ?_ ?_); (focus (refine ⟨_, rfl, ?_⟩; first | (with_reducible rfl) | exact decide_eq_false (by omega) | exact decide_eq_true (by omega)))) | ((with_reducible refine tGuard ?_); first | ((with_reducible refine w_skip1 ?_ ?_); (focus (refine ⟨_, rfl, ?_⟩; first | (with_reducible rfl) | exact decide_eq_false (by omega) | exact decide_eq_true (by omega)))) | ((with_reducible refine w_skip0 ?_ ?_); (focus (refine ⟨_, rfl, ?_⟩; first | (with_reducible rfl) | exact decide_eq_false (by omega) | exact decide_eq_true (by omega))))) | (go_at_call 37; go_must (refine (NN.out _ (M.ok 0 _ rfl)).mono ?_; rintro e w1 ⟨rfl, rfl⟩)) | (go_at_call 38; go_must (refine (LU.out _ (M.ok 0 _ rfl)).mono ?_; rintro e w1 ⟨rfl, rfl⟩)) | ((with_reducible show Code.wp _ (Code.region 6 _ _) _ _ _); go_must (have MR := M; refine region_fork (.rd 0 (.rd 1 (.rd 2 (.rd 3 (.rd 6 (.rd 7 (.rd 8 (.rd 10 (.rd 11 (.rd 12 (.rd 14 (.rd 15 (.rd 16 (.rd 4 (.rd 9 (.rd 13 (.alt 5 (.alt 17 (.rd 18 (.rd 19 (.rd 20 (.wr 21 (.wr 22 (.rd 23 .nil)))))) (.wr 21 (.wr 17 (.rd 18 (.rd 19 (.rd 20 (.wr 22 (.rd 23 .nil)))))))) (.wr 21 (.wr 5 (.wr 17 (.rd 18 (.rd 19 (.rd 20 (.wr 22 (.rd 23 .nil))))))))))))))))))))))))) [(22, .ptr), (27, .ptr), (31, .ptr)] [(4, _), (9, _), (13, _)] (IxOk MR [0]) 24 (by kernel_rfl) (by kernel_rfl) rfl (by kernel_rfl) (lowA MR 0 1 (lowA MR 0 1 (lowA MR 0 2 lows_nil))) (ixOk_self MR _) ?_; replace M := M.drew; simp only [planT, opAt, List.getElem?_toArray, List.getElem?_cons_zero, List.getElem?_cons_succ, Option.getD_some])) | (go_at_call 40; go_must (first | (with_reducible refine (KC.out _ (M.ok 0 _ at0) (M.nd 0 1 _ _ (by decide) at0 at1 g (by simp [Chunk.fp])) (M.ok 1 _ at1)).mono ?_; rintro e w1 ⟨rfl, K1, IK1, U⟩; replace M := M.upd 1 rfl U) | (with_reducible refine (KC.out _ (M.ok 1 _ at1) (M.nd 1 2 _ _ (by decide) at1 at2 g (by simp [Chunk.fp])) (M.ok 2 _ at2)).mono ?_; rintro e w1 ⟨rfl, K1, IK1, U⟩; replace M := M.upd 2 rfl U)); clear U; simp only [setC] at M) | (go_at_call 39; go_must (refine (CC.out _).mono ?_; rintro e w1 ⟨rfl, hb⟩; replace M := M.call hb; clear hb)) | (go_at_call 41; go_must (refine (BC.out _).mono ?_; rintro e w1 ⟨rfl, hb⟩; replace M := M.call hb; clear hb)) | ((with_reducible refine tAlloc (some 9) 75 ?_); refine w_alloc M _ rfl rfl (.agg (envC 0 0 0 [] zeroT).toArray) (envC 0 0 0 [] zeroT) (by kernel_rfl) rfl ?_; clear M; intro gx w1 M) | (go_at_call 42; go_must (refine (CU.out _ (M.ok 1 _ rfl)).mono ?_; rintro e w1 ⟨rfl, U⟩; replace M := M.upd 1 rfl U; clear U; simp only [setC] at M)) | ((with_reducible refine tLoad ?_); refine w_at _ _ rfl (by exact ev_tmp rfl) ?_; intro hx; (first | refine w_loadE M _ _ _ rfl (by first | exact at0) hx rfl (by decide +kernel) (by decide +kernel) (by first | assumption | exact zeroT_len | exact macL_len _ _) ?_ | refine w_loadTag M _ _ _ rfl (by first | exact at0) hx rfl (by decide +kernel) (by decide +kernel) (by first | assumption | exact zeroT_len | exact macL_len _ _) ?_); clear hx) | ((with_reducible refine tStore ?_); refine w_at2 _ _ _ rfl (by first | exact ev_tmp rfl | exact ev_const) (by first | exact ev_tmp rfl | exact ev_const) ?_; intro hx hy; (first | refine w_storeE M _ _ _ _ rfl (by first | exact at0) hx rfl hy rfl (by decide +kernel) (by first | assumption | exact zeroT_len | exact macL_len _ _) (by first | assumption | exact zeroT_len | exact macL_len _ _) ?_ | refine w_storeE (k := 0) (b := 0) (n := 0) (d := []) (tg := zeroT) M _ _ _ _ rfl (by first | exact at0) hx rfl hy rfl (by decide +kernel) zeroT_len (by first | assumption | exact zeroT_len | exact macL_len _ _) ?_ | refine w_storeE (tg := zeroT) M _ _ _ _ rfl (by first | exact at0) hx rfl hy rfl (by decide +kernel) zeroT_len (by first | assumption | exact zeroT_len | exact macL_len _ _) ?_ | refine w_storeTag M _ _ _ _ rfl (by first | exact at0) hx rfl hy (by decide +kernel) (by first | assumption | exact zeroT_len | exact macL_len _ _) (by first | assumption | exact zeroT_len | exact macL_len _ _) ?_ | refine w_storeData M _ _ _ _ rfl (by first | exact at0) hx rfl hy (by decide +kernel) ?_ | refine w_storeNum M _ _ _ _ rfl (by first | exact at0) hx rfl hy (by decide +kernel) ?_); clear hx hy M; intro w1 M; (try simp only [setC] at M)) | ((with_reducible refine tConv _ 70 9 ?_); (first | refine w_stringTag M _ _ _ _ _ rfl rfl (by first | exact at0) rfl (by first | assumption | exact zeroT_len | exact macL_len _ _) Tryz.underlying70 Tryz.underlying5 Tryz.underlying9 ?_)) | (with_reducible refine Seg.alt ?_ ?_) | ((with_reducible show Seg _ _ _ _); go_must (first | refine Seg.intro ⟨fun h => absurd rfl h, ?_⟩ | refine Seg.intro ⟨fun _ => ixA, ?_⟩ | refine Seg.intro ⟨ndA, atA, ?_⟩)) | ((with_reducible show OnlyN _ _ _ _ _); refine OnlyN.intro (by kernel_rfl) ?_) | ((with_reducible refine tGuard ?_); first | refine gdS ?_ | (refine gdC ?_ ?_ <;> (intro hgd; rw [hgd]; try (exfalso; simp at hgd; omega)))) | fail | ((with_reducible refine tLoad ?_); go_must (refine ldS ?_)) | ((with_reducible refine tStore ?_); go_must (refine stS ?_; clear M; intro w1 M; (try simp only [setC] at M))) | ((with_reducible refine tBox _ ?_); (refine bxA M ?_; clear M; intro g w1 M))) <;> (try conv => arg 5; simp only [Act.put, List.setIfInBounds_toArray, setC]))
  all_goals
    go_ret2
    exact ⟨rfl, N0.out _ _ _ IK1 M⟩
set_option maxRecDepth 100000 in
set_option maxHeartbeats 4000000 in
theorem Wrap_long (about text : List UInt8) (h : c.ok w) (I : IsRing g R c) (hm : R.m.length ≤ 1000000) (hc : R.c ≤ 1048576) (hn : R.n.toNat < 9223372036854775808) (hx : 8192 < text.length) :
    Calls Tryz.prog 14 #[.pointer (some ⟨g, 0, none⟩), .string (mkS about), .string (mkS text)] w fun e w' => e = .returned (.tuple #[.string (mkS []), .int .i64 3]) ∧ ∃ c', IsRing g R c' ∧ Upd w c w' c' := by
  obtain ⟨gm, K, IK, rfl⟩ := I
  obtain ⟨m, cc, bb, n⟩ := R
  simp only at hm hc hn IK ⊢
  have M : Mem (grp [.row g (ringC ⟨m, cc, bb, n⟩ gm), K]).fp w w [.row g (ringC ⟨m, cc, bb, n⟩ gm), K] := Mem.startG h
  have N0 : ∀ w' K' x, IsKeys m gm K' → Mem (grp [.row g (ringC ⟨m, cc, bb, n⟩ gm), K]).fp w w' [x, .row g (ringC ⟨m, cc, bb, n⟩ gm), K'] → ∃ c', IsRing g ⟨m, cc, bb, n⟩ c' ∧ Upd w (grp [.row g (ringC ⟨m, cc, bb, n⟩ gm), K]) w' c' := fun w' K' x IK' M => ⟨_, ⟨gm, K', IK', rfl⟩, M.tail.updG [] rfl⟩
  obtain ⟨F, eF⟩ : ∃ F, F = (grp [.row g (ringC ⟨m, cc, bb, n⟩ gm), K]).fp := ⟨_, rfl⟩
  rw [← eF] at M N0
  have hk : (ringK m cc).length = 32 := ringK_len _ _
  have CC := fun w => Close_long (ringK m cc) cc bb n about text w (by unfold rightE; simp; omega) hx
  have ht := zeroT_len
  have KC := fun (w : World) RR nR hK => ringkey_c ⟨m, cc, bb, n⟩ g gm K cc w hm RR nR hK IK
  rw [show ringU m (w64 (cc : Int)) = ringK m cc from rfl] at KC
  obtain ⟨kk, ek⟩ : ∃ k, k = ringK m cc := ⟨_, rfl⟩
  rw [← ek] at CC KC hk
  have M : Mem F w w [.row g [.string (mkS m), .int .i64 cc, .int .u32 (I32 bb), .int .u64 (I64 n), .map (some gm)], K] := M
  have NN : ∀ w1, (Chunk.row g [.string (mkS m), .int .i64 cc, .int .u32 (I32 bb), .int .u64 (I64 n), .map (some gm)]).ok w1 → _ := fun w1 RR => ringNone_no (R := ⟨m, cc, bb, n⟩) RR
  have LU : ∀ w1, (Chunk.row g [.string (mkS m), .int .i64 cc, .int .u32 (I32 bb), .int .u64 (I64 n), .map (some gm)]).ok w1 → _ := fun w1 RR => u64Load_c ⟨g, 3, none⟩ (I64 n) w1 (rowCell RR rfl)
  have hn' : I64 n < 9223372036854775808 := by rw [I64_eq]; omega
  unfold ringC at KC
  simp only at KC
  obtain ⟨nn, en⟩ : ∃ nn, nn = I64 n := ⟨_, rfl⟩
  rw [← en] at hn' M NN LU KC CC
  replace NN := Lib.hid NN
  replace LU := Lib.hid LU
  replace KC := Lib.hid KC
  replace CC := Lib.hid CC
  replace N0 := Lib.hid N0
  have EN := Lib.hid fun _ : Unit => en
  clear eF ek h hn hc en
  go_enter Tryz.func14, Tryz.ntmps14
  go_wp2_with ((first | ((with_reducible refine tGuard ?_); (with_reducible refine w_stripE ?_ ?_); (focus (refine ⟨_, rfl, ?_⟩; first | (with_reducible rfl) | exact decide_eq_false (by omega) | exact decide_eq_true (by omega)))) | ((with_reducible refine tGuard ?_); first | ((with_reducible refine w_skip1 ?_ ?_); (focus (refine ⟨_, rfl, ?_⟩; first | (with_reducible rfl) | exact decide_eq_false (by omega) | exact decide_eq_true (by omega)))) | ((with_reducible refine w_skip0 ?_ ?_); (focus (refine ⟨_, rfl, ?_⟩; first | (with_reducible rfl) | exact decide_eq_false (by omega) | exact decide_eq_true (by omega))))) | (go_at_call 37; go_must (refine (NN.out _ (M.ok 0 _ rfl)).mono ?_; rintro e w1 ⟨rfl, rfl⟩)) | (go_at_call 38; go_must (refine (LU.out _ (M.ok 0 _ rfl)).mono ?_; rintro e w1 ⟨rfl, rfl⟩)) | ((with_reducible show Code.wp _ (Code.region 6 _ _) _ _ _); go_must (have MR := M; refine region_fork (.rd 0 (.rd 1 (.rd 2 (.rd 3 (.rd 6 (.rd 7 (.rd 8 (.rd 10 (.rd 11 (.rd 12 (.rd 14 (.rd 15 (.rd 16 (.rd 4 (.rd 9 (.rd 13 (.alt 5 (.alt 17 (.rd 18 (.rd 19 (.rd 20 (.wr 21 (.wr 22 (.rd 23 .nil)))))) (.wr 21 (.wr 17 (.rd 18 (.rd 19 (.rd 20 (.wr 22 (.rd 23 .nil)))))))) (.wr 21 (.wr 5 (.wr 17 (.rd 18 (.rd 19 (.rd 20 (.wr 22 (.rd 23 .nil))))))))))))))))))))))))) [(22, .ptr), (27, .ptr), (31, .ptr)] [(4, _), (9, _), (13, _)] (IxOk MR [0]) 24 (by kernel_rfl) (by kernel_rfl) rfl (by kernel_rfl) (lowA MR 0 1 (lowA MR 0 1 (lowA MR 0 2 lows_nil))) (ixOk_self MR _) ?_; replace M := M.drew; simp only [planT, opAt, List.getElem?_toArray, List.getElem?_cons_zero, List.getElem?_cons_succ, Option.getD_some])) | (go_at_call 40; go_must (first | (with_reducible refine (KC.out _ (M.ok 0 _ at0) (M.nd 0 1 _ _ (by decide) at0 at1 g (by simp [Chunk.fp])) (M.ok 1 _ at1)).mono ?_; rintro e w1 ⟨rfl, K1, IK1, U⟩; replace M := M.upd 1 rfl U) | (with_reducible refine (KC.out _ (M.ok 1 _ at1) (M.nd 1 2 _ _ (by decide) at1 at2 g (by simp [Chunk.fp])) (M.ok 2 _ at2)).mono ?_; rintro e w1 ⟨rfl, K1, IK1, U⟩; replace M := M.upd 2 rfl U)); clear U; simp only [setC] at M) | (go_at_call 39; go_must (refine (CC.out _).mono ?_; rintro e w1 ⟨rfl, hb⟩; replace M := M.call hb; clear hb)) | ((with_reducible refine tAlloc (some 9) 75 ?_); refine w_alloc M _ rfl rfl (.agg (envC 0 0 0 [] zeroT).toArray) (envC 0 0 0 [] zeroT) (by kernel_rfl) rfl ?_; clear M; intro gx w1 M) | ((with_reducible refine tLoad ?_); refine w_at _ _ rfl (by exact ev_tmp rfl) ?_; intro hx; (first | refine w_loadE M _ _ _ rfl (by first | exact at0) hx rfl (by decide +kernel) (by decide +kernel) (by first | assumption | exact zeroT_len | exact macL_len _ _) ?_ | refine w_loadTag M _ _ _ rfl (by first | exact at0) hx rfl (by decide +kernel) (by decide +kernel) (by first | assumption | exact zeroT_len | exact macL_len _ _) ?_); clear hx) | ((with_reducible refine tStore ?_); refine w_at2 _ _ _ rfl (by first | exact ev_tmp rfl | exact ev_const) (by first | exact ev_tmp rfl | exact ev_const) ?_; intro hx hy; (first | refine w_storeE M _ _ _ _ rfl (by first | exact at0) hx rfl hy rfl (by decide +kernel) (by first | assumption | exact zeroT_len | exact macL_len _ _) (by first | assumption | exact zeroT_len | exact macL_len _ _) ?_ | refine w_storeE (k := 0) (b := 0) (n := 0) (d := []) (tg := zeroT) M _ _ _ _ rfl (by first | exact at0) hx rfl hy rfl (by decide +kernel) zeroT_len (by first | assumption | exact zeroT_len | exact macL_len _ _) ?_ | refine w_storeE (tg := zeroT) M _ _ _ _ rfl (by first | exact at0) hx rfl hy rfl (by decide +kernel) zeroT_len (by first | assumption | exact zeroT_len | exact macL_len _ _) ?_ | refine w_storeTag M _ _ _ _ rfl (by first | exact at0) hx rfl hy (by decide +kernel) (by first | assumption | exact zeroT_len | exact macL_len _ _) (by first | assumption | exact zeroT_len | exact macL_len _ _) ?_ | refine w_storeData M _ _ _ _ rfl (by first | exact at0) hx rfl hy (by decide +kernel) ?_ | refine w_storeNum M _ _ _ _ rfl (by first | exact at0) hx rfl hy (by decide +kernel) ?_); clear hx hy M; intro w1 M; (try simp only [setC] at M)) | ((with_reducible refine tConv _ 70 9 ?_); (first | refine w_stringTag M _ _ _ _ _ rfl rfl (by first | exact at0) rfl (by first | assumption | exact zeroT_len | exact macL_len _ _) Tryz.underlying70 Tryz.underlying5 Tryz.underlying9 ?_)) | (with_reducible refine Seg.alt ?_ ?_) | ((with_reducible show Seg _ _ _ _); go_must (first | refine Seg.intro ⟨fun h => absurd rfl h, ?_⟩ | refine Seg.intro ⟨fun _ => ixA, ?_⟩ | refine Seg.intro ⟨ndA, atA, ?_⟩)) | ((with_reducible show OnlyN _ _ _ _ _); refine OnlyN.intro (by kernel_rfl) ?_) | ((with_reducible refine tGuard ?_); first | refine gdS ?_ | (refine gdC ?_ ?_ <;> (intro hgd; rw [hgd]; try (exfalso; simp at hgd; omega)))) | fail | ((with_reducible refine tLoad ?_); go_must (refine ldS ?_)) | ((with_reducible refine tStore ?_); go_must (refine stS ?_; clear M; intro w1 M; (try simp only [setC] at M))) | ((with_reducible refine tBox _ ?_); (refine bxA M ?_; clear M; intro g w1 M))) <;> (try conv => arg 5; simp only [Act.put, List.setIfInBounds_toArray, setC]))
  all_goals
    rw [EN.out ()] at M
    go_ret2
    exact ⟨rfl, N0.out _ _ _ IK1 M⟩
end
end Go.Proofs.YtidadhbaomieiaaGreat

/- The walk of seal.Read. Conditions: lengths. -/
namespace Go.Proofs.YtidadhbaomieiaaGreat
open Go.RowKit Go.TL
set_option maxRecDepth 100000 in
set_option maxHeartbeats 4000000 in
theorem sealRead_c (s : List UInt8) (w : World) (hs : s.length ≤ 1000000) :
    Calls Tryz.prog 30 #[.string (mkS s)] w fun e w' => e = .returned (.tuple #[.agg (envC (readS s).1.k (readS s).1.b (readS s).1.n (readS s).1.d (readS s).1.t).toArray, .int .i64 (readS s).2]) ∧ Below w.heap.size w w' := by
  have M := Mem.start [] w
  have f0 : (InS.mk s 0 0).fit := by unfold InS.fit; simp only; omega
  have f1 := InS.most_fit f0 1048576
  have f2 := InS.most_fit f1 4294967295
  have f3 := InS.most_fit f2 maxU
  have f4 := InS.text_fit f3 8192
  have hcm := InS.most_le ((InS.mk s 0 0).most 1048576 |>.2 |>.most 4294967295 |>.2) maxU
  have Q1 := fun g (w : World) h => Most_c g (InS.mk s 0 0) w h f0 1048576 1048576 rfl (by omega)
  have Q2 := fun g (w : World) h => Most_c g _ w h f1 4294967295 4294967295 rfl (by omega)
  have Q3 := fun g (w : World) h => In_Num_c g _ w h f2
  have Q4 := fun g (w : World) h => In_Text_c g _ w h f3 8192 8192 rfl (by omega)
  obtain ⟨⟨a, x1⟩, e1⟩ : ∃ R, R = (InS.mk s 0 0).most 1048576 := ⟨_, rfl⟩
  rw [← e1] at f1 f2 f3 f4 hcm Q1 Q2 Q3 Q4
  simp only at f1 f2 f3 f4 hcm Q1 Q2 Q3 Q4
  obtain ⟨⟨b, x2⟩, e2⟩ : ∃ R, R = x1.most 4294967295 := ⟨_, rfl⟩
  rw [← e2] at f2 f3 f4 hcm Q2 Q3 Q4
  simp only at f2 f3 f4 hcm Q2 Q3 Q4
  obtain ⟨⟨c, x3⟩, e3⟩ : ∃ R, R = x2.most maxU := ⟨_, rfl⟩
  rw [← e3] at f3 f4 hcm Q3 Q4
  simp only at f3 f4 hcm Q3 Q4
  obtain ⟨⟨d, x4⟩, e4⟩ : ∃ R, R = x3.text 8192 := ⟨_, rfl⟩
  rw [← e4] at f4 Q4
  simp only at f4 Q4
  have en : numsS s = ⟨a, b, c, d, x4⟩ := by unfold numsS; simp only [← e1, ← e2, ← e3, ← e4]
  rw [maxU_eq] at hcm
  have ec : (c : Int) = I64 (UInt64.ofNat c) := by rw [I64_eq, UInt64.toNat_ofNat', Nat.mod_eq_of_lt (by omega)]
  rw [ec] at Q3
  obtain ⟨nn, enn⟩ : ∃ x, x = UInt64.ofNat c := ⟨_, rfl⟩
  rw [← enn] at Q3
  obtain ⟨bb, ebb⟩ : ∃ x, x = UInt32.ofNat b := ⟨_, rfl⟩
  have hbb : w32 (b : Int) = bb := by rw [ebb]; exact w32_nat b
  have TF := fun n => tagS_fit f4 n
  have er : ∀ (x5 : InS) (t : List UInt8), (x5, t) = tagS x4 32 → readS s = if x5.fin = 0 then (⟨a, bb, nn, d, t⟩, 0) else (zeroE, x5.fin) := fun x5 t h => by unfold readS; simp only [en, ← h, ← enn, ← ebb]
  replace Q1 := Lib.hid Q1
  replace Q2 := Lib.hid Q2
  replace Q3 := Lib.hid Q3
  replace Q4 := Lib.hid Q4
  replace er := Lib.hid er
  replace TF := Lib.hid TF
  clear e1 e2 e3 e4 en ec enn ebb hcm f0 f1 f2 f3 f4
  go_enter Tryz.func30, Tryz.ntmps30
  go_wp2_with ((first | ((with_reducible refine tAlloc (some 2) 75 ?_); refine w_alloc M _ rfl rfl (.agg (envC 0 0 0 [] zeroT).toArray) (envC 0 0 0 [] zeroT) (by kernel_rfl) rfl ?_; clear M; intro gr w1 M) | ((with_reducible refine tAlloc (some 5) 75 ?_); refine w_alloc M _ rfl rfl (.agg (envC 0 0 0 [] zeroT).toArray) (envC 0 0 0 [] zeroT) (by kernel_rfl) rfl ?_; clear M; intro gx w1 M) | (go_at_call 57; go_must (refine (packOf_c s _).mono ?_; rintro e w1 ⟨gi, rfl, MP⟩; replace M := M.join MP; clear MP; simp only [List.cons_append, List.nil_append] at M)) | (go_at_call 58; go_must ((first | (with_reducible refine (Q1.out _ _ (M.ok 0 _ rfl)).mono ?_) | (with_reducible refine (Q2.out _ _ (M.ok 0 _ rfl)).mono ?_)); rintro e w1 ⟨rfl, U⟩; replace M := M.upd 0 rfl U; clear U; simp only [List.set_cons_zero] at M)) | (go_at_call 59; go_must (refine (Q3.out _ _ (M.ok 0 _ rfl)).mono ?_; rintro e w1 ⟨rfl, U⟩; replace M := M.upd 0 rfl U; clear U; simp only [List.set_cons_zero] at M)) | (go_at_call 60; go_must (refine (Q4.out _ _ (M.ok 0 _ rfl)).mono ?_; rintro e w1 ⟨rfl, U⟩; replace M := M.upd 0 rfl U; clear U; simp only [List.set_cons_zero] at M)) | ((with_reducible refine tLoad ?_); refine w_at _ _ rfl (by exact ev_tmp rfl) ?_; intro hx; (first | refine w_loadE M _ _ _ rfl (by first | exact at0) hx rfl (by decide +kernel) (by decide +kernel) (by first | assumption | exact zeroT_len | exact macL_len _ _) ?_ | refine w_loadTag M _ _ _ rfl (by first | exact at0) hx rfl (by decide +kernel) (by decide +kernel) (by first | assumption | exact zeroT_len | exact macL_len _ _) ?_); clear hx) | ((with_reducible refine tStore ?_); refine w_at2 _ _ _ rfl (by first | exact ev_tmp rfl | exact ev_const) (by first | exact ev_tmp rfl | exact ev_const) ?_; intro hx hy; (first | refine w_storeE M _ _ _ _ rfl (by first | exact at0) hx rfl hy rfl (by decide +kernel) (by first | assumption | exact zeroT_len | exact macL_len _ _) (by first | assumption | exact zeroT_len | exact macL_len _ _) ?_ | refine w_storeE (k := 0) (b := 0) (n := 0) (d := []) (tg := zeroT) M _ _ _ _ rfl (by first | exact at0) hx rfl hy rfl (by decide +kernel) zeroT_len (by first | assumption | exact zeroT_len | exact macL_len _ _) ?_ | refine w_storeE (tg := zeroT) M _ _ _ _ rfl (by first | exact at0) hx rfl hy rfl (by decide +kernel) zeroT_len (by first | assumption | exact zeroT_len | exact macL_len _ _) ?_ | refine w_storeTag M _ _ _ _ rfl (by first | exact at0) hx rfl hy (by decide +kernel) (by first | assumption | exact zeroT_len | exact macL_len _ _) (by first | assumption | exact zeroT_len | exact macL_len _ _) ?_ | refine w_storeData M _ _ _ _ rfl (by first | exact at0) hx rfl hy (by decide +kernel) ?_ | refine w_storeNum M _ _ _ _ rfl (by first | exact at0) hx rfl hy (by decide +kernel) ?_); clear hx hy M; intro w1 M; (try simp only [setC] at M)) | ((with_reducible refine tConv _ 70 9 ?_); (first | refine w_stringTag M _ _ _ _ _ rfl rfl (by first | exact at0) rfl (by first | assumption | exact zeroT_len | exact macL_len _ _) Tryz.underlying70 Tryz.underlying5 Tryz.underlying9 ?_)) | ((with_reducible refine tGuard ?_); first | refine gdS ?_ | (refine gdC ?_ ?_ <;> (intro hgd; rw [hgd]; try (exfalso; simp at hgd; omega)))) | ((with_reducible refine tConv _ 70 9 ?_); go_must (refine cvB ?_)) | ((with_reducible refine tLoad ?_); go_must (refine ldB ?_)) | ((with_reducible refine tStore ?_); go_must (refine stB ?_; clear M; intro w1 M; (try simp only [setC] at M))) | ((with_reducible refine tBox _ ?_); (refine bxA M ?_; clear M; intro g w1 M))) <;> (try conv => arg 5; simp only [Act.put, List.setIfInBounds_toArray, setC]))
  go_loopw [20] (fun kv wr => ∃ j : Nat, j ≤ 32 ∧ kv = .int .i64 j ∧ Mem [] w wr [.row gx (envC a bb nn d (tagS x4 j).2), .row gi (inV (tagS x4 j).1), .row gr (envC 0 0 0 [] zeroT)]) (fun kv _ => 32 - (intOf kv).toNat)
  case atStart => exact ⟨0, by omega, rfl, M⟩
  case round =>
    clear M
    obtain ⟨j, hj, rfl, M⟩ := hrel
    have fy := TF.out j
    have tl := tagS_len x4 j
    have TS := tagS_succ x4 j
    have ER := er.out (tagS x4 j).1 (tagS x4 j).2
    obtain ⟨⟨y, t⟩, ey⟩ : ∃ R, R = tagS x4 j := ⟨_, rfl⟩
    rw [← ey] at M fy tl TS ER
    simp only at M fy tl TS ER
    have EY := Lib.hid fun _ : Unit => ey
    clear ey
    by_cases hlt : j < 32
    · obtain ⟨q, hq⟩ := byte_has y
      have BC := fun (w : World) h => In_Byte_c gi y w h fy
      rw [hq, UInt8.ofNat_toNat] at TS
      rw [hq, show ((q.toNat : Nat) : Int) = I8 q from rfl] at BC
      obtain ⟨z, ez⟩ : ∃ z, z = y.byte.2 := ⟨_, rfl⟩
      rw [← ez] at TS BC
      replace BC := Lib.hid BC
      replace TS := Lib.hid fun _ : Unit => TS
      clear ez hq ER
      go_wp2_with ((first | (go_at_call 61; go_must (refine (BC.out _ (M.ok 1 _ rfl)).mono ?_; rintro e w1 ⟨rfl, U⟩; replace M := M.upd 1 rfl U; clear U; simp only [List.set_cons_succ, List.set_cons_zero] at M)) | ((with_reducible show wpList _ _ _ (Oper.mk _ (Op.store _ _ _) _ _ _ _ :: _) _ _); refine w_at2 _ _ _ rfl (by first | exact ev_tmp rfl | exact ev_const) (by first | exact ev_tmp rfl | exact ev_const) ?_; intro hx hy; refine w_storeTagB M 0 _ _ _ rfl rfl hx rfl hy (by decide +kernel) j (by first | rfl | omega) (by omega) ?_; clear hx hy M; intro w1 M; simp only [List.set_cons_zero] at M) | ((with_reducible refine tGuard ?_); first | refine gdS ?_ | (refine gdC ?_ ?_ <;> (intro hgd; rw [hgd]; try (exfalso; simp at hgd; omega)))) | ((with_reducible refine tConv _ 70 9 ?_); go_must (refine cvB ?_)) | ((with_reducible refine tLoad ?_); go_must (refine ldB ?_)) | ((with_reducible refine tStore ?_); go_must (refine stB ?_; clear M; intro w1 M; (try simp only [setC] at M))) | ((with_reducible refine tBox _ ?_); (refine bxA M ?_; clear M; intro g w1 M))) <;> (try conv => arg 5; simp only [Act.put, List.setIfInBounds_toArray, setC]))
      go_roundw
      case rel => exact ⟨j + 1, by omega, by go_num, by rw [TS.out ()]; exact M⟩
      case measure => simp [intOf]; omega
    · obtain rfl : j = 32 := by omega
      replace ER := ER (EY.out ())
      have EC := fun (w : World) h => End_c gi y w h fy
      by_cases hf : y.fin = 0
      · rw [if_pos hf] at ER
        rw [hf] at EC
        replace EC := Lib.hid EC
        replace ER := Lib.hid fun _ : Unit => ER
        clear hf
        go_wp2_with ((first | (go_at_call 62; go_must (refine (EC.out _ (M.ok 1 _ rfl)).mono ?_; rintro e w1 ⟨rfl, hb⟩; replace M := M.call hb; clear hb)) | ((with_reducible refine tLoad ?_); refine w_at _ _ rfl (by exact ev_tmp rfl) ?_; intro hx; (first | refine w_loadE M _ _ _ rfl (by first | exact at0 | exact at2) hx rfl (by decide +kernel) (by decide +kernel) (by first | assumption | exact zeroT_len | exact macL_len _ _) ?_ | refine w_loadTag M _ _ _ rfl (by first | exact at0 | exact at2) hx rfl (by decide +kernel) (by decide +kernel) (by first | assumption | exact zeroT_len | exact macL_len _ _) ?_); clear hx) | ((with_reducible refine tStore ?_); refine w_at2 _ _ _ rfl (by first | exact ev_tmp rfl | exact ev_const) (by first | exact ev_tmp rfl | exact ev_const) ?_; intro hx hy; (first | refine w_storeE M _ _ _ _ rfl (by first | exact at0 | exact at2) hx rfl hy rfl (by decide +kernel) (by first | assumption | exact zeroT_len | exact macL_len _ _) (by first | assumption | exact zeroT_len | exact macL_len _ _) ?_ | refine w_storeE (k := 0) (b := 0) (n := 0) (d := []) (tg := zeroT) M _ _ _ _ rfl (by first | exact at0 | exact at2) hx rfl hy rfl (by decide +kernel) zeroT_len (by first | assumption | exact zeroT_len | exact macL_len _ _) ?_ | refine w_storeE (tg := zeroT) M _ _ _ _ rfl (by first | exact at0 | exact at2) hx rfl hy rfl (by decide +kernel) zeroT_len (by first | assumption | exact zeroT_len | exact macL_len _ _) ?_ | refine w_storeTag M _ _ _ _ rfl (by first | exact at0 | exact at2) hx rfl hy (by decide +kernel) (by first | assumption | exact zeroT_len | exact macL_len _ _) (by first | assumption | exact zeroT_len | exact macL_len _ _) ?_ | refine w_storeData M _ _ _ _ rfl (by first | exact at0 | exact at2) hx rfl hy (by decide +kernel) ?_ | refine w_storeNum M _ _ _ _ rfl (by first | exact at0 | exact at2) hx rfl hy (by decide +kernel) ?_); clear hx hy M; intro w1 M; (try simp only [setC] at M)) | ((with_reducible refine tConv _ 70 9 ?_); (first | refine w_stringTag M _ _ _ _ _ rfl rfl (by first | exact at0 | exact at2) rfl (by first | assumption | exact zeroT_len | exact macL_len _ _) Tryz.underlying70 Tryz.underlying5 Tryz.underlying9 ?_)) | ((with_reducible refine tGuard ?_); first | refine gdS ?_ | (refine gdC ?_ ?_ <;> (intro hgd; rw [hgd]; try (exfalso; simp at hgd; omega)))) | ((with_reducible refine tConv _ 70 9 ?_); go_must (refine cvB ?_)) | ((with_reducible refine tLoad ?_); go_must (refine ldB ?_)) | ((with_reducible refine tStore ?_); go_must (refine stB ?_; clear M; intro w1 M; (try simp only [setC] at M))) | ((with_reducible refine tBox _ ?_); (refine bxA M ?_; clear M; intro g w1 M))) <;> (try conv => arg 5; simp only [Act.put, List.setIfInBounds_toArray, setC]))
        exact bodyPost_ret (results_two rfl _ _ gr 0 (envC a bb nn d t) _ (.int .i64 0) rfl rfl (M.ok 2 _ rfl).2.1 Tryz.underlying75 rfl (by rw [envC_len, tl]; kernel_rfl)) rfl ⟨by rw [ER.out ()]; rfl, M.below⟩
      · rw [if_neg hf] at ER
        obtain ⟨m, em⟩ : ∃ m, m = y.fin := ⟨_, rfl⟩
        rw [← em] at EC hf ER
        replace ER := Lib.hid fun _ : Unit => ER
        have hz : ((m : Int) == 0) = false := by simp; exact hf
        have hz' : ((m : Int) != 0) = true := by simp; exact hf
        replace EC := Lib.hid EC
        clear hf em
        go_wp2_with ((first | (go_at_call 62; go_must (refine (EC.out _ (M.ok 1 _ rfl)).mono ?_; rintro e w1 ⟨rfl, hb⟩; replace M := M.call hb; clear hb)) | ((with_reducible refine tLoad ?_); refine w_at _ _ rfl (by exact ev_tmp rfl) ?_; intro hx; (first | refine w_loadE M _ _ _ rfl (by first | exact at0 | exact at2) hx rfl (by decide +kernel) (by decide +kernel) (by first | assumption | exact zeroT_len | exact macL_len _ _) ?_ | refine w_loadTag M _ _ _ rfl (by first | exact at0 | exact at2) hx rfl (by decide +kernel) (by decide +kernel) (by first | assumption | exact zeroT_len | exact macL_len _ _) ?_); clear hx) | ((with_reducible refine tStore ?_); refine w_at2 _ _ _ rfl (by first | exact ev_tmp rfl | exact ev_const) (by first | exact ev_tmp rfl | exact ev_const) ?_; intro hx hy; (first | refine w_storeE M _ _ _ _ rfl (by first | exact at0 | exact at2) hx rfl hy rfl (by decide +kernel) (by first | assumption | exact zeroT_len | exact macL_len _ _) (by first | assumption | exact zeroT_len | exact macL_len _ _) ?_ | refine w_storeE (k := 0) (b := 0) (n := 0) (d := []) (tg := zeroT) M _ _ _ _ rfl (by first | exact at0 | exact at2) hx rfl hy rfl (by decide +kernel) zeroT_len (by first | assumption | exact zeroT_len | exact macL_len _ _) ?_ | refine w_storeE (tg := zeroT) M _ _ _ _ rfl (by first | exact at0 | exact at2) hx rfl hy rfl (by decide +kernel) zeroT_len (by first | assumption | exact zeroT_len | exact macL_len _ _) ?_ | refine w_storeTag M _ _ _ _ rfl (by first | exact at0 | exact at2) hx rfl hy (by decide +kernel) (by first | assumption | exact zeroT_len | exact macL_len _ _) (by first | assumption | exact zeroT_len | exact macL_len _ _) ?_ | refine w_storeData M _ _ _ _ rfl (by first | exact at0 | exact at2) hx rfl hy (by decide +kernel) ?_ | refine w_storeNum M _ _ _ _ rfl (by first | exact at0 | exact at2) hx rfl hy (by decide +kernel) ?_); clear hx hy M; intro w1 M; (try simp only [setC] at M)) | ((with_reducible refine tConv _ 70 9 ?_); (first | refine w_stringTag M _ _ _ _ _ rfl rfl (by first | exact at0 | exact at2) rfl (by first | assumption | exact zeroT_len | exact macL_len _ _) Tryz.underlying70 Tryz.underlying5 Tryz.underlying9 ?_)) | ((with_reducible refine tGuard ?_); first | refine gdS ?_ | (refine gdC ?_ ?_ <;> (intro hgd; rw [hgd]; try (exfalso; simp at hgd; omega)))) | ((with_reducible refine tConv _ 70 9 ?_); go_must (refine cvB ?_)) | ((with_reducible refine tLoad ?_); go_must (refine ldB ?_)) | ((with_reducible refine tStore ?_); go_must (refine stB ?_; clear M; intro w1 M; (try simp only [setC] at M))) | ((with_reducible refine tBox _ ?_); (refine bxA M ?_; clear M; intro g w1 M))) <;> (try conv => arg 5; simp only [Act.put, List.setIfInBounds_toArray, setC]))
        exact bodyPost_ret (results_two rfl _ _ gr 0 (envC 0 0 0 [] zeroT) _ (.int .i64 (m : Int)) rfl rfl (M.ok 2 _ rfl).2.1 Tryz.underlying75 rfl (by rw [envC_len, zeroT_len]; kernel_rfl)) rfl ⟨by rw [ER.out ()]; rfl, M.below⟩
end Go.Proofs.YtidadhbaomieiaaGreat
