/- Texts of this seat, put together: SealA, SealB, RefInL, InM, InT, SealR, SealD, SealO0, PathL, Sees, BatL, TokL, PathN. Each begins with a remark that says what is proved in it, and under which conditions. -/
import Derived.Lib.Bytealg
import Derived.Lib.IndexLaws
import Derived.OwnWalk
import Derived.Test.YtjlkiopncclomaaZb
import Derived.Test.YtjlkiopncclomaaZd
/- The walks of package seal's inner functions: right, numbers, stream, tag. Conditions: lengths. -/
namespace Go
namespace TL
def rightE (k : Int) (d : List UInt8) : Bool := decide (0 ≤ k) && (decide (k ≤ 1048576) && decide ((d.length : Int) ≤ 8192))
/-- An envelope's numbers. -/
def headL (k : Nat) (b : UInt32) (n : UInt64) : List UInt8 := numL k ++ (numL b.toNat ++ numL n.toNat)
def nonceL (b : UInt32) (n : UInt64) : List UInt8 := bigB b.toUInt64 4 ++ bigB n 8
theorem nonceL_len (b : UInt32) (n : UInt64) : (nonceL b n).length = 12 := by unfold nonceL; rw [List.length_append, bigB_length, bigB_length]
def encL : List UInt8 := [101, 110, 99]
def macT : List UInt8 := [109, 97, 99]
/-- An envelope's text, sealed or opened. -/
def sealL (key : List UInt8) (b : UInt32) (n : UInt64) (text : List UInt8) : List UInt8 := streamL (macL key encL) (nonceL b n) text
/-- The tag that an envelope must have. -/
def tagL (key : List UInt8) (k : Nat) (b : UInt32) (n : UInt64) (about data : List UInt8) : List UInt8 := macL (macL key macT) (headL k b n ++ (textL about ++ textL data))
theorem headL_len (k : Nat) (b : UInt32) (n : UInt64) (h : k < 18446744073709551616) : (headL k b n).length ≤ 30 := by
  have h1 := numL_length_le k h
  have h2 := numL_length_le b.toNat (by have := b.toNat_lt; omega)
  have h3 := numL_length_le n.toNat (by have := n.toNat_lt; omega)
  unfold headL; simp only [List.length_append]; omega
end TL
end Go
namespace Go.Proofs.Ytjlkiopncclomaa
open Go.RowKit Go.TL
set_option maxRecDepth 100000 in
set_option maxHeartbeats 2000000 in
theorem sealRight_c (k : Int) (b : UInt32) (n : UInt64) (d t : List UInt8) (w : World) :
    Calls Try.prog 36 #[.agg (envC k b n d t).toArray] w fun e w' => e = .returned (.bool (rightE k d)) ∧ Below w.heap.size w w' := by
  have M := Mem.start [] w
  unfold rightE
  by_cases h1 : 0 ≤ k
  · by_cases h2 : k ≤ 1048576
    · by_cases h3 : (d.length : Int) ≤ 8192
      · rw [decide_eq_true h1, decide_eq_true h2, decide_eq_true h3]
        go_enter Try.func36, Try.ntmps36
        go_wp2_with (first | ((with_reducible refine tBox (some 1) ?_); refine w_box M _ _ rfl rfl _ rfl (envC k b n d t) rfl ?_; clear M; intro gx w1 M; (try conv => arg 5; simp only [Act.put, List.setIfInBounds_toArray, setC])) | ((with_reducible refine tGuard ?_); (with_reducible refine w_stripE ?_ ?_); (focus (refine ⟨_, rfl, ?_⟩; first | (with_reducible rfl) | exact decide_eq_false (by omega) | exact decide_eq_true (by omega)))) | ((with_reducible refine tGuard ?_); first | ((with_reducible refine w_skip1 ?_ ?_); (focus (refine ⟨_, rfl, ?_⟩; first | (with_reducible rfl) | exact decide_eq_false (by omega) | exact decide_eq_true (by omega))); (try conv => arg 5; simp only [Act.put, List.setIfInBounds_toArray, setC])) | ((with_reducible refine w_skip0 ?_ ?_); (focus (refine ⟨_, rfl, ?_⟩; first | (with_reducible rfl) | exact decide_eq_false (by omega) | exact decide_eq_true (by omega))); (try conv => arg 5; simp only [Act.put, List.setIfInBounds_toArray, setC]))) | ((with_reducible refine tGuard ?_); refine w_strip rfl (by with_reducible rfl) ?_) | fail | ((with_reducible refine tLoad ?_); go_must (refine w_at _ _ rfl (by exact ev_tmp rfl) ?_; intro hx; (first | refine w_load M _ _ _ rfl (by first | exact at0) hx rfl (by decide +kernel) (by exact rfl) ?_ | refine w_loadR M _ _ _ rfl (by first | exact at0) hx rfl (by decide +kernel) (by kernel_rfl) ?_); clear hx; (try conv => arg 5; simp only [Act.put, List.setIfInBounds_toArray, setC]))) | ((with_reducible refine tStore ?_); go_must (refine w_at2 _ _ _ rfl (by exact ev_tmp rfl) (by first | exact ev_tmp rfl | exact ev_const) ?_; intro hx hy; (first | refine w_store M _ _ _ _ rfl (by first | exact at0) hx rfl hy rfl rfl (by decide +kernel) (by first | decide | simp | (simp; omega)) ?_ | refine w_storeR M _ _ _ _ rfl (by first | exact at0) hx rfl _ hy rfl (by kernel_rfl) (by simp [Value.oneCell']) (by first | rfl | assumption) ?_); clear hx hy M; intro w1 M; (try simp only [setC] at M); (try conv => arg 5; simp only [Act.put, List.setIfInBounds_toArray, setC]))) | ((with_reducible refine tBox _ ?_); (refine w_box M _ _ rfl rfl _ rfl _ rfl ?_; clear M; intro g w1 M; (try conv => arg 5; simp only [Act.put, List.setIfInBounds_toArray, setC]))))
        go_ret
        exact ⟨rfl, M.below⟩
      · rw [decide_eq_true h1, decide_eq_true h2, decide_eq_false h3]
        go_enter Try.func36, Try.ntmps36
        go_wp2_with (first | ((with_reducible refine tBox (some 1) ?_); refine w_box M _ _ rfl rfl _ rfl (envC k b n d t) rfl ?_; clear M; intro gx w1 M; (try conv => arg 5; simp only [Act.put, List.setIfInBounds_toArray, setC])) | ((with_reducible refine tGuard ?_); (with_reducible refine w_stripE ?_ ?_); (focus (refine ⟨_, rfl, ?_⟩; first | (with_reducible rfl) | exact decide_eq_false (by omega) | exact decide_eq_true (by omega)))) | ((with_reducible refine tGuard ?_); first | ((with_reducible refine w_skip1 ?_ ?_); (focus (refine ⟨_, rfl, ?_⟩; first | (with_reducible rfl) | exact decide_eq_false (by omega) | exact decide_eq_true (by omega))); (try conv => arg 5; simp only [Act.put, List.setIfInBounds_toArray, setC])) | ((with_reducible refine w_skip0 ?_ ?_); (focus (refine ⟨_, rfl, ?_⟩; first | (with_reducible rfl) | exact decide_eq_false (by omega) | exact decide_eq_true (by omega))); (try conv => arg 5; simp only [Act.put, List.setIfInBounds_toArray, setC]))) | ((with_reducible refine tGuard ?_); refine w_strip rfl (by with_reducible rfl) ?_) | fail | ((with_reducible refine tLoad ?_); go_must (refine w_at _ _ rfl (by exact ev_tmp rfl) ?_; intro hx; (first | refine w_load M _ _ _ rfl (by first | exact at0) hx rfl (by decide +kernel) (by exact rfl) ?_ | refine w_loadR M _ _ _ rfl (by first | exact at0) hx rfl (by decide +kernel) (by kernel_rfl) ?_); clear hx; (try conv => arg 5; simp only [Act.put, List.setIfInBounds_toArray, setC]))) | ((with_reducible refine tStore ?_); go_must (refine w_at2 _ _ _ rfl (by exact ev_tmp rfl) (by first | exact ev_tmp rfl | exact ev_const) ?_; intro hx hy; (first | refine w_store M _ _ _ _ rfl (by first | exact at0) hx rfl hy rfl rfl (by decide +kernel) (by first | decide | simp | (simp; omega)) ?_ | refine w_storeR M _ _ _ _ rfl (by first | exact at0) hx rfl _ hy rfl (by kernel_rfl) (by simp [Value.oneCell']) (by first | rfl | assumption) ?_); clear hx hy M; intro w1 M; (try simp only [setC] at M); (try conv => arg 5; simp only [Act.put, List.setIfInBounds_toArray, setC]))) | ((with_reducible refine tBox _ ?_); (refine w_box M _ _ rfl rfl _ rfl _ rfl ?_; clear M; intro g w1 M; (try conv => arg 5; simp only [Act.put, List.setIfInBounds_toArray, setC]))))
        go_ret
        exact ⟨rfl, M.below⟩
    · rw [decide_eq_true h1, decide_eq_false h2]
      go_enter Try.func36, Try.ntmps36
      go_wp2_with (first | ((with_reducible refine tBox (some 1) ?_); refine w_box M _ _ rfl rfl _ rfl (envC k b n d t) rfl ?_; clear M; intro gx w1 M; (try conv => arg 5; simp only [Act.put, List.setIfInBounds_toArray, setC])) | ((with_reducible refine tGuard ?_); (with_reducible refine w_stripE ?_ ?_); (focus (refine ⟨_, rfl, ?_⟩; first | (with_reducible rfl) | exact decide_eq_false (by omega) | exact decide_eq_true (by omega)))) | ((with_reducible refine tGuard ?_); first | ((with_reducible refine w_skip1 ?_ ?_); (focus (refine ⟨_, rfl, ?_⟩; first | (with_reducible rfl) | exact decide_eq_false (by omega) | exact decide_eq_true (by omega))); (try conv => arg 5; simp only [Act.put, List.setIfInBounds_toArray, setC])) | ((with_reducible refine w_skip0 ?_ ?_); (focus (refine ⟨_, rfl, ?_⟩; first | (with_reducible rfl) | exact decide_eq_false (by omega) | exact decide_eq_true (by omega))); (try conv => arg 5; simp only [Act.put, List.setIfInBounds_toArray, setC]))) | ((with_reducible refine tGuard ?_); refine w_strip rfl (by with_reducible rfl) ?_) | fail | ((with_reducible refine tLoad ?_); go_must (refine w_at _ _ rfl (by exact ev_tmp rfl) ?_; intro hx; (first | refine w_load M _ _ _ rfl (by first | exact at0) hx rfl (by decide +kernel) (by exact rfl) ?_ | refine w_loadR M _ _ _ rfl (by first | exact at0) hx rfl (by decide +kernel) (by kernel_rfl) ?_); clear hx; (try conv => arg 5; simp only [Act.put, List.setIfInBounds_toArray, setC]))) | ((with_reducible refine tStore ?_); go_must (refine w_at2 _ _ _ rfl (by exact ev_tmp rfl) (by first | exact ev_tmp rfl | exact ev_const) ?_; intro hx hy; (first | refine w_store M _ _ _ _ rfl (by first | exact at0) hx rfl hy rfl rfl (by decide +kernel) (by first | decide | simp | (simp; omega)) ?_ | refine w_storeR M _ _ _ _ rfl (by first | exact at0) hx rfl _ hy rfl (by kernel_rfl) (by simp [Value.oneCell']) (by first | rfl | assumption) ?_); clear hx hy M; intro w1 M; (try simp only [setC] at M); (try conv => arg 5; simp only [Act.put, List.setIfInBounds_toArray, setC]))) | ((with_reducible refine tBox _ ?_); (refine w_box M _ _ rfl rfl _ rfl _ rfl ?_; clear M; intro g w1 M; (try conv => arg 5; simp only [Act.put, List.setIfInBounds_toArray, setC]))))
      go_ret
      exact ⟨rfl, M.below⟩
  · rw [decide_eq_false h1]
    go_enter Try.func36, Try.ntmps36
    go_wp2_with (first | ((with_reducible refine tBox (some 1) ?_); refine w_box M _ _ rfl rfl _ rfl (envC k b n d t) rfl ?_; clear M; intro gx w1 M; (try conv => arg 5; simp only [Act.put, List.setIfInBounds_toArray, setC])) | ((with_reducible refine tGuard ?_); (with_reducible refine w_stripE ?_ ?_); (focus (refine ⟨_, rfl, ?_⟩; first | (with_reducible rfl) | exact decide_eq_false (by omega) | exact decide_eq_true (by omega)))) | ((with_reducible refine tGuard ?_); first | ((with_reducible refine w_skip1 ?_ ?_); (focus (refine ⟨_, rfl, ?_⟩; first | (with_reducible rfl) | exact decide_eq_false (by omega) | exact decide_eq_true (by omega))); (try conv => arg 5; simp only [Act.put, List.setIfInBounds_toArray, setC])) | ((with_reducible refine w_skip0 ?_ ?_); (focus (refine ⟨_, rfl, ?_⟩; first | (with_reducible rfl) | exact decide_eq_false (by omega) | exact decide_eq_true (by omega))); (try conv => arg 5; simp only [Act.put, List.setIfInBounds_toArray, setC]))) | ((with_reducible refine tGuard ?_); refine w_strip rfl (by with_reducible rfl) ?_) | fail | ((with_reducible refine tLoad ?_); go_must (refine w_at _ _ rfl (by exact ev_tmp rfl) ?_; intro hx; (first | refine w_load M _ _ _ rfl (by first | exact at0) hx rfl (by decide +kernel) (by exact rfl) ?_ | refine w_loadR M _ _ _ rfl (by first | exact at0) hx rfl (by decide +kernel) (by kernel_rfl) ?_); clear hx; (try conv => arg 5; simp only [Act.put, List.setIfInBounds_toArray, setC]))) | ((with_reducible refine tStore ?_); go_must (refine w_at2 _ _ _ rfl (by exact ev_tmp rfl) (by first | exact ev_tmp rfl | exact ev_const) ?_; intro hx hy; (first | refine w_store M _ _ _ _ rfl (by first | exact at0) hx rfl hy rfl rfl (by decide +kernel) (by first | decide | simp | (simp; omega)) ?_ | refine w_storeR M _ _ _ _ rfl (by first | exact at0) hx rfl _ hy rfl (by kernel_rfl) (by simp [Value.oneCell']) (by first | rfl | assumption) ?_); clear hx hy M; intro w1 M; (try simp only [setC] at M); (try conv => arg 5; simp only [Act.put, List.setIfInBounds_toArray, setC]))) | ((with_reducible refine tBox _ ?_); (refine w_box M _ _ rfl rfl _ rfl _ rfl ?_; clear M; intro g w1 M; (try conv => arg 5; simp only [Act.put, List.setIfInBounds_toArray, setC]))))
    go_ret
    exact ⟨rfl, M.below⟩
set_option maxRecDepth 100000 in
set_option maxHeartbeats 400000 in
theorem numbers_c (g : Nat) (v : Value) (l : List UInt8) (k : Nat) (b : UInt32) (n : UInt64) (d t : List UInt8) (w : World) (hk : k ≤ 1048576) (hl : l.length ≤ 1000000) (ho : (outC g v l).ok w) :
    Calls Try.prog 47 #[.pointer (some ⟨g, 0, none⟩), .agg (envC k b n d t).toArray] w fun e w' => e = .returned (.tuple #[]) ∧ ∃ v', Upd w (outC g v l) w' (outC g v' (l ++ headL k b n)) := by
  have M := Mem.start1 ho
  have h1 := numL_length_le k (by omega)
  have h2 := numL_length_le b.toNat (by have := b.toNat_lt; omega)
  have hb := b.toNat_lt
  have hn := n.toNat_lt
  have e1 := I64_nat k (by omega)
  have e2 : I64 b.toUInt64 = ((b.toNat : Nat) : Int) := by rw [I64_eq, UInt32.toNat_toUInt64]
  replace e2 := Lib.hid fun _ : Unit => e2
  go_enter Try.func47, Try.ntmps47
  go_wp2_with (first | ((with_reducible refine tBox (some 3) ?_); refine w_box M _ _ rfl rfl _ rfl (envC k b n d t) rfl ?_; clear M; intro gx w1 M; (try conv => arg 5; simp only [Act.put, List.setIfInBounds_toArray, setC])) | (go_at_call 61; go_must (first | (with_reducible refine (Num_c _ _ _ k (k : Int) rfl _ (by omega) (by first | omega | (simp only [List.length_append]; omega)) (M.ok 1 _ rfl)).mono ?_) | (with_reducible refine (Num_c _ _ _ b.toNat (I64 b.toUInt64) (e2.out ()) _ (by omega) (by first | omega | (simp only [List.length_append]; omega)) (M.ok 1 _ rfl)).mono ?_) | (with_reducible refine (Num_c _ _ _ n.toNat (I64 n) (I64_eq n) _ (by omega) (by first | omega | (simp only [List.length_append]; omega)) (M.ok 1 _ rfl)).mono ?_)); rintro e w2 ⟨rfl, v1, U⟩; replace M := M.upd 1 rfl U; clear U) | ((with_reducible refine tGuard ?_); first | refine w_strip rfl (by with_reducible rfl) ?_ | ((fail_if_success (refine w_lit false rfl (by with_reducible rfl) ?_)); (fail_if_success (refine w_lit true rfl (by with_reducible rfl) ?_)); refine w_case rfl ?_ ?_ <;> (intro hgd; rw [hgd]; try (exfalso; simp at hgd; omega)))) | fail | ((with_reducible refine tLoad ?_); go_must (refine w_at _ _ rfl (by exact ev_tmp rfl) ?_; intro hx; (first | refine w_load M _ _ _ rfl (by first | exact at0) hx rfl (by decide +kernel) (by exact rfl) ?_ | refine w_loadR M _ _ _ rfl (by first | exact at0) hx rfl (by decide +kernel) (by kernel_rfl) ?_); clear hx; (try conv => arg 5; simp only [Act.put, List.setIfInBounds_toArray, setC]))) | ((with_reducible refine tStore ?_); go_must (refine w_at2 _ _ _ rfl (by exact ev_tmp rfl) (by first | exact ev_tmp rfl | exact ev_const) ?_; intro hx hy; (first | refine w_store M _ _ _ _ rfl (by first | exact at0) hx rfl hy rfl rfl (by decide +kernel) (by first | decide | simp | (simp; omega)) ?_ | refine w_storeR M _ _ _ _ rfl (by first | exact at0) hx rfl _ hy rfl (by kernel_rfl) (by simp [Value.oneCell']) (by first | rfl | assumption) ?_); clear hx hy M; intro w1 M; (try simp only [setC] at M); (try conv => arg 5; simp only [Act.put, List.setIfInBounds_toArray, setC]))) | ((with_reducible refine tBox _ ?_); (refine w_box M _ _ rfl rfl _ rfl _ rfl ?_; clear M; intro g w1 M; (try conv => arg 5; simp only [Act.put, List.setIfInBounds_toArray, setC]))))
  simp only [List.append_assoc] at M
  exact bodyPost_end (results_none rfl _ _ _) rfl ⟨rfl, _, (M.tail).upd1 0 rfl⟩
set_option maxRecDepth 100000 in
set_option maxHeartbeats 2000000 in
theorem sealStream_c (key : List UInt8) (k : Int) (b : UInt32) (n : UInt64) (d t text : List UInt8) (w : World) (hk : key.length = 32) (hx : text.length ≤ 1000000) :
    Calls Try.prog 37 #[.agg (bs key).toArray, .agg (envC k b n d t).toArray, .string (mkS text)] w fun e w' => e = .returned (.string (mkS (sealL key b n text))) ∧ Below w.heap.size w w' := by
  have M := Mem.start [] w
  have KC := fun w => Key_c key encL w hk (by decide)
  have SE : sealL key b n text = streamL (macL key encL) (nonceL b n) text := rfl
  have hm := macL_len key encL
  have SC := fun w => Stream_c (macL key encL) (nonceL b n) text w hm (nonceL_len b n) hx
  have A1 := fun (w : World) hok => sealPutc (.slice none 0 0) [] b.toUInt64 4 w hok (by omega) (by simp)
  have A2 := fun v (w : World) hok => sealPutc v (bigB b.toUInt64 4) n 8 w hok (by omega) (by rw [bigB_length]; omega)
  have hb1 := bigB_length b.toUInt64 4
  have hn0 := nonceL_len b n
  have hno : bigB b.toUInt64 4 ++ bigB n 8 = nonceL b n := rfl
  rw [hno] at A2
  rw [List.nil_append, show ((4 : Nat) : Int) = 4 from rfl] at A1
  rw [show ((8 : Nat) : Int) = 8 from rfl] at A2
  obtain ⟨m, em⟩ : ∃ m, m = macL key encL := ⟨_, rfl⟩
  rw [← em] at KC SE hm SC
  obtain ⟨nn, enn⟩ : ∃ x, x = nonceL b n := ⟨_, rfl⟩
  rw [← enn] at SE SC A2 hn0
  obtain ⟨b4, eb4⟩ : ∃ x, x = bigB b.toUInt64 4 := ⟨_, rfl⟩
  rw [← eb4] at A1 A2 hb1
  rw [hb1] at A1 A2
  rw [hn0] at A2
  obtain ⟨r, er⟩ : ∃ x, x = sealL key b n text := ⟨_, rfl⟩
  rw [SE] at er
  rw [← er] at SC
  have ER := Lib.hid fun _ : Unit => (show sealL key b n text = r from SE.trans er.symm)
  replace KC := Lib.hid KC
  replace SC := Lib.hid SC
  replace A1 := Lib.hid A1
  replace A2 := Lib.hid A2
  clear em enn eb4 er SE hno
  go_enter Try.func37, Try.ntmps37
  have NI := Lib.hid fun _ : Unit => (show (List.replicate 12 (0 : UInt8)).take 0 ++ (nn.take 12 ++ (List.replicate 12 0).drop (0 + 12)) = nn by rw [List.take_zero, List.nil_append, List.take_of_length_le (by omega)]; simp)
  have hz : (List.replicate 12 (0 : UInt8)).length = 12 := List.length_replicate
  go_wp2_with (first | ((with_reducible refine tBox (some 3) ?_); refine w_box M _ _ rfl rfl _ rfl (bs key) rfl ?_; clear M; intro gk w1 M; (try conv => arg 5; simp only [Act.put, List.setIfInBounds_toArray, setC])) | ((with_reducible refine tBox (some 4) ?_); refine w_box M _ _ rfl rfl _ rfl (envC k b n d t) rfl ?_; clear M; intro gx w1 M; (try conv => arg 5; simp only [Act.put, List.setIfInBounds_toArray, setC])) | ((with_reducible refine tAlloc (some 7) 33 ?_); refine w_alloc M _ rfl rfl (.agg (Array.replicate 12 (.int .u8 0))) (bs (List.replicate 12 (0 : UInt8))) (by kernel_rfl) rfl ?_; clear M; intro gn w1 M; (try conv => arg 5; simp only [Act.put, List.setIfInBounds_toArray, setC])) | ((with_reducible show Code.wp _ (Code.region 2 _ _) _ _ _); go_must (have MR := M; refine region_lowc [(0, false), (1, false), (5, false), (2, false), (3, false), (6, false), (4, true), (7, true), (8, true)] [(10, .int)] [(2, _), (6, _)] (IxOk MR [1]) 9 (by kernel_rfl) (by kernel_rfl) rfl (by kernel_rfl) (lows_cons (by first | exact stab_ix MR 1 1 rfl rfl (by decide) (by decide +kernel) rfl | exact stab_ixB MR 1 1 rfl rfl (by decide) (by decide +kernel) (by first | assumption | omega) | exact stab_ix32 MR 1 1 rfl rfl (by decide) (by decide +kernel) (by first | assumption | omega | (simp; omega)) | exact stab_ixH MR 1 rfl rfl (by decide) (by decide +kernel) (by first | assumption | exact shaL_len _ | exact macL_len _ _ | exact words_len _ | exact List.length_replicate | (rw [List.length_set]; first | assumption | exact List.length_replicate) | rfl) (by decide +kernel) | exact stab_ixW32 MR 1 rfl rfl (by decide) (by decide +kernel) (by first | assumption | exact shaL_len _ | exact macL_len _ _ | exact words_len _ | exact List.length_replicate | (rw [List.length_set]; first | assumption | exact List.length_replicate) | rfl) (by decide +kernel) | exact stab_ixR MR 1 rfl rfl (by decide) (by decide +kernel) (by kernel_rfl) | exact stab_ixW MR 1 rfl rfl (by decide) (by first | assumption | exact shaL_len _ | exact macL_len _ _ | exact words_len _ | exact List.length_replicate | (rw [List.length_set]; first | assumption | exact List.length_replicate) | rfl) (by decide) Try.underlying45 Try.underlying5 Try.underlying9 | exact stab_ixS MR 1 rfl rfl (by decide) (by first | rfl | simp | assumption) Try.underlying45 Try.underlying5 Try.underlying9) (lows_cons (by first | exact stab_ix MR 1 2 rfl rfl (by decide) (by decide +kernel) rfl | exact stab_ixB MR 1 2 rfl rfl (by decide) (by decide +kernel) (by first | assumption | omega) | exact stab_ix32 MR 1 2 rfl rfl (by decide) (by decide +kernel) (by first | assumption | omega | (simp; omega)) | exact stab_ixH MR 1 rfl rfl (by decide) (by decide +kernel) (by first | assumption | exact shaL_len _ | exact macL_len _ _ | exact words_len _ | exact List.length_replicate | (rw [List.length_set]; first | assumption | exact List.length_replicate) | rfl) (by decide +kernel) | exact stab_ixW32 MR 1 rfl rfl (by decide) (by decide +kernel) (by first | assumption | exact shaL_len _ | exact macL_len _ _ | exact words_len _ | exact List.length_replicate | (rw [List.length_set]; first | assumption | exact List.length_replicate) | rfl) (by decide +kernel) | exact stab_ixR MR 1 rfl rfl (by decide) (by decide +kernel) (by kernel_rfl) | exact stab_ixW MR 1 rfl rfl (by decide) (by first | assumption | exact shaL_len _ | exact macL_len _ _ | exact words_len _ | exact List.length_replicate | (rw [List.length_set]; first | assumption | exact List.length_replicate) | rfl) (by decide) Try.underlying45 Try.underlying5 Try.underlying9 | exact stab_ixS MR 1 rfl rfl (by decide) (by first | rfl | simp | assumption) Try.underlying45 Try.underlying5 Try.underlying9) lows_nil)) (ixOk_self MR _) ?_; replace M := M.drew; simp only [planC, opAt, List.getElem?_toArray, List.getElem?_cons_zero, List.getElem?_cons_succ, Option.getD_some])) | ((with_reducible show Code.wp _ (Code.region 3 _ _) _ _ _); go_must (have MR := M; refine region_lowc [(3, false), (0, false), (2, false), (1, true), (4, true), (5, false)] [] [(0, _), (2, _)] (IxOk MR [2, 0]) 6 (by kernel_rfl) (by kernel_rfl) rfl (by kernel_rfl) (lows_cons (by first | exact stab_ix MR 2 0 rfl rfl (by decide) (by decide +kernel) rfl | exact stab_ixB MR 2 0 rfl rfl (by decide) (by decide +kernel) (by first | assumption | omega) | exact stab_ix32 MR 2 0 rfl rfl (by decide) (by decide +kernel) (by first | assumption | omega | (simp; omega)) | exact stab_ixH MR 2 rfl rfl (by decide) (by decide +kernel) (by first | assumption | exact shaL_len _ | exact macL_len _ _ | exact words_len _ | exact List.length_replicate | (rw [List.length_set]; first | assumption | exact List.length_replicate) | rfl) (by decide +kernel) | exact stab_ixW32 MR 2 rfl rfl (by decide) (by decide +kernel) (by first | assumption | exact shaL_len _ | exact macL_len _ _ | exact words_len _ | exact List.length_replicate | (rw [List.length_set]; first | assumption | exact List.length_replicate) | rfl) (by decide +kernel) | exact stab_ixR MR 2 rfl rfl (by decide) (by decide +kernel) (by kernel_rfl) | exact stab_ixW MR 2 rfl rfl (by decide) (by first | assumption | exact shaL_len _ | exact macL_len _ _ | exact words_len _ | exact List.length_replicate | (rw [List.length_set]; first | assumption | exact List.length_replicate) | rfl) (by decide) Try.underlying45 Try.underlying5 Try.underlying9 | exact stab_ixS MR 2 rfl rfl (by decide) (by first | rfl | simp | assumption) Try.underlying45 Try.underlying5 Try.underlying9) (lows_cons (by first | exact stab_ix MR 0 0 rfl rfl (by decide) (by decide +kernel) rfl | exact stab_ixB MR 0 0 rfl rfl (by decide) (by decide +kernel) (by first | assumption | omega) | exact stab_ix32 MR 0 0 rfl rfl (by decide) (by decide +kernel) (by first | assumption | omega | (simp; omega)) | exact stab_ixH MR 0 rfl rfl (by decide) (by decide +kernel) (by first | assumption | exact shaL_len _ | exact macL_len _ _ | exact words_len _ | exact List.length_replicate | (rw [List.length_set]; first | assumption | exact List.length_replicate) | rfl) (by decide +kernel) | exact stab_ixW32 MR 0 rfl rfl (by decide) (by decide +kernel) (by first | assumption | exact shaL_len _ | exact macL_len _ _ | exact words_len _ | exact List.length_replicate | (rw [List.length_set]; first | assumption | exact List.length_replicate) | rfl) (by decide +kernel) | exact stab_ixR MR 0 rfl rfl (by decide) (by decide +kernel) (by kernel_rfl) | exact stab_ixW MR 0 rfl rfl (by decide) (by first | assumption | exact shaL_len _ | exact macL_len _ _ | exact words_len _ | exact List.length_replicate | (rw [List.length_set]; first | assumption | exact List.length_replicate) | rfl) (by decide) Try.underlying45 Try.underlying5 Try.underlying9 | exact stab_ixS MR 0 rfl rfl (by decide) (by first | rfl | simp | assumption) Try.underlying45 Try.underlying5 Try.underlying9) lows_nil)) (ixOk_self MR _) ?_; replace M := M.drew; simp only [planC, opAt, List.getElem?_toArray, List.getElem?_cons_zero, List.getElem?_cons_succ, Option.getD_some])) | (go_at_call 76; go_must (first | (replace M := M.nil 1; with_reducible refine (A1.out _ (M.ok 0 _ rfl)).mono ?_; rintro e w1 ⟨p1, c1, rfl, U⟩; replace M := M.upd 0 rfl U; clear U; simp only [List.set_cons_zero] at M) | (with_reducible refine (A2.out _ _ (M.ok 0 _ rfl)).mono ?_; rintro e w1 ⟨p2, c2, rfl, U⟩; replace M := M.upd 0 rfl U; clear U; simp only [List.set_cons_zero] at M))) | ((with_reducible show wpList _ _ _ (Oper.mk _ (Op.call ⟨Callee.builtin Builtin.copy, _, _⟩) _ _ _ _ :: _) _ _); go_must (refine w_copyB M 1 bytesT _ _ _ rfl rfl rfl rfl rfl (sees_of (M.ok 0 _ rfl) hn0.symm) 12 (by omega) (by omega) ?_; clear M; intro w1 M; simp only [List.set_cons_succ, List.set_cons_zero] at M; rw [NI.out ()] at M; replace M := M.tail)) | (go_at_call 18; go_must (refine (KC.out _).mono ?_; rintro e w1 ⟨rfl, hb⟩; replace M := M.call hb; clear hb)) | (go_at_call 17; go_must (refine (SC.out _).mono ?_; rintro e w1 ⟨rfl, hb⟩; replace M := M.call hb; clear hb)) | ((with_reducible show Seg _ _ _ _); go_must (first | refine Seg.intro ⟨fun h => absurd rfl h, ?_⟩ | refine Seg.intro ⟨fun _ => (by repeat' (first | exact ixOk_nil M.kept | refine ixOk_cons rfl (by first | exact M.ok 0 _ rfl | exact M.ok 1 _ rfl | exact M.ok 2 _ rfl | exact M.ok 3 _ rfl | exact M.ok 4 _ rfl | exact M.ok 5 _ rfl) ?_)), ?_⟩ | refine Seg.intro ⟨(by repeat' (first | (with_reducible exact needs_nil) | refine needs_at rfl (by first | (show Shape.ok Shape.nums _ = true; exact nums_bs _) | rfl) ?_)), (by repeat' (first | (with_reducible exact ats_nil) | refine ats_cons (by first | exact ev_tmp rfl | rfl) ?_)), ?_⟩)) | ((with_reducible show OnlyN _ _ _ _ _); refine OnlyN.intro (by kernel_rfl) ?_) | ((with_reducible refine tGuard ?_); first | refine w_strip rfl (by with_reducible rfl) ?_ | ((fail_if_success (refine w_lit false rfl (by with_reducible rfl) ?_)); (fail_if_success (refine w_lit true rfl (by with_reducible rfl) ?_)); refine w_case rfl ?_ ?_ <;> (intro hgd; rw [hgd]; try (exfalso; simp at hgd; omega)))) | ((with_reducible refine tConv _ 45 9 ?_); go_must (first | refine w_stringW M _ _ _ _ _ rfl rfl (by first | exact at0 | exact at1 | exact at2 | exact at3) rfl (by first | assumption | exact shaL_len _ | exact macL_len _ _ | exact words_len _ | exact List.length_replicate | (rw [List.length_set]; first | assumption | exact List.length_replicate) | rfl) (by decide) Try.underlying45 Try.underlying5 Try.underlying9 ?_ | refine w_string M _ _ _ _ _ rfl rfl (by first | exact at0 | exact at1 | exact at2 | exact at3) (by first | rfl | (simp; done) | assumption) rfl Try.underlying45 Try.underlying5 Try.underlying9 ?_); (try conv => arg 5; simp only [Act.put, List.setIfInBounds_toArray, setC])) | ((with_reducible refine tLoad ?_); go_must (refine w_at _ _ rfl (by exact ev_tmp rfl) ?_; intro hx; (first | refine w_load M _ _ _ rfl (by first | exact at0 | exact at1 | exact at2 | exact at3) hx rfl (by decide +kernel) (by exact rfl) ?_ | refine w_loadB M _ _ _ rfl (by first | exact at0 | exact at1 | exact at2 | exact at3) hx rfl (by decide +kernel) (by first | assumption | omega | (simp; omega)) ?_ | refine w_loadH M _ _ _ rfl (by first | exact at0 | exact at1 | exact at2 | exact at3) hx rfl (by decide +kernel) (by first | assumption | exact shaL_len _ | exact macL_len _ _ | exact words_len _ | exact List.length_replicate | (rw [List.length_set]; first | assumption | exact List.length_replicate) | rfl) (by decide +kernel) ?_ | refine w_loadR M _ _ _ rfl (by first | exact at0 | exact at1 | exact at2 | exact at3) hx rfl (by decide +kernel) (by kernel_rfl) ?_); clear hx; (try conv => arg 5; simp only [Act.put, List.setIfInBounds_toArray, setC]))) | ((with_reducible refine tStore ?_); go_must (refine w_at2 _ _ _ rfl (by exact ev_tmp rfl) (by first | exact ev_tmp rfl | exact ev_const) ?_; intro hx hy; (first | refine w_storeB M _ _ _ _ rfl (by first | exact at0 | exact at1 | exact at2 | exact at3) hx rfl hy (by decide +kernel) (by first | assumption | omega | (simp; omega)) ?_ | refine w_storeH M _ _ _ _ rfl (by first | exact at0 | exact at1 | exact at2 | exact at3) hx rfl hy (by first | assumption | exact shaL_len _ | exact macL_len _ _ | exact words_len _ | exact List.length_replicate | (rw [List.length_set]; first | assumption | exact List.length_replicate) | rfl) (by decide +kernel) (by first | assumption | exact shaL_len _ | exact macL_len _ _ | exact words_len _ | exact List.length_replicate | (rw [List.length_set]; first | assumption | exact List.length_replicate) | rfl) ?_ | refine w_store M _ _ _ _ rfl (by first | exact at0 | exact at1 | exact at2 | exact at3) hx rfl hy rfl rfl (by decide +kernel) (by first | decide | simp | (simp; omega)) ?_ | refine w_storeR M _ _ _ _ rfl (by first | exact at0 | exact at1 | exact at2 | exact at3) hx rfl _ hy rfl (by kernel_rfl) (by simp [Value.oneCell']) (by first | rfl | assumption) ?_); clear hx hy M; intro w1 M; (try simp only [setC] at M); (try conv => arg 5; simp only [Act.put, List.setIfInBounds_toArray, setC]))) | ((with_reducible refine tBox _ ?_); (refine w_box M _ _ rfl rfl _ rfl _ rfl ?_; clear M; intro g w1 M; (try conv => arg 5; simp only [Act.put, List.setIfInBounds_toArray, setC]))))
  go_ret
  exact ⟨congrArg (fun x => Ending.returned (.string (mkS x))) (ER.out ()).symm, M.below⟩
set_option maxRecDepth 100000 in
set_option maxHeartbeats 2000000 in
theorem sealTag_c (key : List UInt8) (k : Nat) (b : UInt32) (n : UInt64) (d t about : List UInt8) (w : World) (hk : key.length = 32) (ht : t.length = 32) (hkk : k ≤ 1048576) (ha : about.length ≤ 100000) (hd : d.length ≤ 100000) :
    Calls Try.prog 38 #[.agg (bs key).toArray, .agg (envC k b n d t).toArray, .string (mkS about)] w fun e w' => e = .returned (.agg (bs (tagL key k b n about d)).toArray) ∧ Below w.heap.size w w' := by
  have M := Mem.start [] w
  have KC := fun w => Key_c key macT w hk (by decide)
  have SE : tagL key k b n about d = macL (macL key macT) (headL k b n ++ (textL about ++ textL d)) := rfl
  have hm := macL_len key macT
  have hh := headL_len k b n (by omega)
  have hta : (textL about).length ≤ 100010 := by unfold textL; have := numL_length_le about.length (by omega); simp; omega
  have htd : (textL d).length ≤ 100010 := by unfold textL; have := numL_length_le d.length (by omega); simp; omega
  have NC := fun (g : Nat) (v : Value) (w : World) hok => numbers_c g v [] k b n d t w hkk (by simp) hok
  have T1 := fun (g : Nat) (v : Value) (w : World) hok => Out_Text_c g v (headL k b n) about w (by omega) (by omega) hok
  have T2 := fun (g : Nat) (v : Value) (w : World) hok => Out_Text_c g v (headL k b n ++ textL about) d w (by omega) (by simp; omega) hok
  have TC := fun w => Tag_c (macL key macT) (headL k b n ++ (textL about ++ textL d)) w (by omega) (by simp; omega)
  rw [List.append_assoc] at T2
  rw [List.nil_append] at NC
  obtain ⟨m, em⟩ : ∃ m, m = macL key macT := ⟨_, rfl⟩
  rw [← em] at KC SE hm TC
  obtain ⟨h0, eh⟩ : ∃ x, x = headL k b n := ⟨_, rfl⟩
  rw [← eh] at SE NC T1 T2 TC hh
  obtain ⟨u2, eu⟩ : ∃ x, x = h0 ++ (textL about ++ textL d) := ⟨_, rfl⟩
  rw [← eu] at SE T2 TC
  obtain ⟨u1, eu1⟩ : ∃ x, x = h0 ++ textL about := ⟨_, rfl⟩
  rw [← eu1] at T1 T2
  obtain ⟨r, er⟩ : ∃ x, x = macL m u2 := ⟨_, rfl⟩
  have hr : r.length = 32 := by rw [er]; exact macL_len _ _
  rw [← er] at SE TC
  have ER := Lib.hid fun _ : Unit => SE
  replace KC := Lib.hid KC
  replace NC := Lib.hid NC
  replace T1 := Lib.hid T1
  replace T2 := Lib.hid T2
  replace TC := Lib.hid TC
  clear em eh eu eu1 er SE hta htd hh
  go_enter Try.func38, Try.ntmps38
  go_wp2_with (first | ((with_reducible refine tBox (some 3) ?_); refine w_box M _ _ rfl rfl _ rfl (bs key) rfl ?_; clear M; intro gk w1 M; (try conv => arg 5; simp only [Act.put, List.setIfInBounds_toArray, setC])) | ((with_reducible refine tBox (some 4) ?_); refine w_box M _ _ rfl rfl _ rfl (envC k b n d t) rfl ?_; clear M; intro gx w1 M; (try conv => arg 5; simp only [Act.put, List.setIfInBounds_toArray, setC])) | ((with_reducible refine tAlloc (some 6) 27 ?_); refine w_alloc M _ rfl rfl (.agg (Array.replicate 32 (.int .u8 0))) (bs (List.replicate 32 (0 : UInt8))) (by kernel_rfl) rfl ?_; clear M; intro gr w1 M; (try conv => arg 5; simp only [Act.put, List.setIfInBounds_toArray, setC])) | (((with_reducible refine tAlloc (some 7) 81 ?_); refine w_alloc M _ rfl rfl (.agg #[.slice none 0 0]) ([.slice none 0 0]) (by kernel_rfl) rfl ?_; clear M; intro go w1 M; (try conv => arg 5; simp only [Act.put, List.setIfInBounds_toArray, setC])); replace M := M.outNew) | ((with_reducible refine tAlloc (some 8) 23 ?_); refine w_alloc M _ rfl rfl (.agg (Array.replicate 32 (.int .u8 0))) (bs (List.replicate 32 (0 : UInt8))) (by kernel_rfl) rfl ?_; clear M; intro gm w1 M; (try conv => arg 5; simp only [Act.put, List.setIfInBounds_toArray, setC])) | (go_at_call 47; go_must (refine (NC.out _ _ _ (M.ok 0 _ rfl)).mono ?_; rintro e w2 ⟨rfl, v1, U⟩; replace M := M.upd 0 rfl U; clear U; simp only [List.set_cons_zero] at M)) | (go_at_call 48; go_must ((first | (with_reducible refine (T1.out _ _ _ (M.ok 0 _ rfl)).mono ?_) | (with_reducible refine (T2.out _ _ _ (M.ok 0 _ rfl)).mono ?_)); rintro e w2 ⟨rfl, v2, U⟩; replace M := M.upd 0 rfl U; clear U; simp only [List.set_cons_zero] at M)) | (go_at_call 18; go_must (refine (KC.out _).mono ?_; rintro e w1 ⟨rfl, hb⟩; replace M := M.call hb; clear hb)) | (go_at_call 43; go_must (refine (TC.out _).mono ?_; rintro e w1 ⟨rfl, hb⟩; replace M := M.call hb; clear hb)) | (go_at_call 49; go_must (refine (Out_String_c _ _ _ _ (M.ok 1 _ rfl)).mono ?_; rintro e w1 ⟨rfl, rfl⟩)) | ((with_reducible show Code.wp _ (Code.region 6 _ _) _ _ _); go_must (have MR := M; refine region_lowc [(0, false), (1, false), (2, true), (3, true), (4, true)] [] [(1, _)] (IxOk MR [0]) 4 (by kernel_rfl) (by kernel_rfl) rfl (by kernel_rfl) (lows_cons (by first | exact stab_ix MR 0 0 rfl rfl (by decide) (by decide +kernel) rfl | exact stab_ixB MR 0 0 rfl rfl (by decide) (by decide +kernel) (by first | assumption | omega) | exact stab_ix32 MR 0 0 rfl rfl (by decide) (by decide +kernel) (by first | assumption | omega | (simp; omega)) | exact stab_ixH MR 0 rfl rfl (by decide) (by decide +kernel) (by first | assumption | exact shaL_len _ | exact macL_len _ _ | exact words_len _ | exact List.length_replicate | (rw [List.length_set]; first | assumption | exact List.length_replicate) | rfl) (by decide +kernel) | exact stab_ixW32 MR 0 rfl rfl (by decide) (by decide +kernel) (by first | assumption | exact shaL_len _ | exact macL_len _ _ | exact words_len _ | exact List.length_replicate | (rw [List.length_set]; first | assumption | exact List.length_replicate) | rfl) (by decide +kernel) | exact stab_ixR MR 0 rfl rfl (by decide) (by decide +kernel) (by kernel_rfl) | exact stab_ixW MR 0 rfl rfl (by decide) (by first | assumption | exact shaL_len _ | exact macL_len _ _ | exact words_len _ | exact List.length_replicate | (rw [List.length_set]; first | assumption | exact List.length_replicate) | rfl) (by decide) Try.underlying45 Try.underlying5 Try.underlying9 | exact stab_ixS MR 0 rfl rfl (by decide) (by first | rfl | simp | assumption) Try.underlying45 Try.underlying5 Try.underlying9) lows_nil) (ixOk_self MR _) ?_; replace M := M.drew; simp only [planC, opAt, List.getElem?_toArray, List.getElem?_cons_zero, List.getElem?_cons_succ, Option.getD_some])) | ((with_reducible refine tLoad ?_); refine w_at _ _ rfl (by exact ev_tmp rfl) ?_; intro hx; (first | refine w_loadE M _ _ _ rfl (by first | exact at2 | exact at3) hx rfl (by decide +kernel) (by decide +kernel) (by first | assumption | exact zeroT_len | exact macL_len _ _) ?_ | refine w_loadTag M _ _ _ rfl (by first | exact at2 | exact at3) hx rfl (by decide +kernel) (by decide +kernel) (by first | assumption | exact zeroT_len | exact macL_len _ _) ?_); clear hx; (try conv => arg 5; simp only [Act.put, List.setIfInBounds_toArray, setC])) | ((with_reducible refine tStore ?_); refine w_at2 _ _ _ rfl (by first | exact ev_tmp rfl | exact ev_const) (by first | exact ev_tmp rfl | exact ev_const) ?_; intro hx hy; (first | refine w_storeE M _ _ _ _ rfl (by first | exact at2 | exact at3) hx rfl hy rfl (by decide +kernel) (by first | assumption | exact zeroT_len | exact macL_len _ _) (by first | assumption | exact zeroT_len | exact macL_len _ _) ?_ | refine w_storeE (k := 0) (b := 0) (n := 0) (d := []) (tg := zeroT) M _ _ _ _ rfl (by first | exact at2 | exact at3) hx rfl hy rfl (by decide +kernel) zeroT_len (by first | assumption | exact zeroT_len | exact macL_len _ _) ?_ | refine w_storeE (tg := zeroT) M _ _ _ _ rfl (by first | exact at2 | exact at3) hx rfl hy rfl (by decide +kernel) zeroT_len (by first | assumption | exact zeroT_len | exact macL_len _ _) ?_ | refine w_storeTag M _ _ _ _ rfl (by first | exact at2 | exact at3) hx rfl hy (by decide +kernel) (by first | assumption | exact zeroT_len | exact macL_len _ _) (by first | assumption | exact zeroT_len | exact macL_len _ _) ?_ | refine w_storeData M _ _ _ _ rfl (by first | exact at2 | exact at3) hx rfl hy (by decide +kernel) ?_ | refine w_storeNum M _ _ _ _ rfl (by first | exact at2 | exact at3) hx rfl hy (by decide +kernel) ?_); clear hx hy M; intro w1 M; (try simp only [setC] at M); (try conv => arg 5; simp only [Act.put, List.setIfInBounds_toArray, setC])) | ((with_reducible refine tConv _ 45 9 ?_); (first | refine w_stringTag M _ _ _ _ _ rfl rfl (by first | exact at2 | exact at3) rfl (by first | assumption | exact zeroT_len | exact macL_len _ _) Try.underlying45 Try.underlying5 Try.underlying9 ?_); (try conv => arg 5; simp only [Act.put, List.setIfInBounds_toArray, setC])) | ((with_reducible show Seg _ _ _ _); go_must (first | refine Seg.intro ⟨fun h => absurd rfl h, ?_⟩ | refine Seg.intro ⟨fun _ => (by repeat' (first | exact ixOk_nil M.kept | refine ixOk_cons rfl (by first | exact M.ok 0 _ rfl | exact M.ok 1 _ rfl | exact M.ok 2 _ rfl | exact M.ok 3 _ rfl | exact M.ok 4 _ rfl | exact M.ok 5 _ rfl | exact M.ok 6 _ rfl) ?_)), ?_⟩ | refine Seg.intro ⟨(by repeat' (first | (with_reducible exact needs_nil) | refine needs_at rfl (by first | (show Shape.ok Shape.nums _ = true; exact nums_bs _) | rfl) ?_)), (by repeat' (first | (with_reducible exact ats_nil) | refine ats_cons (by first | exact ev_tmp rfl | rfl) ?_)), ?_⟩)) | ((with_reducible show OnlyN _ _ _ _ _); refine OnlyN.intro (by kernel_rfl) ?_) | ((with_reducible refine tGuard ?_); first | refine w_strip rfl (by with_reducible rfl) ?_ | ((fail_if_success (refine w_lit false rfl (by with_reducible rfl) ?_)); (fail_if_success (refine w_lit true rfl (by with_reducible rfl) ?_)); refine w_case rfl ?_ ?_ <;> (intro hgd; rw [hgd]; try (exfalso; simp at hgd; omega)))) | ((with_reducible refine tConv _ 45 9 ?_); go_must (first | refine w_stringW M _ _ _ _ _ rfl rfl (by first | exact at0 | exact at1 | exact at2 | exact at3 | exact at4) rfl (by first | assumption | exact shaL_len _ | exact macL_len _ _ | exact words_len _ | exact List.length_replicate | (rw [List.length_set]; first | assumption | exact List.length_replicate) | rfl) (by decide) Try.underlying45 Try.underlying5 Try.underlying9 ?_ | refine w_string M _ _ _ _ _ rfl rfl (by first | exact at0 | exact at1 | exact at2 | exact at3 | exact at4) (by first | rfl | (simp; done) | assumption) rfl Try.underlying45 Try.underlying5 Try.underlying9 ?_); (try conv => arg 5; simp only [Act.put, List.setIfInBounds_toArray, setC])) | ((with_reducible refine tLoad ?_); go_must (refine w_at _ _ rfl (by exact ev_tmp rfl) ?_; intro hx; (first | refine w_load M _ _ _ rfl (by first | exact at0 | exact at1 | exact at2 | exact at3 | exact at4) hx rfl (by decide +kernel) (by exact rfl) ?_ | refine w_loadB M _ _ _ rfl (by first | exact at0 | exact at1 | exact at2 | exact at3 | exact at4) hx rfl (by decide +kernel) (by first | assumption | omega | (simp; omega)) ?_ | refine w_loadH M _ _ _ rfl (by first | exact at0 | exact at1 | exact at2 | exact at3 | exact at4) hx rfl (by decide +kernel) (by first | assumption | exact shaL_len _ | exact macL_len _ _ | exact words_len _ | exact List.length_replicate | (rw [List.length_set]; first | assumption | exact List.length_replicate) | rfl) (by decide +kernel) ?_ | refine w_loadR M _ _ _ rfl (by first | exact at0 | exact at1 | exact at2 | exact at3 | exact at4) hx rfl (by decide +kernel) (by kernel_rfl) ?_); clear hx; (try conv => arg 5; simp only [Act.put, List.setIfInBounds_toArray, setC]))) | ((with_reducible refine tStore ?_); go_must (refine w_at2 _ _ _ rfl (by exact ev_tmp rfl) (by first | exact ev_tmp rfl | exact ev_const) ?_; intro hx hy; (first | refine w_storeB M _ _ _ _ rfl (by first | exact at0 | exact at1 | exact at2 | exact at3 | exact at4) hx rfl hy (by decide +kernel) (by first | assumption | omega | (simp; omega)) ?_ | refine w_storeH M _ _ _ _ rfl (by first | exact at0 | exact at1 | exact at2 | exact at3 | exact at4) hx rfl hy (by first | assumption | exact shaL_len _ | exact macL_len _ _ | exact words_len _ | exact List.length_replicate | (rw [List.length_set]; first | assumption | exact List.length_replicate) | rfl) (by decide +kernel) (by first | assumption | exact shaL_len _ | exact macL_len _ _ | exact words_len _ | exact List.length_replicate | (rw [List.length_set]; first | assumption | exact List.length_replicate) | rfl) ?_ | refine w_store M _ _ _ _ rfl (by first | exact at0 | exact at1 | exact at2 | exact at3 | exact at4) hx rfl hy rfl rfl (by decide +kernel) (by first | decide | simp | (simp; omega)) ?_ | refine w_storeR M _ _ _ _ rfl (by first | exact at0 | exact at1 | exact at2 | exact at3 | exact at4) hx rfl _ hy rfl (by kernel_rfl) (by simp [Value.oneCell']) (by first | rfl | assumption) ?_); clear hx hy M; intro w1 M; (try simp only [setC] at M); (try conv => arg 5; simp only [Act.put, List.setIfInBounds_toArray, setC]))) | ((with_reducible refine tBox _ ?_); (refine w_box M _ _ rfl rfl _ rfl _ rfl ?_; clear M; intro g w1 M; (try conv => arg 5; simp only [Act.put, List.setIfInBounds_toArray, setC]))))
  exact bodyPost_ret (results_row rfl _ _ gr 0 (bs r) _ rfl (M.ok 2 _ rfl).2.1 Try.underlying27 rfl (by rw [bs_length, hr]; kernel_rfl)) rfl ⟨congrArg (fun x => Ending.returned (.agg (bs x).toArray)) (ER.out ()).symm, M.below⟩
end Go.Proofs.Ytjlkiopncclomaa

/- The walks of seal.Close, Open and Bytes. Conditions: lengths. -/
namespace Go
namespace TL
theorem rightE_k {k : Int} {d : List UInt8} (h : rightE k d = true) : 0 ≤ k ∧ k ≤ 1048576 ∧ d.length ≤ 8192 := by
  unfold rightE at h
  simp only [Bool.and_eq_true, decide_eq_true_eq] at h
  omega
end TL
end Go
namespace Go.Proofs.Ytjlkiopncclomaa
open Go.RowKit Go.TL
set_option maxRecDepth 100000 in
set_option maxHeartbeats 2000000 in
theorem Close_no (key : List UInt8) (k : Int) (b : UInt32) (n : UInt64) (about text : List UInt8) (w : World) (h : rightE k [] = false) :
    Calls Try.prog 15 #[.agg (bs key).toArray, .int .i64 k, .int .u32 (I32 b), .int .u64 (I64 n), .string (mkS about), .string (mkS text)] w fun e w' => e = .returned (.tuple #[.agg (envC 0 0 0 [] zeroT).toArray, .int .i64 1]) ∧ Below w.heap.size w w' := by
  have M := Mem.start [] w
  have R := fun w => sealRight_c k b n [] zeroT w
  rw [h] at R
  replace R := Lib.hid R
  clear h
  go_enter Try.func15, Try.ntmps15
  go_wp2_with (first | ((with_reducible refine tBox (some 6) ?_); refine w_box M _ _ rfl rfl _ rfl (bs key) rfl ?_; clear M; intro gk w1 M; (try conv => arg 5; simp only [Act.put, List.setIfInBounds_toArray, setC])) | ((with_reducible refine tAlloc (some 12) 29 ?_); refine w_alloc M _ rfl rfl (.agg (envC 0 0 0 [] zeroT).toArray) (envC 0 0 0 [] zeroT) (by kernel_rfl) rfl ?_; clear M; intro gr w1 M; (try conv => arg 5; simp only [Act.put, List.setIfInBounds_toArray, setC])) | ((with_reducible refine tAlloc (some 14) 29 ?_); refine w_alloc M _ rfl rfl (.agg (envC 0 0 0 [] zeroT).toArray) (envC 0 0 0 [] zeroT) (by kernel_rfl) rfl ?_; clear M; intro gx w1 M; (try conv => arg 5; simp only [Act.put, List.setIfInBounds_toArray, setC])) | (go_at_call 36; go_must (refine (R.out _).mono ?_; rintro e w1 ⟨rfl, hb⟩; replace M := M.call hb; clear hb)) | ((with_reducible refine tLoad ?_); refine w_at _ _ rfl (by exact ev_tmp rfl) ?_; intro hx; (first | refine w_loadE M _ _ _ rfl (by first | exact at0 | exact at1) hx rfl (by decide +kernel) (by decide +kernel) (by first | assumption | exact zeroT_len | exact macL_len _ _) ?_ | refine w_loadTag M _ _ _ rfl (by first | exact at0 | exact at1) hx rfl (by decide +kernel) (by decide +kernel) (by first | assumption | exact zeroT_len | exact macL_len _ _) ?_); clear hx; (try conv => arg 5; simp only [Act.put, List.setIfInBounds_toArray, setC])) | ((with_reducible refine tStore ?_); refine w_at2 _ _ _ rfl (by first | exact ev_tmp rfl | exact ev_const) (by first | exact ev_tmp rfl | exact ev_const) ?_; intro hx hy; (first | refine w_storeE M _ _ _ _ rfl (by first | exact at0 | exact at1) hx rfl hy rfl (by decide +kernel) (by first | assumption | exact zeroT_len | exact macL_len _ _) (by first | assumption | exact zeroT_len | exact macL_len _ _) ?_ | refine w_storeE (k := 0) (b := 0) (n := 0) (d := []) (tg := zeroT) M _ _ _ _ rfl (by first | exact at0 | exact at1) hx rfl hy rfl (by decide +kernel) zeroT_len (by first | assumption | exact zeroT_len | exact macL_len _ _) ?_ | refine w_storeE (tg := zeroT) M _ _ _ _ rfl (by first | exact at0 | exact at1) hx rfl hy rfl (by decide +kernel) zeroT_len (by first | assumption | exact zeroT_len | exact macL_len _ _) ?_ | refine w_storeTag M _ _ _ _ rfl (by first | exact at0 | exact at1) hx rfl hy (by decide +kernel) (by first | assumption | exact zeroT_len | exact macL_len _ _) (by first | assumption | exact zeroT_len | exact macL_len _ _) ?_ | refine w_storeData M _ _ _ _ rfl (by first | exact at0 | exact at1) hx rfl hy (by decide +kernel) ?_ | refine w_storeNum M _ _ _ _ rfl (by first | exact at0 | exact at1) hx rfl hy (by decide +kernel) ?_); clear hx hy M; intro w1 M; (try simp only [setC] at M); (try conv => arg 5; simp only [Act.put, List.setIfInBounds_toArray, setC])) | ((with_reducible refine tConv _ 45 9 ?_); (first | refine w_stringTag M _ _ _ _ _ rfl rfl (by first | exact at0 | exact at1) rfl (by first | assumption | exact zeroT_len | exact macL_len _ _) Try.underlying45 Try.underlying5 Try.underlying9 ?_); (try conv => arg 5; simp only [Act.put, List.setIfInBounds_toArray, setC])) | ((with_reducible refine tGuard ?_); first | refine w_strip rfl (by with_reducible rfl) ?_ | ((fail_if_success (refine w_lit false rfl (by with_reducible rfl) ?_)); (fail_if_success (refine w_lit true rfl (by with_reducible rfl) ?_)); refine w_case rfl ?_ ?_ <;> (intro hgd; rw [hgd]; try (exfalso; simp at hgd; omega)))) | ((with_reducible refine tConv _ 45 9 ?_); go_must (first | refine w_stringW M _ _ _ _ _ rfl rfl (by first | exact at0 | exact at1 | exact at2) rfl (by first | assumption | exact shaL_len _ | exact macL_len _ _ | exact words_len _ | exact List.length_replicate | (rw [List.length_set]; first | assumption | exact List.length_replicate) | rfl) (by decide) Try.underlying45 Try.underlying5 Try.underlying9 ?_ | refine w_string M _ _ _ _ _ rfl rfl (by first | exact at0 | exact at1 | exact at2) (by first | rfl | (simp; done) | assumption) rfl Try.underlying45 Try.underlying5 Try.underlying9 ?_); (try conv => arg 5; simp only [Act.put, List.setIfInBounds_toArray, setC])) | ((with_reducible refine tLoad ?_); go_must (refine w_at _ _ rfl (by exact ev_tmp rfl) ?_; intro hx; (first | refine w_load M _ _ _ rfl (by first | exact at0 | exact at1 | exact at2) hx rfl (by decide +kernel) (by exact rfl) ?_ | refine w_loadB M _ _ _ rfl (by first | exact at0 | exact at1 | exact at2) hx rfl (by decide +kernel) (by first | assumption | omega | (simp; omega)) ?_ | refine w_loadH M _ _ _ rfl (by first | exact at0 | exact at1 | exact at2) hx rfl (by decide +kernel) (by first | assumption | exact shaL_len _ | exact macL_len _ _ | exact words_len _ | exact List.length_replicate | (rw [List.length_set]; first | assumption | exact List.length_replicate) | rfl) (by decide +kernel) ?_ | refine w_loadR M _ _ _ rfl (by first | exact at0 | exact at1 | exact at2) hx rfl (by decide +kernel) (by kernel_rfl) ?_); clear hx; (try conv => arg 5; simp only [Act.put, List.setIfInBounds_toArray, setC]))) | ((with_reducible refine tStore ?_); go_must (refine w_at2 _ _ _ rfl (by exact ev_tmp rfl) (by first | exact ev_tmp rfl | exact ev_const) ?_; intro hx hy; (first | refine w_storeB M _ _ _ _ rfl (by first | exact at0 | exact at1 | exact at2) hx rfl hy (by decide +kernel) (by first | assumption | omega | (simp; omega)) ?_ | refine w_storeH M _ _ _ _ rfl (by first | exact at0 | exact at1 | exact at2) hx rfl hy (by first | assumption | exact shaL_len _ | exact macL_len _ _ | exact words_len _ | exact List.length_replicate | (rw [List.length_set]; first | assumption | exact List.length_replicate) | rfl) (by decide +kernel) (by first | assumption | exact shaL_len _ | exact macL_len _ _ | exact words_len _ | exact List.length_replicate | (rw [List.length_set]; first | assumption | exact List.length_replicate) | rfl) ?_ | refine w_store M _ _ _ _ rfl (by first | exact at0 | exact at1 | exact at2) hx rfl hy rfl rfl (by decide +kernel) (by first | decide | simp | (simp; omega)) ?_ | refine w_storeR M _ _ _ _ rfl (by first | exact at0 | exact at1 | exact at2) hx rfl _ hy rfl (by kernel_rfl) (by simp [Value.oneCell']) (by first | rfl | assumption) ?_); clear hx hy M; intro w1 M; (try simp only [setC] at M); (try conv => arg 5; simp only [Act.put, List.setIfInBounds_toArray, setC]))) | ((with_reducible refine tBox _ ?_); (refine w_box M _ _ rfl rfl _ rfl _ rfl ?_; clear M; intro g w1 M; (try conv => arg 5; simp only [Act.put, List.setIfInBounds_toArray, setC]))))
  exact bodyPost_ret (results_two rfl _ _ gr 0 (envC 0 0 0 [] zeroT) _ (.int .i64 1) rfl rfl (M.ok 1 _ rfl).2.1 Try.underlying29 rfl (by rw [envC_len, zeroT_len]; kernel_rfl)) rfl ⟨rfl, M.below⟩
set_option maxRecDepth 100000 in
set_option maxHeartbeats 2000000 in
theorem Close_long (key : List UInt8) (k : Int) (b : UInt32) (n : UInt64) (about text : List UInt8) (w : World) (h : rightE k [] = true) (hx : 8192 < text.length) :
    Calls Try.prog 15 #[.agg (bs key).toArray, .int .i64 k, .int .u32 (I32 b), .int .u64 (I64 n), .string (mkS about), .string (mkS text)] w fun e w' => e = .returned (.tuple #[.agg (envC 0 0 0 [] zeroT).toArray, .int .i64 3]) ∧ Below w.heap.size w w' := by
  have M := Mem.start [] w
  have R := fun w => sealRight_c k b n [] zeroT w
  rw [h] at R
  replace R := Lib.hid R
  clear h
  have hx' : (8192 : Int) < (text.length : Int) := by omega
  go_enter Try.func15, Try.ntmps15
  go_wp2_with (first | ((with_reducible refine tBox (some 6) ?_); refine w_box M _ _ rfl rfl _ rfl (bs key) rfl ?_; clear M; intro gk w1 M; (try conv => arg 5; simp only [Act.put, List.setIfInBounds_toArray, setC])) | ((with_reducible refine tAlloc (some 12) 29 ?_); refine w_alloc M _ rfl rfl (.agg (envC 0 0 0 [] zeroT).toArray) (envC 0 0 0 [] zeroT) (by kernel_rfl) rfl ?_; clear M; intro gr w1 M; (try conv => arg 5; simp only [Act.put, List.setIfInBounds_toArray, setC])) | ((with_reducible refine tAlloc (some 14) 29 ?_); refine w_alloc M _ rfl rfl (.agg (envC 0 0 0 [] zeroT).toArray) (envC 0 0 0 [] zeroT) (by kernel_rfl) rfl ?_; clear M; intro gx w1 M; (try conv => arg 5; simp only [Act.put, List.setIfInBounds_toArray, setC])) | (go_at_call 36; go_must (refine (R.out _).mono ?_; rintro e w1 ⟨rfl, hb⟩; replace M := M.call hb; clear hb)) | ((with_reducible refine tLoad ?_); refine w_at _ _ rfl (by exact ev_tmp rfl) ?_; intro hx; (first | refine w_loadE M _ _ _ rfl (by first | exact at0 | exact at1) hx rfl (by decide +kernel) (by decide +kernel) (by first | assumption | exact zeroT_len | exact macL_len _ _) ?_ | refine w_loadTag M _ _ _ rfl (by first | exact at0 | exact at1) hx rfl (by decide +kernel) (by decide +kernel) (by first | assumption | exact zeroT_len | exact macL_len _ _) ?_); clear hx; (try conv => arg 5; simp only [Act.put, List.setIfInBounds_toArray, setC])) | ((with_reducible refine tStore ?_); refine w_at2 _ _ _ rfl (by first | exact ev_tmp rfl | exact ev_const) (by first | exact ev_tmp rfl | exact ev_const) ?_; intro hx hy; (first | refine w_storeE M _ _ _ _ rfl (by first | exact at0 | exact at1) hx rfl hy rfl (by decide +kernel) (by first | assumption | exact zeroT_len | exact macL_len _ _) (by first | assumption | exact zeroT_len | exact macL_len _ _) ?_ | refine w_storeE (k := 0) (b := 0) (n := 0) (d := []) (tg := zeroT) M _ _ _ _ rfl (by first | exact at0 | exact at1) hx rfl hy rfl (by decide +kernel) zeroT_len (by first | assumption | exact zeroT_len | exact macL_len _ _) ?_ | refine w_storeE (tg := zeroT) M _ _ _ _ rfl (by first | exact at0 | exact at1) hx rfl hy rfl (by decide +kernel) zeroT_len (by first | assumption | exact zeroT_len | exact macL_len _ _) ?_ | refine w_storeTag M _ _ _ _ rfl (by first | exact at0 | exact at1) hx rfl hy (by decide +kernel) (by first | assumption | exact zeroT_len | exact macL_len _ _) (by first | assumption | exact zeroT_len | exact macL_len _ _) ?_ | refine w_storeData M _ _ _ _ rfl (by first | exact at0 | exact at1) hx rfl hy (by decide +kernel) ?_ | refine w_storeNum M _ _ _ _ rfl (by first | exact at0 | exact at1) hx rfl hy (by decide +kernel) ?_); clear hx hy M; intro w1 M; (try simp only [setC] at M); (try conv => arg 5; simp only [Act.put, List.setIfInBounds_toArray, setC])) | ((with_reducible refine tConv _ 45 9 ?_); (first | refine w_stringTag M _ _ _ _ _ rfl rfl (by first | exact at0 | exact at1) rfl (by first | assumption | exact zeroT_len | exact macL_len _ _) Try.underlying45 Try.underlying5 Try.underlying9 ?_); (try conv => arg 5; simp only [Act.put, List.setIfInBounds_toArray, setC])) | ((with_reducible refine tGuard ?_); first | refine w_strip rfl (by with_reducible rfl) ?_ | ((fail_if_success (refine w_lit false rfl (by with_reducible rfl) ?_)); (fail_if_success (refine w_lit true rfl (by with_reducible rfl) ?_)); refine w_case rfl ?_ ?_ <;> (intro hgd; rw [hgd]; try (exfalso; simp at hgd; omega)))) | ((with_reducible refine tConv _ 45 9 ?_); go_must (first | refine w_stringW M _ _ _ _ _ rfl rfl (by first | exact at0 | exact at1 | exact at2) rfl (by first | assumption | exact shaL_len _ | exact macL_len _ _ | exact words_len _ | exact List.length_replicate | (rw [List.length_set]; first | assumption | exact List.length_replicate) | rfl) (by decide) Try.underlying45 Try.underlying5 Try.underlying9 ?_ | refine w_string M _ _ _ _ _ rfl rfl (by first | exact at0 | exact at1 | exact at2) (by first | rfl | (simp; done) | assumption) rfl Try.underlying45 Try.underlying5 Try.underlying9 ?_); (try conv => arg 5; simp only [Act.put, List.setIfInBounds_toArray, setC])) | ((with_reducible refine tLoad ?_); go_must (refine w_at _ _ rfl (by exact ev_tmp rfl) ?_; intro hx; (first | refine w_load M _ _ _ rfl (by first | exact at0 | exact at1 | exact at2) hx rfl (by decide +kernel) (by exact rfl) ?_ | refine w_loadB M _ _ _ rfl (by first | exact at0 | exact at1 | exact at2) hx rfl (by decide +kernel) (by first | assumption | omega | (simp; omega)) ?_ | refine w_loadH M _ _ _ rfl (by first | exact at0 | exact at1 | exact at2) hx rfl (by decide +kernel) (by first | assumption | exact shaL_len _ | exact macL_len _ _ | exact words_len _ | exact List.length_replicate | (rw [List.length_set]; first | assumption | exact List.length_replicate) | rfl) (by decide +kernel) ?_ | refine w_loadR M _ _ _ rfl (by first | exact at0 | exact at1 | exact at2) hx rfl (by decide +kernel) (by kernel_rfl) ?_); clear hx; (try conv => arg 5; simp only [Act.put, List.setIfInBounds_toArray, setC]))) | ((with_reducible refine tStore ?_); go_must (refine w_at2 _ _ _ rfl (by exact ev_tmp rfl) (by first | exact ev_tmp rfl | exact ev_const) ?_; intro hx hy; (first | refine w_storeB M _ _ _ _ rfl (by first | exact at0 | exact at1 | exact at2) hx rfl hy (by decide +kernel) (by first | assumption | omega | (simp; omega)) ?_ | refine w_storeH M _ _ _ _ rfl (by first | exact at0 | exact at1 | exact at2) hx rfl hy (by first | assumption | exact shaL_len _ | exact macL_len _ _ | exact words_len _ | exact List.length_replicate | (rw [List.length_set]; first | assumption | exact List.length_replicate) | rfl) (by decide +kernel) (by first | assumption | exact shaL_len _ | exact macL_len _ _ | exact words_len _ | exact List.length_replicate | (rw [List.length_set]; first | assumption | exact List.length_replicate) | rfl) ?_ | refine w_store M _ _ _ _ rfl (by first | exact at0 | exact at1 | exact at2) hx rfl hy rfl rfl (by decide +kernel) (by first | decide | simp | (simp; omega)) ?_ | refine w_storeR M _ _ _ _ rfl (by first | exact at0 | exact at1 | exact at2) hx rfl _ hy rfl (by kernel_rfl) (by simp [Value.oneCell']) (by first | rfl | assumption) ?_); clear hx hy M; intro w1 M; (try simp only [setC] at M); (try conv => arg 5; simp only [Act.put, List.setIfInBounds_toArray, setC]))) | ((with_reducible refine tBox _ ?_); (refine w_box M _ _ rfl rfl _ rfl _ rfl ?_; clear M; intro g w1 M; (try conv => arg 5; simp only [Act.put, List.setIfInBounds_toArray, setC]))))
  exact bodyPost_ret (results_two rfl _ _ gr 0 (envC 0 0 0 [] zeroT) _ (.int .i64 3) rfl rfl (M.ok 1 _ rfl).2.1 Try.underlying29 rfl (by rw [envC_len, zeroT_len]; kernel_rfl)) rfl ⟨rfl, M.below⟩
set_option maxRecDepth 100000 in
set_option maxHeartbeats 2000000 in
theorem Close_ok (key : List UInt8) (k : Nat) (b : UInt32) (n : UInt64) (about text : List UInt8) (w : World) (hk : key.length = 32) (h : k ≤ 1048576) (hx : text.length ≤ 8192) (ha : about.length ≤ 100000) :
    Calls Try.prog 15 #[.agg (bs key).toArray, .int .i64 k, .int .u32 (I32 b), .int .u64 (I64 n), .string (mkS about), .string (mkS text)] w fun e w' => e = .returned (.tuple #[.agg (envC k b n (sealL key b n text) (tagL key k b n about (sealL key b n text))).toArray, .int .i64 0]) ∧ Below w.heap.size w w' := by
  have M := Mem.start [] w
  have R := fun w => sealRight_c k b n [] zeroT w
  have e1 : rightE (k : Int) [] = true := by unfold rightE; simp; omega
  rw [e1] at R
  clear e1
  have SC := fun w => sealStream_c key k b n [] zeroT text w hk (by omega)
  have hsl : (sealL key b n text).length ≤ 100000 := by unfold sealL; rw [streamL_len]; omega
  have TC := fun w => sealTag_c key k b n (sealL key b n text) zeroT about w hk zeroT_len h ha hsl
  have hr : (tagL key k b n about (sealL key b n text)).length = 32 := macL_len _ _
  obtain ⟨s, es⟩ : ∃ s, s = sealL key b n text := ⟨_, rfl⟩
  rw [← es] at SC TC hr
  rw [← es]
  obtain ⟨t, et⟩ : ∃ t, t = tagL key k b n about s := ⟨_, rfl⟩
  rw [← et] at TC hr
  rw [← et]
  replace R := Lib.hid R
  replace SC := Lib.hid SC
  replace TC := Lib.hid TC
  clear es et hsl
  have hx' : (text.length : Int) ≤ 8192 := by omega
  go_enter Try.func15, Try.ntmps15
  go_wp2_with (first | (go_at_call 37; go_must (refine (SC.out _).mono ?_; rintro e w1 ⟨rfl, hb⟩; replace M := M.call hb; clear hb)) | (go_at_call 38; go_must (refine (TC.out _).mono ?_; rintro e w1 ⟨rfl, hb⟩; replace M := M.call hb; clear hb)) | ((with_reducible refine tBox (some 6) ?_); refine w_box M _ _ rfl rfl _ rfl (bs key) rfl ?_; clear M; intro gk w1 M; (try conv => arg 5; simp only [Act.put, List.setIfInBounds_toArray, setC])) | ((with_reducible refine tAlloc (some 12) 29 ?_); refine w_alloc M _ rfl rfl (.agg (envC 0 0 0 [] zeroT).toArray) (envC 0 0 0 [] zeroT) (by kernel_rfl) rfl ?_; clear M; intro gr w1 M; (try conv => arg 5; simp only [Act.put, List.setIfInBounds_toArray, setC])) | ((with_reducible refine tAlloc (some 14) 29 ?_); refine w_alloc M _ rfl rfl (.agg (envC 0 0 0 [] zeroT).toArray) (envC 0 0 0 [] zeroT) (by kernel_rfl) rfl ?_; clear M; intro gx w1 M; (try conv => arg 5; simp only [Act.put, List.setIfInBounds_toArray, setC])) | (go_at_call 36; go_must (refine (R.out _).mono ?_; rintro e w1 ⟨rfl, hb⟩; replace M := M.call hb; clear hb)) | ((with_reducible refine tLoad ?_); refine w_at _ _ rfl (by exact ev_tmp rfl) ?_; intro hx; (first | refine w_loadE M _ _ _ rfl (by first | exact at0 | exact at1) hx rfl (by decide +kernel) (by decide +kernel) (by first | assumption | exact zeroT_len | exact macL_len _ _) ?_ | refine w_loadTag M _ _ _ rfl (by first | exact at0 | exact at1) hx rfl (by decide +kernel) (by decide +kernel) (by first | assumption | exact zeroT_len | exact macL_len _ _) ?_); clear hx; (try conv => arg 5; simp only [Act.put, List.setIfInBounds_toArray, setC])) | ((with_reducible refine tStore ?_); refine w_at2 _ _ _ rfl (by first | exact ev_tmp rfl | exact ev_const) (by first | exact ev_tmp rfl | exact ev_const) ?_; intro hx hy; (first | refine w_storeE M _ _ _ _ rfl (by first | exact at0 | exact at1) hx rfl hy rfl (by decide +kernel) (by first | assumption | exact zeroT_len | exact macL_len _ _) (by first | assumption | exact zeroT_len | exact macL_len _ _) ?_ | refine w_storeE (k := 0) (b := 0) (n := 0) (d := []) (tg := zeroT) M _ _ _ _ rfl (by first | exact at0 | exact at1) hx rfl hy rfl (by decide +kernel) zeroT_len (by first | assumption | exact zeroT_len | exact macL_len _ _) ?_ | refine w_storeE (tg := zeroT) M _ _ _ _ rfl (by first | exact at0 | exact at1) hx rfl hy rfl (by decide +kernel) zeroT_len (by first | assumption | exact zeroT_len | exact macL_len _ _) ?_ | refine w_storeTag M _ _ _ _ rfl (by first | exact at0 | exact at1) hx rfl hy (by decide +kernel) (by first | assumption | exact zeroT_len | exact macL_len _ _) (by first | assumption | exact zeroT_len | exact macL_len _ _) ?_ | refine w_storeData M _ _ _ _ rfl (by first | exact at0 | exact at1) hx rfl hy (by decide +kernel) ?_ | refine w_storeNum M _ _ _ _ rfl (by first | exact at0 | exact at1) hx rfl hy (by decide +kernel) ?_); clear hx hy M; intro w1 M; (try simp only [setC] at M); (try conv => arg 5; simp only [Act.put, List.setIfInBounds_toArray, setC])) | ((with_reducible refine tConv _ 45 9 ?_); (first | refine w_stringTag M _ _ _ _ _ rfl rfl (by first | exact at0 | exact at1) rfl (by first | assumption | exact zeroT_len | exact macL_len _ _) Try.underlying45 Try.underlying5 Try.underlying9 ?_); (try conv => arg 5; simp only [Act.put, List.setIfInBounds_toArray, setC])) | ((with_reducible refine tGuard ?_); first | refine w_strip rfl (by with_reducible rfl) ?_ | ((fail_if_success (refine w_lit false rfl (by with_reducible rfl) ?_)); (fail_if_success (refine w_lit true rfl (by with_reducible rfl) ?_)); refine w_case rfl ?_ ?_ <;> (intro hgd; rw [hgd]; try (exfalso; simp at hgd; omega)))) | ((with_reducible refine tConv _ 45 9 ?_); go_must (first | refine w_stringW M _ _ _ _ _ rfl rfl (by first | exact at0 | exact at1 | exact at2) rfl (by first | assumption | exact shaL_len _ | exact macL_len _ _ | exact words_len _ | exact List.length_replicate | (rw [List.length_set]; first | assumption | exact List.length_replicate) | rfl) (by decide) Try.underlying45 Try.underlying5 Try.underlying9 ?_ | refine w_string M _ _ _ _ _ rfl rfl (by first | exact at0 | exact at1 | exact at2) (by first | rfl | (simp; done) | assumption) rfl Try.underlying45 Try.underlying5 Try.underlying9 ?_); (try conv => arg 5; simp only [Act.put, List.setIfInBounds_toArray, setC])) | ((with_reducible refine tLoad ?_); go_must (refine w_at _ _ rfl (by exact ev_tmp rfl) ?_; intro hx; (first | refine w_load M _ _ _ rfl (by first | exact at0 | exact at1 | exact at2) hx rfl (by decide +kernel) (by exact rfl) ?_ | refine w_loadB M _ _ _ rfl (by first | exact at0 | exact at1 | exact at2) hx rfl (by decide +kernel) (by first | assumption | omega | (simp; omega)) ?_ | refine w_loadH M _ _ _ rfl (by first | exact at0 | exact at1 | exact at2) hx rfl (by decide +kernel) (by first | assumption | exact shaL_len _ | exact macL_len _ _ | exact words_len _ | exact List.length_replicate | (rw [List.length_set]; first | assumption | exact List.length_replicate) | rfl) (by decide +kernel) ?_ | refine w_loadR M _ _ _ rfl (by first | exact at0 | exact at1 | exact at2) hx rfl (by decide +kernel) (by kernel_rfl) ?_); clear hx; (try conv => arg 5; simp only [Act.put, List.setIfInBounds_toArray, setC]))) | ((with_reducible refine tStore ?_); go_must (refine w_at2 _ _ _ rfl (by exact ev_tmp rfl) (by first | exact ev_tmp rfl | exact ev_const) ?_; intro hx hy; (first | refine w_storeB M _ _ _ _ rfl (by first | exact at0 | exact at1 | exact at2) hx rfl hy (by decide +kernel) (by first | assumption | omega | (simp; omega)) ?_ | refine w_storeH M _ _ _ _ rfl (by first | exact at0 | exact at1 | exact at2) hx rfl hy (by first | assumption | exact shaL_len _ | exact macL_len _ _ | exact words_len _ | exact List.length_replicate | (rw [List.length_set]; first | assumption | exact List.length_replicate) | rfl) (by decide +kernel) (by first | assumption | exact shaL_len _ | exact macL_len _ _ | exact words_len _ | exact List.length_replicate | (rw [List.length_set]; first | assumption | exact List.length_replicate) | rfl) ?_ | refine w_store M _ _ _ _ rfl (by first | exact at0 | exact at1 | exact at2) hx rfl hy rfl rfl (by decide +kernel) (by first | decide | simp | (simp; omega)) ?_ | refine w_storeR M _ _ _ _ rfl (by first | exact at0 | exact at1 | exact at2) hx rfl _ hy rfl (by kernel_rfl) (by simp [Value.oneCell']) (by first | rfl | assumption) ?_); clear hx hy M; intro w1 M; (try simp only [setC] at M); (try conv => arg 5; simp only [Act.put, List.setIfInBounds_toArray, setC]))) | ((with_reducible refine tBox _ ?_); (refine w_box M _ _ rfl rfl _ rfl _ rfl ?_; clear M; intro g w1 M; (try conv => arg 5; simp only [Act.put, List.setIfInBounds_toArray, setC]))))
  exact bodyPost_ret (results_two rfl _ _ gr 0 (envC k b n s t) _ (.int .i64 0) rfl rfl (M.ok 1 _ rfl).2.1 Try.underlying29 rfl (by rw [envC_len, hr]; kernel_rfl)) rfl ⟨rfl, M.below⟩
set_option maxRecDepth 100000 in
set_option maxHeartbeats 2000000 in
theorem Open_no (key : List UInt8) (k : Int) (b : UInt32) (n : UInt64) (d t about : List UInt8) (w : World) (ht : t.length = 32) (h : rightE k d = false) :
    Calls Try.prog 16 #[.agg (bs key).toArray, .agg (envC k b n d t).toArray, .string (mkS about)] w fun e w' => e = .returned (.tuple #[.string (mkS []), .int .i64 1]) ∧ Below w.heap.size w w' := by
  have M := Mem.start [] w
  have R := fun w => sealRight_c k b n d t w
  rw [h] at R
  replace R := Lib.hid R
  clear h
  go_enter Try.func16, Try.ntmps16
  go_wp2_with (first | ((with_reducible refine tBox (some 3) ?_); refine w_box M _ _ rfl rfl _ rfl (bs key) rfl ?_; clear M; intro gk w1 M; (try conv => arg 5; simp only [Act.put, List.setIfInBounds_toArray, setC])) | ((with_reducible refine tBox (some 4) ?_); refine w_box M _ _ rfl rfl _ rfl (envC k b n d t) rfl ?_; clear M; intro gx w1 M; (try conv => arg 5; simp only [Act.put, List.setIfInBounds_toArray, setC])) | (go_at_call 36; go_must (refine (R.out _).mono ?_; rintro e w1 ⟨rfl, hb⟩; replace M := M.call hb; clear hb)) | ((with_reducible refine tLoad ?_); refine w_at _ _ rfl (by exact ev_tmp rfl) ?_; intro hx; (first | refine w_loadE M _ _ _ rfl (by first | exact at0) hx rfl (by decide +kernel) (by decide +kernel) (by first | assumption | exact zeroT_len | exact macL_len _ _) ?_ | refine w_loadTag M _ _ _ rfl (by first | exact at0) hx rfl (by decide +kernel) (by decide +kernel) (by first | assumption | exact zeroT_len | exact macL_len _ _) ?_); clear hx; (try conv => arg 5; simp only [Act.put, List.setIfInBounds_toArray, setC])) | ((with_reducible refine tStore ?_); refine w_at2 _ _ _ rfl (by first | exact ev_tmp rfl | exact ev_const) (by first | exact ev_tmp rfl | exact ev_const) ?_; intro hx hy; (first | refine w_storeE M _ _ _ _ rfl (by first | exact at0) hx rfl hy rfl (by decide +kernel) (by first | assumption | exact zeroT_len | exact macL_len _ _) (by first | assumption | exact zeroT_len | exact macL_len _ _) ?_ | refine w_storeE (k := 0) (b := 0) (n := 0) (d := []) (tg := zeroT) M _ _ _ _ rfl (by first | exact at0) hx rfl hy rfl (by decide +kernel) zeroT_len (by first | assumption | exact zeroT_len | exact macL_len _ _) ?_ | refine w_storeE (tg := zeroT) M _ _ _ _ rfl (by first | exact at0) hx rfl hy rfl (by decide +kernel) zeroT_len (by first | assumption | exact zeroT_len | exact macL_len _ _) ?_ | refine w_storeTag M _ _ _ _ rfl (by first | exact at0) hx rfl hy (by decide +kernel) (by first | assumption | exact zeroT_len | exact macL_len _ _) (by first | assumption | exact zeroT_len | exact macL_len _ _) ?_ | refine w_storeData M _ _ _ _ rfl (by first | exact at0) hx rfl hy (by decide +kernel) ?_ | refine w_storeNum M _ _ _ _ rfl (by first | exact at0) hx rfl hy (by decide +kernel) ?_); clear hx hy M; intro w1 M; (try simp only [setC] at M); (try conv => arg 5; simp only [Act.put, List.setIfInBounds_toArray, setC])) | ((with_reducible refine tConv _ 45 9 ?_); (first | refine w_stringTag M _ _ _ _ _ rfl rfl (by first | exact at0) rfl (by first | assumption | exact zeroT_len | exact macL_len _ _) Try.underlying45 Try.underlying5 Try.underlying9 ?_); (try conv => arg 5; simp only [Act.put, List.setIfInBounds_toArray, setC])) | ((with_reducible refine tGuard ?_); first | refine w_strip rfl (by with_reducible rfl) ?_ | ((fail_if_success (refine w_lit false rfl (by with_reducible rfl) ?_)); (fail_if_success (refine w_lit true rfl (by with_reducible rfl) ?_)); refine w_case rfl ?_ ?_ <;> (intro hgd; rw [hgd]; try (exfalso; simp at hgd; omega)))) | ((with_reducible refine tConv _ 45 9 ?_); go_must (first | refine w_stringW M _ _ _ _ _ rfl rfl (by first | exact at0 | exact at1) rfl (by first | assumption | exact shaL_len _ | exact macL_len _ _ | exact words_len _ | exact List.length_replicate | (rw [List.length_set]; first | assumption | exact List.length_replicate) | rfl) (by decide) Try.underlying45 Try.underlying5 Try.underlying9 ?_ | refine w_string M _ _ _ _ _ rfl rfl (by first | exact at0 | exact at1) (by first | rfl | (simp; done) | assumption) rfl Try.underlying45 Try.underlying5 Try.underlying9 ?_); (try conv => arg 5; simp only [Act.put, List.setIfInBounds_toArray, setC])) | ((with_reducible refine tLoad ?_); go_must (refine w_at _ _ rfl (by exact ev_tmp rfl) ?_; intro hx; (first | refine w_load M _ _ _ rfl (by first | exact at0 | exact at1) hx rfl (by decide +kernel) (by exact rfl) ?_ | refine w_loadB M _ _ _ rfl (by first | exact at0 | exact at1) hx rfl (by decide +kernel) (by first | assumption | omega | (simp; omega)) ?_ | refine w_loadH M _ _ _ rfl (by first | exact at0 | exact at1) hx rfl (by decide +kernel) (by first | assumption | exact shaL_len _ | exact macL_len _ _ | exact words_len _ | exact List.length_replicate | (rw [List.length_set]; first | assumption | exact List.length_replicate) | rfl) (by decide +kernel) ?_ | refine w_loadR M _ _ _ rfl (by first | exact at0 | exact at1) hx rfl (by decide +kernel) (by kernel_rfl) ?_); clear hx; (try conv => arg 5; simp only [Act.put, List.setIfInBounds_toArray, setC]))) | ((with_reducible refine tStore ?_); go_must (refine w_at2 _ _ _ rfl (by exact ev_tmp rfl) (by first | exact ev_tmp rfl | exact ev_const) ?_; intro hx hy; (first | refine w_storeB M _ _ _ _ rfl (by first | exact at0 | exact at1) hx rfl hy (by decide +kernel) (by first | assumption | omega | (simp; omega)) ?_ | refine w_storeH M _ _ _ _ rfl (by first | exact at0 | exact at1) hx rfl hy (by first | assumption | exact shaL_len _ | exact macL_len _ _ | exact words_len _ | exact List.length_replicate | (rw [List.length_set]; first | assumption | exact List.length_replicate) | rfl) (by decide +kernel) (by first | assumption | exact shaL_len _ | exact macL_len _ _ | exact words_len _ | exact List.length_replicate | (rw [List.length_set]; first | assumption | exact List.length_replicate) | rfl) ?_ | refine w_store M _ _ _ _ rfl (by first | exact at0 | exact at1) hx rfl hy rfl rfl (by decide +kernel) (by first | decide | simp | (simp; omega)) ?_ | refine w_storeR M _ _ _ _ rfl (by first | exact at0 | exact at1) hx rfl _ hy rfl (by kernel_rfl) (by simp [Value.oneCell']) (by first | rfl | assumption) ?_); clear hx hy M; intro w1 M; (try simp only [setC] at M); (try conv => arg 5; simp only [Act.put, List.setIfInBounds_toArray, setC]))) | ((with_reducible refine tBox _ ?_); (refine w_box M _ _ rfl rfl _ rfl _ rfl ?_; clear M; intro g w1 M; (try conv => arg 5; simp only [Act.put, List.setIfInBounds_toArray, setC]))))
  go_ret2
  exact ⟨rfl, M.below⟩
set_option maxRecDepth 100000 in
set_option maxHeartbeats 2000000 in
theorem Open_mac (key : List UInt8) (k : Nat) (b : UInt32) (n : UInt64) (d t about : List UInt8) (w : World) (hk : key.length = 32) (ht : t.length = 32) (h : rightE k d = true) (ha : about.length ≤ 100000) (hne : t ≠ tagL key k b n about d) :
    Calls Try.prog 16 #[.agg (bs key).toArray, .agg (envC k b n d t).toArray, .string (mkS about)] w fun e w' => e = .returned (.tuple #[.string (mkS []), .int .i64 13]) ∧ Below w.heap.size w w' := by
  have M := Mem.start [] w
  have R := fun w => sealRight_c k b n d t w
  obtain ⟨_, hkk, hdd⟩ := rightE_k h
  have TC := fun w => sealTag_c key k b n d t about w hk ht (by omega) ha (by omega)
  have hr : (tagL key k b n about d).length = 32 := macL_len _ _
  obtain ⟨u, eu⟩ : ∃ u, u = tagL key k b n about d := ⟨_, rfl⟩
  rw [← eu] at TC hr hne
  have EC := fun w => Equal_c t u ht hr w
  rw [beq_eq_false_iff_ne.2 hne] at EC
  rw [h] at R
  replace R := Lib.hid R
  replace TC := Lib.hid TC
  replace EC := Lib.hid EC
  clear h eu hne
  go_enter Try.func16, Try.ntmps16
  go_wp2_with (first | ((with_reducible refine tBox (some 3) ?_); refine w_box M _ _ rfl rfl _ rfl (bs key) rfl ?_; clear M; intro gk w1 M; (try conv => arg 5; simp only [Act.put, List.setIfInBounds_toArray, setC])) | ((with_reducible refine tBox (some 4) ?_); refine w_box M _ _ rfl rfl _ rfl (envC k b n d t) rfl ?_; clear M; intro gx w1 M; (try conv => arg 5; simp only [Act.put, List.setIfInBounds_toArray, setC])) | (go_at_call 36; go_must (refine (R.out _).mono ?_; rintro e w1 ⟨rfl, hb⟩; replace M := M.call hb; clear hb)) | (go_at_call 38; go_must (refine (TC.out _).mono ?_; rintro e w1 ⟨rfl, hb⟩; replace M := M.call hb; clear hb)) | (go_at_call 39; go_must (refine (EC.out _).mono ?_; rintro e w1 ⟨rfl, hb⟩; replace M := M.call hb; clear hb)) | ((with_reducible show Code.wp _ (Code.region 3 _ _) _ _ _); go_must (have MR := M; refine region_lowc [(0, false), (4, false), (1, false), (2, false), (3, false), (5, true), (6, true), (7, false), (8, false)] [] [(1, _), (2, _), (3, _)] (IxOk MR [0, 1]) 9 (by kernel_rfl) (by kernel_rfl) rfl (by kernel_rfl) (lows_cons (stab_tag MR 0 rfl rfl (by decide) (by decide +kernel) (by decide +kernel) (by first | assumption | exact zeroT_len)) (lows_cons (by first | exact stab_ix MR 1 0 rfl rfl (by decide) (by decide +kernel) rfl | exact stab_ixB MR 1 0 rfl rfl (by decide) (by decide +kernel) (by first | assumption | omega) | exact stab_ix32 MR 1 0 rfl rfl (by decide) (by decide +kernel) (by first | assumption | omega | (simp; omega)) | exact stab_ixH MR 1 rfl rfl (by decide) (by decide +kernel) (by first | assumption | exact shaL_len _ | exact macL_len _ _ | exact words_len _ | exact List.length_replicate | (rw [List.length_set]; first | assumption | exact List.length_replicate) | rfl) (by decide +kernel) | exact stab_ixW32 MR 1 rfl rfl (by decide) (by decide +kernel) (by first | assumption | exact shaL_len _ | exact macL_len _ _ | exact words_len _ | exact List.length_replicate | (rw [List.length_set]; first | assumption | exact List.length_replicate) | rfl) (by decide +kernel) | exact stab_ixR MR 1 rfl rfl (by decide) (by decide +kernel) (by kernel_rfl) | exact stab_ixW MR 1 rfl rfl (by decide) (by first | assumption | exact shaL_len _ | exact macL_len _ _ | exact words_len _ | exact List.length_replicate | (rw [List.length_set]; first | assumption | exact List.length_replicate) | rfl) (by decide) Try.underlying45 Try.underlying5 Try.underlying9 | exact stab_ixS MR 1 rfl rfl (by decide) (by first | rfl | simp | assumption) Try.underlying45 Try.underlying5 Try.underlying9) (lows_cons (stab_env MR 0 rfl rfl (by decide) (by decide +kernel) (by decide +kernel) (by first | assumption | exact zeroT_len)) lows_nil))) (ixOk_self MR _) ?_; replace M := M.drew; simp only [planC, opAt, List.getElem?_toArray, List.getElem?_cons_zero, List.getElem?_cons_succ, Option.getD_some])) | ((with_reducible refine tLoad ?_); refine w_at _ _ rfl (by exact ev_tmp rfl) ?_; intro hx; (first | refine w_loadE M _ _ _ rfl (by first | exact at0) hx rfl (by decide +kernel) (by decide +kernel) (by first | assumption | exact zeroT_len | exact macL_len _ _) ?_ | refine w_loadTag M _ _ _ rfl (by first | exact at0) hx rfl (by decide +kernel) (by decide +kernel) (by first | assumption | exact zeroT_len | exact macL_len _ _) ?_); clear hx; (try conv => arg 5; simp only [Act.put, List.setIfInBounds_toArray, setC])) | ((with_reducible refine tStore ?_); refine w_at2 _ _ _ rfl (by first | exact ev_tmp rfl | exact ev_const) (by first | exact ev_tmp rfl | exact ev_const) ?_; intro hx hy; (first | refine w_storeE M _ _ _ _ rfl (by first | exact at0) hx rfl hy rfl (by decide +kernel) (by first | assumption | exact zeroT_len | exact macL_len _ _) (by first | assumption | exact zeroT_len | exact macL_len _ _) ?_ | refine w_storeE (k := 0) (b := 0) (n := 0) (d := []) (tg := zeroT) M _ _ _ _ rfl (by first | exact at0) hx rfl hy rfl (by decide +kernel) zeroT_len (by first | assumption | exact zeroT_len | exact macL_len _ _) ?_ | refine w_storeE (tg := zeroT) M _ _ _ _ rfl (by first | exact at0) hx rfl hy rfl (by decide +kernel) zeroT_len (by first | assumption | exact zeroT_len | exact macL_len _ _) ?_ | refine w_storeTag M _ _ _ _ rfl (by first | exact at0) hx rfl hy (by decide +kernel) (by first | assumption | exact zeroT_len | exact macL_len _ _) (by first | assumption | exact zeroT_len | exact macL_len _ _) ?_ | refine w_storeData M _ _ _ _ rfl (by first | exact at0) hx rfl hy (by decide +kernel) ?_ | refine w_storeNum M _ _ _ _ rfl (by first | exact at0) hx rfl hy (by decide +kernel) ?_); clear hx hy M; intro w1 M; (try simp only [setC] at M); (try conv => arg 5; simp only [Act.put, List.setIfInBounds_toArray, setC])) | ((with_reducible refine tConv _ 45 9 ?_); (first | refine w_stringTag M _ _ _ _ _ rfl rfl (by first | exact at0) rfl (by first | assumption | exact zeroT_len | exact macL_len _ _) Try.underlying45 Try.underlying5 Try.underlying9 ?_); (try conv => arg 5; simp only [Act.put, List.setIfInBounds_toArray, setC])) | ((with_reducible show Seg _ _ _ _); go_must (first | refine Seg.intro ⟨fun h => absurd rfl h, ?_⟩ | refine Seg.intro ⟨fun _ => (by repeat' (first | exact ixOk_nil M.kept | refine ixOk_cons rfl (by first | exact M.ok 0 _ rfl | exact M.ok 1 _ rfl | exact M.ok 2 _ rfl | exact M.ok 3 _ rfl) ?_)), ?_⟩ | refine Seg.intro ⟨(by repeat' (first | (with_reducible exact needs_nil) | refine needs_at rfl (by first | (show Shape.ok Shape.nums _ = true; exact nums_bs _) | rfl) ?_)), (by repeat' (first | (with_reducible exact ats_nil) | refine ats_cons (by first | exact ev_tmp rfl | rfl) ?_)), ?_⟩)) | ((with_reducible show OnlyN _ _ _ _ _); refine OnlyN.intro (by kernel_rfl) ?_) | ((with_reducible refine tGuard ?_); first | refine w_strip rfl (by with_reducible rfl) ?_ | ((fail_if_success (refine w_lit false rfl (by with_reducible rfl) ?_)); (fail_if_success (refine w_lit true rfl (by with_reducible rfl) ?_)); refine w_case rfl ?_ ?_ <;> (intro hgd; rw [hgd]; try (exfalso; simp at hgd; omega)))) | ((with_reducible refine tConv _ 45 9 ?_); go_must (first | refine w_stringW M _ _ _ _ _ rfl rfl (by first | exact at0 | exact at1) rfl (by first | assumption | exact shaL_len _ | exact macL_len _ _ | exact words_len _ | exact List.length_replicate | (rw [List.length_set]; first | assumption | exact List.length_replicate) | rfl) (by decide) Try.underlying45 Try.underlying5 Try.underlying9 ?_ | refine w_string M _ _ _ _ _ rfl rfl (by first | exact at0 | exact at1) (by first | rfl | (simp; done) | assumption) rfl Try.underlying45 Try.underlying5 Try.underlying9 ?_); (try conv => arg 5; simp only [Act.put, List.setIfInBounds_toArray, setC])) | ((with_reducible refine tLoad ?_); go_must (refine w_at _ _ rfl (by exact ev_tmp rfl) ?_; intro hx; (first | refine w_load M _ _ _ rfl (by first | exact at0 | exact at1) hx rfl (by decide +kernel) (by exact rfl) ?_ | refine w_loadB M _ _ _ rfl (by first | exact at0 | exact at1) hx rfl (by decide +kernel) (by first | assumption | omega | (simp; omega)) ?_ | refine w_loadH M _ _ _ rfl (by first | exact at0 | exact at1) hx rfl (by decide +kernel) (by first | assumption | exact shaL_len _ | exact macL_len _ _ | exact words_len _ | exact List.length_replicate | (rw [List.length_set]; first | assumption | exact List.length_replicate) | rfl) (by decide +kernel) ?_ | refine w_loadR M _ _ _ rfl (by first | exact at0 | exact at1) hx rfl (by decide +kernel) (by kernel_rfl) ?_); clear hx; (try conv => arg 5; simp only [Act.put, List.setIfInBounds_toArray, setC]))) | ((with_reducible refine tStore ?_); go_must (refine w_at2 _ _ _ rfl (by exact ev_tmp rfl) (by first | exact ev_tmp rfl | exact ev_const) ?_; intro hx hy; (first | refine w_storeB M _ _ _ _ rfl (by first | exact at0 | exact at1) hx rfl hy (by decide +kernel) (by first | assumption | omega | (simp; omega)) ?_ | refine w_storeH M _ _ _ _ rfl (by first | exact at0 | exact at1) hx rfl hy (by first | assumption | exact shaL_len _ | exact macL_len _ _ | exact words_len _ | exact List.length_replicate | (rw [List.length_set]; first | assumption | exact List.length_replicate) | rfl) (by decide +kernel) (by first | assumption | exact shaL_len _ | exact macL_len _ _ | exact words_len _ | exact List.length_replicate | (rw [List.length_set]; first | assumption | exact List.length_replicate) | rfl) ?_ | refine w_store M _ _ _ _ rfl (by first | exact at0 | exact at1) hx rfl hy rfl rfl (by decide +kernel) (by first | decide | simp | (simp; omega)) ?_ | refine w_storeR M _ _ _ _ rfl (by first | exact at0 | exact at1) hx rfl _ hy rfl (by kernel_rfl) (by simp [Value.oneCell']) (by first | rfl | assumption) ?_); clear hx hy M; intro w1 M; (try simp only [setC] at M); (try conv => arg 5; simp only [Act.put, List.setIfInBounds_toArray, setC]))) | ((with_reducible refine tBox _ ?_); (refine w_box M _ _ rfl rfl _ rfl _ rfl ?_; clear M; intro g w1 M; (try conv => arg 5; simp only [Act.put, List.setIfInBounds_toArray, setC]))))
  go_ret2
  exact ⟨rfl, M.below⟩
set_option maxRecDepth 100000 in
set_option maxHeartbeats 2000000 in
theorem Open_ok (key : List UInt8) (k : Nat) (b : UInt32) (n : UInt64) (d about : List UInt8) (w : World) (hk : key.length = 32) (h : rightE k d = true) (ha : about.length ≤ 100000) :
    Calls Try.prog 16 #[.agg (bs key).toArray, .agg (envC k b n d (tagL key k b n about d)).toArray, .string (mkS about)] w fun e w' => e = .returned (.tuple #[.string (mkS (sealL key b n d)), .int .i64 0]) ∧ Below w.heap.size w w' := by
  have M := Mem.start [] w
  obtain ⟨_, hkk, hdd⟩ := rightE_k h
  have ht : (tagL key k b n about d).length = 32 := macL_len _ _
  have TC := fun w => sealTag_c key k b n d (tagL key k b n about d) about w hk ht (by omega) ha (by omega)
  obtain ⟨t, et⟩ : ∃ t, t = tagL key k b n about d := ⟨_, rfl⟩
  rw [← et] at TC ht
  rw [← et]
  have R := fun w => sealRight_c k b n d t w
  have EC := fun w => Equal_c t t ht ht w
  rw [beq_self_eq_true] at EC
  rw [h] at R
  have SC := fun w => sealStream_c key k b n d t d w hk (by omega)
  obtain ⟨s, es⟩ : ∃ s, s = sealL key b n d := ⟨_, rfl⟩
  rw [← es] at SC
  rw [← es]
  replace R := Lib.hid R
  replace TC := Lib.hid TC
  replace EC := Lib.hid EC
  replace SC := Lib.hid SC
  clear h et es
  go_enter Try.func16, Try.ntmps16
  go_wp2_with (first | ((with_reducible refine tBox (some 3) ?_); refine w_box M _ _ rfl rfl _ rfl (bs key) rfl ?_; clear M; intro gk w1 M; (try conv => arg 5; simp only [Act.put, List.setIfInBounds_toArray, setC])) | ((with_reducible refine tBox (some 4) ?_); refine w_box M _ _ rfl rfl _ rfl (envC k b n d t) rfl ?_; clear M; intro gx w1 M; (try conv => arg 5; simp only [Act.put, List.setIfInBounds_toArray, setC])) | (go_at_call 36; go_must (refine (R.out _).mono ?_; rintro e w1 ⟨rfl, hb⟩; replace M := M.call hb; clear hb)) | (go_at_call 38; go_must (refine (TC.out _).mono ?_; rintro e w1 ⟨rfl, hb⟩; replace M := M.call hb; clear hb)) | (go_at_call 37; go_must (refine (SC.out _).mono ?_; rintro e w1 ⟨rfl, hb⟩; replace M := M.call hb; clear hb)) | (go_at_call 39; go_must (refine (EC.out _).mono ?_; rintro e w1 ⟨rfl, hb⟩; replace M := M.call hb; clear hb)) | ((with_reducible show Code.wp _ (Code.region 3 _ _) _ _ _); go_must (have MR := M; refine region_lowc [(0, false), (4, false), (1, false), (2, false), (3, false), (5, true), (6, true), (7, false), (8, false)] [] [(1, _), (2, _), (3, _)] (IxOk MR [0, 1]) 9 (by kernel_rfl) (by kernel_rfl) rfl (by kernel_rfl) (lows_cons (stab_tag MR 0 rfl rfl (by decide) (by decide +kernel) (by decide +kernel) (by first | assumption | exact zeroT_len)) (lows_cons (by first | exact stab_ix MR 1 0 rfl rfl (by decide) (by decide +kernel) rfl | exact stab_ixB MR 1 0 rfl rfl (by decide) (by decide +kernel) (by first | assumption | omega) | exact stab_ix32 MR 1 0 rfl rfl (by decide) (by decide +kernel) (by first | assumption | omega | (simp; omega)) | exact stab_ixH MR 1 rfl rfl (by decide) (by decide +kernel) (by first | assumption | exact shaL_len _ | exact macL_len _ _ | exact words_len _ | exact List.length_replicate | (rw [List.length_set]; first | assumption | exact List.length_replicate) | rfl) (by decide +kernel) | exact stab_ixW32 MR 1 rfl rfl (by decide) (by decide +kernel) (by first | assumption | exact shaL_len _ | exact macL_len _ _ | exact words_len _ | exact List.length_replicate | (rw [List.length_set]; first | assumption | exact List.length_replicate) | rfl) (by decide +kernel) | exact stab_ixR MR 1 rfl rfl (by decide) (by decide +kernel) (by kernel_rfl) | exact stab_ixW MR 1 rfl rfl (by decide) (by first | assumption | exact shaL_len _ | exact macL_len _ _ | exact words_len _ | exact List.length_replicate | (rw [List.length_set]; first | assumption | exact List.length_replicate) | rfl) (by decide) Try.underlying45 Try.underlying5 Try.underlying9 | exact stab_ixS MR 1 rfl rfl (by decide) (by first | rfl | simp | assumption) Try.underlying45 Try.underlying5 Try.underlying9) (lows_cons (stab_env MR 0 rfl rfl (by decide) (by decide +kernel) (by decide +kernel) (by first | assumption | exact zeroT_len)) lows_nil))) (ixOk_self MR _) ?_; replace M := M.drew; simp only [planC, opAt, List.getElem?_toArray, List.getElem?_cons_zero, List.getElem?_cons_succ, Option.getD_some])) | ((with_reducible refine tLoad ?_); refine w_at _ _ rfl (by exact ev_tmp rfl) ?_; intro hx; (first | refine w_loadE M _ _ _ rfl (by first | exact at0) hx rfl (by decide +kernel) (by decide +kernel) (by first | assumption | exact zeroT_len | exact macL_len _ _) ?_ | refine w_loadTag M _ _ _ rfl (by first | exact at0) hx rfl (by decide +kernel) (by decide +kernel) (by first | assumption | exact zeroT_len | exact macL_len _ _) ?_); clear hx; (try conv => arg 5; simp only [Act.put, List.setIfInBounds_toArray, setC])) | ((with_reducible refine tStore ?_); refine w_at2 _ _ _ rfl (by first | exact ev_tmp rfl | exact ev_const) (by first | exact ev_tmp rfl | exact ev_const) ?_; intro hx hy; (first | refine w_storeE M _ _ _ _ rfl (by first | exact at0) hx rfl hy rfl (by decide +kernel) (by first | assumption | exact zeroT_len | exact macL_len _ _) (by first | assumption | exact zeroT_len | exact macL_len _ _) ?_ | refine w_storeE (k := 0) (b := 0) (n := 0) (d := []) (tg := zeroT) M _ _ _ _ rfl (by first | exact at0) hx rfl hy rfl (by decide +kernel) zeroT_len (by first | assumption | exact zeroT_len | exact macL_len _ _) ?_ | refine w_storeE (tg := zeroT) M _ _ _ _ rfl (by first | exact at0) hx rfl hy rfl (by decide +kernel) zeroT_len (by first | assumption | exact zeroT_len | exact macL_len _ _) ?_ | refine w_storeTag M _ _ _ _ rfl (by first | exact at0) hx rfl hy (by decide +kernel) (by first | assumption | exact zeroT_len | exact macL_len _ _) (by first | assumption | exact zeroT_len | exact macL_len _ _) ?_ | refine w_storeData M _ _ _ _ rfl (by first | exact at0) hx rfl hy (by decide +kernel) ?_ | refine w_storeNum M _ _ _ _ rfl (by first | exact at0) hx rfl hy (by decide +kernel) ?_); clear hx hy M; intro w1 M; (try simp only [setC] at M); (try conv => arg 5; simp only [Act.put, List.setIfInBounds_toArray, setC])) | ((with_reducible refine tConv _ 45 9 ?_); (first | refine w_stringTag M _ _ _ _ _ rfl rfl (by first | exact at0) rfl (by first | assumption | exact zeroT_len | exact macL_len _ _) Try.underlying45 Try.underlying5 Try.underlying9 ?_); (try conv => arg 5; simp only [Act.put, List.setIfInBounds_toArray, setC])) | ((with_reducible show Seg _ _ _ _); go_must (first | refine Seg.intro ⟨fun h => absurd rfl h, ?_⟩ | refine Seg.intro ⟨fun _ => (by repeat' (first | exact ixOk_nil M.kept | refine ixOk_cons rfl (by first | exact M.ok 0 _ rfl | exact M.ok 1 _ rfl | exact M.ok 2 _ rfl | exact M.ok 3 _ rfl) ?_)), ?_⟩ | refine Seg.intro ⟨(by repeat' (first | (with_reducible exact needs_nil) | refine needs_at rfl (by first | (show Shape.ok Shape.nums _ = true; exact nums_bs _) | rfl) ?_)), (by repeat' (first | (with_reducible exact ats_nil) | refine ats_cons (by first | exact ev_tmp rfl | rfl) ?_)), ?_⟩)) | ((with_reducible show OnlyN _ _ _ _ _); refine OnlyN.intro (by kernel_rfl) ?_) | ((with_reducible refine tGuard ?_); first | refine w_strip rfl (by with_reducible rfl) ?_ | ((fail_if_success (refine w_lit false rfl (by with_reducible rfl) ?_)); (fail_if_success (refine w_lit true rfl (by with_reducible rfl) ?_)); refine w_case rfl ?_ ?_ <;> (intro hgd; rw [hgd]; try (exfalso; simp at hgd; omega)))) | ((with_reducible refine tConv _ 45 9 ?_); go_must (first | refine w_stringW M _ _ _ _ _ rfl rfl (by first | exact at0 | exact at1) rfl (by first | assumption | exact shaL_len _ | exact macL_len _ _ | exact words_len _ | exact List.length_replicate | (rw [List.length_set]; first | assumption | exact List.length_replicate) | rfl) (by decide) Try.underlying45 Try.underlying5 Try.underlying9 ?_ | refine w_string M _ _ _ _ _ rfl rfl (by first | exact at0 | exact at1) (by first | rfl | (simp; done) | assumption) rfl Try.underlying45 Try.underlying5 Try.underlying9 ?_); (try conv => arg 5; simp only [Act.put, List.setIfInBounds_toArray, setC])) | ((with_reducible refine tLoad ?_); go_must (refine w_at _ _ rfl (by exact ev_tmp rfl) ?_; intro hx; (first | refine w_load M _ _ _ rfl (by first | exact at0 | exact at1) hx rfl (by decide +kernel) (by exact rfl) ?_ | refine w_loadB M _ _ _ rfl (by first | exact at0 | exact at1) hx rfl (by decide +kernel) (by first | assumption | omega | (simp; omega)) ?_ | refine w_loadH M _ _ _ rfl (by first | exact at0 | exact at1) hx rfl (by decide +kernel) (by first | assumption | exact shaL_len _ | exact macL_len _ _ | exact words_len _ | exact List.length_replicate | (rw [List.length_set]; first | assumption | exact List.length_replicate) | rfl) (by decide +kernel) ?_ | refine w_loadR M _ _ _ rfl (by first | exact at0 | exact at1) hx rfl (by decide +kernel) (by kernel_rfl) ?_); clear hx; (try conv => arg 5; simp only [Act.put, List.setIfInBounds_toArray, setC]))) | ((with_reducible refine tStore ?_); go_must (refine w_at2 _ _ _ rfl (by exact ev_tmp rfl) (by first | exact ev_tmp rfl | exact ev_const) ?_; intro hx hy; (first | refine w_storeB M _ _ _ _ rfl (by first | exact at0 | exact at1) hx rfl hy (by decide +kernel) (by first | assumption | omega | (simp; omega)) ?_ | refine w_storeH M _ _ _ _ rfl (by first | exact at0 | exact at1) hx rfl hy (by first | assumption | exact shaL_len _ | exact macL_len _ _ | exact words_len _ | exact List.length_replicate | (rw [List.length_set]; first | assumption | exact List.length_replicate) | rfl) (by decide +kernel) (by first | assumption | exact shaL_len _ | exact macL_len _ _ | exact words_len _ | exact List.length_replicate | (rw [List.length_set]; first | assumption | exact List.length_replicate) | rfl) ?_ | refine w_store M _ _ _ _ rfl (by first | exact at0 | exact at1) hx rfl hy rfl rfl (by decide +kernel) (by first | decide | simp | (simp; omega)) ?_ | refine w_storeR M _ _ _ _ rfl (by first | exact at0 | exact at1) hx rfl _ hy rfl (by kernel_rfl) (by simp [Value.oneCell']) (by first | rfl | assumption) ?_); clear hx hy M; intro w1 M; (try simp only [setC] at M); (try conv => arg 5; simp only [Act.put, List.setIfInBounds_toArray, setC]))) | ((with_reducible refine tBox _ ?_); (refine w_box M _ _ rfl rfl _ rfl _ rfl ?_; clear M; intro g w1 M; (try conv => arg 5; simp only [Act.put, List.setIfInBounds_toArray, setC]))))
  go_ret2
  exact ⟨rfl, M.below⟩
set_option maxRecDepth 100000 in
set_option maxHeartbeats 2000000 in
theorem SealBytes_no (k : Int) (b : UInt32) (n : UInt64) (d t : List UInt8) (w : World) (ht : t.length = 32) (h : rightE k d = false) :
    Calls Try.prog 21 #[.agg (envC k b n d t).toArray] w fun e w' => e = .returned (.tuple #[.string (mkS []), .int .i64 1]) ∧ Below w.heap.size w w' := by
  have M := Mem.start [] w
  have R := fun w => sealRight_c k b n d t w
  rw [h] at R
  replace R := Lib.hid R
  clear h
  go_enter Try.func21, Try.ntmps21
  go_wp2_with (first | ((with_reducible refine tBox (some 1) ?_); refine w_box M _ _ rfl rfl _ rfl (envC k b n d t) rfl ?_; clear M; intro gx w1 M; (try conv => arg 5; simp only [Act.put, List.setIfInBounds_toArray, setC])) | (go_at_call 36; go_must (refine (R.out _).mono ?_; rintro e w1 ⟨rfl, hb⟩; replace M := M.call hb; clear hb)) | ((with_reducible refine tLoad ?_); refine w_at _ _ rfl (by exact ev_tmp rfl) ?_; intro hx; (first | refine w_loadE M _ _ _ rfl (by first | exact at0) hx rfl (by decide +kernel) (by decide +kernel) (by first | assumption | exact zeroT_len | exact macL_len _ _) ?_ | refine w_loadTag M _ _ _ rfl (by first | exact at0) hx rfl (by decide +kernel) (by decide +kernel) (by first | assumption | exact zeroT_len | exact macL_len _ _) ?_); clear hx; (try conv => arg 5; simp only [Act.put, List.setIfInBounds_toArray, setC])) | ((with_reducible refine tStore ?_); refine w_at2 _ _ _ rfl (by first | exact ev_tmp rfl | exact ev_const) (by first | exact ev_tmp rfl | exact ev_const) ?_; intro hx hy; (first | refine w_storeE M _ _ _ _ rfl (by first | exact at0) hx rfl hy rfl (by decide +kernel) (by first | assumption | exact zeroT_len | exact macL_len _ _) (by first | assumption | exact zeroT_len | exact macL_len _ _) ?_ | refine w_storeE (k := 0) (b := 0) (n := 0) (d := []) (tg := zeroT) M _ _ _ _ rfl (by first | exact at0) hx rfl hy rfl (by decide +kernel) zeroT_len (by first | assumption | exact zeroT_len | exact macL_len _ _) ?_ | refine w_storeE (tg := zeroT) M _ _ _ _ rfl (by first | exact at0) hx rfl hy rfl (by decide +kernel) zeroT_len (by first | assumption | exact zeroT_len | exact macL_len _ _) ?_ | refine w_storeTag M _ _ _ _ rfl (by first | exact at0) hx rfl hy (by decide +kernel) (by first | assumption | exact zeroT_len | exact macL_len _ _) (by first | assumption | exact zeroT_len | exact macL_len _ _) ?_ | refine w_storeData M _ _ _ _ rfl (by first | exact at0) hx rfl hy (by decide +kernel) ?_ | refine w_storeNum M _ _ _ _ rfl (by first | exact at0) hx rfl hy (by decide +kernel) ?_); clear hx hy M; intro w1 M; (try simp only [setC] at M); (try conv => arg 5; simp only [Act.put, List.setIfInBounds_toArray, setC])) | ((with_reducible refine tConv _ 45 9 ?_); (first | refine w_stringTag M _ _ _ _ _ rfl rfl (by first | exact at0) rfl (by first | assumption | exact zeroT_len | exact macL_len _ _) Try.underlying45 Try.underlying5 Try.underlying9 ?_); (try conv => arg 5; simp only [Act.put, List.setIfInBounds_toArray, setC])) | ((with_reducible refine tGuard ?_); first | refine w_strip rfl (by with_reducible rfl) ?_ | ((fail_if_success (refine w_lit false rfl (by with_reducible rfl) ?_)); (fail_if_success (refine w_lit true rfl (by with_reducible rfl) ?_)); refine w_case rfl ?_ ?_ <;> (intro hgd; rw [hgd]; try (exfalso; simp at hgd; omega)))) | ((with_reducible refine tConv _ 45 9 ?_); go_must (first | refine w_stringW M _ _ _ _ _ rfl rfl (by first | exact at0) rfl (by first | assumption | exact shaL_len _ | exact macL_len _ _ | exact words_len _ | exact List.length_replicate | (rw [List.length_set]; first | assumption | exact List.length_replicate) | rfl) (by decide) Try.underlying45 Try.underlying5 Try.underlying9 ?_ | refine w_string M _ _ _ _ _ rfl rfl (by first | exact at0) (by first | rfl | (simp; done) | assumption) rfl Try.underlying45 Try.underlying5 Try.underlying9 ?_); (try conv => arg 5; simp only [Act.put, List.setIfInBounds_toArray, setC])) | ((with_reducible refine tLoad ?_); go_must (refine w_at _ _ rfl (by exact ev_tmp rfl) ?_; intro hx; (first | refine w_load M _ _ _ rfl (by first | exact at0) hx rfl (by decide +kernel) (by exact rfl) ?_ | refine w_loadB M _ _ _ rfl (by first | exact at0) hx rfl (by decide +kernel) (by first | assumption | omega | (simp; omega)) ?_ | refine w_loadH M _ _ _ rfl (by first | exact at0) hx rfl (by decide +kernel) (by first | assumption | exact shaL_len _ | exact macL_len _ _ | exact words_len _ | exact List.length_replicate | (rw [List.length_set]; first | assumption | exact List.length_replicate) | rfl) (by decide +kernel) ?_ | refine w_loadR M _ _ _ rfl (by first | exact at0) hx rfl (by decide +kernel) (by kernel_rfl) ?_); clear hx; (try conv => arg 5; simp only [Act.put, List.setIfInBounds_toArray, setC]))) | ((with_reducible refine tStore ?_); go_must (refine w_at2 _ _ _ rfl (by exact ev_tmp rfl) (by first | exact ev_tmp rfl | exact ev_const) ?_; intro hx hy; (first | refine w_storeB M _ _ _ _ rfl (by first | exact at0) hx rfl hy (by decide +kernel) (by first | assumption | omega | (simp; omega)) ?_ | refine w_storeH M _ _ _ _ rfl (by first | exact at0) hx rfl hy (by first | assumption | exact shaL_len _ | exact macL_len _ _ | exact words_len _ | exact List.length_replicate | (rw [List.length_set]; first | assumption | exact List.length_replicate) | rfl) (by decide +kernel) (by first | assumption | exact shaL_len _ | exact macL_len _ _ | exact words_len _ | exact List.length_replicate | (rw [List.length_set]; first | assumption | exact List.length_replicate) | rfl) ?_ | refine w_store M _ _ _ _ rfl (by first | exact at0) hx rfl hy rfl rfl (by decide +kernel) (by first | decide | simp | (simp; omega)) ?_ | refine w_storeR M _ _ _ _ rfl (by first | exact at0) hx rfl _ hy rfl (by kernel_rfl) (by simp [Value.oneCell']) (by first | rfl | assumption) ?_); clear hx hy M; intro w1 M; (try simp only [setC] at M); (try conv => arg 5; simp only [Act.put, List.setIfInBounds_toArray, setC]))) | ((with_reducible refine tBox _ ?_); (refine w_box M _ _ rfl rfl _ rfl _ rfl ?_; clear M; intro g w1 M; (try conv => arg 5; simp only [Act.put, List.setIfInBounds_toArray, setC]))))
  go_ret2
  exact ⟨rfl, M.below⟩
set_option maxRecDepth 100000 in
set_option maxHeartbeats 2000000 in
theorem SealBytes_ok (k : Nat) (b : UInt32) (n : UInt64) (d t : List UInt8) (w : World) (ht : t.length = 32) (h : rightE k d = true) :
    Calls Try.prog 21 #[.agg (envC k b n d t).toArray] w fun e w' => e = .returned (.tuple #[.string (mkS (headL k b n ++ (textL d ++ t))), .int .i64 0]) ∧ Below w.heap.size w w' := by
  have M := Mem.start [] w
  have R := fun w => sealRight_c k b n d t w
  obtain ⟨_, hkk, hdd⟩ := rightE_k h
  rw [h] at R
  have hh := headL_len k b n (by omega)
  have NC := fun (g : Nat) (v : Value) (w : World) hok => numbers_c g v [] k b n d t w (by omega) (by simp) hok
  have T2 := fun (g : Nat) (v : Value) (w : World) hok => Out_Text_c g v (headL k b n) d w (by omega) (by omega) hok
  rw [List.nil_append] at NC
  rw [← List.append_assoc]
  obtain ⟨h0, eh⟩ : ∃ x, x = headL k b n := ⟨_, rfl⟩
  rw [← eh] at NC T2
  rw [← eh]
  obtain ⟨u, eu⟩ : ∃ x, x = h0 ++ textL d := ⟨_, rfl⟩
  rw [← eu] at T2
  rw [← eu]
  have hul : u.length ≤ 100000 := by rw [eu, eh, List.length_append]; unfold textL; have := numL_length_le d.length (by omega); simp; omega
  replace R := Lib.hid R
  replace NC := Lib.hid NC
  replace T2 := Lib.hid T2
  clear h eh eu hh
  go_enter Try.func21, Try.ntmps21
  go_wp2_with (first | ((with_reducible refine tBox (some 1) ?_); refine w_box M _ _ rfl rfl _ rfl (envC k b n d t) rfl ?_; clear M; intro gx w1 M; (try conv => arg 5; simp only [Act.put, List.setIfInBounds_toArray, setC])) | (((with_reducible refine tAlloc (some 4) 81 ?_); refine w_alloc M _ rfl rfl (.agg #[.slice none 0 0]) ([.slice none 0 0]) (by kernel_rfl) rfl ?_; clear M; intro go w1 M; (try conv => arg 5; simp only [Act.put, List.setIfInBounds_toArray, setC])); replace M := M.outNew) | (go_at_call 36; go_must (refine (R.out _).mono ?_; rintro e w1 ⟨rfl, hb⟩; replace M := M.call hb; clear hb)) | (go_at_call 47; go_must (refine (NC.out _ _ _ (M.ok 0 _ rfl)).mono ?_; rintro e w2 ⟨rfl, v1, U⟩; replace M := M.upd 0 rfl U; clear U; simp only [List.set_cons_zero] at M)) | (go_at_call 48; go_must (refine (T2.out _ _ _ (M.ok 0 _ rfl)).mono ?_; rintro e w2 ⟨rfl, v2, U⟩; replace M := M.upd 0 rfl U; clear U; simp only [List.set_cons_zero] at M)) | (go_at_call 49; go_must (refine (Out_String_c _ _ _ _ (M.ok 0 _ rfl)).mono ?_; rintro e w1 ⟨rfl, rfl⟩)) | ((with_reducible show Code.wp _ (Code.region 6 _ _) _ _ _); go_must (have MR := M; refine region_lowc [(1, false), (2, false), (3, false), (0, true), (4, false), (5, false), (6, false)] [(13, .str), (16, .str)] [(3, _)] (IxOk MR [1]) 7 (by kernel_rfl) (by kernel_rfl) rfl (by kernel_rfl) (lows_cons (stab_strTag MR 1 rfl rfl (by decide) (by first | assumption | exact zeroT_len) Try.underlying45 Try.underlying5 Try.underlying9) lows_nil) (ixOk_self MR _) ?_; replace M := M.drew; simp only [planC, opAt, List.getElem?_toArray, List.getElem?_cons_zero, List.getElem?_cons_succ, Option.getD_some])) | ((with_reducible refine tLoad ?_); refine w_at _ _ rfl (by exact ev_tmp rfl) ?_; intro hx; (first | refine w_loadE M _ _ _ rfl (by first | exact at0 | exact at1) hx rfl (by decide +kernel) (by decide +kernel) (by first | assumption | exact zeroT_len | exact macL_len _ _) ?_ | refine w_loadTag M _ _ _ rfl (by first | exact at0 | exact at1) hx rfl (by decide +kernel) (by decide +kernel) (by first | assumption | exact zeroT_len | exact macL_len _ _) ?_); clear hx; (try conv => arg 5; simp only [Act.put, List.setIfInBounds_toArray, setC])) | ((with_reducible refine tStore ?_); refine w_at2 _ _ _ rfl (by first | exact ev_tmp rfl | exact ev_const) (by first | exact ev_tmp rfl | exact ev_const) ?_; intro hx hy; (first | refine w_storeE M _ _ _ _ rfl (by first | exact at0 | exact at1) hx rfl hy rfl (by decide +kernel) (by first | assumption | exact zeroT_len | exact macL_len _ _) (by first | assumption | exact zeroT_len | exact macL_len _ _) ?_ | refine w_storeE (k := 0) (b := 0) (n := 0) (d := []) (tg := zeroT) M _ _ _ _ rfl (by first | exact at0 | exact at1) hx rfl hy rfl (by decide +kernel) zeroT_len (by first | assumption | exact zeroT_len | exact macL_len _ _) ?_ | refine w_storeE (tg := zeroT) M _ _ _ _ rfl (by first | exact at0 | exact at1) hx rfl hy rfl (by decide +kernel) zeroT_len (by first | assumption | exact zeroT_len | exact macL_len _ _) ?_ | refine w_storeTag M _ _ _ _ rfl (by first | exact at0 | exact at1) hx rfl hy (by decide +kernel) (by first | assumption | exact zeroT_len | exact macL_len _ _) (by first | assumption | exact zeroT_len | exact macL_len _ _) ?_ | refine w_storeData M _ _ _ _ rfl (by first | exact at0 | exact at1) hx rfl hy (by decide +kernel) ?_ | refine w_storeNum M _ _ _ _ rfl (by first | exact at0 | exact at1) hx rfl hy (by decide +kernel) ?_); clear hx hy M; intro w1 M; (try simp only [setC] at M); (try conv => arg 5; simp only [Act.put, List.setIfInBounds_toArray, setC])) | ((with_reducible refine tConv _ 45 9 ?_); (first | refine w_stringTag M _ _ _ _ _ rfl rfl (by first | exact at0 | exact at1) rfl (by first | assumption | exact zeroT_len | exact macL_len _ _) Try.underlying45 Try.underlying5 Try.underlying9 ?_); (try conv => arg 5; simp only [Act.put, List.setIfInBounds_toArray, setC])) | ((with_reducible show Seg _ _ _ _); go_must (first | refine Seg.intro ⟨fun h => absurd rfl h, ?_⟩ | refine Seg.intro ⟨fun _ => (by repeat' (first | exact ixOk_nil M.kept | refine ixOk_cons rfl (by first | exact M.ok 0 _ rfl | exact M.ok 1 _ rfl | exact M.ok 2 _ rfl | exact M.ok 3 _ rfl) ?_)), ?_⟩ | refine Seg.intro ⟨(by repeat' (first | (with_reducible exact needs_nil) | refine needs_at rfl (by first | (show Shape.ok Shape.nums _ = true; exact nums_bs _) | rfl) ?_)), (by repeat' (first | (with_reducible exact ats_nil) | refine ats_cons (by first | exact ev_tmp rfl | rfl) ?_)), ?_⟩)) | ((with_reducible show OnlyN _ _ _ _ _); refine OnlyN.intro (by kernel_rfl) ?_) | ((with_reducible refine tGuard ?_); first | refine w_strip rfl (by with_reducible rfl) ?_ | ((fail_if_success (refine w_lit false rfl (by with_reducible rfl) ?_)); (fail_if_success (refine w_lit true rfl (by with_reducible rfl) ?_)); refine w_case rfl ?_ ?_ <;> (intro hgd; rw [hgd]; try (exfalso; simp at hgd; omega)))) | ((with_reducible refine tConv _ 45 9 ?_); go_must (first | refine w_stringW M _ _ _ _ _ rfl rfl (by first | exact at0 | exact at1) rfl (by first | assumption | exact shaL_len _ | exact macL_len _ _ | exact words_len _ | exact List.length_replicate | (rw [List.length_set]; first | assumption | exact List.length_replicate) | rfl) (by decide) Try.underlying45 Try.underlying5 Try.underlying9 ?_ | refine w_string M _ _ _ _ _ rfl rfl (by first | exact at0 | exact at1) (by first | rfl | (simp; done) | assumption) rfl Try.underlying45 Try.underlying5 Try.underlying9 ?_); (try conv => arg 5; simp only [Act.put, List.setIfInBounds_toArray, setC])) | ((with_reducible refine tLoad ?_); go_must (refine w_at _ _ rfl (by exact ev_tmp rfl) ?_; intro hx; (first | refine w_load M _ _ _ rfl (by first | exact at0 | exact at1) hx rfl (by decide +kernel) (by exact rfl) ?_ | refine w_loadB M _ _ _ rfl (by first | exact at0 | exact at1) hx rfl (by decide +kernel) (by first | assumption | omega | (simp; omega)) ?_ | refine w_loadH M _ _ _ rfl (by first | exact at0 | exact at1) hx rfl (by decide +kernel) (by first | assumption | exact shaL_len _ | exact macL_len _ _ | exact words_len _ | exact List.length_replicate | (rw [List.length_set]; first | assumption | exact List.length_replicate) | rfl) (by decide +kernel) ?_ | refine w_loadR M _ _ _ rfl (by first | exact at0 | exact at1) hx rfl (by decide +kernel) (by kernel_rfl) ?_); clear hx; (try conv => arg 5; simp only [Act.put, List.setIfInBounds_toArray, setC]))) | ((with_reducible refine tStore ?_); go_must (refine w_at2 _ _ _ rfl (by exact ev_tmp rfl) (by first | exact ev_tmp rfl | exact ev_const) ?_; intro hx hy; (first | refine w_storeB M _ _ _ _ rfl (by first | exact at0 | exact at1) hx rfl hy (by decide +kernel) (by first | assumption | omega | (simp; omega)) ?_ | refine w_storeH M _ _ _ _ rfl (by first | exact at0 | exact at1) hx rfl hy (by first | assumption | exact shaL_len _ | exact macL_len _ _ | exact words_len _ | exact List.length_replicate | (rw [List.length_set]; first | assumption | exact List.length_replicate) | rfl) (by decide +kernel) (by first | assumption | exact shaL_len _ | exact macL_len _ _ | exact words_len _ | exact List.length_replicate | (rw [List.length_set]; first | assumption | exact List.length_replicate) | rfl) ?_ | refine w_store M _ _ _ _ rfl (by first | exact at0 | exact at1) hx rfl hy rfl rfl (by decide +kernel) (by first | decide | simp | (simp; omega)) ?_ | refine w_storeR M _ _ _ _ rfl (by first | exact at0 | exact at1) hx rfl _ hy rfl (by kernel_rfl) (by simp [Value.oneCell']) (by first | rfl | assumption) ?_); clear hx hy M; intro w1 M; (try simp only [setC] at M); (try conv => arg 5; simp only [Act.put, List.setIfInBounds_toArray, setC]))) | ((with_reducible refine tBox _ ?_); (refine w_box M _ _ rfl rfl _ rfl _ rfl ?_; clear M; intro g w1 M; (try conv => arg 5; simp only [Act.put, List.setIfInBounds_toArray, setC]))))
  go_ret2
  exact ⟨rfl, M.below⟩
end Go.Proofs.Ytjlkiopncclomaa

/- Plain laws of the reference's reader (layer 12's In), and that it does what pack.In does. No program in this text. No conditions but those each lemma names. -/
namespace Go
namespace TL
/-- The reference's reader: what is left, the first fault. -/
structure RS where
  rest : List UInt8
  err : Nat
def RS.num (x : RS) (m : Nat) : Nat × RS :=
  if x.err = 0 then ((readN x.rest m).1, if (readN x.rest m).2.2 = 0 then ⟨x.rest.drop (readN x.rest m).2.1, 0⟩ else ⟨x.rest, (readN x.rest m).2.2⟩) else (0, x)
def RS.text (x : RS) (m : Nat) : List UInt8 × RS :=
  if (x.num m).2.err = 0 then
    if (x.num m).1 ≤ (x.num m).2.rest.length then ((x.num m).2.rest.take (x.num m).1, ⟨(x.num m).2.rest.drop (x.num m).1, 0⟩) else ([], ⟨(x.num m).2.rest, 7⟩)
  else ([], (x.num m).2)
/-- Both readers stand alike. -/
def Alike (x : InS) (y : RS) : Prop := x.err = y.err ∧ (x.err = 0 → x.rest = y.rest)
theorem Alike.most {x : InS} {y : RS} (h : Alike x y) (m : Nat) : (x.most m).1 = (y.num m).1 ∧ Alike (x.most m).2 (y.num m).2 := by
  obtain ⟨h1, h2⟩ := h
  unfold InS.most RS.num
  by_cases h0 : x.err = 0
  · rw [if_pos h0, if_pos (h1 ▸ h0), h2 h0]
    refine ⟨rfl, ?_⟩
    unfold InS.take
    by_cases e : (readN y.rest m).2.2 = 0
    · rw [if_pos e]; simp only [if_pos e]; exact ⟨rfl, fun _ => by rw [h2 h0]⟩
    · rw [if_neg e]; simp only [if_neg e]; exact ⟨rfl, fun h => absurd h e⟩
  · rw [if_neg h0, if_neg (h1 ▸ h0)]
    exact ⟨rfl, h1, fun h => absurd h h0⟩
theorem Alike.text {x : InS} {y : RS} (h : Alike x y) (m : Nat) : (x.text m).1 = (y.text m).1 ∧ Alike (x.text m).2 (y.text m).2 := by
  obtain ⟨h1, h2⟩ := h
  unfold InS.text RS.text RS.num
  by_cases h0 : x.err = 0
  · rw [if_pos h0]
    simp only [if_pos (h1 ▸ h0 : y.err = 0), h2 h0]
    unfold InS.take
    have hl := (read_le (s := y.rest) (most := m) rfl).1
    by_cases e : (readN y.rest m).2.2 = 0
    · simp only [if_pos e, if_true]
      rw [List.length_drop]
      by_cases g : (readN y.rest m).1 ≤ y.rest.length - (readN y.rest m).2.1
      · simp only [if_pos g]
        refine ⟨trivial, rfl, fun _ => ?_⟩
        simp only [List.drop_drop, h2 h0]
      · simp only [if_neg g]
        exact ⟨trivial, rfl, fun h => by simp at h⟩
    · simp only [if_neg e]
      exact ⟨trivial, rfl, fun h => absurd h e⟩
  · rw [if_neg h0]
    simp only [if_neg (h1 ▸ h0 : ¬ y.err = 0)]
    exact ⟨trivial, h1, fun h => absurd h h0⟩
theorem numV_snoc (l : List UInt8) (b : UInt8) : numV (l ++ [b]) = numV l + b.toNat % 128 * 128 ^ l.length := by
  induction l with
  | nil => simp [numV]
  | cons c l ih =>
    simp only [List.cons_append, numV, ih, List.length_cons, Nat.pow_succ]
    have e : 128 * (b.toNat % 128 * 128 ^ l.length) = b.toNat % 128 * (128 ^ l.length * 128) := by rw [Nat.mul_comm 128, Nat.mul_assoc]
    omega
theorem numV_take (s : List UInt8) (k : Nat) (h : k < s.length) : numV (s.take (k + 1)) = numV (s.take k) + (s.getD k 0).toNat % 128 * 128 ^ k := by
  rw [List.take_succ_eq_append_getElem h, numV_snoc, List.length_take, Nat.min_eq_left (by omega), List.getD_eq_getElem?_getD, List.getElem?_eq_getElem h]; rfl
theorem numV_take_lt (s : List UInt8) (k : Nat) (h : k ≤ s.length) : numV (s.take k) < 128 ^ k := by
  have := numV_lt (s.take k)
  rwa [List.length_take, Nat.min_eq_left h] at this
/-- The reference's round, its byte put on. -/
theorem or_shl (n b k : Nat) (hn : n < 128 ^ k) : n ||| b * 2 ^ (7 * k) = n + b * 128 ^ k := by
  have e : (128 : Nat) ^ k = 2 ^ (7 * k) := by rw [show (128 : Nat) = 2 ^ 7 from rfl, ← Nat.pow_mul]
  rw [e] at hn ⊢
  rw [Nat.or_comm, ← Nat.shiftLeft_eq, ← Nat.shiftLeft_add_eq_or_of_lt hn, Nat.add_comm]
end TL
end Go

/- Plain laws of pack's reader: it stays within its bounds; behind a fault nothing is read. No program in this text. No conditions but those each lemma names. -/
namespace Go
namespace TL
theorem readN_le (s : List UInt8) (m : Nat) : (readN s m).2.1 ≤ s.length ∧ (readN s m).2.1 ≤ 10 ∧ (readN s m).1 ≤ m := read_le (s := s) (most := m) rfl
def inStart (s : List UInt8) : InS := ⟨s, 0, 0⟩
/-! ### The reader stays within its bounds -/
theorem InS.take_fit {x : InS} {k e : Nat} (h : x.fit) (hk : k ≤ x.rest.length) : (x.take k e).fit := by
  unfold InS.take InS.fit at *
  split
  · simp only [List.length_drop]; omega
  · exact h
theorem InS.most_fit {x : InS} (h : x.fit) (m : Nat) : (x.most m).2.fit := by
  unfold InS.most
  split
  · exact InS.take_fit h (read_le (s := x.rest) (most := m) rfl).1
  · exact h
theorem InS.text_fit {x : InS} (h : x.fit) (m : Nat) : (x.text m).2.fit := by
  unfold InS.text
  split
  · split
    · split
      · have := (readN_le x.rest m).1
        exact InS.take_fit h (by omega)
      · exact InS.take_fit h (Nat.zero_le _)
    · exact InS.take_fit h (Nat.zero_le _)
  · exact h
theorem InS.byte_fit {x : InS} (h : x.fit) : x.byte.2.fit := by
  unfold InS.byte
  split
  · split
    · exact InS.take_fit h (Nat.zero_le _)
    · rename_i b l e; exact InS.take_fit h (by rw [e]; simp)
  · exact h
theorem InS.most_le (x : InS) (m : Nat) : (x.most m).1 ≤ m := by
  unfold InS.most
  split
  · exact (read_le (s := x.rest) (most := m) rfl).2.2
  · exact Nat.zero_le _
theorem InS.text_len (x : InS) (m : Nat) : (x.text m).1.length ≤ m := by
  unfold InS.text
  split
  · split
    · split
      · have := (readN_le x.rest m).2.2
        simp; omega
      · simp
    · simp
  · simp
/-- Behind a fault nothing is read. -/
theorem InS.text_err {x : InS} (h : x.err ≠ 0) (m : Nat) : x.text m = ([], x) := by unfold InS.text; rw [if_neg h]
theorem InS.most_err {x : InS} (h : x.err ≠ 0) (m : Nat) : x.most m = (0, x) := by unfold InS.most; rw [if_neg h]
theorem fin_err {x : InS} (h : x.err ≠ 0) : x.fin = x.err := by unfold InS.fin; rw [if_neg h]
end TL
end Go

/- Plain laws of pack's reader: numbers and texts, read back and cut. No program in this text. No conditions but those each lemma names. -/
namespace Go
namespace TL
/-! ### Numbers and texts, read back and cut -/
theorem most_num {m n k : Nat} {r : List UInt8} (h : n ≤ m) (h64 : n < 18446744073709551616) : InS.most ⟨numL n ++ r, k, 0⟩ m = (n, ⟨r, k + (numL n).length, 0⟩) := by
  unfold InS.most InS.take
  simp only [if_true]
  rw [read_num n m r h64, if_neg (by omega)]
  simp
theorem text_text {m k : Nat} {t r : List UInt8} (h : t.length ≤ m) (h64 : t.length < 18446744073709551616) : InS.text ⟨textL t ++ r, k, 0⟩ m = (t, ⟨r, k + (textL t).length, 0⟩) := by
  unfold InS.text InS.take textL
  have e := read_num t.length m (t ++ r) h64
  rw [if_neg (by omega)] at e
  simp only [if_true, List.append_assoc]
  rw [e]
  simp only [if_true]
  rw [if_pos (by simp)]
  simp [List.drop_append]
theorem most_cut {m n k j : Nat} {r : List UInt8} (h : n ≤ m) (h64 : n < 18446744073709551616) :
    InS.most ⟨(numL n ++ r).take j, k, 0⟩ m = if j < (numL n).length then (0, ⟨(numL n).take j, k, 7⟩) else (n, ⟨r.take (j - (numL n).length), k + (numL n).length, 0⟩) := by
  rw [List.take_append]
  by_cases hj : j < (numL n).length
  · rw [if_pos hj, show j - (numL n).length = 0 by omega, List.take_zero, List.append_nil]
    unfold InS.most InS.take
    simp only [if_true]
    rw [read_short n m j h64 hj]; simp
  · rw [if_neg hj, List.take_of_length_le (by omega : (numL n).length ≤ j)]
    exact most_num h h64
theorem text_cut {m k j : Nat} {t r : List UInt8} (h : t.length ≤ m) (h64 : t.length < 18446744073709551616) :
    if j < (textL t).length then (InS.text ⟨(textL t ++ r).take j, k, 0⟩ m).2.err = 7 else InS.text ⟨(textL t ++ r).take j, k, 0⟩ m = (t, ⟨r.take (j - (textL t).length), k + (textL t).length, 0⟩) := by
  by_cases hj : j < (textL t).length
  · rw [if_pos hj]
    rw [List.take_append, show j - (textL t).length = 0 by omega, List.take_zero, List.append_nil]
    unfold textL at hj ⊢
    rw [List.take_append]
    unfold InS.text InS.take
    simp only [if_true]
    by_cases h2 : j < (numL t.length).length
    · rw [show j - (numL t.length).length = 0 by omega, List.take_zero, List.append_nil, read_short t.length m j h64 h2]
      simp
    · have e := read_num t.length m (t.take (j - (numL t.length).length)) h64
      rw [if_neg (by omega)] at e
      rw [List.take_of_length_le (by omega : (numL t.length).length ≤ j), e]
      simp only [if_true]
      rw [List.length_append] at hj
      rw [if_neg (by rw [List.length_append, List.length_take]; omega)]
      rfl
  · rw [if_neg hj, List.take_append, List.take_of_length_le (by omega : (textL t).length ≤ j)]
    exact text_text h h64
theorem most_ok {x : InS} {m n : Nat} {y : InS} (h : x.most m = (n, y)) (hx : x.err = 0) (hy : y.err = 0) : x.rest = numL n ++ y.rest ∧ n ≤ m := by
  unfold InS.most InS.take at h
  rw [if_pos hx] at h
  obtain ⟨⟨a, b, c⟩, e⟩ : ∃ R, R = readN x.rest m := ⟨_, rfl⟩
  rw [← e] at h
  simp only [Prod.mk.injEq] at h
  obtain ⟨rfl, rfl⟩ := h
  by_cases hc : c = 0
  · subst hc
    obtain ⟨h1, h2, h3, _⟩ := read_ok e.symm
    simp only [if_true]
    exact ⟨h1, h3⟩
  · rw [if_neg hc] at hy; exact absurd hy hc
theorem text_ok {x : InS} {m : Nat} {t : List UInt8} {y : InS} (h : x.text m = (t, y)) (hx : x.err = 0) (hy : y.err = 0) : x.rest = textL t ++ y.rest ∧ t.length ≤ m := by
  have hlen := InS.text_len x m
  rw [h] at hlen
  refine ⟨?_, hlen⟩
  unfold InS.text InS.take at h
  rw [if_pos hx] at h
  obtain ⟨⟨a, b, c⟩, e⟩ : ∃ R, R = readN x.rest m := ⟨_, rfl⟩
  rw [← e] at h
  by_cases hc : c = 0
  · subst hc
    obtain ⟨h1, h2, h3, _⟩ := read_ok e.symm
    simp only [if_true] at h
    split at h
    · rename_i hl
      simp only [Prod.mk.injEq] at h
      obtain ⟨rfl, rfl⟩ := h
      have e2 : ((x.rest.drop b).take a).length = a := by simp; omega
      unfold textL
      rw [e2, List.append_assoc]
      simp only
      rw [← List.drop_drop, List.take_append_drop]
      exact h1
    · simp only [Prod.mk.injEq] at h
      obtain ⟨_, rfl⟩ := h
      simp at hy
  · simp only [if_neg hc, Prod.mk.injEq] at h
    obtain ⟨_, rfl⟩ := h
    exact absurd hy hc
theorem most_err0 {x : InS} {m : Nat} (h : (x.most m).2.err = 0) : x.err = 0 := by
  by_cases hx : x.err = 0
  · exact hx
  · rw [InS.most_err hx] at h; exact h
theorem text_err0 {x : InS} {m : Nat} (h : (x.text m).2.err = 0) : x.err = 0 := by
  by_cases hx : x.err = 0
  · exact hx
  · rw [InS.text_err hx] at h; exact h
end TL
end Go

/- Plain laws of an envelope's bytes: read back, cut, only. No program in this text. No conditions but those each lemma names. -/
namespace Go
namespace TL
structure Env where
  k : Nat
  b : UInt32
  n : UInt64
  d : List UInt8
  t : List UInt8
def zeroE : Env := ⟨0, 0, 0, [], List.replicate 32 0⟩
/-- An envelope's bytes. -/
def envB (x : Env) : List UInt8 := numL x.k ++ (numL x.b.toNat ++ (numL x.n.toNat ++ (textL x.d ++ x.t)))
def rightEnv (x : Env) : Prop := x.k ≤ 1048576 ∧ x.d.length ≤ 8192 ∧ x.t.length = 32
/-- A tag's bytes are read, one by one. -/
def tagS (x0 : InS) : Nat → InS × List UInt8
  | 0 => (x0, List.replicate 32 0)
  | n + 1 => ((tagS x0 n).1.byte.2, (tagS x0 n).2.set n (UInt8.ofNat (tagS x0 n).1.byte.1))
theorem tagS_succ (x0 : InS) (n : Nat) : tagS x0 (n + 1) = ((tagS x0 n).1.byte.2, (tagS x0 n).2.set n (UInt8.ofNat (tagS x0 n).1.byte.1)) := rfl
theorem tagS_len (x0 : InS) : ∀ n, (tagS x0 n).2.length = 32
  | 0 => List.length_replicate
  | n + 1 => by rw [tagS_succ, List.length_set]; exact tagS_len x0 n
theorem tagS_fit {x0 : InS} (h : x0.fit) : ∀ n, (tagS x0 n).1.fit
  | 0 => h
  | n + 1 => InS.byte_fit (tagS_fit h n)
structure Nums where
  k : Nat
  b : Nat
  n : Nat
  d : List UInt8
  x : InS
def numsS (s : List UInt8) : Nums :=
  let a := (InS.mk s 0 0).most 1048576
  let b := a.2.most 4294967295
  let c := b.2.most maxU
  let d := c.2.text 8192
  ⟨a.1, b.1, c.1, d.1, d.2⟩
/-- The envelope that bytes are, or the fault. -/
def readS (s : List UInt8) : Env × Nat :=
  let a := numsS s
  let e := tagS a.x 32
  if e.1.fin = 0 then (⟨a.k, UInt32.ofNat a.b, UInt64.ofNat a.n, a.d, e.2⟩, 0) else (zeroE, e.1.fin)
theorem readS_zero {s : List UInt8} (h : (readS s).2 ≠ 0) : readS s = (zeroE, (readS s).2) := by
  unfold readS at h ⊢
  simp only at h ⊢
  by_cases e : (tagS (numsS s).x 32).1.fin = 0
  · rw [if_pos e] at h; exact absurd rfl h
  · rw [if_neg e]
theorem byte_has (x : InS) : ∃ q : UInt8, x.byte.1 = q.toNat := by
  unfold InS.byte
  split
  · split
    · exact ⟨0, rfl⟩
    · rename_i b _ _; exact ⟨b, rfl⟩
  · exact ⟨0, rfl⟩
theorem byte_cons (b : UInt8) (r : List UInt8) (k : Nat) : (InS.mk (b :: r) k 0).byte = (b.toNat, ⟨r, k + 1, 0⟩) := rfl
theorem byte_nil (k : Nat) : (InS.mk [] k 0).byte = (0, ⟨[], k, 7⟩) := rfl
theorem byte_bad {x : InS} (h : x.err ≠ 0) : x.byte = (0, x) := by unfold InS.byte; rw [if_neg h]
theorem byte_ok {x : InS} (h : x.byte.2.err = 0) : x.err = 0 ∧ x.rest = UInt8.ofNat x.byte.1 :: x.byte.2.rest := by
  obtain ⟨rest, read, err⟩ := x
  by_cases e : err = 0
  · subst e
    cases rest with
    | nil => cases h
    | cons b r => rw [byte_cons]; exact ⟨rfl, by rw [UInt8.ofNat_toNat]⟩
  · rw [byte_bad e] at h; exact absurd h e
theorem set_take_succ (l : List UInt8) (j : Nat) (v : UInt8) (h : j < l.length) : (l.set j v).take (j + 1) = l.take j ++ [v] := by
  rw [List.take_succ_eq_append_getElem (by simpa using h), List.getElem_set_self, List.take_set_of_le (Nat.le_refl j)]
theorem tagS_back (t r : List UInt8) (k : Nat) (ht : t.length = 32) : ∀ n, n ≤ 32 → (tagS ⟨t ++ r, k, 0⟩ n).1 = ⟨t.drop n ++ r, k + n, 0⟩ ∧ (tagS ⟨t ++ r, k, 0⟩ n).2.take n = t.take n
  | 0, _ => ⟨rfl, rfl⟩
  | n + 1, h => by
    obtain ⟨h1, h2⟩ := tagS_back t r k ht n (by omega)
    have hd : t.drop n = t[n] :: t.drop (n + 1) := List.drop_eq_getElem_cons (by omega)
    have hl := tagS_len ⟨t ++ r, k, 0⟩ n
    rw [tagS_succ, h1, hd, List.cons_append, byte_cons]
    refine ⟨rfl, ?_⟩
    rw [set_take_succ _ _ _ (by omega), h2, UInt8.ofNat_toNat, List.take_succ_eq_append_getElem (by omega)]
theorem tagS_bad {x : InS} (h : x.err ≠ 0) : ∀ n, (tagS x n).1 = x
  | 0 => rfl
  | n + 1 => by rw [tagS_succ, tagS_bad h n, byte_bad h]
theorem tagS_only {x : InS} : ∀ n, n ≤ 32 → (tagS x n).1.err = 0 → x.err = 0 ∧ x.rest = (tagS x n).2.take n ++ (tagS x n).1.rest
  | 0, _, h => ⟨h, rfl⟩
  | n + 1, hn, h => by
    rw [tagS_succ] at h ⊢
    obtain ⟨e1, e2⟩ := byte_ok h
    obtain ⟨h1, h2⟩ := tagS_only n (by omega) e1
    have hl := tagS_len x n
    refine ⟨h1, ?_⟩
    rw [set_take_succ _ _ _ (by omega), h2, e2]
    simp
theorem nums_back (x : Env) (h : rightEnv x) (r : List UInt8) : ∃ k, numsS (numL x.k ++ (numL x.b.toNat ++ (numL x.n.toNat ++ (textL x.d ++ r)))) = ⟨x.k, x.b.toNat, x.n.toNat, x.d, ⟨r, k, 0⟩⟩ := by
  obtain ⟨h1, h2, _⟩ := h
  have hb := x.b.toNat_lt
  have hn := x.n.toNat_lt
  unfold numsS
  simp only
  rw [most_num h1 (by omega)]
  simp only
  rw [most_num (by omega) (by omega)]
  simp only
  rw [most_num (by unfold maxU; omega) (by omega)]
  simp only
  rw [text_text h2 (by omega)]
  exact ⟨_, rfl⟩
/-- An envelope's bytes, read, are it; nothing may be behind them. -/
theorem read_env (x : Env) (h : rightEnv x) (r : List UInt8) : readS (envB x ++ r) = if r = [] then (x, 0) else (zeroE, 8) := by
  have e : envB x ++ r = numL x.k ++ (numL x.b.toNat ++ (numL x.n.toNat ++ (textL x.d ++ (x.t ++ r)))) := by unfold envB; simp only [List.append_assoc]
  obtain ⟨k, hk⟩ := nums_back x h (x.t ++ r)
  obtain ⟨t1, t2⟩ := tagS_back x.t r k h.2.2 32 (Nat.le_refl _)
  have hl := tagS_len ⟨x.t ++ r, k, 0⟩ 32
  rw [List.take_of_length_le (by omega), List.take_of_length_le (by have := h.2.2; omega)] at t2
  rw [List.drop_eq_nil_of_le (by have := h.2.2; omega), List.nil_append] at t1
  unfold readS
  rw [e, hk]
  simp only
  rw [t1, t2]
  by_cases hr : r = []
  · subst hr
    have hf : (InS.mk [] (k + 32) 0).fin = 0 := rfl
    rw [if_pos rfl, if_pos hf, UInt32.ofNat_toNat, UInt64.ofNat_toNat]
  · have hf : (InS.mk r (k + 32) 0).fin = 8 := by unfold InS.fin; rw [if_pos rfl, if_neg (by simpa using hr)]
    rw [if_neg hr, hf, if_neg (by decide)]
/-- Without its last byte it ends too early. -/
theorem read_envless (x : Env) (h : rightEnv x) : readS ((envB x).take ((envB x).length - 1)) = (zeroE, 7) := by
  have h3 := h.2.2
  have hl : (envB x).length = (numL x.k ++ (numL x.b.toNat ++ (numL x.n.toNat ++ textL x.d))).length + 32 := by unfold envB; simp only [List.length_append, h3]; omega
  have e : (envB x).take ((envB x).length - 1) = numL x.k ++ (numL x.b.toNat ++ (numL x.n.toNat ++ (textL x.d ++ x.t.take 31))) := by
    have e1 : envB x = (numL x.k ++ (numL x.b.toNat ++ (numL x.n.toNat ++ textL x.d))) ++ x.t := by unfold envB; simp only [List.append_assoc]
    rw [hl, e1, show (numL x.k ++ (numL x.b.toNat ++ (numL x.n.toNat ++ textL x.d))).length + 32 - 1 = (numL x.k ++ (numL x.b.toNat ++ (numL x.n.toNat ++ textL x.d))).length + 31 by omega, List.take_append, List.take_of_length_le (by omega)]
    rw [Nat.add_sub_cancel_left]
    simp only [List.append_assoc]
  obtain ⟨k, hk⟩ := nums_back x h (x.t.take 31)
  have key : ∀ (t : List UInt8) (k : Nat), t.length = 31 → (tagS ⟨t, k, 0⟩ 32).1.fin = 7 := by
    intro t k ht
    have g : ∀ n, n ≤ 31 → (tagS ⟨t, k, 0⟩ n).1 = ⟨t.drop n, k + n, 0⟩ := by
      intro n
      induction n with
      | zero => intro _; rfl
      | succ n ih =>
        intro hn
        have hd : t.drop n = t[n] :: t.drop (n + 1) := List.drop_eq_getElem_cons (by omega)
        rw [tagS_succ, ih (by omega), hd, byte_cons]; rfl
    have g31 := g 31 (Nat.le_refl _)
    rw [List.drop_eq_nil_of_le (by omega)] at g31
    rw [show (32 : Nat) = 31 + 1 from rfl, tagS_succ, g31, byte_nil]; rfl
  have hf := key (x.t.take 31) k (by rw [List.length_take]; omega)
  unfold readS
  rw [e, hk]
  simp only
  rw [hf, if_neg (by decide)]
/-- What is read is right, and has just these bytes. -/
theorem read_envonly {s : List UInt8} (h : (readS s).2 = 0) : s = envB (readS s).1 ∧ rightEnv (readS s).1 := by
  obtain ⟨⟨a, x1⟩, e1⟩ : ∃ R, R = (InS.mk s 0 0).most 1048576 := ⟨_, rfl⟩
  obtain ⟨⟨b, x2⟩, e2⟩ : ∃ R, R = x1.most 4294967295 := ⟨_, rfl⟩
  obtain ⟨⟨c, x3⟩, e3⟩ : ∃ R, R = x2.most maxU := ⟨_, rfl⟩
  obtain ⟨⟨d, x4⟩, e4⟩ : ∃ R, R = x3.text 8192 := ⟨_, rfl⟩
  have en : numsS s = ⟨a, b, c, d, x4⟩ := by unfold numsS; simp only [← e1, ← e2, ← e3, ← e4]
  have g := fun h => tagS_only (x := x4) 32 (Nat.le_refl _) h
  have hl := tagS_len x4 32
  obtain ⟨⟨x5, t⟩, e5⟩ : ∃ R, R = tagS x4 32 := ⟨_, rfl⟩
  rw [← e5] at g hl
  simp only at g hl
  have er : readS s = if x5.fin = 0 then (⟨a, UInt32.ofNat b, UInt64.ofNat c, d, t⟩, 0) else (zeroE, x5.fin) := by unfold readS; simp only [en, ← e5]
  rw [er] at h ⊢
  by_cases e : x5.fin = 0
  · rw [if_pos e]
    simp only
    have he : x5.err = 0 ∧ x5.rest = [] := by
      unfold InS.fin at e
      by_cases q1 : x5.err = 0
      · rw [if_pos q1] at e
        refine ⟨q1, ?_⟩
        by_cases q2 : x5.rest.length = 0
        · simpa using q2
        · rw [if_neg q2] at e; cases e
      · rw [if_neg q1] at e; exact absurd e q1
    obtain ⟨g1, g2⟩ := g he.1
    rw [he.2, List.append_nil, List.take_of_length_le (by omega)] at g2
    have f3 : x3.err = 0 := text_err0 (m := 8192) (by rw [← e4]; exact g1)
    have f2 : x2.err = 0 := most_err0 (m := maxU) (by rw [← e3]; exact f3)
    have f1 : x1.err = 0 := most_err0 (m := 4294967295) (by rw [← e2]; exact f2)
    obtain ⟨a1, a2⟩ := most_ok e1.symm rfl f1
    obtain ⟨b1, b2⟩ := most_ok e2.symm f1 f2
    obtain ⟨c1, c2⟩ := most_ok e3.symm f2 f3
    obtain ⟨d1, d2⟩ := text_ok e4.symm f3 g1
    rw [maxU_eq] at c2
    refine ⟨?_, a2, d2, hl⟩
    unfold envB
    simp only
    rw [UInt32.toNat_ofNat', UInt64.toNat_ofNat', Nat.mod_eq_of_lt (by omega), Nat.mod_eq_of_lt (by omega), ← g2, ← d1, ← c1, ← b1]
    exact a1
  · rw [if_neg e] at h; exact absurd h e
end TL
end Go

/- The walk of seal.Read. Conditions: lengths. -/
namespace Go.Proofs.Ytjlkiopncclomaa
open Go.RowKit Go.TL
set_option maxRecDepth 100000 in
set_option maxHeartbeats 4000000 in
theorem sealRead_c (s : List UInt8) (w : World) (hs : s.length ≤ 1000000) :
    Calls Try.prog 22 #[.string (mkS s)] w fun e w' => e = .returned (.tuple #[.agg (envC (readS s).1.k (readS s).1.b (readS s).1.n (readS s).1.d (readS s).1.t).toArray, .int .i64 (readS s).2]) ∧ Below w.heap.size w w' := by
  have M := Mem.start [] w
  have f0 : (InS.mk s 0 0).fit := by unfold InS.fit; simp only; omega
  have f1 := InS.most_fit f0 1048576
  have f2 := InS.most_fit f1 4294967295
  have f3 := InS.most_fit f2 maxU
  have f4 := InS.text_fit f3 8192
  have hcm := InS.most_le ((InS.mk s 0 0).most 1048576 |>.2 |>.most 4294967295 |>.2) maxU
  have Q1 := fun g (w : World) h => Most_c g (InS.mk s 0 0) w h f0 1048576 1048576 rfl (by omega)
  have Q2 := fun g (w : World) h => Most_c g _ w h f1 4294967295 4294967295 rfl (by omega)
  have Q3 := fun g (w : World) h => In_Num_c g _ w h f2
  have Q4 := fun g (w : World) h => In_Text_c g _ w h f3 8192 8192 rfl (by omega)
  obtain ⟨⟨a, x1⟩, e1⟩ : ∃ R, R = (InS.mk s 0 0).most 1048576 := ⟨_, rfl⟩
  rw [← e1] at f1 f2 f3 f4 hcm Q1 Q2 Q3 Q4
  simp only at f1 f2 f3 f4 hcm Q1 Q2 Q3 Q4
  obtain ⟨⟨b, x2⟩, e2⟩ : ∃ R, R = x1.most 4294967295 := ⟨_, rfl⟩
  rw [← e2] at f2 f3 f4 hcm Q2 Q3 Q4
  simp only at f2 f3 f4 hcm Q2 Q3 Q4
  obtain ⟨⟨c, x3⟩, e3⟩ : ∃ R, R = x2.most maxU := ⟨_, rfl⟩
  rw [← e3] at f3 f4 hcm Q3 Q4
  simp only at f3 f4 hcm Q3 Q4
  obtain ⟨⟨d, x4⟩, e4⟩ : ∃ R, R = x3.text 8192 := ⟨_, rfl⟩
  rw [← e4] at f4 Q4
  simp only at f4 Q4
  have en : numsS s = ⟨a, b, c, d, x4⟩ := by unfold numsS; simp only [← e1, ← e2, ← e3, ← e4]
  rw [maxU_eq] at hcm
  have ec : (c : Int) = I64 (UInt64.ofNat c) := by rw [I64_eq, UInt64.toNat_ofNat', Nat.mod_eq_of_lt (by omega)]
  rw [ec] at Q3
  obtain ⟨nn, enn⟩ : ∃ x, x = UInt64.ofNat c := ⟨_, rfl⟩
  rw [← enn] at Q3
  obtain ⟨bb, ebb⟩ : ∃ x, x = UInt32.ofNat b := ⟨_, rfl⟩
  have hbb : w32 (b : Int) = bb := by rw [ebb]; exact w32_nat b
  have TF := fun n => tagS_fit f4 n
  have er : ∀ (x5 : InS) (t : List UInt8), (x5, t) = tagS x4 32 → readS s = if x5.fin = 0 then (⟨a, bb, nn, d, t⟩, 0) else (zeroE, x5.fin) := fun x5 t h => by unfold readS; simp only [en, ← h, ← enn, ← ebb]
  replace Q1 := Lib.hid Q1
  replace Q2 := Lib.hid Q2
  replace Q3 := Lib.hid Q3
  replace Q4 := Lib.hid Q4
  replace er := Lib.hid er
  replace TF := Lib.hid TF
  clear e1 e2 e3 e4 en ec enn ebb hcm f0 f1 f2 f3 f4
  go_enter Try.func22, Try.ntmps22
  go_wp2_with (first | ((with_reducible refine tAlloc (some 2) 29 ?_); refine w_alloc M _ rfl rfl (.agg (envC 0 0 0 [] zeroT).toArray) (envC 0 0 0 [] zeroT) (by kernel_rfl) rfl ?_; clear M; intro gr w1 M; (try conv => arg 5; simp only [Act.put, List.setIfInBounds_toArray, setC])) | ((with_reducible refine tAlloc (some 5) 29 ?_); refine w_alloc M _ rfl rfl (.agg (envC 0 0 0 [] zeroT).toArray) (envC 0 0 0 [] zeroT) (by kernel_rfl) rfl ?_; clear M; intro gx w1 M; (try conv => arg 5; simp only [Act.put, List.setIfInBounds_toArray, setC])) | (go_at_call 50; go_must (refine (packOf_c s _).mono ?_; rintro e w1 ⟨gi, rfl, MP⟩; replace M := M.join MP; clear MP; simp only [List.cons_append, List.nil_append] at M)) | (go_at_call 51; go_must ((first | (with_reducible refine (Q1.out _ _ (M.ok 0 _ rfl)).mono ?_) | (with_reducible refine (Q2.out _ _ (M.ok 0 _ rfl)).mono ?_)); rintro e w1 ⟨rfl, U⟩; replace M := M.upd 0 rfl U; clear U; simp only [List.set_cons_zero] at M)) | (go_at_call 52; go_must (refine (Q3.out _ _ (M.ok 0 _ rfl)).mono ?_; rintro e w1 ⟨rfl, U⟩; replace M := M.upd 0 rfl U; clear U; simp only [List.set_cons_zero] at M)) | (go_at_call 53; go_must (refine (Q4.out _ _ (M.ok 0 _ rfl)).mono ?_; rintro e w1 ⟨rfl, U⟩; replace M := M.upd 0 rfl U; clear U; simp only [List.set_cons_zero] at M)) | ((with_reducible refine tLoad ?_); refine w_at _ _ rfl (by exact ev_tmp rfl) ?_; intro hx; (first | refine w_loadE M _ _ _ rfl (by first | exact at0) hx rfl (by decide +kernel) (by decide +kernel) (by first | assumption | exact zeroT_len | exact macL_len _ _) ?_ | refine w_loadTag M _ _ _ rfl (by first | exact at0) hx rfl (by decide +kernel) (by decide +kernel) (by first | assumption | exact zeroT_len | exact macL_len _ _) ?_); clear hx; (try conv => arg 5; simp only [Act.put, List.setIfInBounds_toArray, setC])) | ((with_reducible refine tStore ?_); refine w_at2 _ _ _ rfl (by first | exact ev_tmp rfl | exact ev_const) (by first | exact ev_tmp rfl | exact ev_const) ?_; intro hx hy; (first | refine w_storeE M _ _ _ _ rfl (by first | exact at0) hx rfl hy rfl (by decide +kernel) (by first | assumption | exact zeroT_len | exact macL_len _ _) (by first | assumption | exact zeroT_len | exact macL_len _ _) ?_ | refine w_storeE (k := 0) (b := 0) (n := 0) (d := []) (tg := zeroT) M _ _ _ _ rfl (by first | exact at0) hx rfl hy rfl (by decide +kernel) zeroT_len (by first | assumption | exact zeroT_len | exact macL_len _ _) ?_ | refine w_storeE (tg := zeroT) M _ _ _ _ rfl (by first | exact at0) hx rfl hy rfl (by decide +kernel) zeroT_len (by first | assumption | exact zeroT_len | exact macL_len _ _) ?_ | refine w_storeTag M _ _ _ _ rfl (by first | exact at0) hx rfl hy (by decide +kernel) (by first | assumption | exact zeroT_len | exact macL_len _ _) (by first | assumption | exact zeroT_len | exact macL_len _ _) ?_ | refine w_storeData M _ _ _ _ rfl (by first | exact at0) hx rfl hy (by decide +kernel) ?_ | refine w_storeNum M _ _ _ _ rfl (by first | exact at0) hx rfl hy (by decide +kernel) ?_); clear hx hy M; intro w1 M; (try simp only [setC] at M); (try conv => arg 5; simp only [Act.put, List.setIfInBounds_toArray, setC])) | ((with_reducible refine tConv _ 45 9 ?_); (first | refine w_stringTag M _ _ _ _ _ rfl rfl (by first | exact at0) rfl (by first | assumption | exact zeroT_len | exact macL_len _ _) Try.underlying45 Try.underlying5 Try.underlying9 ?_); (try conv => arg 5; simp only [Act.put, List.setIfInBounds_toArray, setC])) | ((with_reducible refine tGuard ?_); first | refine w_strip rfl (by with_reducible rfl) ?_ | ((fail_if_success (refine w_lit false rfl (by with_reducible rfl) ?_)); (fail_if_success (refine w_lit true rfl (by with_reducible rfl) ?_)); refine w_case rfl ?_ ?_ <;> (intro hgd; rw [hgd]; try (exfalso; simp at hgd; omega)))) | ((with_reducible refine tConv _ 45 9 ?_); go_must (first | refine w_stringW M _ _ _ _ _ rfl rfl (by first | exact at0 | exact at1) rfl (by first | assumption | exact shaL_len _ | exact macL_len _ _ | exact words_len _ | exact List.length_replicate | (rw [List.length_set]; first | assumption | exact List.length_replicate) | rfl) (by decide) Try.underlying45 Try.underlying5 Try.underlying9 ?_ | refine w_string M _ _ _ _ _ rfl rfl (by first | exact at0 | exact at1) (by first | rfl | (simp; done) | assumption) rfl Try.underlying45 Try.underlying5 Try.underlying9 ?_); (try conv => arg 5; simp only [Act.put, List.setIfInBounds_toArray, setC])) | ((with_reducible refine tLoad ?_); go_must (refine w_at _ _ rfl (by exact ev_tmp rfl) ?_; intro hx; (first | refine w_load M _ _ _ rfl (by first | exact at0 | exact at1) hx rfl (by decide +kernel) (by exact rfl) ?_ | refine w_loadB M _ _ _ rfl (by first | exact at0 | exact at1) hx rfl (by decide +kernel) (by first | assumption | omega | (simp; omega)) ?_ | refine w_loadH M _ _ _ rfl (by first | exact at0 | exact at1) hx rfl (by decide +kernel) (by first | assumption | exact shaL_len _ | exact macL_len _ _ | exact words_len _ | exact List.length_replicate | (rw [List.length_set]; first | assumption | exact List.length_replicate) | rfl) (by decide +kernel) ?_ | refine w_loadR M _ _ _ rfl (by first | exact at0 | exact at1) hx rfl (by decide +kernel) (by kernel_rfl) ?_); clear hx; (try conv => arg 5; simp only [Act.put, List.setIfInBounds_toArray, setC]))) | ((with_reducible refine tStore ?_); go_must (refine w_at2 _ _ _ rfl (by exact ev_tmp rfl) (by first | exact ev_tmp rfl | exact ev_const) ?_; intro hx hy; (first | refine w_storeB M _ _ _ _ rfl (by first | exact at0 | exact at1) hx rfl hy (by decide +kernel) (by first | assumption | omega | (simp; omega)) ?_ | refine w_storeH M _ _ _ _ rfl (by first | exact at0 | exact at1) hx rfl hy (by first | assumption | exact shaL_len _ | exact macL_len _ _ | exact words_len _ | exact List.length_replicate | (rw [List.length_set]; first | assumption | exact List.length_replicate) | rfl) (by decide +kernel) (by first | assumption | exact shaL_len _ | exact macL_len _ _ | exact words_len _ | exact List.length_replicate | (rw [List.length_set]; first | assumption | exact List.length_replicate) | rfl) ?_ | refine w_store M _ _ _ _ rfl (by first | exact at0 | exact at1) hx rfl hy rfl rfl (by decide +kernel) (by first | decide | simp | (simp; omega)) ?_ | refine w_storeR M _ _ _ _ rfl (by first | exact at0 | exact at1) hx rfl _ hy rfl (by kernel_rfl) (by simp [Value.oneCell']) (by first | rfl | assumption) ?_); clear hx hy M; intro w1 M; (try simp only [setC] at M); (try conv => arg 5; simp only [Act.put, List.setIfInBounds_toArray, setC]))) | ((with_reducible refine tBox _ ?_); (refine w_box M _ _ rfl rfl _ rfl _ rfl ?_; clear M; intro g w1 M; (try conv => arg 5; simp only [Act.put, List.setIfInBounds_toArray, setC]))))
  go_loopw [20] (fun kv wr => ∃ j : Nat, j ≤ 32 ∧ kv = .int .i64 j ∧ Mem [] w wr [.row gx (envC a bb nn d (tagS x4 j).2), .row gi (inV (tagS x4 j).1), .row gr (envC 0 0 0 [] zeroT)]) (fun kv _ => 32 - (intOf kv).toNat)
  case atStart => exact ⟨0, by omega, rfl, M⟩
  case round =>
    clear M
    obtain ⟨j, hj, rfl, M⟩ := hrel
    have fy := TF.out j
    have tl := tagS_len x4 j
    have TS := tagS_succ x4 j
    have ER := er.out (tagS x4 j).1 (tagS x4 j).2
    obtain ⟨⟨y, t⟩, ey⟩ : ∃ R, R = tagS x4 j := ⟨_, rfl⟩
    rw [← ey] at M fy tl TS ER
    simp only at M fy tl TS ER
    have EY := Lib.hid fun _ : Unit => ey
    clear ey
    by_cases hlt : j < 32
    · obtain ⟨q, hq⟩ := byte_has y
      have BC := fun (w : World) h => In_Byte_c gi y w h fy
      rw [hq, UInt8.ofNat_toNat] at TS
      rw [hq, show ((q.toNat : Nat) : Int) = I8 q from rfl] at BC
      obtain ⟨z, ez⟩ : ∃ z, z = y.byte.2 := ⟨_, rfl⟩
      rw [← ez] at TS BC
      replace BC := Lib.hid BC
      replace TS := Lib.hid fun _ : Unit => TS
      clear ez hq ER
      go_wp2_with (first | (go_at_call 54; go_must (refine (BC.out _ (M.ok 1 _ rfl)).mono ?_; rintro e w1 ⟨rfl, U⟩; replace M := M.upd 1 rfl U; clear U; simp only [List.set_cons_succ, List.set_cons_zero] at M)) | ((with_reducible show wpList _ _ _ (Oper.mk _ (Op.store _ _ _) _ _ _ _ :: _) _ _); refine w_at2 _ _ _ rfl (by first | exact ev_tmp rfl | exact ev_const) (by first | exact ev_tmp rfl | exact ev_const) ?_; intro hx hy; refine w_storeTagB M 0 _ _ _ rfl rfl hx rfl hy (by decide +kernel) j (by first | rfl | omega) (by omega) ?_; clear hx hy M; intro w1 M; simp only [List.set_cons_zero] at M) | ((with_reducible refine tGuard ?_); first | refine w_strip rfl (by with_reducible rfl) ?_ | ((fail_if_success (refine w_lit false rfl (by with_reducible rfl) ?_)); (fail_if_success (refine w_lit true rfl (by with_reducible rfl) ?_)); refine w_case rfl ?_ ?_ <;> (intro hgd; rw [hgd]; try (exfalso; simp at hgd; omega)))) | ((with_reducible refine tConv _ 45 9 ?_); go_must (first | refine w_stringW M _ _ _ _ _ rfl rfl (by first | exact at0) rfl (by first | assumption | exact shaL_len _ | exact macL_len _ _ | exact words_len _ | exact List.length_replicate | (rw [List.length_set]; first | assumption | exact List.length_replicate) | rfl) (by decide) Try.underlying45 Try.underlying5 Try.underlying9 ?_ | refine w_string M _ _ _ _ _ rfl rfl (by first | exact at0) (by first | rfl | (simp; done) | assumption) rfl Try.underlying45 Try.underlying5 Try.underlying9 ?_); (try conv => arg 5; simp only [Act.put, List.setIfInBounds_toArray, setC])) | ((with_reducible refine tLoad ?_); go_must (refine w_at _ _ rfl (by exact ev_tmp rfl) ?_; intro hx; (first | refine w_load M _ _ _ rfl (by first | exact at0) hx rfl (by decide +kernel) (by exact rfl) ?_ | refine w_loadB M _ _ _ rfl (by first | exact at0) hx rfl (by decide +kernel) (by first | assumption | omega | (simp; omega)) ?_ | refine w_loadH M _ _ _ rfl (by first | exact at0) hx rfl (by decide +kernel) (by first | assumption | exact shaL_len _ | exact macL_len _ _ | exact words_len _ | exact List.length_replicate | (rw [List.length_set]; first | assumption | exact List.length_replicate) | rfl) (by decide +kernel) ?_ | refine w_loadR M _ _ _ rfl (by first | exact at0) hx rfl (by decide +kernel) (by kernel_rfl) ?_); clear hx; (try conv => arg 5; simp only [Act.put, List.setIfInBounds_toArray, setC]))) | ((with_reducible refine tStore ?_); go_must (refine w_at2 _ _ _ rfl (by exact ev_tmp rfl) (by first | exact ev_tmp rfl | exact ev_const) ?_; intro hx hy; (first | refine w_storeB M _ _ _ _ rfl (by first | exact at0) hx rfl hy (by decide +kernel) (by first | assumption | omega | (simp; omega)) ?_ | refine w_storeH M _ _ _ _ rfl (by first | exact at0) hx rfl hy (by first | assumption | exact shaL_len _ | exact macL_len _ _ | exact words_len _ | exact List.length_replicate | (rw [List.length_set]; first | assumption | exact List.length_replicate) | rfl) (by decide +kernel) (by first | assumption | exact shaL_len _ | exact macL_len _ _ | exact words_len _ | exact List.length_replicate | (rw [List.length_set]; first | assumption | exact List.length_replicate) | rfl) ?_ | refine w_store M _ _ _ _ rfl (by first | exact at0) hx rfl hy rfl rfl (by decide +kernel) (by first | decide | simp | (simp; omega)) ?_ | refine w_storeR M _ _ _ _ rfl (by first | exact at0) hx rfl _ hy rfl (by kernel_rfl) (by simp [Value.oneCell']) (by first | rfl | assumption) ?_); clear hx hy M; intro w1 M; (try simp only [setC] at M); (try conv => arg 5; simp only [Act.put, List.setIfInBounds_toArray, setC]))) | ((with_reducible refine tBox _ ?_); (refine w_box M _ _ rfl rfl _ rfl _ rfl ?_; clear M; intro g w1 M; (try conv => arg 5; simp only [Act.put, List.setIfInBounds_toArray, setC]))))
      go_roundw
      case rel => exact ⟨j + 1, by omega, by go_num, by rw [TS.out ()]; exact M⟩
      case measure => simp [intOf]; omega
    · obtain rfl : j = 32 := by omega
      replace ER := ER (EY.out ())
      have EC := fun (w : World) h => End_c gi y w h fy
      by_cases hf : y.fin = 0
      · rw [if_pos hf] at ER
        rw [hf] at EC
        replace EC := Lib.hid EC
        replace ER := Lib.hid fun _ : Unit => ER
        clear hf
        go_wp2_with (first | (go_at_call 55; go_must (refine (EC.out _ (M.ok 1 _ rfl)).mono ?_; rintro e w1 ⟨rfl, hb⟩; replace M := M.call hb; clear hb)) | ((with_reducible refine tLoad ?_); refine w_at _ _ rfl (by exact ev_tmp rfl) ?_; intro hx; (first | refine w_loadE M _ _ _ rfl (by first | exact at0 | exact at2) hx rfl (by decide +kernel) (by decide +kernel) (by first | assumption | exact zeroT_len | exact macL_len _ _) ?_ | refine w_loadTag M _ _ _ rfl (by first | exact at0 | exact at2) hx rfl (by decide +kernel) (by decide +kernel) (by first | assumption | exact zeroT_len | exact macL_len _ _) ?_); clear hx; (try conv => arg 5; simp only [Act.put, List.setIfInBounds_toArray, setC])) | ((with_reducible refine tStore ?_); refine w_at2 _ _ _ rfl (by first | exact ev_tmp rfl | exact ev_const) (by first | exact ev_tmp rfl | exact ev_const) ?_; intro hx hy; (first | refine w_storeE M _ _ _ _ rfl (by first | exact at0 | exact at2) hx rfl hy rfl (by decide +kernel) (by first | assumption | exact zeroT_len | exact macL_len _ _) (by first | assumption | exact zeroT_len | exact macL_len _ _) ?_ | refine w_storeE (k := 0) (b := 0) (n := 0) (d := []) (tg := zeroT) M _ _ _ _ rfl (by first | exact at0 | exact at2) hx rfl hy rfl (by decide +kernel) zeroT_len (by first | assumption | exact zeroT_len | exact macL_len _ _) ?_ | refine w_storeE (tg := zeroT) M _ _ _ _ rfl (by first | exact at0 | exact at2) hx rfl hy rfl (by decide +kernel) zeroT_len (by first | assumption | exact zeroT_len | exact macL_len _ _) ?_ | refine w_storeTag M _ _ _ _ rfl (by first | exact at0 | exact at2) hx rfl hy (by decide +kernel) (by first | assumption | exact zeroT_len | exact macL_len _ _) (by first | assumption | exact zeroT_len | exact macL_len _ _) ?_ | refine w_storeData M _ _ _ _ rfl (by first | exact at0 | exact at2) hx rfl hy (by decide +kernel) ?_ | refine w_storeNum M _ _ _ _ rfl (by first | exact at0 | exact at2) hx rfl hy (by decide +kernel) ?_); clear hx hy M; intro w1 M; (try simp only [setC] at M); (try conv => arg 5; simp only [Act.put, List.setIfInBounds_toArray, setC])) | ((with_reducible refine tConv _ 45 9 ?_); (first | refine w_stringTag M _ _ _ _ _ rfl rfl (by first | exact at0 | exact at2) rfl (by first | assumption | exact zeroT_len | exact macL_len _ _) Try.underlying45 Try.underlying5 Try.underlying9 ?_); (try conv => arg 5; simp only [Act.put, List.setIfInBounds_toArray, setC])) | ((with_reducible refine tGuard ?_); first | refine w_strip rfl (by with_reducible rfl) ?_ | ((fail_if_success (refine w_lit false rfl (by with_reducible rfl) ?_)); (fail_if_success (refine w_lit true rfl (by with_reducible rfl) ?_)); refine w_case rfl ?_ ?_ <;> (intro hgd; rw [hgd]; try (exfalso; simp at hgd; omega)))) | ((with_reducible refine tConv _ 45 9 ?_); go_must (first | refine w_stringW M _ _ _ _ _ rfl rfl (by first | exact at0) rfl (by first | assumption | exact shaL_len _ | exact macL_len _ _ | exact words_len _ | exact List.length_replicate | (rw [List.length_set]; first | assumption | exact List.length_replicate) | rfl) (by decide) Try.underlying45 Try.underlying5 Try.underlying9 ?_ | refine w_string M _ _ _ _ _ rfl rfl (by first | exact at0) (by first | rfl | (simp; done) | assumption) rfl Try.underlying45 Try.underlying5 Try.underlying9 ?_); (try conv => arg 5; simp only [Act.put, List.setIfInBounds_toArray, setC])) | ((with_reducible refine tLoad ?_); go_must (refine w_at _ _ rfl (by exact ev_tmp rfl) ?_; intro hx; (first | refine w_load M _ _ _ rfl (by first | exact at0) hx rfl (by decide +kernel) (by exact rfl) ?_ | refine w_loadB M _ _ _ rfl (by first | exact at0) hx rfl (by decide +kernel) (by first | assumption | omega | (simp; omega)) ?_ | refine w_loadH M _ _ _ rfl (by first | exact at0) hx rfl (by decide +kernel) (by first | assumption | exact shaL_len _ | exact macL_len _ _ | exact words_len _ | exact List.length_replicate | (rw [List.length_set]; first | assumption | exact List.length_replicate) | rfl) (by decide +kernel) ?_ | refine w_loadR M _ _ _ rfl (by first | exact at0) hx rfl (by decide +kernel) (by kernel_rfl) ?_); clear hx; (try conv => arg 5; simp only [Act.put, List.setIfInBounds_toArray, setC]))) | ((with_reducible refine tStore ?_); go_must (refine w_at2 _ _ _ rfl (by exact ev_tmp rfl) (by first | exact ev_tmp rfl | exact ev_const) ?_; intro hx hy; (first | refine w_storeB M _ _ _ _ rfl (by first | exact at0) hx rfl hy (by decide +kernel) (by first | assumption | omega | (simp; omega)) ?_ | refine w_storeH M _ _ _ _ rfl (by first | exact at0) hx rfl hy (by first | assumption | exact shaL_len _ | exact macL_len _ _ | exact words_len _ | exact List.length_replicate | (rw [List.length_set]; first | assumption | exact List.length_replicate) | rfl) (by decide +kernel) (by first | assumption | exact shaL_len _ | exact macL_len _ _ | exact words_len _ | exact List.length_replicate | (rw [List.length_set]; first | assumption | exact List.length_replicate) | rfl) ?_ | refine w_store M _ _ _ _ rfl (by first | exact at0) hx rfl hy rfl rfl (by decide +kernel) (by first | decide | simp | (simp; omega)) ?_ | refine w_storeR M _ _ _ _ rfl (by first | exact at0) hx rfl _ hy rfl (by kernel_rfl) (by simp [Value.oneCell']) (by first | rfl | assumption) ?_); clear hx hy M; intro w1 M; (try simp only [setC] at M); (try conv => arg 5; simp only [Act.put, List.setIfInBounds_toArray, setC]))) | ((with_reducible refine tBox _ ?_); (refine w_box M _ _ rfl rfl _ rfl _ rfl ?_; clear M; intro g w1 M; (try conv => arg 5; simp only [Act.put, List.setIfInBounds_toArray, setC]))))
        exact bodyPost_ret (results_two rfl _ _ gr 0 (envC a bb nn d t) _ (.int .i64 0) rfl rfl (M.ok 2 _ rfl).2.1 Try.underlying29 rfl (by rw [envC_len, tl]; kernel_rfl)) rfl ⟨by rw [ER.out ()]; rfl, M.below⟩
      · rw [if_neg hf] at ER
        obtain ⟨m, em⟩ : ∃ m, m = y.fin := ⟨_, rfl⟩
        rw [← em] at EC hf ER
        replace ER := Lib.hid fun _ : Unit => ER
        have hz : ((m : Int) == 0) = false := by simp; exact hf
        have hz' : ((m : Int) != 0) = true := by simp; exact hf
        replace EC := Lib.hid EC
        clear hf em
        go_wp2_with (first | (go_at_call 55; go_must (refine (EC.out _ (M.ok 1 _ rfl)).mono ?_; rintro e w1 ⟨rfl, hb⟩; replace M := M.call hb; clear hb)) | ((with_reducible refine tLoad ?_); refine w_at _ _ rfl (by exact ev_tmp rfl) ?_; intro hx; (first | refine w_loadE M _ _ _ rfl (by first | exact at0 | exact at2) hx rfl (by decide +kernel) (by decide +kernel) (by first | assumption | exact zeroT_len | exact macL_len _ _) ?_ | refine w_loadTag M _ _ _ rfl (by first | exact at0 | exact at2) hx rfl (by decide +kernel) (by decide +kernel) (by first | assumption | exact zeroT_len | exact macL_len _ _) ?_); clear hx; (try conv => arg 5; simp only [Act.put, List.setIfInBounds_toArray, setC])) | ((with_reducible refine tStore ?_); refine w_at2 _ _ _ rfl (by first | exact ev_tmp rfl | exact ev_const) (by first | exact ev_tmp rfl | exact ev_const) ?_; intro hx hy; (first | refine w_storeE M _ _ _ _ rfl (by first | exact at0 | exact at2) hx rfl hy rfl (by decide +kernel) (by first | assumption | exact zeroT_len | exact macL_len _ _) (by first | assumption | exact zeroT_len | exact macL_len _ _) ?_ | refine w_storeE (k := 0) (b := 0) (n := 0) (d := []) (tg := zeroT) M _ _ _ _ rfl (by first | exact at0 | exact at2) hx rfl hy rfl (by decide +kernel) zeroT_len (by first | assumption | exact zeroT_len | exact macL_len _ _) ?_ | refine w_storeE (tg := zeroT) M _ _ _ _ rfl (by first | exact at0 | exact at2) hx rfl hy rfl (by decide +kernel) zeroT_len (by first | assumption | exact zeroT_len | exact macL_len _ _) ?_ | refine w_storeTag M _ _ _ _ rfl (by first | exact at0 | exact at2) hx rfl hy (by decide +kernel) (by first | assumption | exact zeroT_len | exact macL_len _ _) (by first | assumption | exact zeroT_len | exact macL_len _ _) ?_ | refine w_storeData M _ _ _ _ rfl (by first | exact at0 | exact at2) hx rfl hy (by decide +kernel) ?_ | refine w_storeNum M _ _ _ _ rfl (by first | exact at0 | exact at2) hx rfl hy (by decide +kernel) ?_); clear hx hy M; intro w1 M; (try simp only [setC] at M); (try conv => arg 5; simp only [Act.put, List.setIfInBounds_toArray, setC])) | ((with_reducible refine tConv _ 45 9 ?_); (first | refine w_stringTag M _ _ _ _ _ rfl rfl (by first | exact at0 | exact at2) rfl (by first | assumption | exact zeroT_len | exact macL_len _ _) Try.underlying45 Try.underlying5 Try.underlying9 ?_); (try conv => arg 5; simp only [Act.put, List.setIfInBounds_toArray, setC])) | ((with_reducible refine tGuard ?_); first | refine w_strip rfl (by with_reducible rfl) ?_ | ((fail_if_success (refine w_lit false rfl (by with_reducible rfl) ?_)); (fail_if_success (refine w_lit true rfl (by with_reducible rfl) ?_)); refine w_case rfl ?_ ?_ <;> (intro hgd; rw [hgd]; try (exfalso; simp at hgd; omega)))) | ((with_reducible refine tConv _ 45 9 ?_); go_must (first | refine w_stringW M _ _ _ _ _ rfl rfl (by first | exact at0) rfl (by first | assumption | exact shaL_len _ | exact macL_len _ _ | exact words_len _ | exact List.length_replicate | (rw [List.length_set]; first | assumption | exact List.length_replicate) | rfl) (by decide) Try.underlying45 Try.underlying5 Try.underlying9 ?_ | refine w_string M _ _ _ _ _ rfl rfl (by first | exact at0) (by first | rfl | (simp; done) | assumption) rfl Try.underlying45 Try.underlying5 Try.underlying9 ?_); (try conv => arg 5; simp only [Act.put, List.setIfInBounds_toArray, setC])) | ((with_reducible refine tLoad ?_); go_must (refine w_at _ _ rfl (by exact ev_tmp rfl) ?_; intro hx; (first | refine w_load M _ _ _ rfl (by first | exact at0) hx rfl (by decide +kernel) (by exact rfl) ?_ | refine w_loadB M _ _ _ rfl (by first | exact at0) hx rfl (by decide +kernel) (by first | assumption | omega | (simp; omega)) ?_ | refine w_loadH M _ _ _ rfl (by first | exact at0) hx rfl (by decide +kernel) (by first | assumption | exact shaL_len _ | exact macL_len _ _ | exact words_len _ | exact List.length_replicate | (rw [List.length_set]; first | assumption | exact List.length_replicate) | rfl) (by decide +kernel) ?_ | refine w_loadR M _ _ _ rfl (by first | exact at0) hx rfl (by decide +kernel) (by kernel_rfl) ?_); clear hx; (try conv => arg 5; simp only [Act.put, List.setIfInBounds_toArray, setC]))) | ((with_reducible refine tStore ?_); go_must (refine w_at2 _ _ _ rfl (by exact ev_tmp rfl) (by first | exact ev_tmp rfl | exact ev_const) ?_; intro hx hy; (first | refine w_storeB M _ _ _ _ rfl (by first | exact at0) hx rfl hy (by decide +kernel) (by first | assumption | omega | (simp; omega)) ?_ | refine w_storeH M _ _ _ _ rfl (by first | exact at0) hx rfl hy (by first | assumption | exact shaL_len _ | exact macL_len _ _ | exact words_len _ | exact List.length_replicate | (rw [List.length_set]; first | assumption | exact List.length_replicate) | rfl) (by decide +kernel) (by first | assumption | exact shaL_len _ | exact macL_len _ _ | exact words_len _ | exact List.length_replicate | (rw [List.length_set]; first | assumption | exact List.length_replicate) | rfl) ?_ | refine w_store M _ _ _ _ rfl (by first | exact at0) hx rfl hy rfl rfl (by decide +kernel) (by first | decide | simp | (simp; omega)) ?_ | refine w_storeR M _ _ _ _ rfl (by first | exact at0) hx rfl _ hy rfl (by kernel_rfl) (by simp [Value.oneCell']) (by first | rfl | assumption) ?_); clear hx hy M; intro w1 M; (try simp only [setC] at M); (try conv => arg 5; simp only [Act.put, List.setIfInBounds_toArray, setC]))) | ((with_reducible refine tBox _ ?_); (refine w_box M _ _ rfl rfl _ rfl _ rfl ?_; clear M; intro g w1 M; (try conv => arg 5; simp only [Act.put, List.setIfInBounds_toArray, setC]))))
        exact bodyPost_ret (results_two rfl _ _ gr 0 (envC 0 0 0 [] zeroT) _ (.int .i64 (m : Int)) rfl rfl (M.ok 2 _ rfl).2.1 Try.underlying29 rfl (by rw [envC_len, zeroT_len]; kernel_rfl)) rfl ⟨by rw [ER.out ()]; rfl, M.below⟩
end Go.Proofs.Ytjlkiopncclomaa

/- Plain: an envelope's bytes and bounds. No conditions but those each lemma names. -/
namespace Go
namespace TL
theorem envB_head (k : Nat) (b : UInt32) (n : UInt64) (d t : List UInt8) : headL k b n ++ (textL d ++ t) = envB ⟨k, b, n, d, t⟩ := by unfold headL envB; simp only [List.append_assoc]
theorem envB_len {x : Env} (h : rightEnv x) : (envB x).length ≤ 1000000 := by
  obtain ⟨h1, h2, h3⟩ := h
  have hb := x.b.toNat_lt
  have hn := x.n.toNat_lt
  have k1 := numL_length_le x.k (by omega)
  have k2 := numL_length_le x.b.toNat (by omega)
  have k3 := numL_length_le x.n.toNat (by omega)
  have k4 := numL_length_le x.d.length (by omega)
  unfold envB textL; simp only [List.length_append]; omega
theorem rightE_of {k : Nat} {d : List UInt8} (h1 : k ≤ 1048576) (h2 : d.length ≤ 8192) : rightE (k : Int) d = true := by unfold rightE; simp; omega
theorem rightE_no {k : Int} {d : List UInt8} (h : rightE k d = false) : k < 0 ∨ (0 ≤ k ∧ 1048576 < k) ∨ ((0 ≤ k ∧ k ≤ 1048576) ∧ 8192 < (d.length : Int)) := by
  unfold rightE at h
  by_cases h1 : 0 ≤ k
  · by_cases h2 : k ≤ 1048576
    · by_cases h3 : (d.length : Int) ≤ 8192
      · rw [decide_eq_true h1, decide_eq_true h2, decide_eq_true h3] at h; cases h
      · exact .inr (.inr ⟨⟨h1, h2⟩, by omega⟩)
    · exact .inr (.inl ⟨h1, by omega⟩)
  · exact .inl (by omega)
end TL
end Go

/- Plain laws of layer 11 (path): a path's mount and key. No program in this text. No conditions but those each lemma names. -/
namespace Go
namespace TL
def goodN (b : UInt8) : Bool := decide (97 ≤ b.toNat ∧ b.toNat ≤ 122)
def goodK (b : UInt8) : Bool := decide (b.toNat ≠ 0 ∧ b.toNat ≠ 47)
/-- Is it a mount's name? -/
def namedL (s : List UInt8) : Bool := decide (1 ≤ s.length ∧ s.length ≤ 8) && s.all goodN
/-- Is it a key? -/
def pkeyL (s : List UInt8) : Bool := decide (1 ≤ s.length ∧ s.length ≤ 24) && s.all goodK
/-- Where the first / is; the length, if there is none. -/
def slash : List UInt8 → Nat
  | [] => 0
  | b :: l => if b.toNat = 47 then 0 else slash l + 1
/-- A path's mount and key. -/
def cutL (p : List UInt8) : List UInt8 × List UInt8 × Bool :=
  if slash p < p.length ∧ namedL (p.take (slash p)) = true ∧ pkeyL (p.drop (slash p + 1)) = true then (p.take (slash p), p.drop (slash p + 1), true) else ([], [], false)
/-- A text, cut at the first /. -/
def scutL (p : List UInt8) : List UInt8 × List UInt8 × Bool := if slash p < p.length then (p.take (slash p), p.drop (slash p + 1), true) else (p, [], false)
theorem scut_yes {p : List UInt8} (h : slash p < p.length) : scutL p = (p.take (slash p), p.drop (slash p + 1), true) := if_pos h
theorem scut_no {p : List UInt8} (h : ¬ slash p < p.length) : scutL p = (p, [], false) := if_neg h
theorem all_bad {f : UInt8 → Bool} {s : List UInt8} {k : Nat} (h : k < s.length) (hb : f (s.getD k 0) = false) : s.all f = false := by
  rw [List.all_eq_false]
  refine ⟨s[k], List.getElem_mem _, ?_⟩
  rw [List.getD_eq_getElem?_getD, List.getElem?_eq_getElem h] at hb
  simpa using hb
theorem all_good {f : UInt8 → Bool} {s : List UInt8} (h : ∀ k, k < s.length → f (s.getD k 0) = true) : s.all f = true := by
  rw [List.all_eq_true]
  intro x hx
  obtain ⟨k, hk, rfl⟩ := List.mem_iff_getElem.1 hx
  have := h k hk
  rwa [List.getD_eq_getElem?_getD, List.getElem?_eq_getElem hk] at this
theorem named_bad {s : List UInt8} {k : Nat} (h : k < s.length) (hb : goodN (s.getD k 0) = false) : namedL s = false := by unfold namedL; rw [all_bad h hb, Bool.and_false]
theorem named_good {s : List UInt8} (h : ∀ k, k < s.length → goodN (s.getD k 0) = true) : namedL s = decide (1 ≤ s.length ∧ s.length ≤ 8) := by unfold namedL; rw [all_good h, Bool.and_true]
theorem named_len {s : List UInt8} (h : ¬ (1 ≤ s.length ∧ s.length ≤ 8)) : namedL s = false := by unfold namedL; rw [decide_eq_false h, Bool.false_and]
theorem pkey_bad {s : List UInt8} {k : Nat} (h : k < s.length) (hb : goodK (s.getD k 0) = false) : pkeyL s = false := by unfold pkeyL; rw [all_bad h hb, Bool.and_false]
theorem pkey_good {s : List UInt8} (h : ∀ k, k < s.length → goodK (s.getD k 0) = true) : pkeyL s = decide (1 ≤ s.length ∧ s.length ≤ 24) := by unfold pkeyL; rw [all_good h, Bool.and_true]
theorem pkey_len {s : List UInt8} (h : ¬ (1 ≤ s.length ∧ s.length ≤ 24)) : pkeyL s = false := by unfold pkeyL; rw [decide_eq_false h, Bool.false_and]
theorem slash_le : ∀ p, slash p ≤ p.length
  | [] => Nat.le_refl _
  | b :: l => by rw [slash]; split <;> have := slash_le l <;> simp <;> omega
theorem slash_before : ∀ (p : List UInt8) (k : Nat), k < slash p → (p.getD k 0).toNat ≠ 47
  | [], k, h => by simp [slash] at h
  | b :: l, k, h => by
    by_cases hb : b.toNat = 47
    · rw [slash, if_pos hb] at h; omega
    · rw [slash, if_neg hb] at h
      cases k with
      | zero => simpa using hb
      | succ k => simpa using slash_before l k (by omega)
theorem slash_at : ∀ (p : List UInt8), slash p < p.length → (p.getD (slash p) 0).toNat = 47
  | [], h => by simp at h
  | b :: l, h => by
    by_cases hb : b.toNat = 47
    · rw [slash, if_pos hb]; simpa using hb
    · rw [slash, if_neg hb] at h ⊢
      simpa using slash_at l (by simpa using h)
theorem indexByte_slash : ∀ p : List UInt8, Lib.indexByte p 47 = if slash p < p.length then (slash p : Int) else -1
  | [] => rfl
  | b :: l => by
    have ih := indexByte_slash l
    by_cases hb : b.toNat = 47
    · have e : b = 47 := UInt8.toNat_inj.1 hb
      subst e
      rw [Lib.indexByte, slash, if_pos hb]; simp
    · have e : (b == 47) = false := by
        rw [beq_eq_false_iff_ne]; rintro rfl; exact hb rfl
      rw [Lib.indexByte, slash, if_neg hb, e, ih]
      by_cases h : slash l < l.length
      · have h2 : slash l + 1 < (b :: l).length := by simpa using h
        rw [if_pos h, if_pos h2]
        have : (((slash l : Nat) : Int) == -1) = false := by simp
        rw [this]; simp
      · have h2 : ¬ slash l + 1 < (b :: l).length := by simpa using h
        rw [if_neg h, if_neg h2]; simp
theorem indexByte_neg {l : List UInt8} {c : UInt8} : Lib.indexByte l c < 0 ↔ ∀ b ∈ l, b ≠ c := by
  have hge := Lib.indexByte_ge l c
  constructor
  · intro h b hb e
    subst e
    obtain ⟨k, hk, e⟩ := List.mem_iff_getElem.1 hb
    exact Lib.indexByte_none (by omega : Lib.indexByte l b = -1) k (by rw [List.getElem?_eq_getElem hk, e])
  · intro h
    by_cases h0 : Lib.indexByte l c < 0
    · exact h0
    · obtain ⟨o, ho⟩ := Int.eq_ofNat_of_zero_le (by omega : 0 ≤ Lib.indexByte l c)
      have := (Lib.indexByte_some ho).1
      exact absurd rfl (h c (List.mem_of_getElem? this))
theorem pkey_index (s : List UInt8) (h : 1 ≤ s.length ∧ s.length ≤ 24) : pkeyL s = (decide (Lib.indexByte s 0 < 0) && decide (Lib.indexByte s 47 < 0)) := by
  unfold pkeyL
  rw [decide_eq_true h, Bool.true_and, Bool.eq_iff_iff]
  simp only [Bool.and_eq_true, decide_eq_true_eq, indexByte_neg, List.all_eq_true, goodK]
  constructor
  · intro h2
    refine ⟨fun b hb e => (h2 b hb).1 (by rw [e]; rfl), fun b hb e => (h2 b hb).2 (by rw [e]; rfl)⟩
  · rintro ⟨h2, h3⟩ b hb
    exact ⟨fun e => h2 b hb (UInt8.toNat_inj.1 e), fun e => h3 b hb (UInt8.toNat_inj.1 e)⟩
/-- What was cut is the path, and short. -/
theorem cut_ok {p m k : List UInt8} (h : cutL p = (m, k, true)) : p = m ++ 47 :: k ∧ namedL m = true ∧ pkeyL k = true ∧ m.length ≤ 8 ∧ k.length ≤ 24 ∧ 1 ≤ m.length ∧ 1 ≤ k.length := by
  unfold cutL at h
  split at h
  · rename_i h1
    obtain ⟨h1, h2, h3⟩ := h1
    simp only [Prod.mk.injEq, and_true] at h
    obtain ⟨rfl, rfl⟩ := h
    have hs := slash_at p h1
    have e47 : p[slash p] = 47 := by
      apply UInt8.toNat_inj.1
      rw [List.getD_eq_getElem?_getD, List.getElem?_eq_getElem h1] at hs
      exact hs
    refine ⟨?_, h2, h3, ?_⟩
    · rw [← e47, ← List.drop_eq_getElem_cons h1, List.take_append_drop]
    · unfold namedL at h2; unfold pkeyL at h3
      simp only [Bool.and_eq_true, decide_eq_true_eq] at h2 h3
      omega
  · simp at h
theorem cut_err {p : List UInt8} (h : (cutL p).2.2 = false) : cutL p = ([], [], false) := by
  unfold cutL at h ⊢
  split
  · rename_i h1; rw [if_pos h1] at h; cases h
  · rfl
end TL
end Go

/- Slices of structs, as the walk reads them, by elements. No conditions but those each law names. -/
namespace Go
namespace TL
open Go.RowKit
theorem flat_len {α : Type} {f : α → List Value} {size : Nat} (hf : ∀ x, (f x).length = size) (l : List α) : (l.flatMap f).length = l.length * size := by
  induction l with
  | nil => simp
  | cons a l ih => simp only [List.flatMap_cons, List.length_append, ih, hf, List.length_cons, Nat.succ_mul]; omega
theorem flat_get {α : Type} {f : α → List Value} {size : Nat} (hf : ∀ x, (f x).length = size) : ∀ (l : List α) (k : Nat) (x : α), l[k]? = some x → ∀ j, j < size → (l.flatMap f)[k * size + j]? = (f x)[j]?
  | [], k, x, h, _, _ => by simp at h
  | a :: l, 0, x, h, j, hj => by
    simp only [List.getElem?_cons_zero, Option.some.injEq] at h; subst h
    rw [List.flatMap_cons, Nat.zero_mul, Nat.zero_add, List.getElem?_append_left (by rw [hf]; exact hj)]
  | a :: l, k + 1, x, h, j, hj => by
    rw [List.flatMap_cons, List.getElem?_append_right (by rw [hf, Nat.succ_mul]; omega), hf, Nat.succ_mul, show k * size + size + j - size = k * size + j by omega]
    exact flat_get hf l k x (by simpa using h) j hj
/-- A slice's elements, seen: each is a row of 'size' cells. -/
structure SeesL {α : Type} (w : World) (size : Nat) (f : α → List Value) (v : Value) (l : List α) : Prop where
  sees : Sees w size v l.length (l.flatMap f)
  size : ∀ x, (f x).length = size
section
variable {α : Type} {P : Program} {ops : Array Oper} {rest : List Oper} {o : Oper} {a : Act} {w w0 : World} {Q : Exit → Act → World → Prop} {L : List Chunk} {size : Nat} {f : α → List Value} {v : Value} {l : List α}
theorem SeesL.form (S : SeesL w size f v l) : ∃ p cap, v = .slice p l.length cap ∧ l.length ≤ cap := S.sees.form
theorem SeesL.addr {p : Option Addr} {n cap : Nat} (S : SeesL w size f (.slice p n cap) l) (h : 0 < l.length) : ∃ g so, p = some ⟨g, so, none⟩ := by
  rcases S.sees.2 with ⟨_, h0⟩ | ⟨g, so, c, hv, _⟩
  · omega
  · injection hv with h1 h2 h3; exact ⟨g, so, h1⟩
theorem SeesL.cell {g so n cap : Nat} (S : SeesL w size f (.slice (some ⟨g, so, none⟩) n cap) l) {k : Nat} {x : α} (hk : l[k]? = some x) {j : Nat} {val : Value} (hv : (f x)[j]? = some val) : w.cell? ⟨g, so + (k * size + j), none⟩ = some val := by
  have hj : j < size := by rw [← S.size x]; exact (List.getElem?_eq_some_iff.1 hv).1
  rcases S.sees.2 with ⟨h0, _⟩ | ⟨g', o', c, hv', _, _, _, hr⟩
  · cases h0
  · injection hv' with h1 _ _; injection h1 with h1; injection h1 with h1 h2; subst h1; subst h2
    exact hr _ _ ((flat_get S.size l k x hk j hj).trans hv)
theorem SeesL.kept {G : List Nat} {w' : World} (S : SeesL w size f v l) (h : Kept G w w') (hG : ∀ k, v.ownBlock = some k → k ∉ G) : SeesL w' size f v l := by
  refine ⟨⟨S.sees.1, S.sees.2.imp id ?_⟩, S.size⟩
  rintro ⟨g, so, cap, rfl, hlt, hn, hc, hr⟩
  exact ⟨g, so, cap, rfl, Nat.lt_of_lt_of_le hlt h.size, hn, hc, rangeAt_of_block hr (h.block g hlt (hG g rfl))⟩
theorem SeesL.below {w' : World} (S : SeesL w size f v l) (h : Below w.heap.size w w') : SeesL w' size f v l := S.kept (Kept.of_below h []) (by simp)
theorem SeesL.now (M : Mem [] w0 w L) (S : SeesL w0 size f v l) : SeesL w size f v l := S.kept M.kept (by simp)
theorem seesL_nil (size : Nat) (f : α → List Value) (hf : ∀ x, (f x).length = size) (w : World) : SeesL w size f (.slice none 0 0) [] := ⟨Sees_nil _ _, hf⟩
/-- A piece of the walk's own, seen. -/
theorem SeesL.own {F : List Nat} (M : Mem F w0 w L) (i : Nat) {n : Nat} (hi : L[i]? = some (.sl size v n (l.flatMap f))) (hn : n = l.length) (hf : ∀ x, (f x).length = size) : SeesL w size f v l := by
  subst hn; exact ⟨Own.sees (M.ok i _ hi), hf⟩
/-- A field of an element. -/
theorem w_see (M : Mem [] w0 w L) {g so n cap : Nat} (S : SeesL w0 size f (.slice (some ⟨g, so, none⟩) n cap) l) {k : Nat} {x : α} (hk : l[k]? = some x) (t : TypeId) (op : Operand) (ho : o.op = .load t op) {off : Nat} (hx : a.eval op = .pointer (some ⟨g, off, none⟩)) (hw : Region.wanted o (yielded ops a.tmps) = true)
    (ht : scalarT P t = true) (j : Nat) (hoff : off = so + (k * size + j)) {val : Value} (hv : (f x)[j]? = some val) (h : wpList P ops Q rest (a.put o.dst val) w) : wpList P ops Q (o :: rest) a w :=
  wpW hw fun _ hK => by
    subst hoff
    unfold Oper.wp execOp
    simp only [ho, hx, Instr.loadAt, Instr.sureAddr, Sem.run_bind, Sem.run_pure, Result.andThen_ok, run_loadVar_scalar ht w g _ val ((S.now M).cell hk hv)]
    exact hK _ _ h
/-- A whole element. -/
theorem w_seeA (M : Mem [] w0 w L) {g so n cap : Nat} (S : SeesL w0 size f (.slice (some ⟨g, so, none⟩) n cap) l) {k : Nat} {x : α} (hk : l[k]? = some x) (t : TypeId) (op : Operand) (ho : o.op = .load t op) {off : Nat} (hx : a.eval op = .pointer (some ⟨g, off, none⟩)) (hw : Region.wanted o (yielded ops a.tmps) = true)
    (ht : rowT P t = true) (hoff : off = so + k * size) (hn : (P.info? t).map (·.size) = some (f x).length) (h : wpList P ops Q rest (a.put o.dst (.agg (f x).toArray)) w) : wpList P ops Q (o :: rest) a w :=
  wpW hw fun _ hK => by
    subst hoff
    unfold rowT at ht
    cases hu : P.underlying t with
    | none => simp [hu] at ht
    | some d =>
      simp only [hu] at ht
      refine wp_load_mid t op ho g _ hx (f x) d ?_ hu ht hn (hK _ _ h)
      intro j val hv
      rw [Nat.add_assoc]
      exact (S.now M).cell hk hv
/-- A field of an element, as a region's load that may come at any time. -/
theorem stab_see (M : Mem [] w0 w L) {is : List Nat} {g so n cap : Nat} (S : SeesL w0 size f (.slice (some ⟨g, so, none⟩) n cap) l) {k : Nat} {x : α} (hk : l[k]? = some x) (j : Nat) {t : TypeId} {op : Operand} (ho : o.op = .load t op) (ht : scalarT P t = true) {val : Value} (hv : (f x)[j]? = some val) :
    Stab P (IxOk M is) o (.pointer (some ⟨g, so + (k * size + j), none⟩)) := by
  unfold Stab; rw [ho]
  refine ⟨val, fun w' hw => ?_⟩
  simp only [Instr.loadAt, Instr.sureAddr, Sem.run_bind, Sem.run_pure, Result.andThen_ok, run_loadVar_scalar ht w' g _ val ((S.kept hw.1 (by simp)).cell hk hv)]
theorem stab_seeA (M : Mem [] w0 w L) {is : List Nat} {g so n cap : Nat} (S : SeesL w0 size f (.slice (some ⟨g, so, none⟩) n cap) l) {k : Nat} {x : α} (hk : l[k]? = some x) {t : TypeId} {op : Operand} (ho : o.op = .load t op) (ht : rowT P t = true) (hn : (P.info? t).map (·.size) = some (f x).length) :
    Stab P (IxOk M is) o (.pointer (some ⟨g, so + k * size, none⟩)) := by
  unfold rowT at ht
  cases hu : P.underlying t with
  | none => simp [hu] at ht
  | some d =>
    simp only [hu] at ht
    refine stab_load ho g _ (f x) d (fun w' hw j val hv => ?_) hu ht hn
    rw [Nat.add_assoc]
    exact (S.kept hw.1 (by simp)).cell hk hv
end
/-- A pair's cells. -/
def prV (x : List UInt8 × List UInt8) : List Value := [.string (mkS x.1), .string (mkS x.2)]
@[go_sem] theorem prV_eq (a b : List UInt8) : prV (a, b) = [.string (mkS a), .string (mkS b)] := rfl
theorem prV_len (x : List UInt8 × List UInt8) : (prV x).length = 2 := rfl
end TL
end Go

/- Plain laws of layer 12 (batch): which operations may be, a batch's bytes, and how they are read. No program in this text. No conditions but those each lemma names. -/
namespace Go
namespace TL
open Go.RowKit
abbrev Opr : Type := UInt8 × List UInt8 × List UInt8
abbrev Mt : Type := List UInt8 × Bool
/-- An operation's cells. -/
def opV (x : Opr) : List Value := [.int .u8 (I8 x.1), .string (mkS x.2.1), .string (mkS x.2.2)]
@[go_sem] theorem opV_eq (a : UInt8) (b c : List UInt8) : opV (a, b, c) = [.int .u8 (I8 a), .string (mkS b), .string (mkS c)] := rfl
theorem opV_len (x : Opr) : (opV x).length = 3 := rfl
/-- A mount's cells. -/
def mtV (x : Mt) : List Value := [.string (mkS x.1), .bool x.2]
@[go_sem] theorem mtV_eq (a : List UInt8) (b : Bool) : mtV (a, b) = [.string (mkS a), .bool b] := rfl
theorem mtV_len (x : Mt) : (mtV x).length = 2 := rfl
/-! ### Great ones -/
def greatM (l : List Mt) : Bool := decide (100 < l.length) || l.any fun x => decide (1000 < x.1.length)
theorem greatM_at {l : List Mt} {k : Nat} {x : Mt} (h : l[k]? = some x) (hb : 1000 < x.1.length) : greatM l = true := by
  unfold greatM
  rw [Bool.or_eq_true]; right
  rw [List.any_eq_true]
  exact ⟨x, List.mem_of_getElem? h, by simpa using hb⟩
theorem greatM_no {l : List Mt} (hl : l.length ≤ 100) (h : ∀ (k : Nat) (x : Mt), l[k]? = some x → ¬ 1000 < x.1.length) : greatM l = false := by
  unfold greatM
  rw [Bool.or_eq_false_iff]
  refine ⟨by simpa using hl, ?_⟩
  rw [List.any_eq_false]
  intro x hx
  obtain ⟨k, hk⟩ := List.getElem?_of_mem hx
  simpa using h k x hk
theorem greatM_small {l : List Mt} (h : greatM l = false) : l.length ≤ 100 ∧ ∀ x ∈ l, x.1.length ≤ 1000 := by
  unfold greatM at h
  rw [Bool.or_eq_false_iff, List.any_eq_false] at h
  refine ⟨by simpa using h.1, fun x hx => ?_⟩
  have := h.2 x hx
  simp at this; omega
def greatO (l : List Opr) : Bool := decide (100 < l.length) || l.any fun x => decide (1000 < x.2.1.length) || decide (1000 < x.2.2.length)
theorem greatO_at {l : List Opr} {k : Nat} {x : Opr} (h : l[k]? = some x) (hb : 1000 < x.2.1.length ∨ 1000 < x.2.2.length) : greatO l = true := by
  unfold greatO
  rw [Bool.or_eq_true]; right
  rw [List.any_eq_true]
  exact ⟨x, List.mem_of_getElem? h, by simpa using hb⟩
theorem greatO_no {l : List Opr} (hl : l.length ≤ 100) (h : ∀ (k : Nat) (x : Opr), l[k]? = some x → ¬ (1000 < x.2.1.length ∨ 1000 < x.2.2.length)) : greatO l = false := by
  unfold greatO
  rw [Bool.or_eq_false_iff]
  refine ⟨by simpa using hl, ?_⟩
  rw [List.any_eq_false]
  intro x hx
  obtain ⟨k, hk⟩ := List.getElem?_of_mem hx
  simpa using h k x hk
theorem greatO_small {l : List Opr} (h : greatO l = false) : l.length ≤ 100 ∧ ∀ x ∈ l, x.2.1.length ≤ 1000 ∧ x.2.2.length ≤ 1000 := by
  unfold greatO at h
  rw [Bool.or_eq_false_iff, List.any_eq_false] at h
  refine ⟨by simpa using h.1, fun x hx => ?_⟩
  have := h.2 x hx
  simp at this; omega
/-! ### Mounts -/
/-- The first mount of a name. -/
def findM (l : List Mt) (m : List UInt8) : Nat := l.findIdx fun x => x.1 == m
theorem findM_at {l : List Mt} {m : List UInt8} {k : Nat} {x : Mt} (h : l[k]? = some x) (hx : x.1 = m) (hb : ∀ (j : Nat) (y : Mt), j < k → l[j]? = some y → y.1 ≠ m) : findM l m = k := by
  obtain ⟨hk, rfl⟩ := List.getElem?_eq_some_iff.1 h
  unfold findM
  rw [List.findIdx_eq hk]
  refine ⟨by simpa using hx, fun j hj => ?_⟩
  have := hb j l[j] hj (List.getElem?_eq_getElem (by omega))
  simpa using this
theorem findM_no {l : List Mt} {m : List UInt8} (hb : ∀ (j : Nat) (y : Mt), l[j]? = some y → y.1 ≠ m) : findM l m = l.length := by
  unfold findM
  rw [List.findIdx_eq_length]
  intro x hx
  obtain ⟨k, hk⟩ := List.getElem?_of_mem hx
  simpa using hb k x hk
/-- A path's mount, or why there is none. -/
def ofP (l : List Mt) (p : List UInt8) : Mt × Nat :=
  if (cutL p).2.2 = true then
    if findM l (cutL p).1 < l.length then (l.getD (findM l (cutL p).1) ([], false), 0) else (([], false), 21)
  else (([], false), 20)
theorem ofP_key {l : List Mt} {p : List UInt8} (h : (cutL p).2.2 = false) : ofP l p = (([], false), 20) := by unfold ofP; rw [if_neg (by rw [h]; decide)]
theorem ofP_no {l : List Mt} {p m k : List UInt8} (h : cutL p = (m, k, true)) (hf : findM l m = l.length) : ofP l p = (([], false), 21) := by unfold ofP; rw [h, if_pos rfl, hf, if_neg (by omega)]
theorem ofP_yes {l : List Mt} {p m k : List UInt8} {i : Nat} {x : Mt} (h : cutL p = (m, k, true)) (hf : findM l m = i) (hx : l[i]? = some x) : ofP l p = (x, 0) := by
  obtain ⟨hi, rfl⟩ := List.getElem?_eq_some_iff.1 hx
  unfold ofP; rw [h, if_pos rfl, hf, if_pos hi, List.getD_eq_getElem?_getD, hx]; rfl
/-- Is a path shipped? -/
def shipL (l : List Mt) (p : List UInt8) : Bool := (ofP l p).2 == 0 && (ofP l p).1.2
/-! ### Operations -/
/-- Why an operation may not be; of: why a path may not. -/
def opE (f : List UInt8 → Nat) (x : Opr) : Nat :=
  if x.1 = 1 ∨ x.1 = 2 then
    if f x.2.1 = 0 then
      if x.2.2.length ≤ 32 then (if x.1 = 2 ∧ x.2.2 ≠ [] then 1 else 0) else 3
    else f x.2.1
  else 10
def eachE (f : List UInt8 → Nat) : List Opr → Nat
  | [] => 0
  | x :: l => if opE f x = 0 then eachE f l else opE f x
theorem each_at {f : List UInt8 → Nat} : ∀ {l : List Opr} {k : Nat} {x : Opr}, l[k]? = some x → (∀ (j : Nat) (y : Opr), j < k → l[j]? = some y → opE f y = 0) → opE f x ≠ 0 → eachE f l = opE f x
  | [], k, x, h, _, _ => by simp at h
  | y :: l, 0, x, h, _, hx => by
    have : y = x := by simpa using h
    subst this; rw [eachE, if_neg hx]
  | y :: l, k + 1, x, h, hb, hx => by
    rw [eachE, if_pos (hb 0 y (by omega) rfl)]
    exact each_at (l := l) (k := k) (by simpa using h) (fun j z hj hz => hb (j + 1) z (by omega) (by simpa using hz)) hx
theorem each_all {f : List UInt8 → Nat} : ∀ {l : List Opr}, (∀ (j : Nat) (y : Opr), l[j]? = some y → opE f y = 0) → eachE f l = 0
  | [], _ => rfl
  | y :: l, hb => by
    rw [eachE, if_pos (hb 0 y rfl)]
    exact each_all fun j z hz => hb (j + 1) z (by simpa using hz)
theorem each_ok {f : List UInt8 → Nat} : ∀ {l : List Opr}, eachE f l = 0 → ∀ x ∈ l, opE f x = 0
  | [], _, x, hx => by cases hx
  | y :: l, h, x, hx => by
    rw [eachE] at h
    split at h
    · rename_i h0
      rcases List.mem_cons.1 hx with rfl | hx
      · exact h0
      · exact each_ok h x hx
    · rename_i h0; exact absurd h h0
theorem each_of {f : List UInt8 → Nat} {l : List Opr} (h : ∀ x ∈ l, opE f x = 0) : eachE f l = 0 := each_all fun _ y hy => h y (List.mem_of_getElem? hy)
theorem op_kind {f : List UInt8 → Nat} {x : Opr} (h : ¬ (x.1 = 1 ∨ x.1 = 2)) : opE f x = 10 := if_neg h
theorem op_path {f : List UInt8 → Nat} {x : Opr} (h : x.1 = 1 ∨ x.1 = 2) (h2 : f x.2.1 ≠ 0) : opE f x = f x.2.1 := by unfold opE; rw [if_pos h, if_neg h2]
theorem op_long {f : List UInt8 → Nat} {x : Opr} (h : x.1 = 1 ∨ x.1 = 2) (h2 : f x.2.1 = 0) (h3 : 32 < x.2.2.length) : opE f x = 3 := by unfold opE; rw [if_pos h, if_pos h2, if_neg (by omega)]
theorem op_arg {f : List UInt8 → Nat} {x : Opr} (h : x.1 = 2) (h2 : f x.2.1 = 0) (h3 : x.2.2.length ≤ 32) (h4 : x.2.2 ≠ []) : opE f x = 1 := by unfold opE; rw [if_pos (.inr h), if_pos h2, if_pos h3, if_pos ⟨h, h4⟩]
theorem op_good {f : List UInt8 → Nat} {x : Opr} (h : x.1 = 1 ∨ x.1 = 2) (h2 : f x.2.1 = 0) (h3 : x.2.2.length ≤ 32) (h4 : x.1 = 2 → x.2.2 = []) : opE f x = 0 := by
  unfold opE; rw [if_pos h, if_pos h2, if_pos h3, if_neg (fun h => h.2 (h4 h.1))]
theorem op_zero {f : List UInt8 → Nat} {x : Opr} (h : opE f x = 0) : (x.1 = 1 ∨ x.1 = 2) ∧ f x.2.1 = 0 ∧ x.2.2.length ≤ 32 ∧ (x.1 = 2 → x.2.2 = []) := by
  unfold opE at h
  split at h
  · rename_i h1
    split at h
    · rename_i h2
      split at h
      · rename_i h3
        split at h
        · cases h
        · rename_i h4
          refine ⟨h1, h2, h3, fun e => ?_⟩
          by_cases hn : x.2.2 = []
          · exact hn
          · exact absurd ⟨e, hn⟩ h4
      · cases h
    · rename_i h2; exact absurd h h2
  · cases h
def cutE (p : List UInt8) : Nat := if (cutL p).2.2 = true then 0 else 20
/-- May operations be? -/
def mayO (l : List Mt) (ops : List Opr) : Nat := if ops.length = 0 then 1 else if 4 < ops.length then 3 else eachE (fun p => (ofP l p).2) ops
/-- Is a batch right? -/
def rightB (i e : Int) (ops : List Opr) : Nat := if i < 1 ∨ 4611686018427387904 < i ∨ e < 1 then 1 else if 4 < ops.length then 3 else eachE cutE ops
theorem right_ok {i e : Int} {ops : List Opr} (h : rightB i e ops = 0) : 1 ≤ i ∧ i ≤ 4611686018427387904 ∧ 1 ≤ e ∧ ops.length ≤ 4 ∧ eachE cutE ops = 0 := by
  unfold rightB at h
  split at h
  · cases h
  · rename_i h1
    split at h
    · cases h
    · rename_i h2; exact ⟨by omega, by omega, by omega, by omega, h⟩
def opB (x : Opr) : List UInt8 := x.1 :: (textL x.2.1 ++ if x.1 = 1 then textL x.2.2 else [])
/-- A batch's bytes. -/
def batB (i e : Nat) (ops : List Opr) : List UInt8 := numL i ++ (numL e ++ (numL ops.length ++ ops.flatMap opB))
def bytesB (i e : Int) (ops : List Opr) : List UInt8 × Nat := if rightB i e ops = 0 then (batB i.toNat e.toNat ops, 0) else ([], rightB i e ops)
/-- What is shipped. -/
def filtB (l : List Mt) (ops : List Opr) : List Opr := ops.filter fun x => shipL l x.2.1
/-- A kind that is none. -/
def InS.bad (x : InS) (e : Nat) : InS := ⟨x.rest, x.read, e⟩
/-- Operations, read one behind the other. -/
def rdOps : Nat → InS → List Opr × InS
  | 0, x => ([], x)
  | n + 1, x =>
    if x.byte.2.err = 0 then
      if x.byte.1 = 1 ∨ x.byte.1 = 2 then
        ((UInt8.ofNat x.byte.1, (x.byte.2.text 33).1, if x.byte.1 = 1 then ((x.byte.2.text 33).2.text 32).1 else []) :: (rdOps n (if x.byte.1 = 1 then ((x.byte.2.text 33).2.text 32).2 else (x.byte.2.text 33).2)).1,
          (rdOps n (if x.byte.1 = 1 then ((x.byte.2.text 33).2.text 32).2 else (x.byte.2.text 33).2)).2)
      else ([], x.byte.2.bad 10)
    else ([], x.byte.2)
/-- The reader behind a batch's three numbers. -/
def nums3 (s : List UInt8) : Nat × Nat × Nat × InS :=
  let a := (InS.mk s 0 0).most 4611686018427387904
  let b := a.2.most 9223372036854775807
  let c := b.2.most 4
  (a.1, b.1, c.1, c.2)
/-- The batch of bytes, or the fault. -/
def readB (s : List UInt8) : (Nat × Nat × List Opr) × Nat :=
  let q := nums3 s
  let r := rdOps q.2.2.1 q.2.2.2
  if r.2.fin = 0 then
    if rightB q.1 q.2.1 r.1 = 0 then ((q.1, q.2.1, r.1), 0) else ((0, 0, []), rightB q.1 q.2.1 r.1)
  else ((0, 0, []), r.2.fin)
end TL
end Go

/- Plain: tokens: when they are right, their bytes, read back. No program in this text. No conditions but those each lemma names. -/
namespace Go
namespace TL
/-- The i-th mount has a name, and no twin ahead of it. -/
def okM (l : List Mt) (i : Nat) : Bool := namedL (l.getD i ([], false)).1 && !((l.take i).any fun x => x.1 == (l.getD i ([], false)).1)
def rightM (l : List Mt) : Bool := (List.range l.length).all (okM l) && (decide (1 ≤ l.length) && decide (l.length ≤ 4))
theorem rightM_bad {l : List Mt} {i : Nat} (hi : i < l.length) (h : okM l i = false) : rightM l = false := by
  unfold rightM
  have : (List.range l.length).all (okM l) = false := by
    rw [List.all_eq_false]
    exact ⟨i, List.mem_range.2 hi, by rw [h]; decide⟩
  rw [this, Bool.false_and]
theorem rightM_good {l : List Mt} (h : ∀ i, i < l.length → okM l i = true) : rightM l = (decide (1 ≤ l.length) && decide (l.length ≤ 4)) := by
  unfold rightM
  have : (List.range l.length).all (okM l) = true := by
    rw [List.all_eq_true]
    exact fun i hi => h i (List.mem_range.1 hi)
  rw [this, Bool.true_and]
theorem rightM_of {l : List Mt} (h : rightM l = true) : 1 ≤ l.length ∧ l.length ≤ 4 ∧ ∀ x ∈ l, x.1.length ≤ 8 := by
  unfold rightM at h
  simp only [Bool.and_eq_true, decide_eq_true_eq] at h
  obtain ⟨h1, h2, h3⟩ := h
  refine ⟨h2, h3, fun x hx => ?_⟩
  obtain ⟨i, hi⟩ := List.mem_iff_getElem?.1 hx
  have hlt := (List.getElem?_eq_some_iff.1 hi).1
  have hk := List.all_eq_true.1 h1 i (List.mem_range.2 hlt)
  unfold okM namedL at hk
  simp only [Bool.and_eq_true, decide_eq_true_eq] at hk
  have e : l.getD i ([], false) = x := by rw [List.getD_eq_getElem?_getD, hi]; rfl
  rw [e] at hk
  exact hk.1.1.2
/-- A token. -/
structure Tok where
  k : Nat
  e : Nat
  l : List Mt
  s : List UInt8
def rightT (k e : Int) (l : List Mt) (s : List UInt8) : Bool := decide (0 ≤ k) && (decide (1 ≤ e) && (rightM l && (decide (1 ≤ s.length) && decide (s.length ≤ 64))))
def shipB (x : Mt) : UInt8 := if x.2 then 1 else 0
def mtB (x : Mt) : List UInt8 := textL x.1 ++ [shipB x]
/-- A token's bytes. -/
def tokB (t : Tok) : List UInt8 := numL t.k ++ (numL t.e ++ (numL t.l.length ++ (t.l.flatMap mtB ++ textL t.s)))
/-- What is sealed about. -/
def aboutT : List UInt8 := [116, 111, 107, 101, 110]
theorem rightT_of {k e : Int} {l : List Mt} {s : List UInt8} (h : rightT k e l s = true) : 0 ≤ k ∧ 1 ≤ e ∧ rightM l = true ∧ 1 ≤ s.length ∧ s.length ≤ 64 := by
  unfold rightT at h
  simp only [Bool.and_eq_true, decide_eq_true_eq] at h
  exact ⟨h.1, h.2.1, h.2.2.1, h.2.2.2.1, h.2.2.2.2⟩
theorem mtB_len {x : Mt} (h : x.1.length ≤ 8) : (mtB x).length ≤ 19 := by
  unfold mtB textL
  have := numL_length_le x.1.length (by omega)
  simp only [List.length_append, List.length_singleton]; omega
theorem flat_mtB_len : ∀ {l : List Mt}, (∀ x ∈ l, x.1.length ≤ 8) → (l.flatMap mtB).length ≤ 19 * l.length
  | [], _ => by simp
  | x :: l, h => by
    have h1 := mtB_len (h x (by simp))
    have h2 := flat_mtB_len (l := l) (fun y hy => h y (by simp [hy]))
    rw [List.flatMap_cons, List.length_append, List.length_cons]; omega
theorem tokB_len {t : Tok} (hk : t.k < 9223372036854775808) (he : t.e < 9223372036854775808) (hl : t.l.length ≤ 4) (hn : ∀ x ∈ t.l, x.1.length ≤ 8) (hs : t.s.length ≤ 64) : (tokB t).length ≤ 1000 := by
  have h1 := numL_length_le t.k (by omega)
  have h2 := numL_length_le t.e (by omega)
  have h3 := numL_length_le t.l.length (by omega)
  have h4 := flat_mtB_len hn
  have h5 := numL_length_le t.s.length (by omega)
  unfold tokB textL
  simp only [List.length_append]; omega
/-- The reader's state ahead of the j-th mount. -/
def tokS (t : Tok) (k : Nat) (j : Nat) : InS := ⟨(t.l.drop j).flatMap mtB ++ textL t.s, k, 0⟩
theorem tok_mount {t : Tok} {j k : Nat} {x : Mt} (hx : t.l[j]? = some x) (hn : x.1.length ≤ 8) : ∃ k' k'', InS.text (tokS t k j) 8 = (x.1, ⟨shipB x :: ((t.l.drop (j + 1)).flatMap mtB ++ textL t.s), k', 0⟩) ∧ InS.byte ⟨shipB x :: ((t.l.drop (j + 1)).flatMap mtB ++ textL t.s), k', 0⟩ = ((shipB x).toNat, tokS t k'' (j + 1)) := by
  obtain ⟨hj, hx'⟩ := List.getElem?_eq_some_iff.1 hx
  have hd : t.l.drop j = x :: t.l.drop (j + 1) := by rw [← hx']; exact List.drop_eq_getElem_cons hj
  have e : (t.l.drop j).flatMap mtB ++ textL t.s = textL x.1 ++ (shipB x :: ((t.l.drop (j + 1)).flatMap mtB ++ textL t.s)) := by
    rw [hd, List.flatMap_cons]; unfold mtB; simp only [List.append_assoc, List.cons_append, List.nil_append]
  refine ⟨k + (textL x.1).length, k + (textL x.1).length + 1, ?_, ?_⟩
  · unfold tokS; rw [e]; exact text_text hn (by omega)
  · rw [byte_cons]; rfl
/-- The reference's way to tell the bytes. -/
theorem tokB_eq (t : Tok) : tokB t = (numL t.k ++ numL t.e ++ numL t.l.length ++ t.l.flatMap mtB) ++ textL t.s := by unfold tokB; simp only [List.append_assoc]
/-- Whether two tokens are the same. -/
def sameT (k e : Int) (l : List Mt) (s : List UInt8) (k' e' : Int) (l' : List Mt) (s' : List UInt8) : Bool := (k == k') && ((e == e') && ((l == l') && (s == s')))
theorem sameT_self (k e : Int) (l : List Mt) (s : List UInt8) : sameT k e l s k e l s = true := by unfold sameT; simp
/-- Whether a token is great. -/
def greatT (l : List Mt) (s : List UInt8) : Bool := ((l.take 301).any fun x => decide (3000 < x.1.length)) || (decide (300 < l.length) || decide (3000 < s.length))
theorem greatT_at {l : List Mt} {s : List UInt8} {k : Nat} {x : Mt} (h : l[k]? = some x) (hk : k ≤ 300) (hx : 3000 < x.1.length) : greatT l s = true := by
  unfold greatT
  have : ((l.take 301).any fun x => decide (3000 < x.1.length)) = true := by
    rw [List.any_eq_true]
    exact ⟨x, List.mem_of_getElem? (i := k) (by rw [List.getElem?_take, if_pos (by omega)]; exact h), decide_eq_true hx⟩
  rw [this, Bool.true_or]
theorem greatT_no {l : List Mt} {s : List UInt8} (h : ∀ (k : Nat) (x : Mt), k ≤ 300 → l[k]? = some x → ¬ 3000 < x.1.length) : greatT l s = (decide (300 < l.length) || decide (3000 < s.length)) := by
  unfold greatT
  have : ((l.take 301).any fun x => decide (3000 < x.1.length)) = false := by
    rw [List.any_eq_false]
    intro x hx
    obtain ⟨k, hk⟩ := List.mem_iff_getElem?.1 hx
    rw [List.getElem?_take] at hk
    split at hk
    · rw [decide_eq_true_eq]; exact h k x (by omega) hk
    · cases hk
  rw [this, Bool.false_or]
theorem greatT_of {l : List Mt} {s : List UInt8} (h : greatT l s = false) : l.length ≤ 300 ∧ s.length ≤ 3000 ∧ ∀ x ∈ l, x.1.length ≤ 3000 := by
  have h' := h
  unfold greatT at h
  simp only [Bool.or_eq_false_iff, decide_eq_false_iff_not, List.any_eq_false, decide_eq_true_eq] at h
  obtain ⟨h1, h2, h3⟩ := h
  refine ⟨by omega, by omega, fun x hx => ?_⟩
  have := h1 x (by rw [List.take_of_length_le (by omega)]; exact hx)
  omega
end TL
end Go

/- The walk of path.named. Conditions: lengths. -/
namespace Go
namespace TL
theorem goodN_of {b : UInt8} (h1 : ¬ I8 b < 97) (h2 : ¬ 122 < I8 b) : goodN b = true := by rw [I8_eq] at h1 h2; simp [goodN]; omega
theorem badN_lo {b : UInt8} (h1 : I8 b < 97) : goodN b = false := by rw [I8_eq] at h1; simp [goodN]; omega
theorem badN_hi {b : UInt8} (h1 : 122 < I8 b) : goodN b = false := by rw [I8_eq] at h1; simp [goodN]; omega
theorem goodK_of {b : UInt8} (h1 : ¬ I8 b = 0) (h2 : ¬ I8 b = 47) : goodK b = true := by rw [I8_eq] at h1 h2; simp [goodK]; omega
theorem badK_0 {b : UInt8} (h1 : I8 b = 0) : goodK b = false := by rw [I8_eq] at h1; simp [goodK]; omega
theorem badK_47 {b : UInt8} (h1 : I8 b = 47) : goodK b = false := by rw [I8_eq] at h1; simp [goodK]; omega
end TL
end Go
namespace Go.Proofs.Ytjlkiopncclomaa
open Go.RowKit Go.TL
set_option maxRecDepth 100000 in
set_option maxHeartbeats 2000000 in
theorem named_c (s : List UInt8) (w : World) (hs : s.length ≤ 1000000000) :
    Calls Try.prog 98 #[.string (mkS s)] w fun e w' => e = .returned (.bool (namedL s)) ∧ w = w' := by
  have hbad : ∀ k, k < s.length → goodN (s.getD k 0) = false → namedL s = false := fun k h hb => named_bad h hb
  have hgood : (∀ k, k < s.length → goodN (s.getD k 0) = true) → namedL s = decide (1 ≤ s.length ∧ s.length ≤ 8) := named_good
  obtain ⟨N, eN⟩ : ∃ N, N = namedL s := ⟨_, rfl⟩
  rw [← eN] at hbad hgood ⊢
  have HB := Lib.hid hbad
  have HG := Lib.hid hgood
  clear eN hbad hgood
  go_enter Try.func98, Try.ntmps98
  go_wp2_with fail
  go_loop [6] (fun iv => ∃ k : Nat, k ≤ s.length ∧ iv = .int .i64 k ∧ Hid (∀ j, j < k → goodN (s.getD j 0) = true)) (fun iv => s.length - (intOf iv).toNat)
  case atStart => exact ⟨0, by omega, rfl, Lib.hid (by omega)⟩
  case round =>
    obtain ⟨k, hk, rfl, HK⟩ := hrel
    by_cases hlt : k < s.length
    · by_cases h1 : I8 (bt s k) < 97
      · have e : N = false := HB.out k hlt (badN_lo h1)
        subst e
        go_wp2_with fail
        go_ret
        exact ⟨rfl, rfl⟩
      · by_cases h2 : 122 < I8 (bt s k)
        · have e : N = false := HB.out k hlt (badN_hi h2)
          subst e
          replace h1 : 97 ≤ I8 (bt s k) := by omega
          go_wp2_with fail
          go_ret
          exact ⟨rfl, rfl⟩
        · have hg := Lib.hid (goodN_of h1 h2)
          replace h1 : 97 ≤ I8 (bt s k) := by omega
          replace h2 : I8 (bt s k) ≤ 122 := by omega
          go_wp2_with fail
          go_round
          case rel => exact ⟨k + 1, by omega, by go_num, Lib.hid fun j hj => by
            rcases Nat.lt_succ_iff_lt_or_eq.1 hj with hj | rfl
            · exact HK.out j hj
            · exact hg.out⟩
          case measure => simp [intOf]; omega
    · obtain rfl : k = s.length := by omega
      have e : N = decide (1 ≤ s.length ∧ s.length ≤ 8) := HG.out HK.out
      by_cases hl : 1 ≤ s.length ∧ s.length ≤ 8
      · rw [decide_eq_true hl] at e
        subst e
        obtain ⟨hl1, hl2⟩ := hl
        go_wp2_with fail
        go_ret
        exact ⟨by first | rfl | (simp <;> omega), rfl⟩
      · rw [decide_eq_false hl] at e
        subst e
        go_wp2_with fail
        all_goals
          go_ret
          exact ⟨by first | rfl | (simp <;> omega), rfl⟩
end Go.Proofs.Ytjlkiopncclomaa
