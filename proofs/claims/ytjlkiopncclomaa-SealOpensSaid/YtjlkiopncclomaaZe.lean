/- Texts of this seat, put together: SealA, SealB, SealK, SealC, SealE, Ref01T, Ref05H, RefP, RefW, RefPr, W32. Each begins with a remark that says what is proved in it, and under which conditions. -/
import Derived.IntWalk
import Derived.OwnWalk
import Derived.Deep.Cut
import Derived.Test.YtjlkiopncclomaaZa
import Derived.Test.YtjlkiopncclomaaZb
import Derived.Test.YtjlkiopncclomaaZc
import Derived.Test.YtjlkiopncclomaaZd
/- The walks of package seal's inner functions: right, numbers, stream, tag. Conditions: lengths. -/
namespace Go
namespace TL
def rightE (k : Int) (d : List UInt8) : Bool := decide (0 ≤ k) && (decide (k ≤ 1048576) && decide ((d.length : Int) ≤ 8192))
/-- An envelope's numbers. -/
def headL (k : Nat) (b : UInt32) (n : UInt64) : List UInt8 := numL k ++ (numL b.toNat ++ numL n.toNat)
def nonceL (b : UInt32) (n : UInt64) : List UInt8 := bigB b.toUInt64 4 ++ bigB n 8
theorem nonceL_len (b : UInt32) (n : UInt64) : (nonceL b n).length = 12 := by unfold nonceL; rw [List.length_append, bigB_length, bigB_length]
def encL : List UInt8 := [101, 110, 99]
def macT : List UInt8 := [109, 97, 99]
/-- An envelope's text, sealed or opened. -/
def sealL (key : List UInt8) (b : UInt32) (n : UInt64) (text : List UInt8) : List UInt8 := streamL (macL key encL) (nonceL b n) text
/-- The tag that an envelope must have. -/
def tagL (key : List UInt8) (k : Nat) (b : UInt32) (n : UInt64) (about data : List UInt8) : List UInt8 := macL (macL key macT) (headL k b n ++ (textL about ++ textL data))
theorem headL_len (k : Nat) (b : UInt32) (n : UInt64) (h : k < 18446744073709551616) : (headL k b n).length ≤ 30 := by
  have h1 := numL_length_le k h
  have h2 := numL_length_le b.toNat (by have := b.toNat_lt; omega)
  have h3 := numL_length_le n.toNat (by have := n.toNat_lt; omega)
  unfold headL; simp only [List.length_append]; omega
end TL
end Go
namespace Go.Proofs.Ytjlkiopncclomaa
open Go.RowKit Go.TL
set_option maxRecDepth 100000 in
set_option maxHeartbeats 2000000 in
theorem sealRight_c (k : Int) (b : UInt32) (n : UInt64) (d t : List UInt8) (w : World) :
    Calls Try.prog 36 #[.agg (envC k b n d t).toArray] w fun e w' => e = .returned (.bool (rightE k d)) ∧ Below w.heap.size w w' := by
  have M := Mem.start [] w
  unfold rightE
  by_cases h1 : 0 ≤ k
  · by_cases h2 : k ≤ 1048576
    · by_cases h3 : (d.length : Int) ≤ 8192
      · rw [decide_eq_true h1, decide_eq_true h2, decide_eq_true h3]
        go_enter Try.func36, Try.ntmps36
        go_wp2_with (first | ((with_reducible refine tBox (some 1) ?_); refine w_box M _ _ rfl rfl _ rfl (envC k b n d t) rfl ?_; clear M; intro gx w1 M; (try conv => arg 5; simp only [Act.put, List.setIfInBounds_toArray, setC])) | ((with_reducible refine tGuard ?_); (with_reducible refine w_stripE ?_ ?_); (focus (refine ⟨_, rfl, ?_⟩; first | (with_reducible rfl) | exact decide_eq_false (by omega) | exact decide_eq_true (by omega)))) | ((with_reducible refine tGuard ?_); first | ((with_reducible refine w_skip1 ?_ ?_); (focus (refine ⟨_, rfl, ?_⟩; first | (with_reducible rfl) | exact decide_eq_false (by omega) | exact decide_eq_true (by omega))); (try conv => arg 5; simp only [Act.put, List.setIfInBounds_toArray, setC])) | ((with_reducible refine w_skip0 ?_ ?_); (focus (refine ⟨_, rfl, ?_⟩; first | (with_reducible rfl) | exact decide_eq_false (by omega) | exact decide_eq_true (by omega))); (try conv => arg 5; simp only [Act.put, List.setIfInBounds_toArray, setC]))) | ((with_reducible refine tGuard ?_); refine w_strip rfl (by with_reducible rfl) ?_) | fail | ((with_reducible refine tLoad ?_); go_must (refine w_at _ _ rfl (by exact ev_tmp rfl) ?_; intro hx; (first | refine w_load M _ _ _ rfl (by first | exact at0) hx rfl (by decide +kernel) (by exact rfl) ?_ | refine w_loadR M _ _ _ rfl (by first | exact at0) hx rfl (by decide +kernel) (by kernel_rfl) ?_); clear hx; (try conv => arg 5; simp only [Act.put, List.setIfInBounds_toArray, setC]))) | ((with_reducible refine tStore ?_); go_must (refine w_at2 _ _ _ rfl (by exact ev_tmp rfl) (by first | exact ev_tmp rfl | exact ev_const) ?_; intro hx hy; (first | refine w_store M _ _ _ _ rfl (by first | exact at0) hx rfl hy rfl rfl (by decide +kernel) (by first | decide | simp | (simp; omega)) ?_ | refine w_storeR M _ _ _ _ rfl (by first | exact at0) hx rfl _ hy rfl (by kernel_rfl) (by simp [Value.oneCell']) (by first | rfl | assumption) ?_); clear hx hy M; intro w1 M; (try simp only [setC] at M); (try conv => arg 5; simp only [Act.put, List.setIfInBounds_toArray, setC]))) | ((with_reducible refine tBox _ ?_); (refine w_box M _ _ rfl rfl _ rfl _ rfl ?_; clear M; intro g w1 M; (try conv => arg 5; simp only [Act.put, List.setIfInBounds_toArray, setC]))))
        go_ret
        exact ⟨rfl, M.below⟩
      · rw [decide_eq_true h1, decide_eq_true h2, decide_eq_false h3]
        go_enter Try.func36, Try.ntmps36
        go_wp2_with (first | ((with_reducible refine tBox (some 1) ?_); refine w_box M _ _ rfl rfl _ rfl (envC k b n d t) rfl ?_; clear M; intro gx w1 M; (try conv => arg 5; simp only [Act.put, List.setIfInBounds_toArray, setC])) | ((with_reducible refine tGuard ?_); (with_reducible refine w_stripE ?_ ?_); (focus (refine ⟨_, rfl, ?_⟩; first | (with_reducible rfl) | exact decide_eq_false (by omega) | exact decide_eq_true (by omega)))) | ((with_reducible refine tGuard ?_); first | ((with_reducible refine w_skip1 ?_ ?_); (focus (refine ⟨_, rfl, ?_⟩; first | (with_reducible rfl) | exact decide_eq_false (by omega) | exact decide_eq_true (by omega))); (try conv => arg 5; simp only [Act.put, List.setIfInBounds_toArray, setC])) | ((with_reducible refine w_skip0 ?_ ?_); (focus (refine ⟨_, rfl, ?_⟩; first | (with_reducible rfl) | exact decide_eq_false (by omega) | exact decide_eq_true (by omega))); (try conv => arg 5; simp only [Act.put, List.setIfInBounds_toArray, setC]))) | ((with_reducible refine tGuard ?_); refine w_strip rfl (by with_reducible rfl) ?_) | fail | ((with_reducible refine tLoad ?_); go_must (refine w_at _ _ rfl (by exact ev_tmp rfl) ?_; intro hx; (first | refine w_load M _ _ _ rfl (by first | exact at0) hx rfl (by decide +kernel) (by exact rfl) ?_ | refine w_loadR M _ _ _ rfl (by first | exact at0) hx rfl (by decide +kernel) (by kernel_rfl) ?_); clear hx; (try conv => arg 5; simp only [Act.put, List.setIfInBounds_toArray, setC]))) | ((with_reducible refine tStore ?_); go_must (refine w_at2 _ _ _ rfl (by exact ev_tmp rfl) (by first | exact ev_tmp rfl | exact ev_const) ?_; intro hx hy; (first | refine w_store M _ _ _ _ rfl (by first | exact at0) hx rfl hy rfl rfl (by decide +kernel) (by first | decide | simp | (simp; omega)) ?_ | refine w_storeR M _ _ _ _ rfl (by first | exact at0) hx rfl _ hy rfl (by kernel_rfl) (by simp [Value.oneCell']) (by first | rfl | assumption) ?_); clear hx hy M; intro w1 M; (try simp only [setC] at M); (try conv => arg 5; simp only [Act.put, List.setIfInBounds_toArray, setC]))) | ((with_reducible refine tBox _ ?_); (refine w_box M _ _ rfl rfl _ rfl _ rfl ?_; clear M; intro g w1 M; (try conv => arg 5; simp only [Act.put, List.setIfInBounds_toArray, setC]))))
        go_ret
        exact ⟨rfl, M.below⟩
    · rw [decide_eq_true h1, decide_eq_false h2]
      go_enter Try.func36, Try.ntmps36
      go_wp2_with (first | ((with_reducible refine tBox (some 1) ?_); refine w_box M _ _ rfl rfl _ rfl (envC k b n d t) rfl ?_; clear M; intro gx w1 M; (try conv => arg 5; simp only [Act.put, List.setIfInBounds_toArray, setC])) | ((with_reducible refine tGuard ?_); (with_reducible refine w_stripE ?_ ?_); (focus (refine ⟨_, rfl, ?_⟩; first | (with_reducible rfl) | exact decide_eq_false (by omega) | exact decide_eq_true (by omega)))) | ((with_reducible refine tGuard ?_); first | ((with_reducible refine w_skip1 ?_ ?_); (focus (refine ⟨_, rfl, ?_⟩; first | (with_reducible rfl) | exact decide_eq_false (by omega) | exact decide_eq_true (by omega))); (try conv => arg 5; simp only [Act.put, List.setIfInBounds_toArray, setC])) | ((with_reducible refine w_skip0 ?_ ?_); (focus (refine ⟨_, rfl, ?_⟩; first | (with_reducible rfl) | exact decide_eq_false (by omega) | exact decide_eq_true (by omega))); (try conv => arg 5; simp only [Act.put, List.setIfInBounds_toArray, setC]))) | ((with_reducible refine tGuard ?_); refine w_strip rfl (by with_reducible rfl) ?_) | fail | ((with_reducible refine tLoad ?_); go_must (refine w_at _ _ rfl (by exact ev_tmp rfl) ?_; intro hx; (first | refine w_load M _ _ _ rfl (by first | exact at0) hx rfl (by decide +kernel) (by exact rfl) ?_ | refine w_loadR M _ _ _ rfl (by first | exact at0) hx rfl (by decide +kernel) (by kernel_rfl) ?_); clear hx; (try conv => arg 5; simp only [Act.put, List.setIfInBounds_toArray, setC]))) | ((with_reducible refine tStore ?_); go_must (refine w_at2 _ _ _ rfl (by exact ev_tmp rfl) (by first | exact ev_tmp rfl | exact ev_const) ?_; intro hx hy; (first | refine w_store M _ _ _ _ rfl (by first | exact at0) hx rfl hy rfl rfl (by decide +kernel) (by first | decide | simp | (simp; omega)) ?_ | refine w_storeR M _ _ _ _ rfl (by first | exact at0) hx rfl _ hy rfl (by kernel_rfl) (by simp [Value.oneCell']) (by first | rfl | assumption) ?_); clear hx hy M; intro w1 M; (try simp only [setC] at M); (try conv => arg 5; simp only [Act.put, List.setIfInBounds_toArray, setC]))) | ((with_reducible refine tBox _ ?_); (refine w_box M _ _ rfl rfl _ rfl _ rfl ?_; clear M; intro g w1 M; (try conv => arg 5; simp only [Act.put, List.setIfInBounds_toArray, setC]))))
      go_ret
      exact ⟨rfl, M.below⟩
  · rw [decide_eq_false h1]
    go_enter Try.func36, Try.ntmps36
    go_wp2_with (first | ((with_reducible refine tBox (some 1) ?_); refine w_box M _ _ rfl rfl _ rfl (envC k b n d t) rfl ?_; clear M; intro gx w1 M; (try conv => arg 5; simp only [Act.put, List.setIfInBounds_toArray, setC])) | ((with_reducible refine tGuard ?_); (with_reducible refine w_stripE ?_ ?_); (focus (refine ⟨_, rfl, ?_⟩; first | (with_reducible rfl) | exact decide_eq_false (by omega) | exact decide_eq_true (by omega)))) | ((with_reducible refine tGuard ?_); first | ((with_reducible refine w_skip1 ?_ ?_); (focus (refine ⟨_, rfl, ?_⟩; first | (with_reducible rfl) | exact decide_eq_false (by omega) | exact decide_eq_true (by omega))); (try conv => arg 5; simp only [Act.put, List.setIfInBounds_toArray, setC])) | ((with_reducible refine w_skip0 ?_ ?_); (focus (refine ⟨_, rfl, ?_⟩; first | (with_reducible rfl) | exact decide_eq_false (by omega) | exact decide_eq_true (by omega))); (try conv => arg 5; simp only [Act.put, List.setIfInBounds_toArray, setC]))) | ((with_reducible refine tGuard ?_); refine w_strip rfl (by with_reducible rfl) ?_) | fail | ((with_reducible refine tLoad ?_); go_must (refine w_at _ _ rfl (by exact ev_tmp rfl) ?_; intro hx; (first | refine w_load M _ _ _ rfl (by first | exact at0) hx rfl (by decide +kernel) (by exact rfl) ?_ | refine w_loadR M _ _ _ rfl (by first | exact at0) hx rfl (by decide +kernel) (by kernel_rfl) ?_); clear hx; (try conv => arg 5; simp only [Act.put, List.setIfInBounds_toArray, setC]))) | ((with_reducible refine tStore ?_); go_must (refine w_at2 _ _ _ rfl (by exact ev_tmp rfl) (by first | exact ev_tmp rfl | exact ev_const) ?_; intro hx hy; (first | refine w_store M _ _ _ _ rfl (by first | exact at0) hx rfl hy rfl rfl (by decide +kernel) (by first | decide | simp | (simp; omega)) ?_ | refine w_storeR M _ _ _ _ rfl (by first | exact at0) hx rfl _ hy rfl (by kernel_rfl) (by simp [Value.oneCell']) (by first | rfl | assumption) ?_); clear hx hy M; intro w1 M; (try simp only [setC] at M); (try conv => arg 5; simp only [Act.put, List.setIfInBounds_toArray, setC]))) | ((with_reducible refine tBox _ ?_); (refine w_box M _ _ rfl rfl _ rfl _ rfl ?_; clear M; intro g w1 M; (try conv => arg 5; simp only [Act.put, List.setIfInBounds_toArray, setC]))))
    go_ret
    exact ⟨rfl, M.below⟩
set_option maxRecDepth 100000 in
set_option maxHeartbeats 400000 in
theorem numbers_c (g : Nat) (v : Value) (l : List UInt8) (k : Nat) (b : UInt32) (n : UInt64) (d t : List UInt8) (w : World) (hk : k ≤ 1048576) (hl : l.length ≤ 1000000) (ho : (outC g v l).ok w) :
    Calls Try.prog 47 #[.pointer (some ⟨g, 0, none⟩), .agg (envC k b n d t).toArray] w fun e w' => e = .returned (.tuple #[]) ∧ ∃ v', Upd w (outC g v l) w' (outC g v' (l ++ headL k b n)) := by
  have M := Mem.start1 ho
  have h1 := numL_length_le k (by omega)
  have h2 := numL_length_le b.toNat (by have := b.toNat_lt; omega)
  have hb := b.toNat_lt
  have hn := n.toNat_lt
  have e1 := I64_nat k (by omega)
  have e2 : I64 b.toUInt64 = ((b.toNat : Nat) : Int) := by rw [I64_eq, UInt32.toNat_toUInt64]
  replace e2 := Lib.hid fun _ : Unit => e2
  go_enter Try.func47, Try.ntmps47
  go_wp2_with (first | ((with_reducible refine tBox (some 3) ?_); refine w_box M _ _ rfl rfl _ rfl (envC k b n d t) rfl ?_; clear M; intro gx w1 M; (try conv => arg 5; simp only [Act.put, List.setIfInBounds_toArray, setC])) | (go_at_call 61; go_must (first | (with_reducible refine (Num_c _ _ _ k (k : Int) rfl _ (by omega) (by first | omega | (simp only [List.length_append]; omega)) (M.ok 1 _ rfl)).mono ?_) | (with_reducible refine (Num_c _ _ _ b.toNat (I64 b.toUInt64) (e2.out ()) _ (by omega) (by first | omega | (simp only [List.length_append]; omega)) (M.ok 1 _ rfl)).mono ?_) | (with_reducible refine (Num_c _ _ _ n.toNat (I64 n) (I64_eq n) _ (by omega) (by first | omega | (simp only [List.length_append]; omega)) (M.ok 1 _ rfl)).mono ?_)); rintro e w2 ⟨rfl, v1, U⟩; replace M := M.upd 1 rfl U; clear U) | ((with_reducible refine tGuard ?_); first | refine w_strip rfl (by with_reducible rfl) ?_ | ((fail_if_success (refine w_lit false rfl (by with_reducible rfl) ?_)); (fail_if_success (refine w_lit true rfl (by with_reducible rfl) ?_)); refine w_case rfl ?_ ?_ <;> (intro hgd; rw [hgd]; try (exfalso; simp at hgd; omega)))) | fail | ((with_reducible refine tLoad ?_); go_must (refine w_at _ _ rfl (by exact ev_tmp rfl) ?_; intro hx; (first | refine w_load M _ _ _ rfl (by first | exact at0) hx rfl (by decide +kernel) (by exact rfl) ?_ | refine w_loadR M _ _ _ rfl (by first | exact at0) hx rfl (by decide +kernel) (by kernel_rfl) ?_); clear hx; (try conv => arg 5; simp only [Act.put, List.setIfInBounds_toArray, setC]))) | ((with_reducible refine tStore ?_); go_must (refine w_at2 _ _ _ rfl (by exact ev_tmp rfl) (by first | exact ev_tmp rfl | exact ev_const) ?_; intro hx hy; (first | refine w_store M _ _ _ _ rfl (by first | exact at0) hx rfl hy rfl rfl (by decide +kernel) (by first | decide | simp | (simp; omega)) ?_ | refine w_storeR M _ _ _ _ rfl (by first | exact at0) hx rfl _ hy rfl (by kernel_rfl) (by simp [Value.oneCell']) (by first | rfl | assumption) ?_); clear hx hy M; intro w1 M; (try simp only [setC] at M); (try conv => arg 5; simp only [Act.put, List.setIfInBounds_toArray, setC]))) | ((with_reducible refine tBox _ ?_); (refine w_box M _ _ rfl rfl _ rfl _ rfl ?_; clear M; intro g w1 M; (try conv => arg 5; simp only [Act.put, List.setIfInBounds_toArray, setC]))))
  simp only [List.append_assoc] at M
  exact bodyPost_end (results_none rfl _ _ _) rfl ⟨rfl, _, (M.tail).upd1 0 rfl⟩
set_option maxRecDepth 100000 in
set_option maxHeartbeats 2000000 in
theorem sealStream_c (key : List UInt8) (k : Int) (b : UInt32) (n : UInt64) (d t text : List UInt8) (w : World) (hk : key.length = 32) (hx : text.length ≤ 1000000) :
    Calls Try.prog 37 #[.agg (bs key).toArray, .agg (envC k b n d t).toArray, .string (mkS text)] w fun e w' => e = .returned (.string (mkS (sealL key b n text))) ∧ Below w.heap.size w w' := by
  have M := Mem.start [] w
  have KC := fun w => Key_c key encL w hk (by decide)
  have SE : sealL key b n text = streamL (macL key encL) (nonceL b n) text := rfl
  have hm := macL_len key encL
  have SC := fun w => Stream_c (macL key encL) (nonceL b n) text w hm (nonceL_len b n) hx
  have A1 := fun (w : World) hok => sealPutc (.slice none 0 0) [] b.toUInt64 4 w hok (by omega) (by simp)
  have A2 := fun v (w : World) hok => sealPutc v (bigB b.toUInt64 4) n 8 w hok (by omega) (by rw [bigB_length]; omega)
  have hb1 := bigB_length b.toUInt64 4
  have hn0 := nonceL_len b n
  have hno : bigB b.toUInt64 4 ++ bigB n 8 = nonceL b n := rfl
  rw [hno] at A2
  rw [List.nil_append, show ((4 : Nat) : Int) = 4 from rfl] at A1
  rw [show ((8 : Nat) : Int) = 8 from rfl] at A2
  obtain ⟨m, em⟩ : ∃ m, m = macL key encL := ⟨_, rfl⟩
  rw [← em] at KC SE hm SC
  obtain ⟨nn, enn⟩ : ∃ x, x = nonceL b n := ⟨_, rfl⟩
  rw [← enn] at SE SC A2 hn0
  obtain ⟨b4, eb4⟩ : ∃ x, x = bigB b.toUInt64 4 := ⟨_, rfl⟩
  rw [← eb4] at A1 A2 hb1
  rw [hb1] at A1 A2
  rw [hn0] at A2
  obtain ⟨r, er⟩ : ∃ x, x = sealL key b n text := ⟨_, rfl⟩
  rw [SE] at er
  rw [← er] at SC
  have ER := Lib.hid fun _ : Unit => (show sealL key b n text = r from SE.trans er.symm)
  replace KC := Lib.hid KC
  replace SC := Lib.hid SC
  replace A1 := Lib.hid A1
  replace A2 := Lib.hid A2
  clear em enn eb4 er SE hno
  go_enter Try.func37, Try.ntmps37
  have NI := Lib.hid fun _ : Unit => (show (List.replicate 12 (0 : UInt8)).take 0 ++ (nn.take 12 ++ (List.replicate 12 0).drop (0 + 12)) = nn by rw [List.take_zero, List.nil_append, List.take_of_length_le (by omega)]; simp)
  have hz : (List.replicate 12 (0 : UInt8)).length = 12 := List.length_replicate
  go_wp2_with (first | ((with_reducible refine tBox (some 3) ?_); refine w_box M _ _ rfl rfl _ rfl (bs key) rfl ?_; clear M; intro gk w1 M; (try conv => arg 5; simp only [Act.put, List.setIfInBounds_toArray, setC])) | ((with_reducible refine tBox (some 4) ?_); refine w_box M _ _ rfl rfl _ rfl (envC k b n d t) rfl ?_; clear M; intro gx w1 M; (try conv => arg 5; simp only [Act.put, List.setIfInBounds_toArray, setC])) | ((with_reducible refine tAlloc (some 7) 33 ?_); refine w_alloc M _ rfl rfl (.agg (Array.replicate 12 (.int .u8 0))) (bs (List.replicate 12 (0 : UInt8))) (by kernel_rfl) rfl ?_; clear M; intro gn w1 M; (try conv => arg 5; simp only [Act.put, List.setIfInBounds_toArray, setC])) | ((with_reducible show Code.wp _ (Code.region 2 _ _) _ _ _); go_must (have MR := M; refine region_lowc [(0, false), (1, false), (5, false), (2, false), (3, false), (6, false), (4, true), (7, true), (8, true)] [(10, .int)] [(2, _), (6, _)] (IxOk MR [1]) 9 (by kernel_rfl) (by kernel_rfl) rfl (by kernel_rfl) (lows_cons (by first | exact stab_ix MR 1 1 rfl rfl (by decide) (by decide +kernel) rfl | exact stab_ixB MR 1 1 rfl rfl (by decide) (by decide +kernel) (by first | assumption | omega) | exact stab_ix32 MR 1 1 rfl rfl (by decide) (by decide +kernel) (by first | assumption | omega | (simp; omega)) | exact stab_ixH MR 1 rfl rfl (by decide) (by decide +kernel) (by first | assumption | exact shaL_len _ | exact macL_len _ _ | exact words_len _ | exact List.length_replicate | (rw [List.length_set]; first | assumption | exact List.length_replicate) | rfl) (by decide +kernel) | exact stab_ixW32 MR 1 rfl rfl (by decide) (by decide +kernel) (by first | assumption | exact shaL_len _ | exact macL_len _ _ | exact words_len _ | exact List.length_replicate | (rw [List.length_set]; first | assumption | exact List.length_replicate) | rfl) (by decide +kernel) | exact stab_ixR MR 1 rfl rfl (by decide) (by decide +kernel) (by kernel_rfl) | exact stab_ixW MR 1 rfl rfl (by decide) (by first | assumption | exact shaL_len _ | exact macL_len _ _ | exact words_len _ | exact List.length_replicate | (rw [List.length_set]; first | assumption | exact List.length_replicate) | rfl) (by decide) Try.underlying45 Try.underlying5 Try.underlying9 | exact stab_ixS MR 1 rfl rfl (by decide) (by first | rfl | simp | assumption) Try.underlying45 Try.underlying5 Try.underlying9) (lows_cons (by first | exact stab_ix MR 1 2 rfl rfl (by decide) (by decide +kernel) rfl | exact stab_ixB MR 1 2 rfl rfl (by decide) (by decide +kernel) (by first | assumption | omega) | exact stab_ix32 MR 1 2 rfl rfl (by decide) (by decide +kernel) (by first | assumption | omega | (simp; omega)) | exact stab_ixH MR 1 rfl rfl (by decide) (by decide +kernel) (by first | assumption | exact shaL_len _ | exact macL_len _ _ | exact words_len _ | exact List.length_replicate | (rw [List.length_set]; first | assumption | exact List.length_replicate) | rfl) (by decide +kernel) | exact stab_ixW32 MR 1 rfl rfl (by decide) (by decide +kernel) (by first | assumption | exact shaL_len _ | exact macL_len _ _ | exact words_len _ | exact List.length_replicate | (rw [List.length_set]; first | assumption | exact List.length_replicate) | rfl) (by decide +kernel) | exact stab_ixR MR 1 rfl rfl (by decide) (by decide +kernel) (by kernel_rfl) | exact stab_ixW MR 1 rfl rfl (by decide) (by first | assumption | exact shaL_len _ | exact macL_len _ _ | exact words_len _ | exact List.length_replicate | (rw [List.length_set]; first | assumption | exact List.length_replicate) | rfl) (by decide) Try.underlying45 Try.underlying5 Try.underlying9 | exact stab_ixS MR 1 rfl rfl (by decide) (by first | rfl | simp | assumption) Try.underlying45 Try.underlying5 Try.underlying9) lows_nil)) (ixOk_self MR _) ?_; replace M := M.drew; simp only [planC, opAt, List.getElem?_toArray, List.getElem?_cons_zero, List.getElem?_cons_succ, Option.getD_some])) | ((with_reducible show Code.wp _ (Code.region 3 _ _) _ _ _); go_must (have MR := M; refine region_lowc [(3, false), (0, false), (2, false), (1, true), (4, true), (5, false)] [] [(0, _), (2, _)] (IxOk MR [2, 0]) 6 (by kernel_rfl) (by kernel_rfl) rfl (by kernel_rfl) (lows_cons (by first | exact stab_ix MR 2 0 rfl rfl (by decide) (by decide +kernel) rfl | exact stab_ixB MR 2 0 rfl rfl (by decide) (by decide +kernel) (by first | assumption | omega) | exact stab_ix32 MR 2 0 rfl rfl (by decide) (by decide +kernel) (by first | assumption | omega | (simp; omega)) | exact stab_ixH MR 2 rfl rfl (by decide) (by decide +kernel) (by first | assumption | exact shaL_len _ | exact macL_len _ _ | exact words_len _ | exact List.length_replicate | (rw [List.length_set]; first | assumption | exact List.length_replicate) | rfl) (by decide +kernel) | exact stab_ixW32 MR 2 rfl rfl (by decide) (by decide +kernel) (by first | assumption | exact shaL_len _ | exact macL_len _ _ | exact words_len _ | exact List.length_replicate | (rw [List.length_set]; first | assumption | exact List.length_replicate) | rfl) (by decide +kernel) | exact stab_ixR MR 2 rfl rfl (by decide) (by decide +kernel) (by kernel_rfl) | exact stab_ixW MR 2 rfl rfl (by decide) (by first | assumption | exact shaL_len _ | exact macL_len _ _ | exact words_len _ | exact List.length_replicate | (rw [List.length_set]; first | assumption | exact List.length_replicate) | rfl) (by decide) Try.underlying45 Try.underlying5 Try.underlying9 | exact stab_ixS MR 2 rfl rfl (by decide) (by first | rfl | simp | assumption) Try.underlying45 Try.underlying5 Try.underlying9) (lows_cons (by first | exact stab_ix MR 0 0 rfl rfl (by decide) (by decide +kernel) rfl | exact stab_ixB MR 0 0 rfl rfl (by decide) (by decide +kernel) (by first | assumption | omega) | exact stab_ix32 MR 0 0 rfl rfl (by decide) (by decide +kernel) (by first | assumption | omega | (simp; omega)) | exact stab_ixH MR 0 rfl rfl (by decide) (by decide +kernel) (by first | assumption | exact shaL_len _ | exact macL_len _ _ | exact words_len _ | exact List.length_replicate | (rw [List.length_set]; first | assumption | exact List.length_replicate) | rfl) (by decide +kernel) | exact stab_ixW32 MR 0 rfl rfl (by decide) (by decide +kernel) (by first | assumption | exact shaL_len _ | exact macL_len _ _ | exact words_len _ | exact List.length_replicate | (rw [List.length_set]; first | assumption | exact List.length_replicate) | rfl) (by decide +kernel) | exact stab_ixR MR 0 rfl rfl (by decide) (by decide +kernel) (by kernel_rfl) | exact stab_ixW MR 0 rfl rfl (by decide) (by first | assumption | exact shaL_len _ | exact macL_len _ _ | exact words_len _ | exact List.length_replicate | (rw [List.length_set]; first | assumption | exact List.length_replicate) | rfl) (by decide) Try.underlying45 Try.underlying5 Try.underlying9 | exact stab_ixS MR 0 rfl rfl (by decide) (by first | rfl | simp | assumption) Try.underlying45 Try.underlying5 Try.underlying9) lows_nil)) (ixOk_self MR _) ?_; replace M := M.drew; simp only [planC, opAt, List.getElem?_toArray, List.getElem?_cons_zero, List.getElem?_cons_succ, Option.getD_some])) | (go_at_call 76; go_must (first | (replace M := M.nil 1; with_reducible refine (A1.out _ (M.ok 0 _ rfl)).mono ?_; rintro e w1 ⟨p1, c1, rfl, U⟩; replace M := M.upd 0 rfl U; clear U; simp only [List.set_cons_zero] at M) | (with_reducible refine (A2.out _ _ (M.ok 0 _ rfl)).mono ?_; rintro e w1 ⟨p2, c2, rfl, U⟩; replace M := M.upd 0 rfl U; clear U; simp only [List.set_cons_zero] at M))) | ((with_reducible show wpList _ _ _ (Oper.mk _ (Op.call ⟨Callee.builtin Builtin.copy, _, _⟩) _ _ _ _ :: _) _ _); go_must (refine w_copyB M 1 bytesT _ _ _ rfl rfl rfl rfl rfl (sees_of (M.ok 0 _ rfl) hn0.symm) 12 (by omega) (by omega) ?_; clear M; intro w1 M; simp only [List.set_cons_succ, List.set_cons_zero] at M; rw [NI.out ()] at M; replace M := M.tail)) | (go_at_call 18; go_must (refine (KC.out _).mono ?_; rintro e w1 ⟨rfl, hb⟩; replace M := M.call hb; clear hb)) | (go_at_call 17; go_must (refine (SC.out _).mono ?_; rintro e w1 ⟨rfl, hb⟩; replace M := M.call hb; clear hb)) | ((with_reducible show Seg _ _ _ _); go_must (first | refine Seg.intro ⟨fun h => absurd rfl h, ?_⟩ | refine Seg.intro ⟨fun _ => (by repeat' (first | exact ixOk_nil M.kept | refine ixOk_cons rfl (by first | exact M.ok 0 _ rfl | exact M.ok 1 _ rfl | exact M.ok 2 _ rfl | exact M.ok 3 _ rfl | exact M.ok 4 _ rfl | exact M.ok 5 _ rfl) ?_)), ?_⟩ | refine Seg.intro ⟨(by repeat' (first | (with_reducible exact needs_nil) | refine needs_at rfl (by first | (show Shape.ok Shape.nums _ = true; exact nums_bs _) | rfl) ?_)), (by repeat' (first | (with_reducible exact ats_nil) | refine ats_cons (by first | exact ev_tmp rfl | rfl) ?_)), ?_⟩)) | ((with_reducible show OnlyN _ _ _ _ _); refine OnlyN.intro (by kernel_rfl) ?_) | ((with_reducible refine tGuard ?_); first | refine w_strip rfl (by with_reducible rfl) ?_ | ((fail_if_success (refine w_lit false rfl (by with_reducible rfl) ?_)); (fail_if_success (refine w_lit true rfl (by with_reducible rfl) ?_)); refine w_case rfl ?_ ?_ <;> (intro hgd; rw [hgd]; try (exfalso; simp at hgd; omega)))) | ((with_reducible refine tConv _ 45 9 ?_); go_must (first | refine w_stringW M _ _ _ _ _ rfl rfl (by first | exact at0 | exact at1 | exact at2 | exact at3) rfl (by first | assumption | exact shaL_len _ | exact macL_len _ _ | exact words_len _ | exact List.length_replicate | (rw [List.length_set]; first | assumption | exact List.length_replicate) | rfl) (by decide) Try.underlying45 Try.underlying5 Try.underlying9 ?_ | refine w_string M _ _ _ _ _ rfl rfl (by first | exact at0 | exact at1 | exact at2 | exact at3) (by first | rfl | (simp; done) | assumption) rfl Try.underlying45 Try.underlying5 Try.underlying9 ?_); (try conv => arg 5; simp only [Act.put, List.setIfInBounds_toArray, setC])) | ((with_reducible refine tLoad ?_); go_must (refine w_at _ _ rfl (by exact ev_tmp rfl) ?_; intro hx; (first | refine w_load M _ _ _ rfl (by first | exact at0 | exact at1 | exact at2 | exact at3) hx rfl (by decide +kernel) (by exact rfl) ?_ | refine w_loadB M _ _ _ rfl (by first | exact at0 | exact at1 | exact at2 | exact at3) hx rfl (by decide +kernel) (by first | assumption | omega | (simp; omega)) ?_ | refine w_loadH M _ _ _ rfl (by first | exact at0 | exact at1 | exact at2 | exact at3) hx rfl (by decide +kernel) (by first | assumption | exact shaL_len _ | exact macL_len _ _ | exact words_len _ | exact List.length_replicate | (rw [List.length_set]; first | assumption | exact List.length_replicate) | rfl) (by decide +kernel) ?_ | refine w_loadR M _ _ _ rfl (by first | exact at0 | exact at1 | exact at2 | exact at3) hx rfl (by decide +kernel) (by kernel_rfl) ?_); clear hx; (try conv => arg 5; simp only [Act.put, List.setIfInBounds_toArray, setC]))) | ((with_reducible refine tStore ?_); go_must (refine w_at2 _ _ _ rfl (by exact ev_tmp rfl) (by first | exact ev_tmp rfl | exact ev_const) ?_; intro hx hy; (first | refine w_storeB M _ _ _ _ rfl (by first | exact at0 | exact at1 | exact at2 | exact at3) hx rfl hy (by decide +kernel) (by first | assumption | omega | (simp; omega)) ?_ | refine w_storeH M _ _ _ _ rfl (by first | exact at0 | exact at1 | exact at2 | exact at3) hx rfl hy (by first | assumption | exact shaL_len _ | exact macL_len _ _ | exact words_len _ | exact List.length_replicate | (rw [List.length_set]; first | assumption | exact List.length_replicate) | rfl) (by decide +kernel) (by first | assumption | exact shaL_len _ | exact macL_len _ _ | exact words_len _ | exact List.length_replicate | (rw [List.length_set]; first | assumption | exact List.length_replicate) | rfl) ?_ | refine w_store M _ _ _ _ rfl (by first | exact at0 | exact at1 | exact at2 | exact at3) hx rfl hy rfl rfl (by decide +kernel) (by first | decide | simp | (simp; omega)) ?_ | refine w_storeR M _ _ _ _ rfl (by first | exact at0 | exact at1 | exact at2 | exact at3) hx rfl _ hy rfl (by kernel_rfl) (by simp [Value.oneCell']) (by first | rfl | assumption) ?_); clear hx hy M; intro w1 M; (try simp only [setC] at M); (try conv => arg 5; simp only [Act.put, List.setIfInBounds_toArray, setC]))) | ((with_reducible refine tBox _ ?_); (refine w_box M _ _ rfl rfl _ rfl _ rfl ?_; clear M; intro g w1 M; (try conv => arg 5; simp only [Act.put, List.setIfInBounds_toArray, setC]))))
  go_ret
  exact ⟨congrArg (fun x => Ending.returned (.string (mkS x))) (ER.out ()).symm, M.below⟩
set_option maxRecDepth 100000 in
set_option maxHeartbeats 2000000 in
theorem sealTag_c (key : List UInt8) (k : Nat) (b : UInt32) (n : UInt64) (d t about : List UInt8) (w : World) (hk : key.length = 32) (ht : t.length = 32) (hkk : k ≤ 1048576) (ha : about.length ≤ 100000) (hd : d.length ≤ 100000) :
    Calls Try.prog 38 #[.agg (bs key).toArray, .agg (envC k b n d t).toArray, .string (mkS about)] w fun e w' => e = .returned (.agg (bs (tagL key k b n about d)).toArray) ∧ Below w.heap.size w w' := by
  have M := Mem.start [] w
  have KC := fun w => Key_c key macT w hk (by decide)
  have SE : tagL key k b n about d = macL (macL key macT) (headL k b n ++ (textL about ++ textL d)) := rfl
  have hm := macL_len key macT
  have hh := headL_len k b n (by omega)
  have hta : (textL about).length ≤ 100010 := by unfold textL; have := numL_length_le about.length (by omega); simp; omega
  have htd : (textL d).length ≤ 100010 := by unfold textL; have := numL_length_le d.length (by omega); simp; omega
  have NC := fun (g : Nat) (v : Value) (w : World) hok => numbers_c g v [] k b n d t w hkk (by simp) hok
  have T1 := fun (g : Nat) (v : Value) (w : World) hok => Out_Text_c g v (headL k b n) about w (by omega) (by omega) hok
  have T2 := fun (g : Nat) (v : Value) (w : World) hok => Out_Text_c g v (headL k b n ++ textL about) d w (by omega) (by simp; omega) hok
  have TC := fun w => Tag_c (macL key macT) (headL k b n ++ (textL about ++ textL d)) w (by omega) (by simp; omega)
  rw [List.append_assoc] at T2
  rw [List.nil_append] at NC
  obtain ⟨m, em⟩ : ∃ m, m = macL key macT := ⟨_, rfl⟩
  rw [← em] at KC SE hm TC
  obtain ⟨h0, eh⟩ : ∃ x, x = headL k b n := ⟨_, rfl⟩
  rw [← eh] at SE NC T1 T2 TC hh
  obtain ⟨u2, eu⟩ : ∃ x, x = h0 ++ (textL about ++ textL d) := ⟨_, rfl⟩
  rw [← eu] at SE T2 TC
  obtain ⟨u1, eu1⟩ : ∃ x, x = h0 ++ textL about := ⟨_, rfl⟩
  rw [← eu1] at T1 T2
  obtain ⟨r, er⟩ : ∃ x, x = macL m u2 := ⟨_, rfl⟩
  have hr : r.length = 32 := by rw [er]; exact macL_len _ _
  rw [← er] at SE TC
  have ER := Lib.hid fun _ : Unit => SE
  replace KC := Lib.hid KC
  replace NC := Lib.hid NC
  replace T1 := Lib.hid T1
  replace T2 := Lib.hid T2
  replace TC := Lib.hid TC
  clear em eh eu eu1 er SE hta htd hh
  go_enter Try.func38, Try.ntmps38
  go_wp2_with (first | ((with_reducible refine tBox (some 3) ?_); refine w_box M _ _ rfl rfl _ rfl (bs key) rfl ?_; clear M; intro gk w1 M; (try conv => arg 5; simp only [Act.put, List.setIfInBounds_toArray, setC])) | ((with_reducible refine tBox (some 4) ?_); refine w_box M _ _ rfl rfl _ rfl (envC k b n d t) rfl ?_; clear M; intro gx w1 M; (try conv => arg 5; simp only [Act.put, List.setIfInBounds_toArray, setC])) | ((with_reducible refine tAlloc (some 6) 27 ?_); refine w_alloc M _ rfl rfl (.agg (Array.replicate 32 (.int .u8 0))) (bs (List.replicate 32 (0 : UInt8))) (by kernel_rfl) rfl ?_; clear M; intro gr w1 M; (try conv => arg 5; simp only [Act.put, List.setIfInBounds_toArray, setC])) | (((with_reducible refine tAlloc (some 7) 81 ?_); refine w_alloc M _ rfl rfl (.agg #[.slice none 0 0]) ([.slice none 0 0]) (by kernel_rfl) rfl ?_; clear M; intro go w1 M; (try conv => arg 5; simp only [Act.put, List.setIfInBounds_toArray, setC])); replace M := M.outNew) | ((with_reducible refine tAlloc (some 8) 23 ?_); refine w_alloc M _ rfl rfl (.agg (Array.replicate 32 (.int .u8 0))) (bs (List.replicate 32 (0 : UInt8))) (by kernel_rfl) rfl ?_; clear M; intro gm w1 M; (try conv => arg 5; simp only [Act.put, List.setIfInBounds_toArray, setC])) | (go_at_call 47; go_must (refine (NC.out _ _ _ (M.ok 0 _ rfl)).mono ?_; rintro e w2 ⟨rfl, v1, U⟩; replace M := M.upd 0 rfl U; clear U; simp only [List.set_cons_zero] at M)) | (go_at_call 48; go_must ((first | (with_reducible refine (T1.out _ _ _ (M.ok 0 _ rfl)).mono ?_) | (with_reducible refine (T2.out _ _ _ (M.ok 0 _ rfl)).mono ?_)); rintro e w2 ⟨rfl, v2, U⟩; replace M := M.upd 0 rfl U; clear U; simp only [List.set_cons_zero] at M)) | (go_at_call 18; go_must (refine (KC.out _).mono ?_; rintro e w1 ⟨rfl, hb⟩; replace M := M.call hb; clear hb)) | (go_at_call 43; go_must (refine (TC.out _).mono ?_; rintro e w1 ⟨rfl, hb⟩; replace M := M.call hb; clear hb)) | (go_at_call 49; go_must (refine (Out_String_c _ _ _ _ (M.ok 1 _ rfl)).mono ?_; rintro e w1 ⟨rfl, rfl⟩)) | ((with_reducible show Code.wp _ (Code.region 6 _ _) _ _ _); go_must (have MR := M; refine region_lowc [(0, false), (1, false), (2, true), (3, true), (4, true)] [] [(1, _)] (IxOk MR [0]) 4 (by kernel_rfl) (by kernel_rfl) rfl (by kernel_rfl) (lows_cons (by first | exact stab_ix MR 0 0 rfl rfl (by decide) (by decide +kernel) rfl | exact stab_ixB MR 0 0 rfl rfl (by decide) (by decide +kernel) (by first | assumption | omega) | exact stab_ix32 MR 0 0 rfl rfl (by decide) (by decide +kernel) (by first | assumption | omega | (simp; omega)) | exact stab_ixH MR 0 rfl rfl (by decide) (by decide +kernel) (by first | assumption | exact shaL_len _ | exact macL_len _ _ | exact words_len _ | exact List.length_replicate | (rw [List.length_set]; first | assumption | exact List.length_replicate) | rfl) (by decide +kernel) | exact stab_ixW32 MR 0 rfl rfl (by decide) (by decide +kernel) (by first | assumption | exact shaL_len _ | exact macL_len _ _ | exact words_len _ | exact List.length_replicate | (rw [List.length_set]; first | assumption | exact List.length_replicate) | rfl) (by decide +kernel) | exact stab_ixR MR 0 rfl rfl (by decide) (by decide +kernel) (by kernel_rfl) | exact stab_ixW MR 0 rfl rfl (by decide) (by first | assumption | exact shaL_len _ | exact macL_len _ _ | exact words_len _ | exact List.length_replicate | (rw [List.length_set]; first | assumption | exact List.length_replicate) | rfl) (by decide) Try.underlying45 Try.underlying5 Try.underlying9 | exact stab_ixS MR 0 rfl rfl (by decide) (by first | rfl | simp | assumption) Try.underlying45 Try.underlying5 Try.underlying9) lows_nil) (ixOk_self MR _) ?_; replace M := M.drew; simp only [planC, opAt, List.getElem?_toArray, List.getElem?_cons_zero, List.getElem?_cons_succ, Option.getD_some])) | ((with_reducible refine tLoad ?_); refine w_at _ _ rfl (by exact ev_tmp rfl) ?_; intro hx; (first | refine w_loadE M _ _ _ rfl (by first | exact at2 | exact at3) hx rfl (by decide +kernel) (by decide +kernel) (by first | assumption | exact zeroT_len | exact macL_len _ _) ?_ | refine w_loadTag M _ _ _ rfl (by first | exact at2 | exact at3) hx rfl (by decide +kernel) (by decide +kernel) (by first | assumption | exact zeroT_len | exact macL_len _ _) ?_); clear hx; (try conv => arg 5; simp only [Act.put, List.setIfInBounds_toArray, setC])) | ((with_reducible refine tStore ?_); refine w_at2 _ _ _ rfl (by first | exact ev_tmp rfl | exact ev_const) (by first | exact ev_tmp rfl | exact ev_const) ?_; intro hx hy; (first | refine w_storeE M _ _ _ _ rfl (by first | exact at2 | exact at3) hx rfl hy rfl (by decide +kernel) (by first | assumption | exact zeroT_len | exact macL_len _ _) (by first | assumption | exact zeroT_len | exact macL_len _ _) ?_ | refine w_storeE (k := 0) (b := 0) (n := 0) (d := []) (tg := zeroT) M _ _ _ _ rfl (by first | exact at2 | exact at3) hx rfl hy rfl (by decide +kernel) zeroT_len (by first | assumption | exact zeroT_len | exact macL_len _ _) ?_ | refine w_storeE (tg := zeroT) M _ _ _ _ rfl (by first | exact at2 | exact at3) hx rfl hy rfl (by decide +kernel) zeroT_len (by first | assumption | exact zeroT_len | exact macL_len _ _) ?_ | refine w_storeTag M _ _ _ _ rfl (by first | exact at2 | exact at3) hx rfl hy (by decide +kernel) (by first | assumption | exact zeroT_len | exact macL_len _ _) (by first | assumption | exact zeroT_len | exact macL_len _ _) ?_ | refine w_storeData M _ _ _ _ rfl (by first | exact at2 | exact at3) hx rfl hy (by decide +kernel) ?_ | refine w_storeNum M _ _ _ _ rfl (by first | exact at2 | exact at3) hx rfl hy (by decide +kernel) ?_); clear hx hy M; intro w1 M; (try simp only [setC] at M); (try conv => arg 5; simp only [Act.put, List.setIfInBounds_toArray, setC])) | ((with_reducible refine tConv _ 45 9 ?_); (first | refine w_stringTag M _ _ _ _ _ rfl rfl (by first | exact at2 | exact at3) rfl (by first | assumption | exact zeroT_len | exact macL_len _ _) Try.underlying45 Try.underlying5 Try.underlying9 ?_); (try conv => arg 5; simp only [Act.put, List.setIfInBounds_toArray, setC])) | ((with_reducible show Seg _ _ _ _); go_must (first | refine Seg.intro ⟨fun h => absurd rfl h, ?_⟩ | refine Seg.intro ⟨fun _ => (by repeat' (first | exact ixOk_nil M.kept | refine ixOk_cons rfl (by first | exact M.ok 0 _ rfl | exact M.ok 1 _ rfl | exact M.ok 2 _ rfl | exact M.ok 3 _ rfl | exact M.ok 4 _ rfl | exact M.ok 5 _ rfl | exact M.ok 6 _ rfl) ?_)), ?_⟩ | refine Seg.intro ⟨(by repeat' (first | (with_reducible exact needs_nil) | refine needs_at rfl (by first | (show Shape.ok Shape.nums _ = true; exact nums_bs _) | rfl) ?_)), (by repeat' (first | (with_reducible exact ats_nil) | refine ats_cons (by first | exact ev_tmp rfl | rfl) ?_)), ?_⟩)) | ((with_reducible show OnlyN _ _ _ _ _); refine OnlyN.intro (by kernel_rfl) ?_) | ((with_reducible refine tGuard ?_); first | refine w_strip rfl (by with_reducible rfl) ?_ | ((fail_if_success (refine w_lit false rfl (by with_reducible rfl) ?_)); (fail_if_success (refine w_lit true rfl (by with_reducible rfl) ?_)); refine w_case rfl ?_ ?_ <;> (intro hgd; rw [hgd]; try (exfalso; simp at hgd; omega)))) | ((with_reducible refine tConv _ 45 9 ?_); go_must (first | refine w_stringW M _ _ _ _ _ rfl rfl (by first | exact at0 | exact at1 | exact at2 | exact at3 | exact at4) rfl (by first | assumption | exact shaL_len _ | exact macL_len _ _ | exact words_len _ | exact List.length_replicate | (rw [List.length_set]; first | assumption | exact List.length_replicate) | rfl) (by decide) Try.underlying45 Try.underlying5 Try.underlying9 ?_ | refine w_string M _ _ _ _ _ rfl rfl (by first | exact at0 | exact at1 | exact at2 | exact at3 | exact at4) (by first | rfl | (simp; done) | assumption) rfl Try.underlying45 Try.underlying5 Try.underlying9 ?_); (try conv => arg 5; simp only [Act.put, List.setIfInBounds_toArray, setC])) | ((with_reducible refine tLoad ?_); go_must (refine w_at _ _ rfl (by exact ev_tmp rfl) ?_; intro hx; (first | refine w_load M _ _ _ rfl (by first | exact at0 | exact at1 | exact at2 | exact at3 | exact at4) hx rfl (by decide +kernel) (by exact rfl) ?_ | refine w_loadB M _ _ _ rfl (by first | exact at0 | exact at1 | exact at2 | exact at3 | exact at4) hx rfl (by decide +kernel) (by first | assumption | omega | (simp; omega)) ?_ | refine w_loadH M _ _ _ rfl (by first | exact at0 | exact at1 | exact at2 | exact at3 | exact at4) hx rfl (by decide +kernel) (by first | assumption | exact shaL_len _ | exact macL_len _ _ | exact words_len _ | exact List.length_replicate | (rw [List.length_set]; first | assumption | exact List.length_replicate) | rfl) (by decide +kernel) ?_ | refine w_loadR M _ _ _ rfl (by first | exact at0 | exact at1 | exact at2 | exact at3 | exact at4) hx rfl (by decide +kernel) (by kernel_rfl) ?_); clear hx; (try conv => arg 5; simp only [Act.put, List.setIfInBounds_toArray, setC]))) | ((with_reducible refine tStore ?_); go_must (refine w_at2 _ _ _ rfl (by exact ev_tmp rfl) (by first | exact ev_tmp rfl | exact ev_const) ?_; intro hx hy; (first | refine w_storeB M _ _ _ _ rfl (by first | exact at0 | exact at1 | exact at2 | exact at3 | exact at4) hx rfl hy (by decide +kernel) (by first | assumption | omega | (simp; omega)) ?_ | refine w_storeH M _ _ _ _ rfl (by first | exact at0 | exact at1 | exact at2 | exact at3 | exact at4) hx rfl hy (by first | assumption | exact shaL_len _ | exact macL_len _ _ | exact words_len _ | exact List.length_replicate | (rw [List.length_set]; first | assumption | exact List.length_replicate) | rfl) (by decide +kernel) (by first | assumption | exact shaL_len _ | exact macL_len _ _ | exact words_len _ | exact List.length_replicate | (rw [List.length_set]; first | assumption | exact List.length_replicate) | rfl) ?_ | refine w_store M _ _ _ _ rfl (by first | exact at0 | exact at1 | exact at2 | exact at3 | exact at4) hx rfl hy rfl rfl (by decide +kernel) (by first | decide | simp | (simp; omega)) ?_ | refine w_storeR M _ _ _ _ rfl (by first | exact at0 | exact at1 | exact at2 | exact at3 | exact at4) hx rfl _ hy rfl (by kernel_rfl) (by simp [Value.oneCell']) (by first | rfl | assumption) ?_); clear hx hy M; intro w1 M; (try simp only [setC] at M); (try conv => arg 5; simp only [Act.put, List.setIfInBounds_toArray, setC]))) | ((with_reducible refine tBox _ ?_); (refine w_box M _ _ rfl rfl _ rfl _ rfl ?_; clear M; intro g w1 M; (try conv => arg 5; simp only [Act.put, List.setIfInBounds_toArray, setC]))))
  exact bodyPost_ret (results_row rfl _ _ gr 0 (bs r) _ rfl (M.ok 2 _ rfl).2.1 Try.underlying27 rfl (by rw [bs_length, hr]; kernel_rfl)) rfl ⟨congrArg (fun x => Ending.returned (.agg (bs x).toArray)) (ER.out ()).symm, M.below⟩
end Go.Proofs.Ytjlkiopncclomaa

/- The walks of seal.Close, Open and Bytes. Conditions: lengths. -/
namespace Go
namespace TL
theorem rightE_k {k : Int} {d : List UInt8} (h : rightE k d = true) : 0 ≤ k ∧ k ≤ 1048576 ∧ d.length ≤ 8192 := by
  unfold rightE at h
  simp only [Bool.and_eq_true, decide_eq_true_eq] at h
  omega
end TL
end Go
namespace Go.Proofs.Ytjlkiopncclomaa
open Go.RowKit Go.TL
set_option maxRecDepth 100000 in
set_option maxHeartbeats 2000000 in
theorem Close_no (key : List UInt8) (k : Int) (b : UInt32) (n : UInt64) (about text : List UInt8) (w : World) (h : rightE k [] = false) :
    Calls Try.prog 15 #[.agg (bs key).toArray, .int .i64 k, .int .u32 (I32 b), .int .u64 (I64 n), .string (mkS about), .string (mkS text)] w fun e w' => e = .returned (.tuple #[.agg (envC 0 0 0 [] zeroT).toArray, .int .i64 1]) ∧ Below w.heap.size w w' := by
  have M := Mem.start [] w
  have R := fun w => sealRight_c k b n [] zeroT w
  rw [h] at R
  replace R := Lib.hid R
  clear h
  go_enter Try.func15, Try.ntmps15
  go_wp2_with (first | ((with_reducible refine tBox (some 6) ?_); refine w_box M _ _ rfl rfl _ rfl (bs key) rfl ?_; clear M; intro gk w1 M; (try conv => arg 5; simp only [Act.put, List.setIfInBounds_toArray, setC])) | ((with_reducible refine tAlloc (some 12) 29 ?_); refine w_alloc M _ rfl rfl (.agg (envC 0 0 0 [] zeroT).toArray) (envC 0 0 0 [] zeroT) (by kernel_rfl) rfl ?_; clear M; intro gr w1 M; (try conv => arg 5; simp only [Act.put, List.setIfInBounds_toArray, setC])) | ((with_reducible refine tAlloc (some 14) 29 ?_); refine w_alloc M _ rfl rfl (.agg (envC 0 0 0 [] zeroT).toArray) (envC 0 0 0 [] zeroT) (by kernel_rfl) rfl ?_; clear M; intro gx w1 M; (try conv => arg 5; simp only [Act.put, List.setIfInBounds_toArray, setC])) | (go_at_call 36; go_must (refine (R.out _).mono ?_; rintro e w1 ⟨rfl, hb⟩; replace M := M.call hb; clear hb)) | ((with_reducible refine tLoad ?_); refine w_at _ _ rfl (by exact ev_tmp rfl) ?_; intro hx; (first | refine w_loadE M _ _ _ rfl (by first | exact at0 | exact at1) hx rfl (by decide +kernel) (by decide +kernel) (by first | assumption | exact zeroT_len | exact macL_len _ _) ?_ | refine w_loadTag M _ _ _ rfl (by first | exact at0 | exact at1) hx rfl (by decide +kernel) (by decide +kernel) (by first | assumption | exact zeroT_len | exact macL_len _ _) ?_); clear hx; (try conv => arg 5; simp only [Act.put, List.setIfInBounds_toArray, setC])) | ((with_reducible refine tStore ?_); refine w_at2 _ _ _ rfl (by first | exact ev_tmp rfl | exact ev_const) (by first | exact ev_tmp rfl | exact ev_const) ?_; intro hx hy; (first | refine w_storeE M _ _ _ _ rfl (by first | exact at0 | exact at1) hx rfl hy rfl (by decide +kernel) (by first | assumption | exact zeroT_len | exact macL_len _ _) (by first | assumption | exact zeroT_len | exact macL_len _ _) ?_ | refine w_storeE (k := 0) (b := 0) (n := 0) (d := []) (tg := zeroT) M _ _ _ _ rfl (by first | exact at0 | exact at1) hx rfl hy rfl (by decide +kernel) zeroT_len (by first | assumption | exact zeroT_len | exact macL_len _ _) ?_ | refine w_storeE (tg := zeroT) M _ _ _ _ rfl (by first | exact at0 | exact at1) hx rfl hy rfl (by decide +kernel) zeroT_len (by first | assumption | exact zeroT_len | exact macL_len _ _) ?_ | refine w_storeTag M _ _ _ _ rfl (by first | exact at0 | exact at1) hx rfl hy (by decide +kernel) (by first | assumption | exact zeroT_len | exact macL_len _ _) (by first | assumption | exact zeroT_len | exact macL_len _ _) ?_ | refine w_storeData M _ _ _ _ rfl (by first | exact at0 | exact at1) hx rfl hy (by decide +kernel) ?_ | refine w_storeNum M _ _ _ _ rfl (by first | exact at0 | exact at1) hx rfl hy (by decide +kernel) ?_); clear hx hy M; intro w1 M; (try simp only [setC] at M); (try conv => arg 5; simp only [Act.put, List.setIfInBounds_toArray, setC])) | ((with_reducible refine tConv _ 45 9 ?_); (first | refine w_stringTag M _ _ _ _ _ rfl rfl (by first | exact at0 | exact at1) rfl (by first | assumption | exact zeroT_len | exact macL_len _ _) Try.underlying45 Try.underlying5 Try.underlying9 ?_); (try conv => arg 5; simp only [Act.put, List.setIfInBounds_toArray, setC])) | ((with_reducible refine tGuard ?_); first | refine w_strip rfl (by with_reducible rfl) ?_ | ((fail_if_success (refine w_lit false rfl (by with_reducible rfl) ?_)); (fail_if_success (refine w_lit true rfl (by with_reducible rfl) ?_)); refine w_case rfl ?_ ?_ <;> (intro hgd; rw [hgd]; try (exfalso; simp at hgd; omega)))) | ((with_reducible refine tConv _ 45 9 ?_); go_must (first | refine w_stringW M _ _ _ _ _ rfl rfl (by first | exact at0 | exact at1 | exact at2) rfl (by first | assumption | exact shaL_len _ | exact macL_len _ _ | exact words_len _ | exact List.length_replicate | (rw [List.length_set]; first | assumption | exact List.length_replicate) | rfl) (by decide) Try.underlying45 Try.underlying5 Try.underlying9 ?_ | refine w_string M _ _ _ _ _ rfl rfl (by first | exact at0 | exact at1 | exact at2) (by first | rfl | (simp; done) | assumption) rfl Try.underlying45 Try.underlying5 Try.underlying9 ?_); (try conv => arg 5; simp only [Act.put, List.setIfInBounds_toArray, setC])) | ((with_reducible refine tLoad ?_); go_must (refine w_at _ _ rfl (by exact ev_tmp rfl) ?_; intro hx; (first | refine w_load M _ _ _ rfl (by first | exact at0 | exact at1 | exact at2) hx rfl (by decide +kernel) (by exact rfl) ?_ | refine w_loadB M _ _ _ rfl (by first | exact at0 | exact at1 | exact at2) hx rfl (by decide +kernel) (by first | assumption | omega | (simp; omega)) ?_ | refine w_loadH M _ _ _ rfl (by first | exact at0 | exact at1 | exact at2) hx rfl (by decide +kernel) (by first | assumption | exact shaL_len _ | exact macL_len _ _ | exact words_len _ | exact List.length_replicate | (rw [List.length_set]; first | assumption | exact List.length_replicate) | rfl) (by decide +kernel) ?_ | refine w_loadR M _ _ _ rfl (by first | exact at0 | exact at1 | exact at2) hx rfl (by decide +kernel) (by kernel_rfl) ?_); clear hx; (try conv => arg 5; simp only [Act.put, List.setIfInBounds_toArray, setC]))) | ((with_reducible refine tStore ?_); go_must (refine w_at2 _ _ _ rfl (by exact ev_tmp rfl) (by first | exact ev_tmp rfl | exact ev_const) ?_; intro hx hy; (first | refine w_storeB M _ _ _ _ rfl (by first | exact at0 | exact at1 | exact at2) hx rfl hy (by decide +kernel) (by first | assumption | omega | (simp; omega)) ?_ | refine w_storeH M _ _ _ _ rfl (by first | exact at0 | exact at1 | exact at2) hx rfl hy (by first | assumption | exact shaL_len _ | exact macL_len _ _ | exact words_len _ | exact List.length_replicate | (rw [List.length_set]; first | assumption | exact List.length_replicate) | rfl) (by decide +kernel) (by first | assumption | exact shaL_len _ | exact macL_len _ _ | exact words_len _ | exact List.length_replicate | (rw [List.length_set]; first | assumption | exact List.length_replicate) | rfl) ?_ | refine w_store M _ _ _ _ rfl (by first | exact at0 | exact at1 | exact at2) hx rfl hy rfl rfl (by decide +kernel) (by first | decide | simp | (simp; omega)) ?_ | refine w_storeR M _ _ _ _ rfl (by first | exact at0 | exact at1 | exact at2) hx rfl _ hy rfl (by kernel_rfl) (by simp [Value.oneCell']) (by first | rfl | assumption) ?_); clear hx hy M; intro w1 M; (try simp only [setC] at M); (try conv => arg 5; simp only [Act.put, List.setIfInBounds_toArray, setC]))) | ((with_reducible refine tBox _ ?_); (refine w_box M _ _ rfl rfl _ rfl _ rfl ?_; clear M; intro g w1 M; (try conv => arg 5; simp only [Act.put, List.setIfInBounds_toArray, setC]))))
  exact bodyPost_ret (results_two rfl _ _ gr 0 (envC 0 0 0 [] zeroT) _ (.int .i64 1) rfl rfl (M.ok 1 _ rfl).2.1 Try.underlying29 rfl (by rw [envC_len, zeroT_len]; kernel_rfl)) rfl ⟨rfl, M.below⟩
set_option maxRecDepth 100000 in
set_option maxHeartbeats 2000000 in
theorem Close_long (key : List UInt8) (k : Int) (b : UInt32) (n : UInt64) (about text : List UInt8) (w : World) (h : rightE k [] = true) (hx : 8192 < text.length) :
    Calls Try.prog 15 #[.agg (bs key).toArray, .int .i64 k, .int .u32 (I32 b), .int .u64 (I64 n), .string (mkS about), .string (mkS text)] w fun e w' => e = .returned (.tuple #[.agg (envC 0 0 0 [] zeroT).toArray, .int .i64 3]) ∧ Below w.heap.size w w' := by
  have M := Mem.start [] w
  have R := fun w => sealRight_c k b n [] zeroT w
  rw [h] at R
  replace R := Lib.hid R
  clear h
  have hx' : (8192 : Int) < (text.length : Int) := by omega
  go_enter Try.func15, Try.ntmps15
  go_wp2_with (first | ((with_reducible refine tBox (some 6) ?_); refine w_box M _ _ rfl rfl _ rfl (bs key) rfl ?_; clear M; intro gk w1 M; (try conv => arg 5; simp only [Act.put, List.setIfInBounds_toArray, setC])) | ((with_reducible refine tAlloc (some 12) 29 ?_); refine w_alloc M _ rfl rfl (.agg (envC 0 0 0 [] zeroT).toArray) (envC 0 0 0 [] zeroT) (by kernel_rfl) rfl ?_; clear M; intro gr w1 M; (try conv => arg 5; simp only [Act.put, List.setIfInBounds_toArray, setC])) | ((with_reducible refine tAlloc (some 14) 29 ?_); refine w_alloc M _ rfl rfl (.agg (envC 0 0 0 [] zeroT).toArray) (envC 0 0 0 [] zeroT) (by kernel_rfl) rfl ?_; clear M; intro gx w1 M; (try conv => arg 5; simp only [Act.put, List.setIfInBounds_toArray, setC])) | (go_at_call 36; go_must (refine (R.out _).mono ?_; rintro e w1 ⟨rfl, hb⟩; replace M := M.call hb; clear hb)) | ((with_reducible refine tLoad ?_); refine w_at _ _ rfl (by exact ev_tmp rfl) ?_; intro hx; (first | refine w_loadE M _ _ _ rfl (by first | exact at0 | exact at1) hx rfl (by decide +kernel) (by decide +kernel) (by first | assumption | exact zeroT_len | exact macL_len _ _) ?_ | refine w_loadTag M _ _ _ rfl (by first | exact at0 | exact at1) hx rfl (by decide +kernel) (by decide +kernel) (by first | assumption | exact zeroT_len | exact macL_len _ _) ?_); clear hx; (try conv => arg 5; simp only [Act.put, List.setIfInBounds_toArray, setC])) | ((with_reducible refine tStore ?_); refine w_at2 _ _ _ rfl (by first | exact ev_tmp rfl | exact ev_const) (by first | exact ev_tmp rfl | exact ev_const) ?_; intro hx hy; (first | refine w_storeE M _ _ _ _ rfl (by first | exact at0 | exact at1) hx rfl hy rfl (by decide +kernel) (by first | assumption | exact zeroT_len | exact macL_len _ _) (by first | assumption | exact zeroT_len | exact macL_len _ _) ?_ | refine w_storeE (k := 0) (b := 0) (n := 0) (d := []) (tg := zeroT) M _ _ _ _ rfl (by first | exact at0 | exact at1) hx rfl hy rfl (by decide +kernel) zeroT_len (by first | assumption | exact zeroT_len | exact macL_len _ _) ?_ | refine w_storeE (tg := zeroT) M _ _ _ _ rfl (by first | exact at0 | exact at1) hx rfl hy rfl (by decide +kernel) zeroT_len (by first | assumption | exact zeroT_len | exact macL_len _ _) ?_ | refine w_storeTag M _ _ _ _ rfl (by first | exact at0 | exact at1) hx rfl hy (by decide +kernel) (by first | assumption | exact zeroT_len | exact macL_len _ _) (by first | assumption | exact zeroT_len | exact macL_len _ _) ?_ | refine w_storeData M _ _ _ _ rfl (by first | exact at0 | exact at1) hx rfl hy (by decide +kernel) ?_ | refine w_storeNum M _ _ _ _ rfl (by first | exact at0 | exact at1) hx rfl hy (by decide +kernel) ?_); clear hx hy M; intro w1 M; (try simp only [setC] at M); (try conv => arg 5; simp only [Act.put, List.setIfInBounds_toArray, setC])) | ((with_reducible refine tConv _ 45 9 ?_); (first | refine w_stringTag M _ _ _ _ _ rfl rfl (by first | exact at0 | exact at1) rfl (by first | assumption | exact zeroT_len | exact macL_len _ _) Try.underlying45 Try.underlying5 Try.underlying9 ?_); (try conv => arg 5; simp only [Act.put, List.setIfInBounds_toArray, setC])) | ((with_reducible refine tGuard ?_); first | refine w_strip rfl (by with_reducible rfl) ?_ | ((fail_if_success (refine w_lit false rfl (by with_reducible rfl) ?_)); (fail_if_success (refine w_lit true rfl (by with_reducible rfl) ?_)); refine w_case rfl ?_ ?_ <;> (intro hgd; rw [hgd]; try (exfalso; simp at hgd; omega)))) | ((with_reducible refine tConv _ 45 9 ?_); go_must (first | refine w_stringW M _ _ _ _ _ rfl rfl (by first | exact at0 | exact at1 | exact at2) rfl (by first | assumption | exact shaL_len _ | exact macL_len _ _ | exact words_len _ | exact List.length_replicate | (rw [List.length_set]; first | assumption | exact List.length_replicate) | rfl) (by decide) Try.underlying45 Try.underlying5 Try.underlying9 ?_ | refine w_string M _ _ _ _ _ rfl rfl (by first | exact at0 | exact at1 | exact at2) (by first | rfl | (simp; done) | assumption) rfl Try.underlying45 Try.underlying5 Try.underlying9 ?_); (try conv => arg 5; simp only [Act.put, List.setIfInBounds_toArray, setC])) | ((with_reducible refine tLoad ?_); go_must (refine w_at _ _ rfl (by exact ev_tmp rfl) ?_; intro hx; (first | refine w_load M _ _ _ rfl (by first | exact at0 | exact at1 | exact at2) hx rfl (by decide +kernel) (by exact rfl) ?_ | refine w_loadB M _ _ _ rfl (by first | exact at0 | exact at1 | exact at2) hx rfl (by decide +kernel) (by first | assumption | omega | (simp; omega)) ?_ | refine w_loadH M _ _ _ rfl (by first | exact at0 | exact at1 | exact at2) hx rfl (by decide +kernel) (by first | assumption | exact shaL_len _ | exact macL_len _ _ | exact words_len _ | exact List.length_replicate | (rw [List.length_set]; first | assumption | exact List.length_replicate) | rfl) (by decide +kernel) ?_ | refine w_loadR M _ _ _ rfl (by first | exact at0 | exact at1 | exact at2) hx rfl (by decide +kernel) (by kernel_rfl) ?_); clear hx; (try conv => arg 5; simp only [Act.put, List.setIfInBounds_toArray, setC]))) | ((with_reducible refine tStore ?_); go_must (refine w_at2 _ _ _ rfl (by exact ev_tmp rfl) (by first | exact ev_tmp rfl | exact ev_const) ?_; intro hx hy; (first | refine w_storeB M _ _ _ _ rfl (by first | exact at0 | exact at1 | exact at2) hx rfl hy (by decide +kernel) (by first | assumption | omega | (simp; omega)) ?_ | refine w_storeH M _ _ _ _ rfl (by first | exact at0 | exact at1 | exact at2) hx rfl hy (by first | assumption | exact shaL_len _ | exact macL_len _ _ | exact words_len _ | exact List.length_replicate | (rw [List.length_set]; first | assumption | exact List.length_replicate) | rfl) (by decide +kernel) (by first | assumption | exact shaL_len _ | exact macL_len _ _ | exact words_len _ | exact List.length_replicate | (rw [List.length_set]; first | assumption | exact List.length_replicate) | rfl) ?_ | refine w_store M _ _ _ _ rfl (by first | exact at0 | exact at1 | exact at2) hx rfl hy rfl rfl (by decide +kernel) (by first | decide | simp | (simp; omega)) ?_ | refine w_storeR M _ _ _ _ rfl (by first | exact at0 | exact at1 | exact at2) hx rfl _ hy rfl (by kernel_rfl) (by simp [Value.oneCell']) (by first | rfl | assumption) ?_); clear hx hy M; intro w1 M; (try simp only [setC] at M); (try conv => arg 5; simp only [Act.put, List.setIfInBounds_toArray, setC]))) | ((with_reducible refine tBox _ ?_); (refine w_box M _ _ rfl rfl _ rfl _ rfl ?_; clear M; intro g w1 M; (try conv => arg 5; simp only [Act.put, List.setIfInBounds_toArray, setC]))))
  exact bodyPost_ret (results_two rfl _ _ gr 0 (envC 0 0 0 [] zeroT) _ (.int .i64 3) rfl rfl (M.ok 1 _ rfl).2.1 Try.underlying29 rfl (by rw [envC_len, zeroT_len]; kernel_rfl)) rfl ⟨rfl, M.below⟩
set_option maxRecDepth 100000 in
set_option maxHeartbeats 2000000 in
theorem Close_ok (key : List UInt8) (k : Nat) (b : UInt32) (n : UInt64) (about text : List UInt8) (w : World) (hk : key.length = 32) (h : k ≤ 1048576) (hx : text.length ≤ 8192) (ha : about.length ≤ 100000) :
    Calls Try.prog 15 #[.agg (bs key).toArray, .int .i64 k, .int .u32 (I32 b), .int .u64 (I64 n), .string (mkS about), .string (mkS text)] w fun e w' => e = .returned (.tuple #[.agg (envC k b n (sealL key b n text) (tagL key k b n about (sealL key b n text))).toArray, .int .i64 0]) ∧ Below w.heap.size w w' := by
  have M := Mem.start [] w
  have R := fun w => sealRight_c k b n [] zeroT w
  have e1 : rightE (k : Int) [] = true := by unfold rightE; simp; omega
  rw [e1] at R
  clear e1
  have SC := fun w => sealStream_c key k b n [] zeroT text w hk (by omega)
  have hsl : (sealL key b n text).length ≤ 100000 := by unfold sealL; rw [streamL_len]; omega
  have TC := fun w => sealTag_c key k b n (sealL key b n text) zeroT about w hk zeroT_len h ha hsl
  have hr : (tagL key k b n about (sealL key b n text)).length = 32 := macL_len _ _
  obtain ⟨s, es⟩ : ∃ s, s = sealL key b n text := ⟨_, rfl⟩
  rw [← es] at SC TC hr
  rw [← es]
  obtain ⟨t, et⟩ : ∃ t, t = tagL key k b n about s := ⟨_, rfl⟩
  rw [← et] at TC hr
  rw [← et]
  replace R := Lib.hid R
  replace SC := Lib.hid SC
  replace TC := Lib.hid TC
  clear es et hsl
  have hx' : (text.length : Int) ≤ 8192 := by omega
  go_enter Try.func15, Try.ntmps15
  go_wp2_with (first | (go_at_call 37; go_must (refine (SC.out _).mono ?_; rintro e w1 ⟨rfl, hb⟩; replace M := M.call hb; clear hb)) | (go_at_call 38; go_must (refine (TC.out _).mono ?_; rintro e w1 ⟨rfl, hb⟩; replace M := M.call hb; clear hb)) | ((with_reducible refine tBox (some 6) ?_); refine w_box M _ _ rfl rfl _ rfl (bs key) rfl ?_; clear M; intro gk w1 M; (try conv => arg 5; simp only [Act.put, List.setIfInBounds_toArray, setC])) | ((with_reducible refine tAlloc (some 12) 29 ?_); refine w_alloc M _ rfl rfl (.agg (envC 0 0 0 [] zeroT).toArray) (envC 0 0 0 [] zeroT) (by kernel_rfl) rfl ?_; clear M; intro gr w1 M; (try conv => arg 5; simp only [Act.put, List.setIfInBounds_toArray, setC])) | ((with_reducible refine tAlloc (some 14) 29 ?_); refine w_alloc M _ rfl rfl (.agg (envC 0 0 0 [] zeroT).toArray) (envC 0 0 0 [] zeroT) (by kernel_rfl) rfl ?_; clear M; intro gx w1 M; (try conv => arg 5; simp only [Act.put, List.setIfInBounds_toArray, setC])) | (go_at_call 36; go_must (refine (R.out _).mono ?_; rintro e w1 ⟨rfl, hb⟩; replace M := M.call hb; clear hb)) | ((with_reducible refine tLoad ?_); refine w_at _ _ rfl (by exact ev_tmp rfl) ?_; intro hx; (first | refine w_loadE M _ _ _ rfl (by first | exact at0 | exact at1) hx rfl (by decide +kernel) (by decide +kernel) (by first | assumption | exact zeroT_len | exact macL_len _ _) ?_ | refine w_loadTag M _ _ _ rfl (by first | exact at0 | exact at1) hx rfl (by decide +kernel) (by decide +kernel) (by first | assumption | exact zeroT_len | exact macL_len _ _) ?_); clear hx; (try conv => arg 5; simp only [Act.put, List.setIfInBounds_toArray, setC])) | ((with_reducible refine tStore ?_); refine w_at2 _ _ _ rfl (by first | exact ev_tmp rfl | exact ev_const) (by first | exact ev_tmp rfl | exact ev_const) ?_; intro hx hy; (first | refine w_storeE M _ _ _ _ rfl (by first | exact at0 | exact at1) hx rfl hy rfl (by decide +kernel) (by first | assumption | exact zeroT_len | exact macL_len _ _) (by first | assumption | exact zeroT_len | exact macL_len _ _) ?_ | refine w_storeE (k := 0) (b := 0) (n := 0) (d := []) (tg := zeroT) M _ _ _ _ rfl (by first | exact at0 | exact at1) hx rfl hy rfl (by decide +kernel) zeroT_len (by first | assumption | exact zeroT_len | exact macL_len _ _) ?_ | refine w_storeE (tg := zeroT) M _ _ _ _ rfl (by first | exact at0 | exact at1) hx rfl hy rfl (by decide +kernel) zeroT_len (by first | assumption | exact zeroT_len | exact macL_len _ _) ?_ | refine w_storeTag M _ _ _ _ rfl (by first | exact at0 | exact at1) hx rfl hy (by decide +kernel) (by first | assumption | exact zeroT_len | exact macL_len _ _) (by first | assumption | exact zeroT_len | exact macL_len _ _) ?_ | refine w_storeData M _ _ _ _ rfl (by first | exact at0 | exact at1) hx rfl hy (by decide +kernel) ?_ | refine w_storeNum M _ _ _ _ rfl (by first | exact at0 | exact at1) hx rfl hy (by decide +kernel) ?_); clear hx hy M; intro w1 M; (try simp only [setC] at M); (try conv => arg 5; simp only [Act.put, List.setIfInBounds_toArray, setC])) | ((with_reducible refine tConv _ 45 9 ?_); (first | refine w_stringTag M _ _ _ _ _ rfl rfl (by first | exact at0 | exact at1) rfl (by first | assumption | exact zeroT_len | exact macL_len _ _) Try.underlying45 Try.underlying5 Try.underlying9 ?_); (try conv => arg 5; simp only [Act.put, List.setIfInBounds_toArray, setC])) | ((with_reducible refine tGuard ?_); first | refine w_strip rfl (by with_reducible rfl) ?_ | ((fail_if_success (refine w_lit false rfl (by with_reducible rfl) ?_)); (fail_if_success (refine w_lit true rfl (by with_reducible rfl) ?_)); refine w_case rfl ?_ ?_ <;> (intro hgd; rw [hgd]; try (exfalso; simp at hgd; omega)))) | ((with_reducible refine tConv _ 45 9 ?_); go_must (first | refine w_stringW M _ _ _ _ _ rfl rfl (by first | exact at0 | exact at1 | exact at2) rfl (by first | assumption | exact shaL_len _ | exact macL_len _ _ | exact words_len _ | exact List.length_replicate | (rw [List.length_set]; first | assumption | exact List.length_replicate) | rfl) (by decide) Try.underlying45 Try.underlying5 Try.underlying9 ?_ | refine w_string M _ _ _ _ _ rfl rfl (by first | exact at0 | exact at1 | exact at2) (by first | rfl | (simp; done) | assumption) rfl Try.underlying45 Try.underlying5 Try.underlying9 ?_); (try conv => arg 5; simp only [Act.put, List.setIfInBounds_toArray, setC])) | ((with_reducible refine tLoad ?_); go_must (refine w_at _ _ rfl (by exact ev_tmp rfl) ?_; intro hx; (first | refine w_load M _ _ _ rfl (by first | exact at0 | exact at1 | exact at2) hx rfl (by decide +kernel) (by exact rfl) ?_ | refine w_loadB M _ _ _ rfl (by first | exact at0 | exact at1 | exact at2) hx rfl (by decide +kernel) (by first | assumption | omega | (simp; omega)) ?_ | refine w_loadH M _ _ _ rfl (by first | exact at0 | exact at1 | exact at2) hx rfl (by decide +kernel) (by first | assumption | exact shaL_len _ | exact macL_len _ _ | exact words_len _ | exact List.length_replicate | (rw [List.length_set]; first | assumption | exact List.length_replicate) | rfl) (by decide +kernel) ?_ | refine w_loadR M _ _ _ rfl (by first | exact at0 | exact at1 | exact at2) hx rfl (by decide +kernel) (by kernel_rfl) ?_); clear hx; (try conv => arg 5; simp only [Act.put, List.setIfInBounds_toArray, setC]))) | ((with_reducible refine tStore ?_); go_must (refine w_at2 _ _ _ rfl (by exact ev_tmp rfl) (by first | exact ev_tmp rfl | exact ev_const) ?_; intro hx hy; (first | refine w_storeB M _ _ _ _ rfl (by first | exact at0 | exact at1 | exact at2) hx rfl hy (by decide +kernel) (by first | assumption | omega | (simp; omega)) ?_ | refine w_storeH M _ _ _ _ rfl (by first | exact at0 | exact at1 | exact at2) hx rfl hy (by first | assumption | exact shaL_len _ | exact macL_len _ _ | exact words_len _ | exact List.length_replicate | (rw [List.length_set]; first | assumption | exact List.length_replicate) | rfl) (by decide +kernel) (by first | assumption | exact shaL_len _ | exact macL_len _ _ | exact words_len _ | exact List.length_replicate | (rw [List.length_set]; first | assumption | exact List.length_replicate) | rfl) ?_ | refine w_store M _ _ _ _ rfl (by first | exact at0 | exact at1 | exact at2) hx rfl hy rfl rfl (by decide +kernel) (by first | decide | simp | (simp; omega)) ?_ | refine w_storeR M _ _ _ _ rfl (by first | exact at0 | exact at1 | exact at2) hx rfl _ hy rfl (by kernel_rfl) (by simp [Value.oneCell']) (by first | rfl | assumption) ?_); clear hx hy M; intro w1 M; (try simp only [setC] at M); (try conv => arg 5; simp only [Act.put, List.setIfInBounds_toArray, setC]))) | ((with_reducible refine tBox _ ?_); (refine w_box M _ _ rfl rfl _ rfl _ rfl ?_; clear M; intro g w1 M; (try conv => arg 5; simp only [Act.put, List.setIfInBounds_toArray, setC]))))
  exact bodyPost_ret (results_two rfl _ _ gr 0 (envC k b n s t) _ (.int .i64 0) rfl rfl (M.ok 1 _ rfl).2.1 Try.underlying29 rfl (by rw [envC_len, hr]; kernel_rfl)) rfl ⟨rfl, M.below⟩
set_option maxRecDepth 100000 in
set_option maxHeartbeats 2000000 in
theorem Open_no (key : List UInt8) (k : Int) (b : UInt32) (n : UInt64) (d t about : List UInt8) (w : World) (ht : t.length = 32) (h : rightE k d = false) :
    Calls Try.prog 16 #[.agg (bs key).toArray, .agg (envC k b n d t).toArray, .string (mkS about)] w fun e w' => e = .returned (.tuple #[.string (mkS []), .int .i64 1]) ∧ Below w.heap.size w w' := by
  have M := Mem.start [] w
  have R := fun w => sealRight_c k b n d t w
  rw [h] at R
  replace R := Lib.hid R
  clear h
  go_enter Try.func16, Try.ntmps16
  go_wp2_with (first | ((with_reducible refine tBox (some 3) ?_); refine w_box M _ _ rfl rfl _ rfl (bs key) rfl ?_; clear M; intro gk w1 M; (try conv => arg 5; simp only [Act.put, List.setIfInBounds_toArray, setC])) | ((with_reducible refine tBox (some 4) ?_); refine w_box M _ _ rfl rfl _ rfl (envC k b n d t) rfl ?_; clear M; intro gx w1 M; (try conv => arg 5; simp only [Act.put, List.setIfInBounds_toArray, setC])) | (go_at_call 36; go_must (refine (R.out _).mono ?_; rintro e w1 ⟨rfl, hb⟩; replace M := M.call hb; clear hb)) | ((with_reducible refine tLoad ?_); refine w_at _ _ rfl (by exact ev_tmp rfl) ?_; intro hx; (first | refine w_loadE M _ _ _ rfl (by first | exact at0) hx rfl (by decide +kernel) (by decide +kernel) (by first | assumption | exact zeroT_len | exact macL_len _ _) ?_ | refine w_loadTag M _ _ _ rfl (by first | exact at0) hx rfl (by decide +kernel) (by decide +kernel) (by first | assumption | exact zeroT_len | exact macL_len _ _) ?_); clear hx; (try conv => arg 5; simp only [Act.put, List.setIfInBounds_toArray, setC])) | ((with_reducible refine tStore ?_); refine w_at2 _ _ _ rfl (by first | exact ev_tmp rfl | exact ev_const) (by first | exact ev_tmp rfl | exact ev_const) ?_; intro hx hy; (first | refine w_storeE M _ _ _ _ rfl (by first | exact at0) hx rfl hy rfl (by decide +kernel) (by first | assumption | exact zeroT_len | exact macL_len _ _) (by first | assumption | exact zeroT_len | exact macL_len _ _) ?_ | refine w_storeE (k := 0) (b := 0) (n := 0) (d := []) (tg := zeroT) M _ _ _ _ rfl (by first | exact at0) hx rfl hy rfl (by decide +kernel) zeroT_len (by first | assumption | exact zeroT_len | exact macL_len _ _) ?_ | refine w_storeE (tg := zeroT) M _ _ _ _ rfl (by first | exact at0) hx rfl hy rfl (by decide +kernel) zeroT_len (by first | assumption | exact zeroT_len | exact macL_len _ _) ?_ | refine w_storeTag M _ _ _ _ rfl (by first | exact at0) hx rfl hy (by decide +kernel) (by first | assumption | exact zeroT_len | exact macL_len _ _) (by first | assumption | exact zeroT_len | exact macL_len _ _) ?_ | refine w_storeData M _ _ _ _ rfl (by first | exact at0) hx rfl hy (by decide +kernel) ?_ | refine w_storeNum M _ _ _ _ rfl (by first | exact at0) hx rfl hy (by decide +kernel) ?_); clear hx hy M; intro w1 M; (try simp only [setC] at M); (try conv => arg 5; simp only [Act.put, List.setIfInBounds_toArray, setC])) | ((with_reducible refine tConv _ 45 9 ?_); (first | refine w_stringTag M _ _ _ _ _ rfl rfl (by first | exact at0) rfl (by first | assumption | exact zeroT_len | exact macL_len _ _) Try.underlying45 Try.underlying5 Try.underlying9 ?_); (try conv => arg 5; simp only [Act.put, List.setIfInBounds_toArray, setC])) | ((with_reducible refine tGuard ?_); first | refine w_strip rfl (by with_reducible rfl) ?_ | ((fail_if_success (refine w_lit false rfl (by with_reducible rfl) ?_)); (fail_if_success (refine w_lit true rfl (by with_reducible rfl) ?_)); refine w_case rfl ?_ ?_ <;> (intro hgd; rw [hgd]; try (exfalso; simp at hgd; omega)))) | ((with_reducible refine tConv _ 45 9 ?_); go_must (first | refine w_stringW M _ _ _ _ _ rfl rfl (by first | exact at0 | exact at1) rfl (by first | assumption | exact shaL_len _ | exact macL_len _ _ | exact words_len _ | exact List.length_replicate | (rw [List.length_set]; first | assumption | exact List.length_replicate) | rfl) (by decide) Try.underlying45 Try.underlying5 Try.underlying9 ?_ | refine w_string M _ _ _ _ _ rfl rfl (by first | exact at0 | exact at1) (by first | rfl | (simp; done) | assumption) rfl Try.underlying45 Try.underlying5 Try.underlying9 ?_); (try conv => arg 5; simp only [Act.put, List.setIfInBounds_toArray, setC])) | ((with_reducible refine tLoad ?_); go_must (refine w_at _ _ rfl (by exact ev_tmp rfl) ?_; intro hx; (first | refine w_load M _ _ _ rfl (by first | exact at0 | exact at1) hx rfl (by decide +kernel) (by exact rfl) ?_ | refine w_loadB M _ _ _ rfl (by first | exact at0 | exact at1) hx rfl (by decide +kernel) (by first | assumption | omega | (simp; omega)) ?_ | refine w_loadH M _ _ _ rfl (by first | exact at0 | exact at1) hx rfl (by decide +kernel) (by first | assumption | exact shaL_len _ | exact macL_len _ _ | exact words_len _ | exact List.length_replicate | (rw [List.length_set]; first | assumption | exact List.length_replicate) | rfl) (by decide +kernel) ?_ | refine w_loadR M _ _ _ rfl (by first | exact at0 | exact at1) hx rfl (by decide +kernel) (by kernel_rfl) ?_); clear hx; (try conv => arg 5; simp only [Act.put, List.setIfInBounds_toArray, setC]))) | ((with_reducible refine tStore ?_); go_must (refine w_at2 _ _ _ rfl (by exact ev_tmp rfl) (by first | exact ev_tmp rfl | exact ev_const) ?_; intro hx hy; (first | refine w_storeB M _ _ _ _ rfl (by first | exact at0 | exact at1) hx rfl hy (by decide +kernel) (by first | assumption | omega | (simp; omega)) ?_ | refine w_storeH M _ _ _ _ rfl (by first | exact at0 | exact at1) hx rfl hy (by first | assumption | exact shaL_len _ | exact macL_len _ _ | exact words_len _ | exact List.length_replicate | (rw [List.length_set]; first | assumption | exact List.length_replicate) | rfl) (by decide +kernel) (by first | assumption | exact shaL_len _ | exact macL_len _ _ | exact words_len _ | exact List.length_replicate | (rw [List.length_set]; first | assumption | exact List.length_replicate) | rfl) ?_ | refine w_store M _ _ _ _ rfl (by first | exact at0 | exact at1) hx rfl hy rfl rfl (by decide +kernel) (by first | decide | simp | (simp; omega)) ?_ | refine w_storeR M _ _ _ _ rfl (by first | exact at0 | exact at1) hx rfl _ hy rfl (by kernel_rfl) (by simp [Value.oneCell']) (by first | rfl | assumption) ?_); clear hx hy M; intro w1 M; (try simp only [setC] at M); (try conv => arg 5; simp only [Act.put, List.setIfInBounds_toArray, setC]))) | ((with_reducible refine tBox _ ?_); (refine w_box M _ _ rfl rfl _ rfl _ rfl ?_; clear M; intro g w1 M; (try conv => arg 5; simp only [Act.put, List.setIfInBounds_toArray, setC]))))
  go_ret2
  exact ⟨rfl, M.below⟩
set_option maxRecDepth 100000 in
set_option maxHeartbeats 2000000 in
theorem Open_mac (key : List UInt8) (k : Nat) (b : UInt32) (n : UInt64) (d t about : List UInt8) (w : World) (hk : key.length = 32) (ht : t.length = 32) (h : rightE k d = true) (ha : about.length ≤ 100000) (hne : t ≠ tagL key k b n about d) :
    Calls Try.prog 16 #[.agg (bs key).toArray, .agg (envC k b n d t).toArray, .string (mkS about)] w fun e w' => e = .returned (.tuple #[.string (mkS []), .int .i64 13]) ∧ Below w.heap.size w w' := by
  have M := Mem.start [] w
  have R := fun w => sealRight_c k b n d t w
  obtain ⟨_, hkk, hdd⟩ := rightE_k h
  have TC := fun w => sealTag_c key k b n d t about w hk ht (by omega) ha (by omega)
  have hr : (tagL key k b n about d).length = 32 := macL_len _ _
  obtain ⟨u, eu⟩ : ∃ u, u = tagL key k b n about d := ⟨_, rfl⟩
  rw [← eu] at TC hr hne
  have EC := fun w => Equal_c t u ht hr w
  rw [beq_eq_false_iff_ne.2 hne] at EC
  rw [h] at R
  replace R := Lib.hid R
  replace TC := Lib.hid TC
  replace EC := Lib.hid EC
  clear h eu hne
  go_enter Try.func16, Try.ntmps16
  go_wp2_with (first | ((with_reducible refine tBox (some 3) ?_); refine w_box M _ _ rfl rfl _ rfl (bs key) rfl ?_; clear M; intro gk w1 M; (try conv => arg 5; simp only [Act.put, List.setIfInBounds_toArray, setC])) | ((with_reducible refine tBox (some 4) ?_); refine w_box M _ _ rfl rfl _ rfl (envC k b n d t) rfl ?_; clear M; intro gx w1 M; (try conv => arg 5; simp only [Act.put, List.setIfInBounds_toArray, setC])) | (go_at_call 36; go_must (refine (R.out _).mono ?_; rintro e w1 ⟨rfl, hb⟩; replace M := M.call hb; clear hb)) | (go_at_call 38; go_must (refine (TC.out _).mono ?_; rintro e w1 ⟨rfl, hb⟩; replace M := M.call hb; clear hb)) | (go_at_call 39; go_must (refine (EC.out _).mono ?_; rintro e w1 ⟨rfl, hb⟩; replace M := M.call hb; clear hb)) | ((with_reducible show Code.wp _ (Code.region 3 _ _) _ _ _); go_must (have MR := M; refine region_lowc [(0, false), (4, false), (1, false), (2, false), (3, false), (5, true), (6, true), (7, false), (8, false)] [] [(1, _), (2, _), (3, _)] (IxOk MR [0, 1]) 9 (by kernel_rfl) (by kernel_rfl) rfl (by kernel_rfl) (lows_cons (stab_tag MR 0 rfl rfl (by decide) (by decide +kernel) (by decide +kernel) (by first | assumption | exact zeroT_len)) (lows_cons (by first | exact stab_ix MR 1 0 rfl rfl (by decide) (by decide +kernel) rfl | exact stab_ixB MR 1 0 rfl rfl (by decide) (by decide +kernel) (by first | assumption | omega) | exact stab_ix32 MR 1 0 rfl rfl (by decide) (by decide +kernel) (by first | assumption | omega | (simp; omega)) | exact stab_ixH MR 1 rfl rfl (by decide) (by decide +kernel) (by first | assumption | exact shaL_len _ | exact macL_len _ _ | exact words_len _ | exact List.length_replicate | (rw [List.length_set]; first | assumption | exact List.length_replicate) | rfl) (by decide +kernel) | exact stab_ixW32 MR 1 rfl rfl (by decide) (by decide +kernel) (by first | assumption | exact shaL_len _ | exact macL_len _ _ | exact words_len _ | exact List.length_replicate | (rw [List.length_set]; first | assumption | exact List.length_replicate) | rfl) (by decide +kernel) | exact stab_ixR MR 1 rfl rfl (by decide) (by decide +kernel) (by kernel_rfl) | exact stab_ixW MR 1 rfl rfl (by decide) (by first | assumption | exact shaL_len _ | exact macL_len _ _ | exact words_len _ | exact List.length_replicate | (rw [List.length_set]; first | assumption | exact List.length_replicate) | rfl) (by decide) Try.underlying45 Try.underlying5 Try.underlying9 | exact stab_ixS MR 1 rfl rfl (by decide) (by first | rfl | simp | assumption) Try.underlying45 Try.underlying5 Try.underlying9) (lows_cons (stab_env MR 0 rfl rfl (by decide) (by decide +kernel) (by decide +kernel) (by first | assumption | exact zeroT_len)) lows_nil))) (ixOk_self MR _) ?_; replace M := M.drew; simp only [planC, opAt, List.getElem?_toArray, List.getElem?_cons_zero, List.getElem?_cons_succ, Option.getD_some])) | ((with_reducible refine tLoad ?_); refine w_at _ _ rfl (by exact ev_tmp rfl) ?_; intro hx; (first | refine w_loadE M _ _ _ rfl (by first | exact at0) hx rfl (by decide +kernel) (by decide +kernel) (by first | assumption | exact zeroT_len | exact macL_len _ _) ?_ | refine w_loadTag M _ _ _ rfl (by first | exact at0) hx rfl (by decide +kernel) (by decide +kernel) (by first | assumption | exact zeroT_len | exact macL_len _ _) ?_); clear hx; (try conv => arg 5; simp only [Act.put, List.setIfInBounds_toArray, setC])) | ((with_reducible refine tStore ?_); refine w_at2 _ _ _ rfl (by first | exact ev_tmp rfl | exact ev_const) (by first | exact ev_tmp rfl | exact ev_const) ?_; intro hx hy; (first | refine w_storeE M _ _ _ _ rfl (by first | exact at0) hx rfl hy rfl (by decide +kernel) (by first | assumption | exact zeroT_len | exact macL_len _ _) (by first | assumption | exact zeroT_len | exact macL_len _ _) ?_ | refine w_storeE (k := 0) (b := 0) (n := 0) (d := []) (tg := zeroT) M _ _ _ _ rfl (by first | exact at0) hx rfl hy rfl (by decide +kernel) zeroT_len (by first | assumption | exact zeroT_len | exact macL_len _ _) ?_ | refine w_storeE (tg := zeroT) M _ _ _ _ rfl (by first | exact at0) hx rfl hy rfl (by decide +kernel) zeroT_len (by first | assumption | exact zeroT_len | exact macL_len _ _) ?_ | refine w_storeTag M _ _ _ _ rfl (by first | exact at0) hx rfl hy (by decide +kernel) (by first | assumption | exact zeroT_len | exact macL_len _ _) (by first | assumption | exact zeroT_len | exact macL_len _ _) ?_ | refine w_storeData M _ _ _ _ rfl (by first | exact at0) hx rfl hy (by decide +kernel) ?_ | refine w_storeNum M _ _ _ _ rfl (by first | exact at0) hx rfl hy (by decide +kernel) ?_); clear hx hy M; intro w1 M; (try simp only [setC] at M); (try conv => arg 5; simp only [Act.put, List.setIfInBounds_toArray, setC])) | ((with_reducible refine tConv _ 45 9 ?_); (first | refine w_stringTag M _ _ _ _ _ rfl rfl (by first | exact at0) rfl (by first | assumption | exact zeroT_len | exact macL_len _ _) Try.underlying45 Try.underlying5 Try.underlying9 ?_); (try conv => arg 5; simp only [Act.put, List.setIfInBounds_toArray, setC])) | ((with_reducible show Seg _ _ _ _); go_must (first | refine Seg.intro ⟨fun h => absurd rfl h, ?_⟩ | refine Seg.intro ⟨fun _ => (by repeat' (first | exact ixOk_nil M.kept | refine ixOk_cons rfl (by first | exact M.ok 0 _ rfl | exact M.ok 1 _ rfl | exact M.ok 2 _ rfl | exact M.ok 3 _ rfl) ?_)), ?_⟩ | refine Seg.intro ⟨(by repeat' (first | (with_reducible exact needs_nil) | refine needs_at rfl (by first | (show Shape.ok Shape.nums _ = true; exact nums_bs _) | rfl) ?_)), (by repeat' (first | (with_reducible exact ats_nil) | refine ats_cons (by first | exact ev_tmp rfl | rfl) ?_)), ?_⟩)) | ((with_reducible show OnlyN _ _ _ _ _); refine OnlyN.intro (by kernel_rfl) ?_) | ((with_reducible refine tGuard ?_); first | refine w_strip rfl (by with_reducible rfl) ?_ | ((fail_if_success (refine w_lit false rfl (by with_reducible rfl) ?_)); (fail_if_success (refine w_lit true rfl (by with_reducible rfl) ?_)); refine w_case rfl ?_ ?_ <;> (intro hgd; rw [hgd]; try (exfalso; simp at hgd; omega)))) | ((with_reducible refine tConv _ 45 9 ?_); go_must (first | refine w_stringW M _ _ _ _ _ rfl rfl (by first | exact at0 | exact at1) rfl (by first | assumption | exact shaL_len _ | exact macL_len _ _ | exact words_len _ | exact List.length_replicate | (rw [List.length_set]; first | assumption | exact List.length_replicate) | rfl) (by decide) Try.underlying45 Try.underlying5 Try.underlying9 ?_ | refine w_string M _ _ _ _ _ rfl rfl (by first | exact at0 | exact at1) (by first | rfl | (simp; done) | assumption) rfl Try.underlying45 Try.underlying5 Try.underlying9 ?_); (try conv => arg 5; simp only [Act.put, List.setIfInBounds_toArray, setC])) | ((with_reducible refine tLoad ?_); go_must (refine w_at _ _ rfl (by exact ev_tmp rfl) ?_; intro hx; (first | refine w_load M _ _ _ rfl (by first | exact at0 | exact at1) hx rfl (by decide +kernel) (by exact rfl) ?_ | refine w_loadB M _ _ _ rfl (by first | exact at0 | exact at1) hx rfl (by decide +kernel) (by first | assumption | omega | (simp; omega)) ?_ | refine w_loadH M _ _ _ rfl (by first | exact at0 | exact at1) hx rfl (by decide +kernel) (by first | assumption | exact shaL_len _ | exact macL_len _ _ | exact words_len _ | exact List.length_replicate | (rw [List.length_set]; first | assumption | exact List.length_replicate) | rfl) (by decide +kernel) ?_ | refine w_loadR M _ _ _ rfl (by first | exact at0 | exact at1) hx rfl (by decide +kernel) (by kernel_rfl) ?_); clear hx; (try conv => arg 5; simp only [Act.put, List.setIfInBounds_toArray, setC]))) | ((with_reducible refine tStore ?_); go_must (refine w_at2 _ _ _ rfl (by exact ev_tmp rfl) (by first | exact ev_tmp rfl | exact ev_const) ?_; intro hx hy; (first | refine w_storeB M _ _ _ _ rfl (by first | exact at0 | exact at1) hx rfl hy (by decide +kernel) (by first | assumption | omega | (simp; omega)) ?_ | refine w_storeH M _ _ _ _ rfl (by first | exact at0 | exact at1) hx rfl hy (by first | assumption | exact shaL_len _ | exact macL_len _ _ | exact words_len _ | exact List.length_replicate | (rw [List.length_set]; first | assumption | exact List.length_replicate) | rfl) (by decide +kernel) (by first | assumption | exact shaL_len _ | exact macL_len _ _ | exact words_len _ | exact List.length_replicate | (rw [List.length_set]; first | assumption | exact List.length_replicate) | rfl) ?_ | refine w_store M _ _ _ _ rfl (by first | exact at0 | exact at1) hx rfl hy rfl rfl (by decide +kernel) (by first | decide | simp | (simp; omega)) ?_ | refine w_storeR M _ _ _ _ rfl (by first | exact at0 | exact at1) hx rfl _ hy rfl (by kernel_rfl) (by simp [Value.oneCell']) (by first | rfl | assumption) ?_); clear hx hy M; intro w1 M; (try simp only [setC] at M); (try conv => arg 5; simp only [Act.put, List.setIfInBounds_toArray, setC]))) | ((with_reducible refine tBox _ ?_); (refine w_box M _ _ rfl rfl _ rfl _ rfl ?_; clear M; intro g w1 M; (try conv => arg 5; simp only [Act.put, List.setIfInBounds_toArray, setC]))))
  go_ret2
  exact ⟨rfl, M.below⟩
set_option maxRecDepth 100000 in
set_option maxHeartbeats 2000000 in
theorem Open_ok (key : List UInt8) (k : Nat) (b : UInt32) (n : UInt64) (d about : List UInt8) (w : World) (hk : key.length = 32) (h : rightE k d = true) (ha : about.length ≤ 100000) :
    Calls Try.prog 16 #[.agg (bs key).toArray, .agg (envC k b n d (tagL key k b n about d)).toArray, .string (mkS about)] w fun e w' => e = .returned (.tuple #[.string (mkS (sealL key b n d)), .int .i64 0]) ∧ Below w.heap.size w w' := by
  have M := Mem.start [] w
  obtain ⟨_, hkk, hdd⟩ := rightE_k h
  have ht : (tagL key k b n about d).length = 32 := macL_len _ _
  have TC := fun w => sealTag_c key k b n d (tagL key k b n about d) about w hk ht (by omega) ha (by omega)
  obtain ⟨t, et⟩ : ∃ t, t = tagL key k b n about d := ⟨_, rfl⟩
  rw [← et] at TC ht
  rw [← et]
  have R := fun w => sealRight_c k b n d t w
  have EC := fun w => Equal_c t t ht ht w
  rw [beq_self_eq_true] at EC
  rw [h] at R
  have SC := fun w => sealStream_c key k b n d t d w hk (by omega)
  obtain ⟨s, es⟩ : ∃ s, s = sealL key b n d := ⟨_, rfl⟩
  rw [← es] at SC
  rw [← es]
  replace R := Lib.hid R
  replace TC := Lib.hid TC
  replace EC := Lib.hid EC
  replace SC := Lib.hid SC
  clear h et es
  go_enter Try.func16, Try.ntmps16
  go_wp2_with (first | ((with_reducible refine tBox (some 3) ?_); refine w_box M _ _ rfl rfl _ rfl (bs key) rfl ?_; clear M; intro gk w1 M; (try conv => arg 5; simp only [Act.put, List.setIfInBounds_toArray, setC])) | ((with_reducible refine tBox (some 4) ?_); refine w_box M _ _ rfl rfl _ rfl (envC k b n d t) rfl ?_; clear M; intro gx w1 M; (try conv => arg 5; simp only [Act.put, List.setIfInBounds_toArray, setC])) | (go_at_call 36; go_must (refine (R.out _).mono ?_; rintro e w1 ⟨rfl, hb⟩; replace M := M.call hb; clear hb)) | (go_at_call 38; go_must (refine (TC.out _).mono ?_; rintro e w1 ⟨rfl, hb⟩; replace M := M.call hb; clear hb)) | (go_at_call 37; go_must (refine (SC.out _).mono ?_; rintro e w1 ⟨rfl, hb⟩; replace M := M.call hb; clear hb)) | (go_at_call 39; go_must (refine (EC.out _).mono ?_; rintro e w1 ⟨rfl, hb⟩; replace M := M.call hb; clear hb)) | ((with_reducible show Code.wp _ (Code.region 3 _ _) _ _ _); go_must (have MR := M; refine region_lowc [(0, false), (4, false), (1, false), (2, false), (3, false), (5, true), (6, true), (7, false), (8, false)] [] [(1, _), (2, _), (3, _)] (IxOk MR [0, 1]) 9 (by kernel_rfl) (by kernel_rfl) rfl (by kernel_rfl) (lows_cons (stab_tag MR 0 rfl rfl (by decide) (by decide +kernel) (by decide +kernel) (by first | assumption | exact zeroT_len)) (lows_cons (by first | exact stab_ix MR 1 0 rfl rfl (by decide) (by decide +kernel) rfl | exact stab_ixB MR 1 0 rfl rfl (by decide) (by decide +kernel) (by first | assumption | omega) | exact stab_ix32 MR 1 0 rfl rfl (by decide) (by decide +kernel) (by first | assumption | omega | (simp; omega)) | exact stab_ixH MR 1 rfl rfl (by decide) (by decide +kernel) (by first | assumption | exact shaL_len _ | exact macL_len _ _ | exact words_len _ | exact List.length_replicate | (rw [List.length_set]; first | assumption | exact List.length_replicate) | rfl) (by decide +kernel) | exact stab_ixW32 MR 1 rfl rfl (by decide) (by decide +kernel) (by first | assumption | exact shaL_len _ | exact macL_len _ _ | exact words_len _ | exact List.length_replicate | (rw [List.length_set]; first | assumption | exact List.length_replicate) | rfl) (by decide +kernel) | exact stab_ixR MR 1 rfl rfl (by decide) (by decide +kernel) (by kernel_rfl) | exact stab_ixW MR 1 rfl rfl (by decide) (by first | assumption | exact shaL_len _ | exact macL_len _ _ | exact words_len _ | exact List.length_replicate | (rw [List.length_set]; first | assumption | exact List.length_replicate) | rfl) (by decide) Try.underlying45 Try.underlying5 Try.underlying9 | exact stab_ixS MR 1 rfl rfl (by decide) (by first | rfl | simp | assumption) Try.underlying45 Try.underlying5 Try.underlying9) (lows_cons (stab_env MR 0 rfl rfl (by decide) (by decide +kernel) (by decide +kernel) (by first | assumption | exact zeroT_len)) lows_nil))) (ixOk_self MR _) ?_; replace M := M.drew; simp only [planC, opAt, List.getElem?_toArray, List.getElem?_cons_zero, List.getElem?_cons_succ, Option.getD_some])) | ((with_reducible refine tLoad ?_); refine w_at _ _ rfl (by exact ev_tmp rfl) ?_; intro hx; (first | refine w_loadE M _ _ _ rfl (by first | exact at0) hx rfl (by decide +kernel) (by decide +kernel) (by first | assumption | exact zeroT_len | exact macL_len _ _) ?_ | refine w_loadTag M _ _ _ rfl (by first | exact at0) hx rfl (by decide +kernel) (by decide +kernel) (by first | assumption | exact zeroT_len | exact macL_len _ _) ?_); clear hx; (try conv => arg 5; simp only [Act.put, List.setIfInBounds_toArray, setC])) | ((with_reducible refine tStore ?_); refine w_at2 _ _ _ rfl (by first | exact ev_tmp rfl | exact ev_const) (by first | exact ev_tmp rfl | exact ev_const) ?_; intro hx hy; (first | refine w_storeE M _ _ _ _ rfl (by first | exact at0) hx rfl hy rfl (by decide +kernel) (by first | assumption | exact zeroT_len | exact macL_len _ _) (by first | assumption | exact zeroT_len | exact macL_len _ _) ?_ | refine w_storeE (k := 0) (b := 0) (n := 0) (d := []) (tg := zeroT) M _ _ _ _ rfl (by first | exact at0) hx rfl hy rfl (by decide +kernel) zeroT_len (by first | assumption | exact zeroT_len | exact macL_len _ _) ?_ | refine w_storeE (tg := zeroT) M _ _ _ _ rfl (by first | exact at0) hx rfl hy rfl (by decide +kernel) zeroT_len (by first | assumption | exact zeroT_len | exact macL_len _ _) ?_ | refine w_storeTag M _ _ _ _ rfl (by first | exact at0) hx rfl hy (by decide +kernel) (by first | assumption | exact zeroT_len | exact macL_len _ _) (by first | assumption | exact zeroT_len | exact macL_len _ _) ?_ | refine w_storeData M _ _ _ _ rfl (by first | exact at0) hx rfl hy (by decide +kernel) ?_ | refine w_storeNum M _ _ _ _ rfl (by first | exact at0) hx rfl hy (by decide +kernel) ?_); clear hx hy M; intro w1 M; (try simp only [setC] at M); (try conv => arg 5; simp only [Act.put, List.setIfInBounds_toArray, setC])) | ((with_reducible refine tConv _ 45 9 ?_); (first | refine w_stringTag M _ _ _ _ _ rfl rfl (by first | exact at0) rfl (by first | assumption | exact zeroT_len | exact macL_len _ _) Try.underlying45 Try.underlying5 Try.underlying9 ?_); (try conv => arg 5; simp only [Act.put, List.setIfInBounds_toArray, setC])) | ((with_reducible show Seg _ _ _ _); go_must (first | refine Seg.intro ⟨fun h => absurd rfl h, ?_⟩ | refine Seg.intro ⟨fun _ => (by repeat' (first | exact ixOk_nil M.kept | refine ixOk_cons rfl (by first | exact M.ok 0 _ rfl | exact M.ok 1 _ rfl | exact M.ok 2 _ rfl | exact M.ok 3 _ rfl) ?_)), ?_⟩ | refine Seg.intro ⟨(by repeat' (first | (with_reducible exact needs_nil) | refine needs_at rfl (by first | (show Shape.ok Shape.nums _ = true; exact nums_bs _) | rfl) ?_)), (by repeat' (first | (with_reducible exact ats_nil) | refine ats_cons (by first | exact ev_tmp rfl | rfl) ?_)), ?_⟩)) | ((with_reducible show OnlyN _ _ _ _ _); refine OnlyN.intro (by kernel_rfl) ?_) | ((with_reducible refine tGuard ?_); first | refine w_strip rfl (by with_reducible rfl) ?_ | ((fail_if_success (refine w_lit false rfl (by with_reducible rfl) ?_)); (fail_if_success (refine w_lit true rfl (by with_reducible rfl) ?_)); refine w_case rfl ?_ ?_ <;> (intro hgd; rw [hgd]; try (exfalso; simp at hgd; omega)))) | ((with_reducible refine tConv _ 45 9 ?_); go_must (first | refine w_stringW M _ _ _ _ _ rfl rfl (by first | exact at0 | exact at1) rfl (by first | assumption | exact shaL_len _ | exact macL_len _ _ | exact words_len _ | exact List.length_replicate | (rw [List.length_set]; first | assumption | exact List.length_replicate) | rfl) (by decide) Try.underlying45 Try.underlying5 Try.underlying9 ?_ | refine w_string M _ _ _ _ _ rfl rfl (by first | exact at0 | exact at1) (by first | rfl | (simp; done) | assumption) rfl Try.underlying45 Try.underlying5 Try.underlying9 ?_); (try conv => arg 5; simp only [Act.put, List.setIfInBounds_toArray, setC])) | ((with_reducible refine tLoad ?_); go_must (refine w_at _ _ rfl (by exact ev_tmp rfl) ?_; intro hx; (first | refine w_load M _ _ _ rfl (by first | exact at0 | exact at1) hx rfl (by decide +kernel) (by exact rfl) ?_ | refine w_loadB M _ _ _ rfl (by first | exact at0 | exact at1) hx rfl (by decide +kernel) (by first | assumption | omega | (simp; omega)) ?_ | refine w_loadH M _ _ _ rfl (by first | exact at0 | exact at1) hx rfl (by decide +kernel) (by first | assumption | exact shaL_len _ | exact macL_len _ _ | exact words_len _ | exact List.length_replicate | (rw [List.length_set]; first | assumption | exact List.length_replicate) | rfl) (by decide +kernel) ?_ | refine w_loadR M _ _ _ rfl (by first | exact at0 | exact at1) hx rfl (by decide +kernel) (by kernel_rfl) ?_); clear hx; (try conv => arg 5; simp only [Act.put, List.setIfInBounds_toArray, setC]))) | ((with_reducible refine tStore ?_); go_must (refine w_at2 _ _ _ rfl (by exact ev_tmp rfl) (by first | exact ev_tmp rfl | exact ev_const) ?_; intro hx hy; (first | refine w_storeB M _ _ _ _ rfl (by first | exact at0 | exact at1) hx rfl hy (by decide +kernel) (by first | assumption | omega | (simp; omega)) ?_ | refine w_storeH M _ _ _ _ rfl (by first | exact at0 | exact at1) hx rfl hy (by first | assumption | exact shaL_len _ | exact macL_len _ _ | exact words_len _ | exact List.length_replicate | (rw [List.length_set]; first | assumption | exact List.length_replicate) | rfl) (by decide +kernel) (by first | assumption | exact shaL_len _ | exact macL_len _ _ | exact words_len _ | exact List.length_replicate | (rw [List.length_set]; first | assumption | exact List.length_replicate) | rfl) ?_ | refine w_store M _ _ _ _ rfl (by first | exact at0 | exact at1) hx rfl hy rfl rfl (by decide +kernel) (by first | decide | simp | (simp; omega)) ?_ | refine w_storeR M _ _ _ _ rfl (by first | exact at0 | exact at1) hx rfl _ hy rfl (by kernel_rfl) (by simp [Value.oneCell']) (by first | rfl | assumption) ?_); clear hx hy M; intro w1 M; (try simp only [setC] at M); (try conv => arg 5; simp only [Act.put, List.setIfInBounds_toArray, setC]))) | ((with_reducible refine tBox _ ?_); (refine w_box M _ _ rfl rfl _ rfl _ rfl ?_; clear M; intro g w1 M; (try conv => arg 5; simp only [Act.put, List.setIfInBounds_toArray, setC]))))
  go_ret2
  exact ⟨rfl, M.below⟩
set_option maxRecDepth 100000 in
set_option maxHeartbeats 2000000 in
theorem SealBytes_no (k : Int) (b : UInt32) (n : UInt64) (d t : List UInt8) (w : World) (ht : t.length = 32) (h : rightE k d = false) :
    Calls Try.prog 21 #[.agg (envC k b n d t).toArray] w fun e w' => e = .returned (.tuple #[.string (mkS []), .int .i64 1]) ∧ Below w.heap.size w w' := by
  have M := Mem.start [] w
  have R := fun w => sealRight_c k b n d t w
  rw [h] at R
  replace R := Lib.hid R
  clear h
  go_enter Try.func21, Try.ntmps21
  go_wp2_with (first | ((with_reducible refine tBox (some 1) ?_); refine w_box M _ _ rfl rfl _ rfl (envC k b n d t) rfl ?_; clear M; intro gx w1 M; (try conv => arg 5; simp only [Act.put, List.setIfInBounds_toArray, setC])) | (go_at_call 36; go_must (refine (R.out _).mono ?_; rintro e w1 ⟨rfl, hb⟩; replace M := M.call hb; clear hb)) | ((with_reducible refine tLoad ?_); refine w_at _ _ rfl (by exact ev_tmp rfl) ?_; intro hx; (first | refine w_loadE M _ _ _ rfl (by first | exact at0) hx rfl (by decide +kernel) (by decide +kernel) (by first | assumption | exact zeroT_len | exact macL_len _ _) ?_ | refine w_loadTag M _ _ _ rfl (by first | exact at0) hx rfl (by decide +kernel) (by decide +kernel) (by first | assumption | exact zeroT_len | exact macL_len _ _) ?_); clear hx; (try conv => arg 5; simp only [Act.put, List.setIfInBounds_toArray, setC])) | ((with_reducible refine tStore ?_); refine w_at2 _ _ _ rfl (by first | exact ev_tmp rfl | exact ev_const) (by first | exact ev_tmp rfl | exact ev_const) ?_; intro hx hy; (first | refine w_storeE M _ _ _ _ rfl (by first | exact at0) hx rfl hy rfl (by decide +kernel) (by first | assumption | exact zeroT_len | exact macL_len _ _) (by first | assumption | exact zeroT_len | exact macL_len _ _) ?_ | refine w_storeE (k := 0) (b := 0) (n := 0) (d := []) (tg := zeroT) M _ _ _ _ rfl (by first | exact at0) hx rfl hy rfl (by decide +kernel) zeroT_len (by first | assumption | exact zeroT_len | exact macL_len _ _) ?_ | refine w_storeE (tg := zeroT) M _ _ _ _ rfl (by first | exact at0) hx rfl hy rfl (by decide +kernel) zeroT_len (by first | assumption | exact zeroT_len | exact macL_len _ _) ?_ | refine w_storeTag M _ _ _ _ rfl (by first | exact at0) hx rfl hy (by decide +kernel) (by first | assumption | exact zeroT_len | exact macL_len _ _) (by first | assumption | exact zeroT_len | exact macL_len _ _) ?_ | refine w_storeData M _ _ _ _ rfl (by first | exact at0) hx rfl hy (by decide +kernel) ?_ | refine w_storeNum M _ _ _ _ rfl (by first | exact at0) hx rfl hy (by decide +kernel) ?_); clear hx hy M; intro w1 M; (try simp only [setC] at M); (try conv => arg 5; simp only [Act.put, List.setIfInBounds_toArray, setC])) | ((with_reducible refine tConv _ 45 9 ?_); (first | refine w_stringTag M _ _ _ _ _ rfl rfl (by first | exact at0) rfl (by first | assumption | exact zeroT_len | exact macL_len _ _) Try.underlying45 Try.underlying5 Try.underlying9 ?_); (try conv => arg 5; simp only [Act.put, List.setIfInBounds_toArray, setC])) | ((with_reducible refine tGuard ?_); first | refine w_strip rfl (by with_reducible rfl) ?_ | ((fail_if_success (refine w_lit false rfl (by with_reducible rfl) ?_)); (fail_if_success (refine w_lit true rfl (by with_reducible rfl) ?_)); refine w_case rfl ?_ ?_ <;> (intro hgd; rw [hgd]; try (exfalso; simp at hgd; omega)))) | ((with_reducible refine tConv _ 45 9 ?_); go_must (first | refine w_stringW M _ _ _ _ _ rfl rfl (by first | exact at0) rfl (by first | assumption | exact shaL_len _ | exact macL_len _ _ | exact words_len _ | exact List.length_replicate | (rw [List.length_set]; first | assumption | exact List.length_replicate) | rfl) (by decide) Try.underlying45 Try.underlying5 Try.underlying9 ?_ | refine w_string M _ _ _ _ _ rfl rfl (by first | exact at0) (by first | rfl | (simp; done) | assumption) rfl Try.underlying45 Try.underlying5 Try.underlying9 ?_); (try conv => arg 5; simp only [Act.put, List.setIfInBounds_toArray, setC])) | ((with_reducible refine tLoad ?_); go_must (refine w_at _ _ rfl (by exact ev_tmp rfl) ?_; intro hx; (first | refine w_load M _ _ _ rfl (by first | exact at0) hx rfl (by decide +kernel) (by exact rfl) ?_ | refine w_loadB M _ _ _ rfl (by first | exact at0) hx rfl (by decide +kernel) (by first | assumption | omega | (simp; omega)) ?_ | refine w_loadH M _ _ _ rfl (by first | exact at0) hx rfl (by decide +kernel) (by first | assumption | exact shaL_len _ | exact macL_len _ _ | exact words_len _ | exact List.length_replicate | (rw [List.length_set]; first | assumption | exact List.length_replicate) | rfl) (by decide +kernel) ?_ | refine w_loadR M _ _ _ rfl (by first | exact at0) hx rfl (by decide +kernel) (by kernel_rfl) ?_); clear hx; (try conv => arg 5; simp only [Act.put, List.setIfInBounds_toArray, setC]))) | ((with_reducible refine tStore ?_); go_must (refine w_at2 _ _ _ rfl (by exact ev_tmp rfl) (by first | exact ev_tmp rfl | exact ev_const) ?_; intro hx hy; (first | refine w_storeB M _ _ _ _ rfl (by first | exact at0) hx rfl hy (by decide +kernel) (by first | assumption | omega | (simp; omega)) ?_ | refine w_storeH M _ _ _ _ rfl (by first | exact at0) hx rfl hy (by first | assumption | exact shaL_len _ | exact macL_len _ _ | exact words_len _ | exact List.length_replicate | (rw [List.length_set]; first | assumption | exact List.length_replicate) | rfl) (by decide +kernel) (by first | assumption | exact shaL_len _ | exact macL_len _ _ | exact words_len _ | exact List.length_replicate | (rw [List.length_set]; first | assumption | exact List.length_replicate) | rfl) ?_ | refine w_store M _ _ _ _ rfl (by first | exact at0) hx rfl hy rfl rfl (by decide +kernel) (by first | decide | simp | (simp; omega)) ?_ | refine w_storeR M _ _ _ _ rfl (by first | exact at0) hx rfl _ hy rfl (by kernel_rfl) (by simp [Value.oneCell']) (by first | rfl | assumption) ?_); clear hx hy M; intro w1 M; (try simp only [setC] at M); (try conv => arg 5; simp only [Act.put, List.setIfInBounds_toArray, setC]))) | ((with_reducible refine tBox _ ?_); (refine w_box M _ _ rfl rfl _ rfl _ rfl ?_; clear M; intro g w1 M; (try conv => arg 5; simp only [Act.put, List.setIfInBounds_toArray, setC]))))
  go_ret2
  exact ⟨rfl, M.below⟩
set_option maxRecDepth 100000 in
set_option maxHeartbeats 2000000 in
theorem SealBytes_ok (k : Nat) (b : UInt32) (n : UInt64) (d t : List UInt8) (w : World) (ht : t.length = 32) (h : rightE k d = true) :
    Calls Try.prog 21 #[.agg (envC k b n d t).toArray] w fun e w' => e = .returned (.tuple #[.string (mkS (headL k b n ++ (textL d ++ t))), .int .i64 0]) ∧ Below w.heap.size w w' := by
  have M := Mem.start [] w
  have R := fun w => sealRight_c k b n d t w
  obtain ⟨_, hkk, hdd⟩ := rightE_k h
  rw [h] at R
  have hh := headL_len k b n (by omega)
  have NC := fun (g : Nat) (v : Value) (w : World) hok => numbers_c g v [] k b n d t w (by omega) (by simp) hok
  have T2 := fun (g : Nat) (v : Value) (w : World) hok => Out_Text_c g v (headL k b n) d w (by omega) (by omega) hok
  rw [List.nil_append] at NC
  rw [← List.append_assoc]
  obtain ⟨h0, eh⟩ : ∃ x, x = headL k b n := ⟨_, rfl⟩
  rw [← eh] at NC T2
  rw [← eh]
  obtain ⟨u, eu⟩ : ∃ x, x = h0 ++ textL d := ⟨_, rfl⟩
  rw [← eu] at T2
  rw [← eu]
  have hul : u.length ≤ 100000 := by rw [eu, eh, List.length_append]; unfold textL; have := numL_length_le d.length (by omega); simp; omega
  replace R := Lib.hid R
  replace NC := Lib.hid NC
  replace T2 := Lib.hid T2
  clear h eh eu hh
  go_enter Try.func21, Try.ntmps21
  go_wp2_with (first | ((with_reducible refine tBox (some 1) ?_); refine w_box M _ _ rfl rfl _ rfl (envC k b n d t) rfl ?_; clear M; intro gx w1 M; (try conv => arg 5; simp only [Act.put, List.setIfInBounds_toArray, setC])) | (((with_reducible refine tAlloc (some 4) 81 ?_); refine w_alloc M _ rfl rfl (.agg #[.slice none 0 0]) ([.slice none 0 0]) (by kernel_rfl) rfl ?_; clear M; intro go w1 M; (try conv => arg 5; simp only [Act.put, List.setIfInBounds_toArray, setC])); replace M := M.outNew) | (go_at_call 36; go_must (refine (R.out _).mono ?_; rintro e w1 ⟨rfl, hb⟩; replace M := M.call hb; clear hb)) | (go_at_call 47; go_must (refine (NC.out _ _ _ (M.ok 0 _ rfl)).mono ?_; rintro e w2 ⟨rfl, v1, U⟩; replace M := M.upd 0 rfl U; clear U; simp only [List.set_cons_zero] at M)) | (go_at_call 48; go_must (refine (T2.out _ _ _ (M.ok 0 _ rfl)).mono ?_; rintro e w2 ⟨rfl, v2, U⟩; replace M := M.upd 0 rfl U; clear U; simp only [List.set_cons_zero] at M)) | (go_at_call 49; go_must (refine (Out_String_c _ _ _ _ (M.ok 0 _ rfl)).mono ?_; rintro e w1 ⟨rfl, rfl⟩)) | ((with_reducible show Code.wp _ (Code.region 6 _ _) _ _ _); go_must (have MR := M; refine region_lowc [(1, false), (2, false), (3, false), (0, true), (4, false), (5, false), (6, false)] [(13, .str), (16, .str)] [(3, _)] (IxOk MR [1]) 7 (by kernel_rfl) (by kernel_rfl) rfl (by kernel_rfl) (lows_cons (stab_strTag MR 1 rfl rfl (by decide) (by first | assumption | exact zeroT_len) Try.underlying45 Try.underlying5 Try.underlying9) lows_nil) (ixOk_self MR _) ?_; replace M := M.drew; simp only [planC, opAt, List.getElem?_toArray, List.getElem?_cons_zero, List.getElem?_cons_succ, Option.getD_some])) | ((with_reducible refine tLoad ?_); refine w_at _ _ rfl (by exact ev_tmp rfl) ?_; intro hx; (first | refine w_loadE M _ _ _ rfl (by first | exact at0 | exact at1) hx rfl (by decide +kernel) (by decide +kernel) (by first | assumption | exact zeroT_len | exact macL_len _ _) ?_ | refine w_loadTag M _ _ _ rfl (by first | exact at0 | exact at1) hx rfl (by decide +kernel) (by decide +kernel) (by first | assumption | exact zeroT_len | exact macL_len _ _) ?_); clear hx; (try conv => arg 5; simp only [Act.put, List.setIfInBounds_toArray, setC])) | ((with_reducible refine tStore ?_); refine w_at2 _ _ _ rfl (by first | exact ev_tmp rfl | exact ev_const) (by first | exact ev_tmp rfl | exact ev_const) ?_; intro hx hy; (first | refine w_storeE M _ _ _ _ rfl (by first | exact at0 | exact at1) hx rfl hy rfl (by decide +kernel) (by first | assumption | exact zeroT_len | exact macL_len _ _) (by first | assumption | exact zeroT_len | exact macL_len _ _) ?_ | refine w_storeE (k := 0) (b := 0) (n := 0) (d := []) (tg := zeroT) M _ _ _ _ rfl (by first | exact at0 | exact at1) hx rfl hy rfl (by decide +kernel) zeroT_len (by first | assumption | exact zeroT_len | exact macL_len _ _) ?_ | refine w_storeE (tg := zeroT) M _ _ _ _ rfl (by first | exact at0 | exact at1) hx rfl hy rfl (by decide +kernel) zeroT_len (by first | assumption | exact zeroT_len | exact macL_len _ _) ?_ | refine w_storeTag M _ _ _ _ rfl (by first | exact at0 | exact at1) hx rfl hy (by decide +kernel) (by first | assumption | exact zeroT_len | exact macL_len _ _) (by first | assumption | exact zeroT_len | exact macL_len _ _) ?_ | refine w_storeData M _ _ _ _ rfl (by first | exact at0 | exact at1) hx rfl hy (by decide +kernel) ?_ | refine w_storeNum M _ _ _ _ rfl (by first | exact at0 | exact at1) hx rfl hy (by decide +kernel) ?_); clear hx hy M; intro w1 M; (try simp only [setC] at M); (try conv => arg 5; simp only [Act.put, List.setIfInBounds_toArray, setC])) | ((with_reducible refine tConv _ 45 9 ?_); (first | refine w_stringTag M _ _ _ _ _ rfl rfl (by first | exact at0 | exact at1) rfl (by first | assumption | exact zeroT_len | exact macL_len _ _) Try.underlying45 Try.underlying5 Try.underlying9 ?_); (try conv => arg 5; simp only [Act.put, List.setIfInBounds_toArray, setC])) | ((with_reducible show Seg _ _ _ _); go_must (first | refine Seg.intro ⟨fun h => absurd rfl h, ?_⟩ | refine Seg.intro ⟨fun _ => (by repeat' (first | exact ixOk_nil M.kept | refine ixOk_cons rfl (by first | exact M.ok 0 _ rfl | exact M.ok 1 _ rfl | exact M.ok 2 _ rfl | exact M.ok 3 _ rfl) ?_)), ?_⟩ | refine Seg.intro ⟨(by repeat' (first | (with_reducible exact needs_nil) | refine needs_at rfl (by first | (show Shape.ok Shape.nums _ = true; exact nums_bs _) | rfl) ?_)), (by repeat' (first | (with_reducible exact ats_nil) | refine ats_cons (by first | exact ev_tmp rfl | rfl) ?_)), ?_⟩)) | ((with_reducible show OnlyN _ _ _ _ _); refine OnlyN.intro (by kernel_rfl) ?_) | ((with_reducible refine tGuard ?_); first | refine w_strip rfl (by with_reducible rfl) ?_ | ((fail_if_success (refine w_lit false rfl (by with_reducible rfl) ?_)); (fail_if_success (refine w_lit true rfl (by with_reducible rfl) ?_)); refine w_case rfl ?_ ?_ <;> (intro hgd; rw [hgd]; try (exfalso; simp at hgd; omega)))) | ((with_reducible refine tConv _ 45 9 ?_); go_must (first | refine w_stringW M _ _ _ _ _ rfl rfl (by first | exact at0 | exact at1) rfl (by first | assumption | exact shaL_len _ | exact macL_len _ _ | exact words_len _ | exact List.length_replicate | (rw [List.length_set]; first | assumption | exact List.length_replicate) | rfl) (by decide) Try.underlying45 Try.underlying5 Try.underlying9 ?_ | refine w_string M _ _ _ _ _ rfl rfl (by first | exact at0 | exact at1) (by first | rfl | (simp; done) | assumption) rfl Try.underlying45 Try.underlying5 Try.underlying9 ?_); (try conv => arg 5; simp only [Act.put, List.setIfInBounds_toArray, setC])) | ((with_reducible refine tLoad ?_); go_must (refine w_at _ _ rfl (by exact ev_tmp rfl) ?_; intro hx; (first | refine w_load M _ _ _ rfl (by first | exact at0 | exact at1) hx rfl (by decide +kernel) (by exact rfl) ?_ | refine w_loadB M _ _ _ rfl (by first | exact at0 | exact at1) hx rfl (by decide +kernel) (by first | assumption | omega | (simp; omega)) ?_ | refine w_loadH M _ _ _ rfl (by first | exact at0 | exact at1) hx rfl (by decide +kernel) (by first | assumption | exact shaL_len _ | exact macL_len _ _ | exact words_len _ | exact List.length_replicate | (rw [List.length_set]; first | assumption | exact List.length_replicate) | rfl) (by decide +kernel) ?_ | refine w_loadR M _ _ _ rfl (by first | exact at0 | exact at1) hx rfl (by decide +kernel) (by kernel_rfl) ?_); clear hx; (try conv => arg 5; simp only [Act.put, List.setIfInBounds_toArray, setC]))) | ((with_reducible refine tStore ?_); go_must (refine w_at2 _ _ _ rfl (by exact ev_tmp rfl) (by first | exact ev_tmp rfl | exact ev_const) ?_; intro hx hy; (first | refine w_storeB M _ _ _ _ rfl (by first | exact at0 | exact at1) hx rfl hy (by decide +kernel) (by first | assumption | omega | (simp; omega)) ?_ | refine w_storeH M _ _ _ _ rfl (by first | exact at0 | exact at1) hx rfl hy (by first | assumption | exact shaL_len _ | exact macL_len _ _ | exact words_len _ | exact List.length_replicate | (rw [List.length_set]; first | assumption | exact List.length_replicate) | rfl) (by decide +kernel) (by first | assumption | exact shaL_len _ | exact macL_len _ _ | exact words_len _ | exact List.length_replicate | (rw [List.length_set]; first | assumption | exact List.length_replicate) | rfl) ?_ | refine w_store M _ _ _ _ rfl (by first | exact at0 | exact at1) hx rfl hy rfl rfl (by decide +kernel) (by first | decide | simp | (simp; omega)) ?_ | refine w_storeR M _ _ _ _ rfl (by first | exact at0 | exact at1) hx rfl _ hy rfl (by kernel_rfl) (by simp [Value.oneCell']) (by first | rfl | assumption) ?_); clear hx hy M; intro w1 M; (try simp only [setC] at M); (try conv => arg 5; simp only [Act.put, List.setIfInBounds_toArray, setC]))) | ((with_reducible refine tBox _ ?_); (refine w_box M _ _ rfl rfl _ rfl _ rfl ?_; clear M; intro g w1 M; (try conv => arg 5; simp only [Act.put, List.setIfInBounds_toArray, setC]))))
  go_ret2
  exact ⟨rfl, M.below⟩
end Go.Proofs.Ytjlkiopncclomaa

/- Plain: the example of layer 5's laws, computed. No program in this text. No conditions. -/
namespace Go
namespace TL
def key1 : List UInt8 := 1 :: List.replicate 31 0
def helloL : List UInt8 := [104, 101, 108, 108, 111]
theorem hello_far : (sealL key1 2 3 helloL == helloL) = false := by decide +kernel
end TL
end Go

/- The walks of layer 5's example, and of its law SealParts. Conditions: none but what every machine has. -/
namespace Go.Proofs.Ytjlkiopncclomaa
open Go.RowKit Go.TL
set_option maxRecDepth 100000 in
set_option maxHeartbeats 2000000 in
theorem awake05_c (w : World) : Calls Try.prog 14 #[] w fun e w' => e = .returned (.bool true) ∧ Below w.heap.size w w' := by
  have M := Mem.start [] w
  have CC := fun w => Close_ok key1 1 2 3 [97] helloL w (by decide) (by decide) (by decide) (by decide)
  have OC := fun w => Open_ok key1 1 2 3 (sealL key1 2 3 helloL) [97] w (by decide) (by unfold rightE; simp [sealL, streamL_len, helloL]) (by decide)
  have e0 : sealL key1 2 3 (sealL key1 2 3 helloL) = helloL := streamL_twice _ _ _
  rw [e0] at OC
  have hf := hello_far
  have ht : (tagL key1 1 2 3 [97] (sealL key1 2 3 helloL)).length = 32 := macL_len _ _
  obtain ⟨d, ed⟩ : ∃ d, d = sealL key1 2 3 helloL := ⟨_, rfl⟩
  rw [← ed] at CC OC hf ht
  obtain ⟨t, et⟩ : ∃ t, t = tagL key1 1 2 3 [97] d := ⟨_, rfl⟩
  rw [← et] at CC OC ht
  clear e0 ed et
  have CC' : ∀ w, Calls Try.prog 15 #[.agg #[.int .u8 1, .int .u8 0, .int .u8 0, .int .u8 0, .int .u8 0, .int .u8 0, .int .u8 0, .int .u8 0, .int .u8 0, .int .u8 0, .int .u8 0, .int .u8 0, .int .u8 0, .int .u8 0, .int .u8 0, .int .u8 0, .int .u8 0, .int .u8 0, .int .u8 0, .int .u8 0, .int .u8 0, .int .u8 0, .int .u8 0, .int .u8 0, .int .u8 0, .int .u8 0, .int .u8 0, .int .u8 0, .int .u8 0, .int .u8 0, .int .u8 0, .int .u8 0], .int .i64 1, .int .u32 2, .int .u64 3, .string (mkS [97]), .string (mkS [104, 101, 108, 108, 111])] w fun e w' => e = .returned (.tuple #[.agg (envC 1 2 3 d t).toArray, .int .i64 0]) ∧ Below w.heap.size w w' := CC
  have OC' : ∀ w, Calls Try.prog 16 #[.agg #[.int .u8 1, .int .u8 0, .int .u8 0, .int .u8 0, .int .u8 0, .int .u8 0, .int .u8 0, .int .u8 0, .int .u8 0, .int .u8 0, .int .u8 0, .int .u8 0, .int .u8 0, .int .u8 0, .int .u8 0, .int .u8 0, .int .u8 0, .int .u8 0, .int .u8 0, .int .u8 0, .int .u8 0, .int .u8 0, .int .u8 0, .int .u8 0, .int .u8 0, .int .u8 0, .int .u8 0, .int .u8 0, .int .u8 0, .int .u8 0, .int .u8 0, .int .u8 0], .agg (envC 1 2 3 d t).toArray, .string (mkS [97])] w fun e w' => e = .returned (.tuple #[.string (mkS [104, 101, 108, 108, 111]), .int .i64 0]) ∧ Below w.heap.size w w' := OC
  have hf' : (d == [104, 101, 108, 108, 111]) = false := hf
  replace CC' := Lib.hid CC'
  replace OC' := Lib.hid OC'
  clear CC OC hf
  have hb2 : I32 2 = 2 := by decide
  have hb3 : I64 3 = 3 := by decide
  go_enter Try.func14, Try.ntmps14
  go_wp2_with (first | ((with_reducible refine tGuard ?_); (with_reducible refine w_stripE ?_ ?_); (focus (refine ⟨_, rfl, ?_⟩; first | (with_reducible rfl) | exact decide_eq_false (by omega) | exact decide_eq_true (by omega)))) | ((with_reducible refine tGuard ?_); first | ((with_reducible refine w_skip1 ?_ ?_); (focus (refine ⟨_, rfl, ?_⟩; first | (with_reducible rfl) | exact decide_eq_false (by omega) | exact decide_eq_true (by omega))); (try conv => arg 5; simp only [Act.put, List.setIfInBounds_toArray, setC])) | ((with_reducible refine w_skip0 ?_ ?_); (focus (refine ⟨_, rfl, ?_⟩; first | (with_reducible rfl) | exact decide_eq_false (by omega) | exact decide_eq_true (by omega))); (try conv => arg 5; simp only [Act.put, List.setIfInBounds_toArray, setC]))) | ((with_reducible refine tAlloc (some 1) 29 ?_); refine w_alloc M _ rfl rfl (.agg (envC 0 0 0 [] zeroT).toArray) (envC 0 0 0 [] zeroT) (by kernel_rfl) rfl ?_; clear M; intro gx w1 M; (try conv => arg 5; simp only [Act.put, List.setIfInBounds_toArray, setC])) | (go_at_call 15; go_must (refine (CC'.out _).mono ?_; rintro e w1 ⟨rfl, hb⟩; replace M := M.call hb; clear hb)) | (go_at_call 16; go_must (refine (OC'.out _).mono ?_; rintro e w1 ⟨rfl, hb⟩; replace M := M.call hb; clear hb)) | ((with_reducible refine tLoad ?_); refine w_at _ _ rfl (by exact ev_tmp rfl) ?_; intro hx; (first | refine w_loadE M _ _ _ rfl (by first | exact at0) hx rfl (by decide +kernel) (by decide +kernel) (by first | assumption | exact zeroT_len | exact macL_len _ _) ?_ | refine w_loadTag M _ _ _ rfl (by first | exact at0) hx rfl (by decide +kernel) (by decide +kernel) (by first | assumption | exact zeroT_len | exact macL_len _ _) ?_); clear hx; (try conv => arg 5; simp only [Act.put, List.setIfInBounds_toArray, setC])) | ((with_reducible refine tStore ?_); refine w_at2 _ _ _ rfl (by first | exact ev_tmp rfl | exact ev_const) (by first | exact ev_tmp rfl | exact ev_const) ?_; intro hx hy; (first | refine w_storeE M _ _ _ _ rfl (by first | exact at0) hx rfl hy rfl (by decide +kernel) (by first | assumption | exact zeroT_len | exact macL_len _ _) (by first | assumption | exact zeroT_len | exact macL_len _ _) ?_ | refine w_storeE (k := 0) (b := 0) (n := 0) (d := []) (tg := zeroT) M _ _ _ _ rfl (by first | exact at0) hx rfl hy rfl (by decide +kernel) zeroT_len (by first | assumption | exact zeroT_len | exact macL_len _ _) ?_ | refine w_storeE (tg := zeroT) M _ _ _ _ rfl (by first | exact at0) hx rfl hy rfl (by decide +kernel) zeroT_len (by first | assumption | exact zeroT_len | exact macL_len _ _) ?_ | refine w_storeTag M _ _ _ _ rfl (by first | exact at0) hx rfl hy (by decide +kernel) (by first | assumption | exact zeroT_len | exact macL_len _ _) (by first | assumption | exact zeroT_len | exact macL_len _ _) ?_ | refine w_storeData M _ _ _ _ rfl (by first | exact at0) hx rfl hy (by decide +kernel) ?_ | refine w_storeNum M _ _ _ _ rfl (by first | exact at0) hx rfl hy (by decide +kernel) ?_); clear hx hy M; intro w1 M; (try simp only [setC] at M); (try conv => arg 5; simp only [Act.put, List.setIfInBounds_toArray, setC])) | ((with_reducible refine tConv _ 45 9 ?_); (first | refine w_stringTag M _ _ _ _ _ rfl rfl (by first | exact at0) rfl (by first | assumption | exact zeroT_len | exact macL_len _ _) Try.underlying45 Try.underlying5 Try.underlying9 ?_); (try conv => arg 5; simp only [Act.put, List.setIfInBounds_toArray, setC])) | ((with_reducible refine tGuard ?_); refine w_strip rfl (by with_reducible rfl) ?_) | fail | ((with_reducible refine tLoad ?_); go_must (refine w_at _ _ rfl (by exact ev_tmp rfl) ?_; intro hx; (first | refine w_load M _ _ _ rfl (by first | exact at0) hx rfl (by decide +kernel) (by exact rfl) ?_ | refine w_loadR M _ _ _ rfl (by first | exact at0) hx rfl (by decide +kernel) (by kernel_rfl) ?_); clear hx; (try conv => arg 5; simp only [Act.put, List.setIfInBounds_toArray, setC]))) | ((with_reducible refine tStore ?_); go_must (refine w_at2 _ _ _ rfl (by exact ev_tmp rfl) (by first | exact ev_tmp rfl | exact ev_const) ?_; intro hx hy; (first | refine w_store M _ _ _ _ rfl (by first | exact at0) hx rfl hy rfl rfl (by decide +kernel) (by first | decide | simp | (simp; omega)) ?_ | refine w_storeR M _ _ _ _ rfl (by first | exact at0) hx rfl _ hy rfl (by kernel_rfl) (by simp [Value.oneCell']) (by first | rfl | assumption) ?_); clear hx hy M; intro w1 M; (try simp only [setC] at M); (try conv => arg 5; simp only [Act.put, List.setIfInBounds_toArray, setC]))) | ((with_reducible refine tBox _ ?_); (refine w_box M _ _ rfl rfl _ rfl _ rfl ?_; clear M; intro g w1 M; (try conv => arg 5; simp only [Act.put, List.setIfInBounds_toArray, setC]))))
  go_ret
  exact ⟨by first | rfl | simp [hf'], M.below⟩
end Go.Proofs.Ytjlkiopncclomaa

/- An envelope is the same as itself, to ==. Conditions: its tag has 32 bytes. -/
namespace Go.Proofs.Ytjlkiopncclomaa
open Go.RowKit Go.TL
theorem envFields : (Try.prog.fieldsOf 29).toList.map (fun f => (f.type, f.offset)) = [(3, 0), (24, 1), (25, 2), (9, 3), (27, 4)] := by decide +kernel
theorem envNames : (Try.prog.fieldsOf 29).toList.all (fun f => f.name ≠ "_") = true := by decide +kernel
theorem run_part1 {P : Program} {e : TypeId} {d : TypeDesc} (he : P.underlying e = some d) (hd : d.isRow = false) (xs : Array Value) (off : Nat) (v : Value) (hv : xs[off]? = some v) (w : World) : (part e xs off).run P w = .ok v w := by
  cases d <;> first | (simp [TypeDesc.isRow] at hd; done) | simp [part, isAgg, run_underlying he, hv]
theorem run_partN {P : Program} {e e' : TypeId} {n k : Nat} (he : P.underlying e = some (.array n e')) (hi : (P.info? e).map (·.size) = some k) (xs : Array Value) (off : Nat) (w : World) : (part e xs off).run P w = .ok (.agg (xs.extract off (off + k))) w := by
  cases hq : P.info? e with
  | none => simp [hq] at hi
  | some inf =>
    have hs : inf.size = k := by simpa [hq] using hi
    simp [part, isAgg, run_underlying he, sizeOf, typeInfo, hq, hs]
theorem eqF_step {P : Program} {w : World} {d : Nat} {xs ys : Array Value} {f : Field} {fs : List Field} (hn : f.name ≠ "_") {a c : Value} (hp : (part f.type xs f.offset).run P w = .ok a w) (hq : (part f.type ys f.offset).run P w = .ok c w) (he : (Op.equalIn d f.type a c).run P w = .ok true w) : (Op.eqFields d xs ys (f :: fs)).run P w = (Op.eqFields d xs ys fs).run P w := by
  simp only [Op.eqFields, if_pos hn, Sem.run_bind, hp, hq, he, Result.andThen_ok]
  simp
theorem hash_self (t : List UInt8) (ht : t.length = 32) (w : World) : (Op.equalIn 9999 27 (.agg (bs t).toArray) (.agg (bs t).toArray)).run Try.prog w = .ok true w := by
  obtain ⟨i, hi⟩ := info_of_underlying Try.underlying5
  have := run_equalIn_array w 9998 (t.map vb).toArray (t.map vb).toArray Try.underlying27 hi
  rw [show Try.prog.cellsOf 5 = 1 by kernel_rfl, run_eqItemsB Try.underlying5 9997 t t rfl w (List.range 32) (fun i hi => by rw [ht]; exact List.mem_range.1 hi)] at this
  rw [← ht, all_range_eq t t rfl, beq_self_eq_true] at this
  exact this
section
variable (k : Int) (b : UInt32) (n : UInt64) (d t : List UInt8)
theorem env_in (ht : t.length = 32) (w : World) : (Op.equalIn 10000 29 (.agg (envC k b n d t).toArray) (.agg (envC k b n d t).toArray)).run Try.prog w = .ok true w := by
  have hu : Try.prog.underlying 29 = some (.struct (Try.prog.fieldsOf 29)) := by unfold Program.fieldsOf; rw [Try.underlying29]
  rw [run_equalIn_struct w 9999 _ _ _ hu (by decide +kernel)]
  have hf := envFields
  have hn := envNames
  obtain ⟨fs, ef⟩ : ∃ fs, fs = (Try.prog.fieldsOf 29).toList := ⟨_, rfl⟩
  rw [← ef] at hf hn
  rw [← ef]
  clear ef hu
  have hlen : fs.length = 5 := by simpa using congrArg List.length hf
  obtain ⟨f1, f2, f3, f4, f5, rfl⟩ : ∃ a b c d e, fs = [a, b, c, d, e] := by
    match fs, hlen with
    | [a, b, c, d, e], _ => exact ⟨a, b, c, d, e, rfl⟩
  simp only [List.map_cons, List.map_nil, List.cons.injEq, Prod.mk.injEq, and_true] at hf
  obtain ⟨⟨a1, o1⟩, ⟨a2, o2⟩, ⟨a3, o3⟩, ⟨a4, o4⟩, a5, o5⟩ := hf
  simp only [List.all_cons, List.all_nil, Bool.and_eq_true, decide_eq_true_eq, and_true] at hn
  obtain ⟨n1, n2, n3, n4, n5⟩ := hn
  have x5 : (envC k b n d t).toArray.extract 4 (4 + 32) = (bs t).toArray := by
    simp only [List.extract_toArray, List.extract_eq_take_drop]
    congr 1
    show (bs t).take 32 = bs t
    exact List.take_of_length_le (by rw [bs_length]; omega)
  have p1 := run_part1 Try.underlying3 rfl (envC k b n d t).toArray 0 (.int .i64 k) rfl w
  have p2 := run_part1 Try.underlying24 rfl (envC k b n d t).toArray 1 (.int .u32 (I32 b)) rfl w
  have p3 := run_part1 Try.underlying25 rfl (envC k b n d t).toArray 2 (.int .u64 (I64 n)) rfl w
  have p4 := run_part1 Try.underlying9 rfl (envC k b n d t).toArray 3 (.string (mkS d)) rfl w
  have p5 := run_partN (k := 32) Try.underlying27 (by decide +kernel) (envC k b n d t).toArray 4 w
  rw [x5] at p5
  rw [← a1, ← o1] at p1
  rw [← a2, ← o2] at p2
  rw [← a3, ← o3] at p3
  rw [← a4, ← o4] at p4
  rw [← a5, ← o5] at p5
  rw [eqF_step n1 p1 p1 (by rw [a1, run_equalIn_int w 9998 _ .i64 .i64 _ _ Try.underlying3, beq_self_eq_true]),
    eqF_step n2 p2 p2 (by rw [a2, run_equalIn_int w 9998 _ .u32 .u32 _ _ Try.underlying24, beq_self_eq_true]),
    eqF_step n3 p3 p3 (by rw [a3, run_equalIn_int w 9998 _ .u64 .u64 _ _ Try.underlying25, beq_self_eq_true]),
    eqF_step n4 p4 p4 (by rw [a4, run_equalIn_string w 9998 _ _ _ Try.underlying9, beq_self_eq_true]),
    eqF_step n5 p5 p5 (by rw [a5]; exact hash_self t ht w)]
  rfl
@[go_sem ↓] theorem env_eql (ht : t.length = 32) (w : World) : (binOp .eql 29 (.agg (envC k b n d t).toArray) (.agg (envC k b n d t).toArray)).run Try.prog w = .ok (.bool true) w := by
  rw [run_eql_struct, env_in k b n d t ht w]; rfl
@[go_sem ↓] theorem env_neq (ht : t.length = 32) (w : World) : (binOp .neq 29 (.agg (envC k b n d t).toArray) (.agg (envC k b n d t).toArray)).run Try.prog w = .ok (.bool false) w := by
  rw [run_neq_struct, env_in k b n d t ht w]; rfl
@[go_sem ↓] theorem env_guard (op : BinOp) (x y : Operand) (w : World) : (eqGuard op 29 x y (.agg (envC k b n d t).toArray) (.agg (envC k b n d t).toArray)).run Try.prog w = .ok () w :=
  run_eqGuard_agg w op _ x y _ _ (by decide +kernel)
end
@[go_sem ↓] theorem env_neqZ (w : World) : (binOp .neq 29 (.agg (envC 0 0 0 [] zeroT).toArray) (.agg #[.int .i64 0, .int .u32 0, .int .u64 0, .string (mkS []), .int .u8 0, .int .u8 0, .int .u8 0, .int .u8 0, .int .u8 0, .int .u8 0, .int .u8 0, .int .u8 0, .int .u8 0, .int .u8 0, .int .u8 0, .int .u8 0, .int .u8 0, .int .u8 0, .int .u8 0, .int .u8 0, .int .u8 0, .int .u8 0, .int .u8 0, .int .u8 0, .int .u8 0, .int .u8 0, .int .u8 0, .int .u8 0, .int .u8 0, .int .u8 0, .int .u8 0, .int .u8 0, .int .u8 0, .int .u8 0, .int .u8 0, .int .u8 0])).run Try.prog w = .ok (.bool false) w := env_neq 0 0 0 [] zeroT zeroT_len w
@[go_sem ↓] theorem env_guardZ (op : BinOp) (x y : Operand) (w : World) : (eqGuard op 29 x y (.agg (envC 0 0 0 [] zeroT).toArray) (.agg #[.int .i64 0, .int .u32 0, .int .u64 0, .string (mkS []), .int .u8 0, .int .u8 0, .int .u8 0, .int .u8 0, .int .u8 0, .int .u8 0, .int .u8 0, .int .u8 0, .int .u8 0, .int .u8 0, .int .u8 0, .int .u8 0, .int .u8 0, .int .u8 0, .int .u8 0, .int .u8 0, .int .u8 0, .int .u8 0, .int .u8 0, .int .u8 0, .int .u8 0, .int .u8 0, .int .u8 0, .int .u8 0, .int .u8 0, .int .u8 0, .int .u8 0, .int .u8 0, .int .u8 0, .int .u8 0, .int .u8 0, .int .u8 0])).run Try.prog w = .ok () w := env_guard 0 0 0 [] zeroT op x y w
theorem w_envNeqZ {ops : Array Oper} {rest : List Oper} {o : Oper} {a : Act} {w : World} {Q : Exit → Act → World → Prop} (x y : Operand) (ty : TypeId) (ho : o.op = .binOp .neq 29 x y ty) (hw : Region.wanted o (yielded ops a.tmps) = true) (hx : a.eval x = .agg (envC 0 0 0 [] zeroT).toArray)
    {C : Array Value} (hy : a.eval y = .agg C) (hC : C = (envC 0 0 0 [] zeroT).toArray) (h : wpList Try.prog ops Q rest (a.put o.dst (.bool false)) w) : wpList Try.prog ops Q (o :: rest) a w :=
  wpW hw fun _ hK => by
    subst hC
    unfold Oper.wp execOp
    simp only [ho, hx, hy, Sem.run_bind, env_guard, env_neq 0 0 0 [] zeroT zeroT_len, Result.andThen_ok, Sem.run_pure]
    exact hK _ _ h
end Go.Proofs.Ytjlkiopncclomaa

/- The walks of the reference's layer 1: a number's and a text's bytes. Conditions: lengths. -/
namespace Go
namespace TL
theorem byte128' (m : Nat) : 128 + (w64 ((m : Int) % 128)).toUInt8 = UInt8.ofNat (m % 128 + 128) := by
  rw [show ((m : Int) % 128) = ((m % 128 : Nat) : Int) by omega, w64_nat]
  apply UInt8.toNat_inj.1
  simp
  omega
end TL
end Go
namespace Go.Proofs.Ytjlkiopncclomaa
open Go.RowKit Go.TL
set_option maxHeartbeats 2000000 in
theorem Num01_c (n : Nat) (a : Int) (ha : a = (n : Int)) (w : World) (h : n < 18446744073709551616) :
    Calls Try.prog 93 #[.int .u64 a] w fun e w' => e = .returned (.string (mkS (numL n))) ∧ Below w.heap.size w w' := by
  subst ha
  have M := Mem.start [] w
  have hn10 := numL_length_le n h
  go_enter Try.func93, Try.ntmps93
  go_wp2_with fail
  (try conv => arg 4; dsimp only [mkS_fold])
  go_loopw [0, 3] (fun nv sv wr => ∃ (m : Nat) (d : List UInt8), m < 18446744073709551616 ∧ nv = .int .u64 m ∧ sv = .string (mkS d) ∧ Hid (d ++ numL m = numL n) ∧ Mem [] w wr []) (fun nv _ _ => (intOf nv).toNat)
  case atStart => exact ⟨n, [], h, rfl, rfl, Lib.hid rfl, M⟩
  case round =>
    clear M
    obtain ⟨m, d, hm, rfl, rfl, HD, M⟩ := hrel
    have hdl : d.length ≤ 10 := by have := congrArg List.length HD.out; simp at this; omega
    by_cases h128 : m < 128
    · have h127 : (m : Int) ≤ 127 := by omega
      go_wp2_with (first | ((with_reducible show wpList _ _ _ (Oper.mk _ (Op.buildSlice 45 1 _) _ _ _ _ :: _) _ _); go_must (refine w_buildSliceB M bytesT _ rfl rfl (by first | exact ev_tmp rfl | exact ev_const) ?_; clear M; intro g w1 M; (try conv => arg 5; simp only [Act.put, List.setIfInBounds_toArray, setC]))) | ((with_reducible refine tGuard ?_); first | refine w_strip rfl (by with_reducible rfl) ?_ | ((fail_if_success (refine w_lit false rfl (by with_reducible rfl) ?_)); (fail_if_success (refine w_lit true rfl (by with_reducible rfl) ?_)); refine w_case rfl ?_ ?_ <;> (intro hgd; rw [hgd]; try (exfalso; simp at hgd; omega)))) | ((with_reducible refine tConv _ 45 9 ?_); go_must (first | refine w_stringW M _ _ _ _ _ rfl rfl (by first | exact at0) rfl (by first | assumption | exact shaL_len _ | exact macL_len _ _ | exact words_len _ | exact List.length_replicate | (rw [List.length_set]; first | assumption | exact List.length_replicate) | rfl) (by decide) Try.underlying45 Try.underlying5 Try.underlying9 ?_ | refine w_string M _ _ _ _ _ rfl rfl (by first | exact at0) (by first | rfl | (simp; done) | assumption) rfl Try.underlying45 Try.underlying5 Try.underlying9 ?_); (try conv => arg 5; simp only [Act.put, List.setIfInBounds_toArray, setC])) | ((with_reducible refine tLoad ?_); go_must (refine w_at _ _ rfl (by exact ev_tmp rfl) ?_; intro hx; (first | refine w_load M _ _ _ rfl (by first | exact at0) hx rfl (by decide +kernel) (by exact rfl) ?_ | refine w_loadB M _ _ _ rfl (by first | exact at0) hx rfl (by decide +kernel) (by first | assumption | omega | (simp; omega)) ?_ | refine w_loadH M _ _ _ rfl (by first | exact at0) hx rfl (by decide +kernel) (by first | assumption | exact shaL_len _ | exact macL_len _ _ | exact words_len _ | exact List.length_replicate | (rw [List.length_set]; first | assumption | exact List.length_replicate) | rfl) (by decide +kernel) ?_ | refine w_loadR M _ _ _ rfl (by first | exact at0) hx rfl (by decide +kernel) (by kernel_rfl) ?_); clear hx; (try conv => arg 5; simp only [Act.put, List.setIfInBounds_toArray, setC]))) | ((with_reducible refine tStore ?_); go_must (refine w_at2 _ _ _ rfl (by exact ev_tmp rfl) (by first | exact ev_tmp rfl | exact ev_const) ?_; intro hx hy; (first | refine w_storeB M _ _ _ _ rfl (by first | exact at0) hx rfl hy (by decide +kernel) (by first | assumption | omega | (simp; omega)) ?_ | refine w_storeH M _ _ _ _ rfl (by first | exact at0) hx rfl hy (by first | assumption | exact shaL_len _ | exact macL_len _ _ | exact words_len _ | exact List.length_replicate | (rw [List.length_set]; first | assumption | exact List.length_replicate) | rfl) (by decide +kernel) (by first | assumption | exact shaL_len _ | exact macL_len _ _ | exact words_len _ | exact List.length_replicate | (rw [List.length_set]; first | assumption | exact List.length_replicate) | rfl) ?_ | refine w_store M _ _ _ _ rfl (by first | exact at0) hx rfl hy rfl rfl (by decide +kernel) (by first | decide | simp | (simp; omega)) ?_ | refine w_storeR M _ _ _ _ rfl (by first | exact at0) hx rfl _ hy rfl (by kernel_rfl) (by simp [Value.oneCell']) (by first | rfl | assumption) ?_); clear hx hy M; intro w1 M; (try simp only [setC] at M); (try conv => arg 5; simp only [Act.put, List.setIfInBounds_toArray, setC]))) | ((with_reducible refine tBox _ ?_); (refine w_box M _ _ rfl rfl _ rfl _ rfl ?_; clear M; intro g w1 M; (try conv => arg 5; simp only [Act.put, List.setIfInBounds_toArray, setC]))))
      go_ret
      refine ⟨?_, M.below⟩
      have e := HD.out
      rw [numL_small h128] at e
      rw [← e, ← w8_nat]; rfl
    · have h127 : (127 : Int) < m := by omega
      go_wp2_with (first | ((with_reducible show wpList _ _ _ (Oper.mk _ (Op.buildSlice 45 1 _) _ _ _ _ :: _) _ _); go_must (refine w_buildSliceB M bytesT _ rfl rfl (by first | exact ev_tmp rfl | exact ev_const) ?_; clear M; intro g w1 M; (try conv => arg 5; simp only [Act.put, List.setIfInBounds_toArray, setC]))) | ((with_reducible refine tGuard ?_); first | refine w_strip rfl (by with_reducible rfl) ?_ | ((fail_if_success (refine w_lit false rfl (by with_reducible rfl) ?_)); (fail_if_success (refine w_lit true rfl (by with_reducible rfl) ?_)); refine w_case rfl ?_ ?_ <;> (intro hgd; rw [hgd]; try (exfalso; simp at hgd; omega)))) | ((with_reducible refine tConv _ 45 9 ?_); go_must (first | refine w_stringW M _ _ _ _ _ rfl rfl (by first | exact at0) rfl (by first | assumption | exact shaL_len _ | exact macL_len _ _ | exact words_len _ | exact List.length_replicate | (rw [List.length_set]; first | assumption | exact List.length_replicate) | rfl) (by decide) Try.underlying45 Try.underlying5 Try.underlying9 ?_ | refine w_string M _ _ _ _ _ rfl rfl (by first | exact at0) (by first | rfl | (simp; done) | assumption) rfl Try.underlying45 Try.underlying5 Try.underlying9 ?_); (try conv => arg 5; simp only [Act.put, List.setIfInBounds_toArray, setC])) | ((with_reducible refine tLoad ?_); go_must (refine w_at _ _ rfl (by exact ev_tmp rfl) ?_; intro hx; (first | refine w_load M _ _ _ rfl (by first | exact at0) hx rfl (by decide +kernel) (by exact rfl) ?_ | refine w_loadB M _ _ _ rfl (by first | exact at0) hx rfl (by decide +kernel) (by first | assumption | omega | (simp; omega)) ?_ | refine w_loadH M _ _ _ rfl (by first | exact at0) hx rfl (by decide +kernel) (by first | assumption | exact shaL_len _ | exact macL_len _ _ | exact words_len _ | exact List.length_replicate | (rw [List.length_set]; first | assumption | exact List.length_replicate) | rfl) (by decide +kernel) ?_ | refine w_loadR M _ _ _ rfl (by first | exact at0) hx rfl (by decide +kernel) (by kernel_rfl) ?_); clear hx; (try conv => arg 5; simp only [Act.put, List.setIfInBounds_toArray, setC]))) | ((with_reducible refine tStore ?_); go_must (refine w_at2 _ _ _ rfl (by exact ev_tmp rfl) (by first | exact ev_tmp rfl | exact ev_const) ?_; intro hx hy; (first | refine w_storeB M _ _ _ _ rfl (by first | exact at0) hx rfl hy (by decide +kernel) (by first | assumption | omega | (simp; omega)) ?_ | refine w_storeH M _ _ _ _ rfl (by first | exact at0) hx rfl hy (by first | assumption | exact shaL_len _ | exact macL_len _ _ | exact words_len _ | exact List.length_replicate | (rw [List.length_set]; first | assumption | exact List.length_replicate) | rfl) (by decide +kernel) (by first | assumption | exact shaL_len _ | exact macL_len _ _ | exact words_len _ | exact List.length_replicate | (rw [List.length_set]; first | assumption | exact List.length_replicate) | rfl) ?_ | refine w_store M _ _ _ _ rfl (by first | exact at0) hx rfl hy rfl rfl (by decide +kernel) (by first | decide | simp | (simp; omega)) ?_ | refine w_storeR M _ _ _ _ rfl (by first | exact at0) hx rfl _ hy rfl (by kernel_rfl) (by simp [Value.oneCell']) (by first | rfl | assumption) ?_); clear hx hy M; intro w1 M; (try simp only [setC] at M); (try conv => arg 5; simp only [Act.put, List.setIfInBounds_toArray, setC]))) | ((with_reducible refine tBox _ ?_); (refine w_box M _ _ rfl rfl _ rfl _ rfl ?_; clear M; intro g w1 M; (try conv => arg 5; simp only [Act.put, List.setIfInBounds_toArray, setC]))))
      go_roundw
      case rel => exact ⟨m / 128, d ++ [UInt8.ofNat (m % 128 + 128)], by omega, by rw [show ((m : Int) / 128) = ((m / 128 : Nat) : Int) by omega, I64_nat _ (by omega)], by rw [byte128'], Lib.hid (by rw [← HD.out, numL_big (n := m) (by omega)]; simp), M.tail⟩
      case measure =>
        rw [show ((m : Int) / 128) = ((m / 128 : Nat) : Int) by omega, I64_nat _ (by omega)]
        simp only [intOf]; omega
set_option maxHeartbeats 1000000 in
theorem Text01_c (t : List UInt8) (w : World) (ht : t.length ≤ 1000000000) :
    Calls Try.prog 57 #[.string (mkS t)] w fun e w' => e = .returned (.string (mkS (textL t))) ∧ Below w.heap.size w w' := by
  have M := Mem.start [] w
  have hn := numL_length_le t.length (by omega)
  go_enter Try.func57, Try.ntmps57
  go_wp2_with ((go_at_call 93; go_must (refine (Num01_c t.length _ (I64_nat _ (by omega)) _ (by omega)).mono ?_; rintro e w1 ⟨rfl, hb⟩; replace M := M.call hb; clear hb)))
  go_ret
  exact ⟨rfl, M.below⟩
end Go.Proofs.Ytjlkiopncclomaa

/- The walks of layer 5's reference: when an envelope is right, its head. Conditions: lengths. -/
namespace Go.Proofs.Ytjlkiopncclomaa
open Go.RowKit Go.TL
set_option maxRecDepth 100000 in
set_option maxHeartbeats 2000000 in
theorem refRight_c (k : Int) (b : UInt32) (n : UInt64) (d t : List UInt8) (w : World) :
    Calls Try.prog 46 #[.agg (envC k b n d t).toArray] w fun e w' => e = .returned (.bool (rightE k d)) ∧ Below w.heap.size w w' := by
  have M := Mem.start [] w
  unfold rightE
  by_cases h1 : 0 ≤ k
  rw [decide_eq_true h1]
  by_cases h2 : k ≤ 1048576
  rw [decide_eq_true h2]
  by_cases h3 : (d.length : Int) ≤ 8192
  rw [decide_eq_true h3]
  rotate_left
  rw [decide_eq_false h3]
  rotate_left
  rw [decide_eq_false h2]
  rotate_left
  rw [decide_eq_false h1]
  all_goals
    go_enter Try.func46, Try.ntmps46
    go_wp2_with (first | ((with_reducible refine tBox (some 1) ?_); refine w_box M _ _ rfl rfl _ rfl (envC k b n d t) rfl ?_; clear M; intro gx w1 M; (try conv => arg 5; simp only [Act.put, List.setIfInBounds_toArray, setC])) | ((with_reducible refine tGuard ?_); (with_reducible refine w_stripE ?_ ?_); (focus (refine ⟨_, rfl, ?_⟩; first | (with_reducible rfl) | exact decide_eq_false (by omega) | exact decide_eq_true (by omega)))) | ((with_reducible refine tGuard ?_); first | ((with_reducible refine w_skip1 ?_ ?_); (focus (refine ⟨_, rfl, ?_⟩; first | (with_reducible rfl) | exact decide_eq_false (by omega) | exact decide_eq_true (by omega))); (try conv => arg 5; simp only [Act.put, List.setIfInBounds_toArray, setC])) | ((with_reducible refine w_skip0 ?_ ?_); (focus (refine ⟨_, rfl, ?_⟩; first | (with_reducible rfl) | exact decide_eq_false (by omega) | exact decide_eq_true (by omega))); (try conv => arg 5; simp only [Act.put, List.setIfInBounds_toArray, setC]))) | ((with_reducible refine tGuard ?_); refine w_strip rfl (by with_reducible rfl) ?_) | fail | ((with_reducible refine tLoad ?_); go_must (refine w_at _ _ rfl (by exact ev_tmp rfl) ?_; intro hx; (first | refine w_load M _ _ _ rfl (by first | exact at0) hx rfl (by decide +kernel) (by exact rfl) ?_ | refine w_loadR M _ _ _ rfl (by first | exact at0) hx rfl (by decide +kernel) (by kernel_rfl) ?_); clear hx; (try conv => arg 5; simp only [Act.put, List.setIfInBounds_toArray, setC]))) | ((with_reducible refine tStore ?_); go_must (refine w_at2 _ _ _ rfl (by exact ev_tmp rfl) (by first | exact ev_tmp rfl | exact ev_const) ?_; intro hx hy; (first | refine w_store M _ _ _ _ rfl (by first | exact at0) hx rfl hy rfl rfl (by decide +kernel) (by first | decide | simp | (simp; omega)) ?_ | refine w_storeR M _ _ _ _ rfl (by first | exact at0) hx rfl _ hy rfl (by kernel_rfl) (by simp [Value.oneCell']) (by first | rfl | assumption) ?_); clear hx hy M; intro w1 M; (try simp only [setC] at M); (try conv => arg 5; simp only [Act.put, List.setIfInBounds_toArray, setC]))) | ((with_reducible refine tBox _ ?_); (refine w_box M _ _ rfl rfl _ rfl _ rfl ?_; clear M; intro g w1 M; (try conv => arg 5; simp only [Act.put, List.setIfInBounds_toArray, setC]))))
    go_ret
    exact ⟨rfl, M.below⟩
set_option maxRecDepth 100000 in
set_option maxHeartbeats 2000000 in
theorem refHead_c (k : Nat) (b : UInt32) (n : UInt64) (d t : List UInt8) (w : World) (hk : k ≤ 1048576) :
    Calls Try.prog 56 #[.agg (envC k b n d t).toArray] w fun e w' => e = .returned (.string (mkS (headL k b n))) ∧ Below w.heap.size w w' := by
  have M := Mem.start [] w
  have h1 := numL_length_le k (by omega)
  have h2 := numL_length_le b.toNat (by have := b.toNat_lt; omega)
  have h3 := numL_length_le n.toNat n.toNat_lt
  have N1 := fun w => Num01_c k (k : Int) rfl w (by omega)
  have N2 := fun w => Num01_c b.toNat (I64 b.toUInt64) (by rw [I64_eq, UInt32.toNat_toUInt64]) w (by have := b.toNat_lt; omega)
  have N3 := fun w => Num01_c n.toNat (I64 n) (by rw [I64_eq]) w n.toNat_lt
  have e1 := I64_nat k (by omega)
  go_enter Try.func56, Try.ntmps56
  go_wp2_with (first | ((with_reducible refine tBox (some 1) ?_); refine w_box M _ _ rfl rfl _ rfl (envC k b n d t) rfl ?_; clear M; intro gx w1 M; (try conv => arg 5; simp only [Act.put, List.setIfInBounds_toArray, setC])) | ((with_reducible show Code.wp _ (Code.region 1 _ _) _ _ _); go_must (have MR := M; refine region_lowc [(0, false), (4, false), (9, false), (1, false), (2, false), (5, false), (6, false), (10, false), (3, true), (7, true), (8, false), (11, true), (12, false), (13, false)] [(4, .int), (8, .int), (6, .str), (10, .str), (11, .str), (14, .str)] [(1, _), (5, _), (10, _)] (IxOk MR [0]) 14 (by kernel_rfl) (by kernel_rfl) rfl (by kernel_rfl) (lows_cons (by first | exact stab_ix MR 0 0 rfl rfl (by decide) (by decide +kernel) rfl | exact stab_ixB MR 0 0 rfl rfl (by decide) (by decide +kernel) (by first | assumption | omega) | exact stab_ix32 MR 0 0 rfl rfl (by decide) (by decide +kernel) (by first | assumption | omega | (simp; omega)) | exact stab_ixH MR 0 rfl rfl (by decide) (by decide +kernel) (by first | assumption | exact shaL_len _ | exact macL_len _ _ | exact words_len _ | exact List.length_replicate | (rw [List.length_set]; first | assumption | exact List.length_replicate) | rfl) (by decide +kernel) | exact stab_ixW32 MR 0 rfl rfl (by decide) (by decide +kernel) (by first | assumption | exact shaL_len _ | exact macL_len _ _ | exact words_len _ | exact List.length_replicate | (rw [List.length_set]; first | assumption | exact List.length_replicate) | rfl) (by decide +kernel) | exact stab_ixR MR 0 rfl rfl (by decide) (by decide +kernel) (by kernel_rfl) | exact stab_ixW MR 0 rfl rfl (by decide) (by first | assumption | exact shaL_len _ | exact macL_len _ _ | exact words_len _ | exact List.length_replicate | (rw [List.length_set]; first | assumption | exact List.length_replicate) | rfl) (by decide) Try.underlying45 Try.underlying5 Try.underlying9 | exact stab_ixS MR 0 rfl rfl (by decide) (by first | rfl | simp | assumption) Try.underlying45 Try.underlying5 Try.underlying9) (lows_cons (by first | exact stab_ix MR 0 1 rfl rfl (by decide) (by decide +kernel) rfl | exact stab_ixB MR 0 1 rfl rfl (by decide) (by decide +kernel) (by first | assumption | omega) | exact stab_ix32 MR 0 1 rfl rfl (by decide) (by decide +kernel) (by first | assumption | omega | (simp; omega)) | exact stab_ixH MR 0 rfl rfl (by decide) (by decide +kernel) (by first | assumption | exact shaL_len _ | exact macL_len _ _ | exact words_len _ | exact List.length_replicate | (rw [List.length_set]; first | assumption | exact List.length_replicate) | rfl) (by decide +kernel) | exact stab_ixW32 MR 0 rfl rfl (by decide) (by decide +kernel) (by first | assumption | exact shaL_len _ | exact macL_len _ _ | exact words_len _ | exact List.length_replicate | (rw [List.length_set]; first | assumption | exact List.length_replicate) | rfl) (by decide +kernel) | exact stab_ixR MR 0 rfl rfl (by decide) (by decide +kernel) (by kernel_rfl) | exact stab_ixW MR 0 rfl rfl (by decide) (by first | assumption | exact shaL_len _ | exact macL_len _ _ | exact words_len _ | exact List.length_replicate | (rw [List.length_set]; first | assumption | exact List.length_replicate) | rfl) (by decide) Try.underlying45 Try.underlying5 Try.underlying9 | exact stab_ixS MR 0 rfl rfl (by decide) (by first | rfl | simp | assumption) Try.underlying45 Try.underlying5 Try.underlying9) (lows_cons (by first | exact stab_ix MR 0 2 rfl rfl (by decide) (by decide +kernel) rfl | exact stab_ixB MR 0 2 rfl rfl (by decide) (by decide +kernel) (by first | assumption | omega) | exact stab_ix32 MR 0 2 rfl rfl (by decide) (by decide +kernel) (by first | assumption | omega | (simp; omega)) | exact stab_ixH MR 0 rfl rfl (by decide) (by decide +kernel) (by first | assumption | exact shaL_len _ | exact macL_len _ _ | exact words_len _ | exact List.length_replicate | (rw [List.length_set]; first | assumption | exact List.length_replicate) | rfl) (by decide +kernel) | exact stab_ixW32 MR 0 rfl rfl (by decide) (by decide +kernel) (by first | assumption | exact shaL_len _ | exact macL_len _ _ | exact words_len _ | exact List.length_replicate | (rw [List.length_set]; first | assumption | exact List.length_replicate) | rfl) (by decide +kernel) | exact stab_ixR MR 0 rfl rfl (by decide) (by decide +kernel) (by kernel_rfl) | exact stab_ixW MR 0 rfl rfl (by decide) (by first | assumption | exact shaL_len _ | exact macL_len _ _ | exact words_len _ | exact List.length_replicate | (rw [List.length_set]; first | assumption | exact List.length_replicate) | rfl) (by decide) Try.underlying45 Try.underlying5 Try.underlying9 | exact stab_ixS MR 0 rfl rfl (by decide) (by first | rfl | simp | assumption) Try.underlying45 Try.underlying5 Try.underlying9) lows_nil))) (ixOk_self MR _) ?_; replace M := M.drew; simp only [planC, opAt, List.getElem?_toArray, List.getElem?_cons_zero, List.getElem?_cons_succ, Option.getD_some])) | (go_at_call 93; go_must ((first | (with_reducible refine (N1 _).mono ?_) | (with_reducible refine (N2 _).mono ?_) | (with_reducible refine (N3 _).mono ?_)); rintro e w1 ⟨rfl, hb⟩; replace M := M.call hb; clear hb)) | ((with_reducible show Seg _ _ _ _); go_must (first | refine Seg.intro ⟨fun h => absurd rfl h, ?_⟩ | refine Seg.intro ⟨fun _ => (by repeat' (first | exact ixOk_nil M.kept | refine ixOk_cons rfl (by first | exact M.ok 0 _ rfl | exact M.ok 1 _ rfl | exact M.ok 2 _ rfl) ?_)), ?_⟩ | refine Seg.intro ⟨(by repeat' (first | (with_reducible exact needs_nil) | refine needs_at rfl (by first | (show Shape.ok Shape.nums _ = true; exact nums_bs _) | rfl) ?_)), (by repeat' (first | (with_reducible exact ats_nil) | refine ats_cons (by first | exact ev_tmp rfl | rfl) ?_)), ?_⟩)) | ((with_reducible show OnlyN _ _ _ _ _); refine OnlyN.intro (by kernel_rfl) ?_) | ((with_reducible refine tGuard ?_); first | refine w_strip rfl (by with_reducible rfl) ?_ | ((fail_if_success (refine w_lit false rfl (by with_reducible rfl) ?_)); (fail_if_success (refine w_lit true rfl (by with_reducible rfl) ?_)); refine w_case rfl ?_ ?_ <;> (intro hgd; rw [hgd]; try (exfalso; simp at hgd; omega)))) | fail | ((with_reducible refine tLoad ?_); go_must (refine w_at _ _ rfl (by exact ev_tmp rfl) ?_; intro hx; (first | refine w_load M _ _ _ rfl (by first | exact at0) hx rfl (by decide +kernel) (by exact rfl) ?_ | refine w_loadR M _ _ _ rfl (by first | exact at0) hx rfl (by decide +kernel) (by kernel_rfl) ?_); clear hx; (try conv => arg 5; simp only [Act.put, List.setIfInBounds_toArray, setC]))) | ((with_reducible refine tStore ?_); go_must (refine w_at2 _ _ _ rfl (by exact ev_tmp rfl) (by first | exact ev_tmp rfl | exact ev_const) ?_; intro hx hy; (first | refine w_store M _ _ _ _ rfl (by first | exact at0) hx rfl hy rfl rfl (by decide +kernel) (by first | decide | simp | (simp; omega)) ?_ | refine w_storeR M _ _ _ _ rfl (by first | exact at0) hx rfl _ hy rfl (by kernel_rfl) (by simp [Value.oneCell']) (by first | rfl | assumption) ?_); clear hx hy M; intro w1 M; (try simp only [setC] at M); (try conv => arg 5; simp only [Act.put, List.setIfInBounds_toArray, setC]))) | ((with_reducible refine tBox _ ?_); (refine w_box M _ _ rfl rfl _ rfl _ rfl ?_; clear M; intro g w1 M; (try conv => arg 5; simp only [Act.put, List.setIfInBounds_toArray, setC]))))
  go_ret
  exact ⟨rfl, M.below⟩
end Go.Proofs.Ytjlkiopncclomaa

/- The reference's numbers in plain words: primes, and the bits behind the point of their roots. No program is in sight; no conditions. -/
namespace Go
namespace TL
def mulHi (x y : UInt64) : UInt64 :=
  let x0 := x &&& 4294967295
  let x1 := x >>> 32
  let y0 := y &&& 4294967295
  let y1 := y >>> 32
  let t := x1 * y0 + (x0 * y0) >>> 32
  x1 * y1 + t >>> 32 + ((t &&& 4294967295) + x0 * y1) >>> 32
def sqB (n p : UInt64) : Bool := decide (mulHi n n < p) || (mulHi n n == p && n * n == 0)
def cuB (n p : UInt64) : Bool :=
  let top := mulHi n n * n + mulHi (n * n) n
  decide (top < p <<< 32) || (top == p <<< 32 && n * n * n == 0)
def bh (p : UInt64) (three : Bool) : Nat → UInt64
  | 0 => 0
  | j + 1 =>
    let b := bh p three j
    let m := b + (1 : UInt64) <<< UInt64.ofNat (36 - j)
    if (three && decide (m < 68719476736) && cuB m p) || (!three && sqB m p) then m else b
def behindW (p : UInt64) (three : Bool) : UInt32 := (bh p three 37 % 4294967296).toUInt32
/-- The primes below p. -/
def prB : Nat → List UInt64
  | 0 => []
  | p + 1 => let l := prB p; if 2 ≤ p ∧ l.all (fun q => (UInt64.ofNat p) % q != 0) then l ++ [UInt64.ofNat p] else l
def P64 : List UInt64 := [2, 3, 5, 7, 11, 13, 17, 19, 23, 29, 31, 37, 41, 43, 47, 53, 59, 61, 67, 71, 73, 79, 83, 89, 97, 101, 103, 107, 109, 113, 127, 131, 137, 139, 149, 151, 157, 163, 167, 173, 179, 181, 191, 193, 197, 199, 211, 223, 227, 229, 233, 239, 241, 251, 257, 263, 269, 271, 277, 281, 283, 293, 307, 311]
theorem P64_length : P64.length = 64 := by decide
theorem roots3 : P64.map (behindW · true) = K64 := by decide +kernel
theorem roots2 : (P64.take 8).map (behindW · false) = H0.words := by decide +kernel
end TL
end Go

/- The walks of the reference's numbers: bits.Mul64, square, cube, behind, primes. No conditions but those each theorem names. -/
namespace Go.Proofs.Ytjlkiopncclomaa
open Go.RowKit Go.TL
set_option maxHeartbeats 400000 in
theorem Mul64_c (x y : UInt64) (w : World) :
    Calls Try.prog 102 #[.int .u64 (I64 x), .int .u64 (I64 y)] w fun e w' => e = .returned (.tuple #[.int .u64 (I64 (mulHi x y)), .int .u64 (I64 (x * y))]) ∧ w = w' := by
  go_enter Try.func102, Try.ntmps102
  go_wp2
  go_ret2
  exact ⟨rfl, rfl⟩
theorem I64_eqB (x y : UInt64) : (I64 x = I64 y) ↔ x = y := I64_inj
theorem I64_zeroB (x : UInt64) : (I64 x == 0) = (x == 0) := by
  rw [Bool.eq_iff_iff, beq_iff_eq, beq_iff_eq, show (0 : Int) = I64 0 from rfl, I64_inj]
set_option maxHeartbeats 400000 in
theorem square_c (n p : UInt64) (w : World) :
    Calls Try.prog 136 #[.int .u64 (I64 n), .int .u64 (I64 p)] w fun e w' => e = .returned (.bool (sqB n p)) ∧ w = w' := by
  go_enter Try.func136, Try.ntmps136
  go_wp2_with (first | (go_at_call 102; go_must (refine (Mul64_c _ _ _).mono ?_; rintro e w1 ⟨rfl, rfl⟩)))
  all_goals
    go_ret
    refine ⟨?_, rfl⟩
    simp_all [sqB, I64_lt, I64_le, I64_eqB, I64_zeroB]
set_option maxHeartbeats 400000 in
theorem cube_c (n p : UInt64) (w : World) :
    Calls Try.prog 135 #[.int .u64 (I64 n), .int .u64 (I64 p)] w fun e w' => e = .returned (.bool (cuB n p)) ∧ w = w' := by
  go_enter Try.func135, Try.ntmps135
  go_upto_region 5 with (first | (go_at_call 102; go_must (refine (Mul64_c _ _ _).mono ?_; rintro e w1 ⟨rfl, rfl⟩)))
  obtain ⟨tp, etp⟩ : ∃ tp, tp = mulHi n n * n + mulHi (n * n) n := ⟨_, rfl⟩
  rw [← etp]
  obtain ⟨en, een⟩ : ∃ en, en = n * n * n := ⟨_, rfl⟩
  rw [← een]
  have ES : cuB n p = (decide (tp < p <<< 32) || (tp == p <<< 32 && en == 0)) := by rw [etp, een]; rfl
  have ES' := Lib.hid ES; clear ES etp een
  by_cases h1 : tp < p <<< 32
  · have d1 : decide (I64 tp < I64 (p <<< 32)) = true := by simpa [I64_lt] using h1
    go_wp2
    go_ret
    exact ⟨by rw [ES'.out]; simp [h1], rfl⟩
  · have d1 : decide (I64 tp < I64 (p <<< 32)) = false := by simpa [I64_lt] using h1
    by_cases h2 : tp = p <<< 32
    · have d2 : (I64 tp == I64 (p <<< 32)) = true := by rw [h2]; simp
      have H1 := Lib.hid h1; clear h1
      have H2 := Lib.hid h2; clear h2
      go_wp2
      go_ret
      exact ⟨by rw [ES'.out, I64_zeroB, H2.out]; simp, rfl⟩
    · have d2 : (I64 tp == I64 (p <<< 32)) = false := by rw [beq_eq_false_iff_ne]; intro h; exact h2 (I64_inj.1 h)
      have H1 := Lib.hid h1; clear h1
      have H2 := Lib.hid h2; clear h2
      go_wp2
      go_ret
      exact ⟨by rw [ES'.out]; simp [H1.out, H2.out], rfl⟩
theorem low32 (x : UInt64) : w32 ((I64 x).tmod 4294967296) = (x % 4294967296).toUInt32 := by
  apply UInt32.toNat_inj.1
  rw [toNat_w32, I64_eq]
  simp only [UInt64.toNat_toUInt32, UInt64.toNat_mod, UInt64.reduceToNat]
  rw [Int.tmod_eq_emod_of_nonneg (by omega)]
  omega
theorem I64_natW (i : Nat) (h : i < 1000) : I64 (w64 (i : Int)) = (i : Int) := by
  rw [w64_nat, I64_eq, UInt64.toNat_ofNat']; omega
theorem shl_one (i : Nat) (h : i < 64) : (1 : UInt64) <<< UInt64.ofNat i = w64 (2 ^ i) := by
  have := w64_shl 1 i h
  rw [Int.one_mul] at this
  rw [this]; rfl
set_option maxHeartbeats 400000 in
theorem behind_c (p : UInt64) (three : Bool) (w : World) :
    Calls Try.prog 130 #[.int .u64 (I64 p), .bool three] w fun e w' => e = .returned (.int .u32 (I32 (behindW p three))) ∧ w = w' := by
  cases three
  all_goals
    go_enter Try.func130, Try.ntmps130
    go_wp2
  · go_loop [5, 6] (fun n k => ∃ i : Nat, i ≤ 37 ∧ k = .int .i64 ((i : Int) - 1) ∧ n = .int .u64 (I64 (bh p false (37 - i)))) (fun _ k => (intOf k + 1).toNat)
    case atStart => exact ⟨37, by omega, rfl, rfl⟩
    case round =>
      obtain ⟨i, hi, rfl, rfl⟩ := hrel
      cases i with
      | zero =>
        go_wp2
        go_ret
        exact ⟨by rw [low32]; unfold behindW; rfl, rfl⟩
      | succ i =>
        have e : ((i + 1 : Nat) : Int) - 1 = i := by omega
        rw [e]; clear e
        have hI := I64_natW i (by omega)
        have hi2 : (i : Int) ≤ 36 := by omega
        obtain ⟨b, eb⟩ : ∃ b, b = bh p false (37 - (i + 1)) := ⟨_, rfl⟩
        rw [← eb]
        have EB := Lib.hid eb; clear eb
        have N : bh p false (37 - i) = if sqB (b + w64 (2 ^ i)) p then b + w64 (2 ^ i) else b := by
          rw [EB.out, show 37 - i = (37 - (i + 1)) + 1 by omega, bh, show 36 - (37 - (i + 1)) = i by omega, shl_one i (by omega)]; simp
        have N' := Lib.hid N; clear N
        by_cases hq : sqB (b + w64 (2 ^ i)) p = true
        · go_wp2_with ((go_at_call 136; go_must (refine (square_c _ _ _).mono ?_; rintro e w1 ⟨rfl, rfl⟩)))
          go_round
          case rel => exact ⟨i, by omega, by go_num, by rw [N'.out, if_pos hq]⟩
          case measure => simp [intOf]
        · have hq' : sqB (b + w64 (2 ^ i)) p = false := by simpa using hq
          clear hq
          go_wp2_with ((go_at_call 136; go_must (refine (square_c _ _ _).mono ?_; rintro e w1 ⟨rfl, rfl⟩)))
          go_round
          case rel => exact ⟨i, by omega, by go_num, by rw [N'.out, if_neg (by rw [hq']; decide)]⟩
          case measure => simp [intOf]
  · go_loop [5, 6] (fun n k => ∃ i : Nat, i ≤ 37 ∧ k = .int .i64 ((i : Int) - 1) ∧ n = .int .u64 (I64 (bh p true (37 - i)))) (fun _ k => (intOf k + 1).toNat)
    case atStart => exact ⟨37, by omega, rfl, rfl⟩
    case round =>
      obtain ⟨i, hi, rfl, rfl⟩ := hrel
      cases i with
      | zero =>
        go_wp2
        go_ret
        exact ⟨by rw [low32]; unfold behindW; rfl, rfl⟩
      | succ i =>
        have e : ((i + 1 : Nat) : Int) - 1 = i := by omega
        rw [e]; clear e
        have hI := I64_natW i (by omega)
        have hi2 : (i : Int) ≤ 36 := by omega
        obtain ⟨b, eb⟩ : ∃ b, b = bh p true (37 - (i + 1)) := ⟨_, rfl⟩
        rw [← eb]
        have EB := Lib.hid eb; clear eb
        have N : bh p true (37 - i) = if (decide (b + w64 (2 ^ i) < 68719476736) && cuB (b + w64 (2 ^ i)) p) then b + w64 (2 ^ i) else b := by
          rw [EB.out, show 37 - i = (37 - (i + 1)) + 1 by omega, bh, show 36 - (37 - (i + 1)) = i by omega, shl_one i (by omega)]; simp
        have N' := Lib.hid N; clear N
        by_cases h1 : b + w64 (2 ^ i) < 68719476736
        · have d1 : decide (I64 (b + w64 (2 ^ i)) < 68719476736) = true := by
            rw [show (68719476736 : Int) = I64 68719476736 from rfl]; simpa [I64_lt] using h1
          have H1 := Lib.hid h1; clear h1
          by_cases hq : cuB (b + w64 (2 ^ i)) p = true
          · go_wp2_with ((go_at_call 135; go_must (refine (cube_c _ _ _).mono ?_; rintro e w1 ⟨rfl, rfl⟩)))
            go_round
            case rel => exact ⟨i, by omega, by go_num, by rw [N'.out, if_pos (by rw [hq]; simpa using H1.out)]⟩
            case measure => simp [intOf]
          · have hq' : cuB (b + w64 (2 ^ i)) p = false := by simpa using hq
            clear hq
            go_wp2_with ((go_at_call 135; go_must (refine (cube_c _ _ _).mono ?_; rintro e w1 ⟨rfl, rfl⟩)))
            go_round
            case rel => exact ⟨i, by omega, by go_num, by rw [N'.out, if_neg (by rw [hq']; simp)]⟩
            case measure => simp [intOf]
        · have d1 : decide (I64 (b + w64 (2 ^ i)) < 68719476736) = false := by
            rw [show (68719476736 : Int) = I64 68719476736 from rfl]; simpa [I64_lt] using h1
          have H1 := Lib.hid h1; clear h1
          go_wp2_with ((go_at_call 135; go_must (refine (cube_c _ _ _).mono ?_; rintro e w1 ⟨rfl, rfl⟩)))
          go_round
          case rel => exact ⟨i, by omega, by go_num, by rw [N'.out, if_neg (by simp only [Bool.and_eq_true, decide_eq_true_eq]; intro h; exact H1.out h.1)]⟩
          case measure => simp [intOf]
end Go.Proofs.Ytjlkiopncclomaa

/- The walk of the reference's primes. No conditions. -/
namespace Go
namespace TL
open Go.RowKit
def us (l : List UInt64) : List Value := l.map fun x => .int .u64 (I64 x)
theorem us_length (l : List UInt64) : (us l).length = l.length := by simp [us]
theorem us_one (l : List UInt64) : ∀ q ∈ us l, q.oneCell' = true := by
  intro q hq; obtain ⟨b, _, rfl⟩ := List.mem_map.1 hq; rfl
theorem us_get {l : List UInt64} {i : Nat} (h : i < l.length) : (us l)[i]? = some (.int .u64 (I64 (l.getD i 0))) := by
  rw [us, List.getElem?_map, List.getD_eq_getElem?_getD, List.getElem?_eq_getElem h]; rfl
theorem prB_pre (p : Nat) : prB p <+: prB (p + 1) := by
  rw [prB]; split
  · exact List.prefix_append _ _
  · exact List.prefix_refl _
theorem prB_pre' (p d : Nat) : prB p <+: prB (p + d) := by
  induction d with
  | zero => exact List.prefix_refl _
  | succ d ih => exact ih.trans (prB_pre (p + d))
theorem prB_312 : prB 312 = P64 := by decide +kernel
theorem prB_311 : (prB 311).length = 63 := by decide +kernel
theorem prB_lt (p : Nat) (h : p ≤ 311) : (prB p).length < 64 := by
  have := (prB_pre' p (311 - p)).length_le
  rw [show p + (311 - p) = 311 by omega, prB_311] at this; omega
theorem prB_ne (p : Nat) (h : p ≤ 312) (i : Nat) (hi : i < (prB p).length) : (prB p).getD i 0 ≠ 0 := by
  have hp := prB_pre' p (312 - p)
  rw [show p + (312 - p) = 312 by omega, prB_312] at hp
  have h1 : P64[i]? = some ((prB p)[i]) := by
    obtain ⟨t, ht⟩ := hp
    rw [← ht, List.getElem?_append_left hi, List.getElem?_eq_getElem hi]
  have h2 : ∀ q ∈ P64, q ≠ 0 := by decide
  rw [List.getD_eq_getElem?_getD, List.getElem?_eq_getElem hi]
  exact h2 _ (List.mem_of_getElem? h1)
theorem all_take (l : List UInt64) (f : UInt64 → Bool) (k : Nat) (h : k < l.length) : (l.take (k + 1)).all f = ((l.take k).all f && f (l.getD k 0)) := by
  rw [List.take_succ_eq_append_getElem h, List.all_append, List.getD_eq_getElem?_getD, List.getElem?_eq_getElem h]; simp
end TL
end Go
namespace Go.Proofs.Ytjlkiopncclomaa
open Go.RowKit Go.TL
theorem mod0 (x y : UInt64) : ((I64 x).tmod (I64 y) == 0) = (x % y == 0) := by
  rw [Bool.eq_iff_iff, beq_iff_eq, beq_iff_eq, Int.tmod_eq_emod_of_nonneg (I64_bd x).1, I64_mod, show (0 : Int) = I64 0 from rfl, I64_inj]
set_option maxRecDepth 1000000 in
theorem u64T : SliceT Try.prog 184 25 1 8 := ⟨Try.underlying184, ⟨_, _, rfl, rfl, rfl, rfl, rfl⟩, by omega⟩
set_option maxHeartbeats 1000000 in
theorem primes_c (w : World) :
    Calls Try.prog 129 #[.int .i64 64] w fun e w' => ∃ q cap, e = .returned (.slice q 64 cap) ∧ Mem [] w w' [.sl 1 (.slice q 64 cap) 64 (us P64)] := by
  have M := (Mem.start [] w).nil 1
  go_enter Try.func129, Try.ntmps129
  go_wp2_with fail
  go_loopw [3, 4] (fun l p wr => ∃ (n : Nat) (q : Option Addr) (cap : Nat), 2 ≤ n ∧ n ≤ 312 ∧ p = .int .u64 (I64 (UInt64.ofNat n)) ∧ l = .slice q (prB n).length cap ∧ Mem [] w wr [.sl 1 (.slice q (prB n).length cap) (prB n).length (us (prB n))]) (fun _ p _ => (312 - intOf p).toNat)
  case atStart => exact ⟨2, none, 0, by omega, by omega, rfl, rfl, M⟩
  case round =>
    clear M
    obtain ⟨n, q, cap, h2, hn, rfl, rfl, M⟩ := hrel
    have hI : I64 (UInt64.ofNat n) = (n : Int) := by rw [I64_eq, UInt64.toNat_ofNat']; omega
    have HI := Lib.hid hI; clear hI
    by_cases hlt : n ≤ 311
    · have hl := prB_lt n hlt
      have hll : ((prB n).length : Int) < 64 := by omega
      go_wp2_with fail
      go_loopw [5, 6] (fun is i wr => ∃ k : Nat, k ≤ (prB n).length ∧ i = .int .i64 k ∧ is = .bool (((prB n).take k).all fun q => UInt64.ofNat n % q != 0) ∧ Mem [] w wr [.sl 1 (.slice q (prB n).length cap) (prB n).length (us (prB n))]) (fun _ i _ => (prB n).length - (intOf i).toNat)
      case atStart => exact ⟨0, by omega, rfl, rfl, M⟩
      case round =>
        clear M
        obtain ⟨k, hk, rfl, rfl, M⟩ := hrel
        by_cases hkl : k < (prB n).length
        · obtain ⟨g, o, rfl⟩ := M.slAddr 0 rfl (by omega)
          have hne := prB_ne n hn k hkl
          obtain ⟨y, ey⟩ : ∃ y, y = (prB n).getD k 0 := ⟨_, rfl⟩
          have hy : (us (prB n))[k]? = some (.int .u64 (I64 y)) := by rw [ey]; exact us_get hkl
          have hm := all_take (prB n) (fun q => UInt64.ofNat n % q != 0) k hkl
          rw [← ey] at hm hne
          have Hm := Lib.hid hm; clear hm ey
          have Hy := Lib.hid hy; clear hy
          have y0 : ¬ I64 y = 0 := fun h => hne (I64_inj.1 (h.trans (rfl : (0 : Int) = I64 0)))
          go_wp2_with (first | ((with_reducible show wpList _ _ _ (Oper.mk _ (Op.load _ _) _ _ _ _ :: _) _ _); go_must (refine w_loadS M 0 _ _ rfl rfl rfl rfl (by decide +kernel) k rfl Hy.out ?_)))
          all_goals
            have hr : _ := ‹((I64 (UInt64.ofNat n)).tmod (I64 y) == 0) = _›
            rw [mod0] at hr
            go_roundw
            case rel => exact ⟨k + 1, by omega, by go_num, by rw [Hm.out, bne, hr]; simp, M⟩
            case measure => simp [intOf]; omega
        · obtain rfl : k = (prB n).length := by omega
          rw [List.take_length]
          have hs : prB (n + 1) = if ((prB n).all fun q => UInt64.ofNat n % q != 0) = true then prB n ++ [UInt64.ofNat n] else prB n := by
            rw [prB]; simp [h2]
          have Hs := Lib.hid hs; clear hs
          have hI2 : I64 (UInt64.ofNat n + 1) = ((n + 1 : Nat) : Int) := by rw [I64_eq, UInt64.toNat_add, UInt64.toNat_ofNat']; simp; omega
          have HI2 := Lib.hid hI2; clear hI2
          have e1 : UInt64.ofNat n + 1 = UInt64.ofNat (n + 1) := by apply UInt64.toNat_inj.1; rw [UInt64.toNat_add]; simp
          have E1 := Lib.hid e1; clear e1
          go_wp2_with (first | ((with_reducible show wpList _ _ _ (Oper.mk _ (Op.buildSlice _ 1 _) _ _ _ _ :: _) _ _); go_must (refine w_buildSlice1 M u64T (by decide) _ rfl rfl (by first | exact ev_tmp rfl | exact ev_const) _ rfl rfl ?_; clear M; intro g w1 M; (try conv => arg 5; simp only [Act.put, List.setIfInBounds_toArray, setC]))) | ((with_reducible refine tApp ?_); go_must (refine w_append_new M 0 u64T _ _ rfl rfl rfl rfl rfl rfl (by first | decide | (intro q hq; simp at hq; subst hq; rfl) | (intro q hq; simp at hq; rcases hq with rfl | rfl; rfl; rfl) | (intro q hq; simp at hq; rcases hq with rfl | rfl | rfl <;> rfl)) (by decide) (by first | (simp only [maxLen]; omega) | (simp [maxLen]; omega)) (by first | omega | (simp; omega)) ?_; clear M; intro q cap w1 M; (try simp only [setC] at M); (try conv => arg 5; simp only [Act.put, List.setIfInBounds_toArray, setC]))))
          · have ha : ((prB n).all fun q => UInt64.ofNat n % q != 0) = true := by assumption
            have hs := Hs.out
            rw [if_pos ha] at hs
            go_roundw
            case rel => exact ⟨n + 1, _, _, by omega, by omega, by rw [E1.out], by rw [hs, List.length_append]; rfl, by
              rw [hs, List.length_append]; simpa [us] using M⟩
            case measure =>
              show (312 - I64 (UInt64.ofNat n + 1)).toNat < (312 - I64 (UInt64.ofNat n)).toNat
              rw [HI2.out, HI.out]; omega
          · have ha : ((prB n).all fun q => UInt64.ofNat n % q != 0) = false := by assumption
            have hs := Hs.out
            rw [if_neg (by rw [ha]; decide)] at hs
            go_roundw
            case rel => exact ⟨n + 1, _, _, by omega, by omega, by rw [E1.out], by rw [hs], by rw [hs]; exact M⟩
            case measure =>
              show (312 - I64 (UInt64.ofNat n + 1)).toNat < (312 - I64 (UInt64.ofNat n)).toNat
              rw [HI2.out, HI.out]; omega
    · obtain rfl : n = 312 := by omega
      rw [prB_312, P64_length] at M ⊢
      go_wp2_with fail
      go_ret
      exact ⟨_, _, rfl, M⟩
end Go.Proofs.Ytjlkiopncclomaa

/- Rows of 32-bit words, and slices that were there, in the walk. No conditions but those each law names. -/
namespace Go
namespace TL
open Go.RowKit
def ws (l : List UInt32) : List Value := l.map fun x => .int .u32 (I32 x)
theorem ws_length (l : List UInt32) : (ws l).length = l.length := by simp [ws]
theorem ws_one (l : List UInt32) : ∀ q ∈ ws l, q.oneCell' = true := by
  intro q hq; obtain ⟨b, _, rfl⟩ := List.mem_map.1 hq; rfl
theorem ws_get {l : List UInt32} {i : Nat} (h : i < l.length) : (ws l)[i]? = some (.int .u32 (I32 (l.getD i 0))) := by
  rw [ws, List.getElem?_map, List.getD_eq_getElem?_getD, List.getElem?_eq_getElem h]; rfl
theorem ws_set (l : List UInt32) (i : Nat) (b : UInt32) : ws (l.set i b) = (ws l).set i (.int .u32 (I32 b)) := by simp [ws, List.map_set]
section
variable {P : Program} {ops : Array Oper} {rest : List Oper} {o : Oper} {a : Act} {w w0 : World} {Q : Exit → Act → World → Prop} {F : List Nat} {L : List Chunk}
theorem w_load32 (M : Mem F w0 w L) (i : Nat) (t : TypeId) (x : Operand) (ho : o.op = .load t x) {g off : Nat} {l : List UInt32} (hi : L[i]? = some (.row g (ws l))) (hx : a.eval x = .pointer (some ⟨g, off, none⟩)) (hw : Region.wanted o (yielded ops a.tmps) = true)
    (ht : scalarT P t = true) (hlt : off < l.length) (h : wpList P ops Q rest (a.put o.dst (.int .u32 (I32 (l.getD off 0)))) w) : wpList P ops Q (o :: rest) a w :=
  w_load M i t x ho hi hx hw ht (ws_get hlt) h
theorem w_loadW (M : Mem F w0 w L) (i : Nat) (t : TypeId) (x : Operand) (ho : o.op = .load t x) {g : Nat} {l : List UInt32} (hi : L[i]? = some (.row g (ws l))) (hx : a.eval x = .pointer (some ⟨g, 0, none⟩)) (hw : Region.wanted o (yielded ops a.tmps) = true)
    (ht : rowT P t = true) {n : Nat} (hl : l.length = n) (hn : (P.info? t).map (·.size) = some n) (h : wpList P ops Q rest (a.put o.dst (.agg (ws l).toArray)) w) : wpList P ops Q (o :: rest) a w :=
  w_loadR M i t x ho hi hx hw ht (by rw [ws_length, hl]; exact hn) h
theorem w_store32 (M : Mem F w0 w L) (i : Nat) (t : TypeId) (x y : Operand) (ho : o.op = .store t x y) {g off : Nat} {l : List UInt32} (hi : L[i]? = some (.row g (ws l))) (hx : a.eval x = .pointer (some ⟨g, off, none⟩)) (hw : Region.wanted o (yielded ops a.tmps) = true)
    {b : UInt32} (hy : a.eval y = .int .u32 (I32 b)) (hn : (P.info? t).map (·.size) = some 1) (hlt : off < l.length)
    (h : ∀ w' : World, Mem F w0 w' (L.set i (.row g (ws (l.set off b)))) → wpList P ops Q rest (a.put o.dst undef) w') : wpList P ops Q (o :: rest) a w :=
  w_store M i t x y ho hi hx hw hy rfl rfl hn (by rw [ws_length]; exact hlt) (fun w' M' => h w' (by rw [ws_set]; exact M'))
theorem w_storeW (M : Mem F w0 w L) (i : Nat) (t : TypeId) (x y : Operand) (ho : o.op = .store t x y) {g : Nat} {l : List UInt32} (hi : L[i]? = some (.row g (ws l))) (hx : a.eval x = .pointer (some ⟨g, 0, none⟩)) (hw : Region.wanted o (yielded ops a.tmps) = true)
    {m : List UInt32} (hy : a.eval y = .agg (ws m).toArray) {n : Nat} (hm : m.length = n) (hn : (P.info? t).map (·.size) = some n) (hl : l.length = n)
    (h : ∀ w' : World, Mem F w0 w' (L.set i (.row g (ws m))) → wpList P ops Q rest (a.put o.dst undef) w') : wpList P ops Q (o :: rest) a w :=
  w_storeR M i t x y ho hi hx hw (ws m) hy rfl (by rw [ws_length, hm]; exact hn) (ws_one _) (by simp [ws_length, hm, hl]) h
/-- A byte of a slice that was there. -/
theorem w_loadX (M : Mem F w0 w L) (t : TypeId) (x : Operand) (ho : o.op = .load t x) {g so n m cap off : Nat} {l : List UInt8} (S : Sees w0 1 (.slice (some ⟨g, so, none⟩) m cap) n (bs l)) (hF : g ∉ F) (hx : a.eval x = .pointer (some ⟨g, off, none⟩)) (hw : Region.wanted o (yielded ops a.tmps) = true)
    (ht : scalarT P t = true) (j : Nat) (hoff : off = so + j) (hj : j < l.length) (h : wpList P ops Q rest (a.put o.dst (.int .u8 (I8 (l.getD j 0)))) w) : wpList P ops Q (o :: rest) a w :=
  wpW hw fun _ hK => by
    subst hoff
    have S' := M.sees S (by intro k hk; simp [Value.ownBlock] at hk; subst hk; exact hF)
    have hc : w.cell? ⟨g, so + j, none⟩ = some (.int .u8 (I8 (l.getD j 0))) := by
      rcases S'.2 with ⟨h0, _⟩ | ⟨g', o', c, hv', _, _, _, hr⟩
      · cases h0
      · injection hv' with h1 _ _; injection h1 with h1; injection h1 with h1 h2; subst h1; subst h2; exact hr j _ (getD_some hj)
    unfold Oper.wp execOp
    simp only [ho, hx, Instr.loadAt, Instr.sureAddr, Sem.run_bind, Sem.run_pure, Result.andThen_ok, run_loadVar_scalar ht w g _ _ hc]
    exact hK _ _ h
theorem sees_addr {size n m cap : Nat} {q : Option Addr} {xs : List Value} (S : Sees w size (.slice q m cap) n xs) (hn : 0 < n) : ∃ g o, q = some ⟨g, o, none⟩ := by
  rcases S.2 with ⟨_, h0⟩ | ⟨g, o, c, hv, _⟩
  · omega
  · injection hv with h1 h2 h3; exact ⟨g, o, h1⟩
variable {M : Mem F w0 w L} {is : List Nat}
theorem stab_ix32 (M : Mem F w0 w L) (i : Nat) (off : Nat) {t : TypeId} {x : Operand} (ho : o.op = .load t x) {g : Nat} {l : List UInt32} (hi : L[i]? = some (.row g (ws l))) (hin : i ∈ is) (ht : scalarT P t = true) (hlt : off < l.length) : Stab P (IxOk M is) o (.pointer (some ⟨g, off, none⟩)) :=
  stab_ix M i off ho hi hin ht (ws_get hlt)
theorem stab_ixW32 (M : Mem F w0 w L) (i : Nat) {t : TypeId} {x : Operand} (ho : o.op = .load t x) {g : Nat} {l : List UInt32} (hi : L[i]? = some (.row g (ws l))) (hin : i ∈ is) (ht : rowT P t = true) {n : Nat} (hl : l.length = n) (hn : (P.info? t).map (·.size) = some n) : Stab P (IxOk M is) o (.pointer (some ⟨g, 0, none⟩)) :=
  stab_ixR M i ho hi hin ht (by rw [ws_length, hl]; exact hn)
/-- A part of an owned slice, to be read. -/
theorem Mem.part (M : Mem F w0 w L) (i : Nat) {m n cap g so : Nat} {l : List UInt8} (hi : L[i]? = some (.sl 1 (.slice (some ⟨g, so, none⟩) m cap) n (bs l))) (at_ k : Nat) (h : at_ + k ≤ l.length) (hn : n = l.length) (c : Nat) (hc : k ≤ c) (hcm : c ≤ maxLen) :
    Sees w 1 (.slice (some ⟨g, so + at_, none⟩) k c) k (bs ((l.drop at_).take k)) := by
  have hl : ((l.drop at_).take k).length = k := by simp; omega
  refine ⟨by rw [bs_length, hl, Nat.mul_one], .inr ⟨g, so + at_, c, rfl, ?_, hc, hcm, ?_⟩⟩
  · exact (M.ok i _ hi).lt g (by simp [Chunk.fp, Value.ownBlock])
  · intro j v hv
    have hj : j < k := by have := (List.getElem?_eq_some_iff.1 hv).1; rw [bs_length, hl] at this; exact this
    rw [Nat.add_assoc]
    refine M.slCell i hi ?_
    rw [← hv, bs, bs, List.getElem?_map, List.getElem?_map, List.getElem?_take, if_pos hj, List.getElem?_drop]
end
/-- What is written word by word. -/
theorem setTake32 (l : List UInt32) (n k : Nat) (hl : l.length = n) (hk : k < n) (x : UInt32) (hx : x = l.getD k 0) : (l.take k ++ List.replicate (n - k) 0).set k x = l.take (k + 1) ++ List.replicate (n - (k + 1)) 0 := by
  subst hx
  rw [List.set_append_right _ _ (by simp; omega)]
  simp only [List.length_take, Nat.min_eq_left (show k ≤ l.length by omega), Nat.sub_self]
  rw [List.take_succ_eq_append_getElem (by omega), List.append_assoc, show n - k = (n - (k + 1)) + 1 by omega, List.replicate_succ, List.set_cons_zero, List.getD_eq_getElem?_getD, List.getElem?_eq_getElem (by omega)]
  rfl
end TL
end Go
