/- Texts of this seat, put together: SealA, InT, SealR, RingL, Ref06K, RegF, Ref01T. Each begins with a remark that says what is proved in it, and under which conditions. -/
import Derived.Test.YtidadhbaomieiaaGreatY
import Derived.IntWalk
import Derived.OwnWalk
import Derived.Test.YtidadhbaomieiaaGreatZd
import Derived.Test.YtidadhbaomieiaaGreatZe
import Derived.Test.YtidadhbaomieiaaGreatZf
import Derived.Test.YtidadhbaomieiaaGreatZg
import Derived.Test.YtidadhbaomieiaaGreatZj
import Derived.Test.YtidadhbaomieiaaGreatZk
set_option maxRecDepth 100000
set_option maxHeartbeats 16000000
namespace Go
namespace TL
def rightE (k : Int) (d : List UInt8) : Bool := decide (0 ≤ k) && (decide (k ≤ 1048576) && decide ((d.length : Int) ≤ 8192))
def headL (k : Nat) (b : UInt32) (n : UInt64) : List UInt8 := numL k ++ (numL b.toNat ++ numL n.toNat)
def nonceL (b : UInt32) (n : UInt64) : List UInt8 := bigB b.toUInt64 4 ++ bigB n 8
theorem nonceL_len (b : UInt32) (n : UInt64) : (nonceL b n).length = 12 := by unfold nonceL; rw [List.length_append, bigB_length, bigB_length]
def encL : List UInt8 := [101, 110, 99]
def macT : List UInt8 := [109, 97, 99]
def sealL (key : List UInt8) (b : UInt32) (n : UInt64) (text : List UInt8) : List UInt8 := streamL (macL key encL) (nonceL b n) text
def tagL (key : List UInt8) (k : Nat) (b : UInt32) (n : UInt64) (about data : List UInt8) : List UInt8 := macL (macL key macT) (headL k b n ++ (textL about ++ textL data))
theorem headL_len (k : Nat) (b : UInt32) (n : UInt64) (h : k < 18446744073709551616) : (headL k b n).length ≤ 30 := by
 have h1 := numL_length_le k h
 have h2 := numL_length_le b.toNat (by have := b.toNat_lt; omega)
 have h3 := numL_length_le n.toNat (by have := n.toNat_lt; omega)
 unfold headL; simp only [List.length_append]; omega
end TL
end Go
namespace Go.Proofs.YtidadhbaomieiaaGreat
open Go.RowKit Go.TL
theorem sealRight_c (k : Int) (b : UInt32) (n : UInt64) (d t : List UInt8) (w : World) :
  Calls Tryz.prog 74 #[.agg (envC k b n d t).toArray] w fun e w' => e = .returned (.bool (rightE k d)) ∧ Below w.heap.size w w' := by
 have M := Mem.start [] w
 unfold rightE
 by_cases h1 : 0 ≤ k
 ·by_cases h2 : k ≤ 1048576
  ·by_cases h3 : (d.length : Int) ≤ 8192
   ·rw [decide_eq_true h1, decide_eq_true h2, decide_eq_true h3]
    go_enter Tryz.func74, Tryz.ntmps74
    go_wp2_with ((first | ((with_reducible refine tBox (some 1) ?_); refine w_box M _ _ rfl rfl _ rfl (envC k b n d t) rfl ?_; clear M; intro gx w1 M) | ((with_reducible refine tGuard ?_); first | ((with_reducible refine w_stripE ?_ ?_); exact dcd) | ((with_reducible refine w_skip1 ?_ ?_); exact dcd) | ((with_reducible refine w_skip0 ?_ ?_); exact dcd)) | ((with_reducible refine tM rfl ?_); refine mS ?_; try (clear M; (first | intro g w1 M | intro w1 M); try simp only [setC] at M))) <;> (try conv => arg 5; simp only [Act.put, List.setIfInBounds_toArray, setC]))
    go_ret
    exact ⟨rfl, M.below⟩
   ·rw [decide_eq_true h1, decide_eq_true h2, decide_eq_false h3]
    go_enter Tryz.func74, Tryz.ntmps74
    go_wp2_with ((first | ((with_reducible refine tBox (some 1) ?_); refine w_box M _ _ rfl rfl _ rfl (envC k b n d t) rfl ?_; clear M; intro gx w1 M) | ((with_reducible refine tGuard ?_); first | ((with_reducible refine w_stripE ?_ ?_); exact dcd) | ((with_reducible refine w_skip1 ?_ ?_); exact dcd) | ((with_reducible refine w_skip0 ?_ ?_); exact dcd)) | ((with_reducible refine tM rfl ?_); refine mS ?_; try (clear M; (first | intro g w1 M | intro w1 M); try simp only [setC] at M))) <;> (try conv => arg 5; simp only [Act.put, List.setIfInBounds_toArray, setC]))
    go_ret
    exact ⟨rfl, M.below⟩
  ·rw [decide_eq_true h1, decide_eq_false h2]
   go_enter Tryz.func74, Tryz.ntmps74
   go_wp2_with ((first | ((with_reducible refine tBox (some 1) ?_); refine w_box M _ _ rfl rfl _ rfl (envC k b n d t) rfl ?_; clear M; intro gx w1 M) | ((with_reducible refine tGuard ?_); first | ((with_reducible refine w_stripE ?_ ?_); exact dcd) | ((with_reducible refine w_skip1 ?_ ?_); exact dcd) | ((with_reducible refine w_skip0 ?_ ?_); exact dcd)) | ((with_reducible refine tM rfl ?_); refine mS ?_; try (clear M; (first | intro g w1 M | intro w1 M); try simp only [setC] at M))) <;> (try conv => arg 5; simp only [Act.put, List.setIfInBounds_toArray, setC]))
   go_ret
   exact ⟨rfl, M.below⟩
 ·rw [decide_eq_false h1]
  go_enter Tryz.func74, Tryz.ntmps74
  go_wp2_with ((first | ((with_reducible refine tBox (some 1) ?_); refine w_box M _ _ rfl rfl _ rfl (envC k b n d t) rfl ?_; clear M; intro gx w1 M) | ((with_reducible refine tGuard ?_); first | ((with_reducible refine w_stripE ?_ ?_); exact dcd) | ((with_reducible refine w_skip1 ?_ ?_); exact dcd) | ((with_reducible refine w_skip0 ?_ ?_); exact dcd)) | ((with_reducible refine tM rfl ?_); refine mS ?_; try (clear M; (first | intro g w1 M | intro w1 M); try simp only [setC] at M))) <;> (try conv => arg 5; simp only [Act.put, List.setIfInBounds_toArray, setC]))
  go_ret
  exact ⟨rfl, M.below⟩
theorem numbers_c (g : Nat) (v : Value) (l : List UInt8) (k : Nat) (b : UInt32) (n : UInt64) (d t : List UInt8) (w : World) (hk : k ≤ 1048576) (hl : l.length ≤ 1000000) (ho : (outC g v l).ok w) :
  Calls Tryz.prog 79 #[.pointer (some ⟨g, 0, none⟩), .agg (envC k b n d t).toArray] w fun e w' => e = .returned (.tuple #[]) ∧ ∃ v', Upd w (outC g v l) w' (outC g v' (l ++ headL k b n)) := by
 have M := Mem.start1 ho
 have h1 := numL_length_le k yE
 have h2 := numL_length_le b.toNat (by have := b.toNat_lt; omega)
 have hb := b.toNat_lt
 have hn := n.toNat_lt
 have e1 := I64_nat k yE
 have e2 : I64 b.toUInt64 = ((b.toNat : Nat) : Int) := by rw [I64_eq, UInt32.toNat_toUInt64]
 replace e2 := Lib.hid fun _ : Unit => e2
 go_enter Tryz.func79, Tryz.ntmps79
 go_wp2_with ((first | ((with_reducible refine tBox (some 3) ?_); refine w_box M _ _ rfl rfl _ rfl (envC k b n d t) rfl ?_; clear M; intro gx w1 M) | (go_at_call 113; (first | (with_reducible refine (Num_c _ _ _ k (k : Int) rfl _ yE (by first | omega | (simp only [List.length_append]; omega)) (M.ok 1 _ rfl)).mono ?_) | (with_reducible refine (Num_c _ _ _ b.toNat (I64 b.toUInt64) (e2.out ()) _ yE (by first | omega | (simp only [List.length_append]; omega)) (M.ok 1 _ rfl)).mono ?_) | (with_reducible refine (Num_c _ _ _ n.toNat (I64 n) (I64_eq n) _ yE (by first | omega | (simp only [List.length_append]; omega)) (M.ok 1 _ rfl)).mono ?_)); rintro e w2 ⟨rfl, v1, U⟩; replace M := M.upd 1 rfl U; clear U) | ((with_reducible refine tM rfl ?_); refine mS ?_; try (clear M; (first | intro g w1 M | intro w1 M); try simp only [setC] at M)) | ((with_reducible refine tGuard ?_); refine gdC ?_ ?_ <;> (intro hgd; rw [hgd]; try (exfalso; simp at hgd; omega)))) <;> (try conv => arg 5; simp only [Act.put, List.setIfInBounds_toArray, setC]))
 simp only [List.append_assoc] at M
 exact bodyPost_end (results_none rfl _ _ _) rfl ⟨rfl, _, (M.tail).upd1 0 rfl⟩
theorem sealStream_c (key : List UInt8) (k : Int) (b : UInt32) (n : UInt64) (d t text : List UInt8) (w : World) (hk : key.length = 32) (hx : text.length ≤ 1000000) :
  Calls Tryz.prog 75 #[.agg (bs key).toArray, .agg (envC k b n d t).toArray, .string (mkS text)] w fun e w' => e = .returned (.string (mkS (sealL key b n text))) ∧ Below w.heap.size w w' := by
 have M := Mem.start [] w
 have KC := fun w => Key_c key encL w hk yN
 have SE : sealL key b n text = streamL (macL key encL) (nonceL b n) text := rfl
 have hm := macL_len key encL
 have SC := fun w => Stream_c (macL key encL) (nonceL b n) text w hm (nonceL_len b n) hx
 have A1 := fun (w : World) hok => sealPutc (.slice none 0 0) [] b.toUInt64 4 w hok yE (by simp)
 have A2 := fun v (w : World) hok => sealPutc v (bigB b.toUInt64 4) n 8 w hok yE (by rw [bigB_length]; omega)
 have hb1 := bigB_length b.toUInt64 4
 have hn0 := nonceL_len b n
 have hno : bigB b.toUInt64 4 ++ bigB n 8 = nonceL b n := rfl
 rw [hno] at A2
 rw [List.nil_append, show ((4 : Nat) : Int) = 4 from rfl] at A1
 rw [show ((8 : Nat) : Int) = 8 from rfl] at A2
 obtain ⟨m, em⟩ : ∃ m, m = macL key encL := ⟨_, rfl⟩
 rw [← em] at KC SE hm SC
 obtain ⟨nn, enn⟩ : ∃ x, x = nonceL b n := ⟨_, rfl⟩
 rw [← enn] at SE SC A2 hn0
 obtain ⟨b4, eb4⟩ : ∃ x, x = bigB b.toUInt64 4 := ⟨_, rfl⟩
 rw [← eb4] at A1 A2 hb1
 rw [hb1] at A1 A2
 rw [hn0] at A2
 obtain ⟨r, er⟩ : ∃ x, x = sealL key b n text := ⟨_, rfl⟩
 rw [SE] at er
 rw [← er] at SC
 have ER := Lib.hid fun _ : Unit => (show sealL key b n text = r from SE.trans er.symm)
 replace KC := Lib.hid KC
 replace SC := Lib.hid SC
 replace A1 := Lib.hid A1
 replace A2 := Lib.hid A2
 clear em enn eb4 er SE hno
 go_enter Tryz.func75, Tryz.ntmps75
 have NI := Lib.hid fun _ : Unit => (show (List.replicate 12 (0 : UInt8)).take 0 ++ (nn.take 12 ++ (List.replicate 12 0).drop (0 + 12)) = nn by rw [List.take_zero, List.nil_append, List.take_of_length_le yE]; simp)
 have hz : (List.replicate 12 (0 : UInt8)).length = 12 := List.length_replicate
 go_wp2_with ((first | ((with_reducible refine tBox (some 3) ?_); refine w_box M _ _ rfl rfl _ rfl (bs key) rfl ?_; clear M; intro gk w1 M) | ((with_reducible refine tBox (some 4) ?_); refine w_box M _ _ rfl rfl _ rfl (envC k b n d t) rfl ?_; clear M; intro gx w1 M) | ((with_reducible refine tAlloc (some 7) 194 ?_); refine w_alloc M _ rfl rfl (.agg (Array.replicate 12 (.int .u8 0))) (bs (List.replicate 12 (0 : UInt8))) yC rfl ?_; clear M; intro gn w1 M) | ((with_reducible show Code.wp _ (Code.region 2 _ _) _ _ _); (have MR := M; refine region_lowc [(0, false), (1, false), (5, false), (2, false), (3, false), (6, false), (4, true), (7, true), (8, true)] [(10, .int)] [(2, _), (6, _)] (IxOk MR [1]) 9 yC yC rfl yC (lowA MR 1 1 (lowA MR 1 2 lows_nil)) (ixOk_self MR _) ?_; replace M := M.drew; simp only [planC, opAt, List.getElem?_toArray, List.getElem?_cons_zero, List.getElem?_cons_succ, Option.getD_some])) | ((with_reducible show Code.wp _ (Code.region 3 _ _) _ _ _); (have MR := M; refine region_lowc [(3, false), (0, false), (2, false), (1, true), (4, true), (5, false)] [] [(0, _), (2, _)] (IxOk MR [2, 0]) 6 yC yC rfl yC (lowA MR 2 0 (lowA MR 0 0 lows_nil)) (ixOk_self MR _) ?_; replace M := M.drew; simp only [planC, opAt, List.getElem?_toArray, List.getElem?_cons_zero, List.getElem?_cons_succ, Option.getD_some])) | (go_at_call 108; (first | (replace M := M.nil 1; with_reducible refine (A1.out _ (M.ok 0 _ rfl)).mono ?_; rintro e w1 ⟨p1, c1, rfl, U⟩; replace M := M.upd 0 rfl U; clear U; simp only [List.set_cons_zero] at M) | (with_reducible refine (A2.out _ _ (M.ok 0 _ rfl)).mono ?_; rintro e w1 ⟨p2, c2, rfl, U⟩; replace M := M.upd 0 rfl U; clear U; simp only [List.set_cons_zero] at M))) | ((with_reducible show wpList _ _ _ (Oper.mk _ (Op.call ⟨Callee.builtin Builtin.copy, _, _⟩) _ _ _ _ :: _) _ _); (refine w_copyB M 1 bytesT _ _ _ rfl rfl rfl rfl rfl (sees_of (M.ok 0 _ rfl) hn0.symm) 12 yE yE ?_; clear M; intro w1 M; simp only [List.set_cons_succ, List.set_cons_zero] at M; rw [NI.out ()] at M; replace M := M.tail)) | (go_at_call 110; (refine (KC.out _).mono ?_; rintro e w1 ⟨rfl, hb⟩; replace M := M.call hb; clear hb)) | (go_at_call 109; (refine (SC.out _).mono ?_; rintro e w1 ⟨rfl, hb⟩; replace M := M.call hb; clear hb)) | ((with_reducible refine tM rfl ?_); refine mB ?_; try (clear M; (first | intro g w1 M | intro w1 M); try simp only [setC] at M)) | ((with_reducible first | show Seg _ _ _ _ | show OnlyN _ _ _ _ _); refine rA ?_) | ((with_reducible refine tGuard ?_); refine gdC ?_ ?_ <;> (intro hgd; rw [hgd]; try (exfalso; simp at hgd; omega)))) <;> (try conv => arg 5; simp only [Act.put, List.setIfInBounds_toArray, setC]))
 go_ret
 exact ⟨congrArg (fun x => Ending.returned (.string (mkS x))) (ER.out ()).symm, M.below⟩
theorem sealTag_c (key : List UInt8) (k : Nat) (b : UInt32) (n : UInt64) (d t about : List UInt8) (w : World) (hk : key.length = 32) (ht : t.length = 32) (hkk : k ≤ 1048576) (ha : about.length ≤ 100000) (hd : d.length ≤ 100000) :
  Calls Tryz.prog 76 #[.agg (bs key).toArray, .agg (envC k b n d t).toArray, .string (mkS about)] w fun e w' => e = .returned (.agg (bs (tagL key k b n about d)).toArray) ∧ Below w.heap.size w w' := by
 have M := Mem.start [] w
 have KC := fun w => Key_c key macT w hk yN
 have SE : tagL key k b n about d = macL (macL key macT) (headL k b n ++ (textL about ++ textL d)) := rfl
 have hm := macL_len key macT
 have hh := headL_len k b n yE
 have hta : (textL about).length ≤ 100010 := by unfold textL; have := numL_length_le about.length yE; simp; omega
 have htd : (textL d).length ≤ 100010 := by unfold textL; have := numL_length_le d.length yE; simp; omega
 have NC := fun (g : Nat) (v : Value) (w : World) hok => numbers_c g v [] k b n d t w hkk (by simp) hok
 have T1 := fun (g : Nat) (v : Value) (w : World) hok => Out_Text_c g v (headL k b n) about w yE yE hok
 have T2 := fun (g : Nat) (v : Value) (w : World) hok => Out_Text_c g v (headL k b n ++ textL about) d w yE (by simp; omega) hok
 have TC := fun w => Tag_c (macL key macT) (headL k b n ++ (textL about ++ textL d)) w yE (by simp; omega)
 rw [List.append_assoc] at T2
 rw [List.nil_append] at NC
 obtain ⟨m, em⟩ : ∃ m, m = macL key macT := ⟨_, rfl⟩
 rw [← em] at KC SE hm TC
 obtain ⟨h0, eh⟩ : ∃ x, x = headL k b n := ⟨_, rfl⟩
 rw [← eh] at SE NC T1 T2 TC hh
 obtain ⟨u2, eu⟩ : ∃ x, x = h0 ++ (textL about ++ textL d) := ⟨_, rfl⟩
 rw [← eu] at SE T2 TC
 obtain ⟨u1, eu1⟩ : ∃ x, x = h0 ++ textL about := ⟨_, rfl⟩
 rw [← eu1] at T1 T2
 obtain ⟨r, er⟩ : ∃ x, x = macL m u2 := ⟨_, rfl⟩
 have hr : r.length = 32 := by rw [er]; exact macL_len _ _
 rw [← er] at SE TC
 have ER := Lib.hid fun _ : Unit => SE
 replace KC := Lib.hid KC
 replace NC := Lib.hid NC
 replace T1 := Lib.hid T1
 replace T2 := Lib.hid T2
 replace TC := Lib.hid TC
 clear em eh eu eu1 er SE hta htd hh
 go_enter Tryz.func76, Tryz.ntmps76
 go_wp2_with ((first | ((with_reducible refine tBox (some 3) ?_); refine w_box M _ _ rfl rfl _ rfl (bs key) rfl ?_; clear M; intro gk w1 M) | ((with_reducible refine tBox (some 4) ?_); refine w_box M _ _ rfl rfl _ rfl (envC k b n d t) rfl ?_; clear M; intro gx w1 M) | ((with_reducible refine tAlloc (some 6) 64 ?_); refine w_alloc M _ rfl rfl (.agg (Array.replicate 32 (.int .u8 0))) (bs (List.replicate 32 (0 : UInt8))) yC rfl ?_; clear M; intro gr w1 M) | (((with_reducible refine tAlloc (some 7) 155 ?_); refine w_alloc M _ rfl rfl (.agg #[.slice none 0 0]) ([.slice none 0 0]) yC rfl ?_; clear M; intro go w1 M); replace M := M.outNew) | ((with_reducible refine tAlloc (some 8) 50 ?_); refine w_alloc M _ rfl rfl (.agg (Array.replicate 32 (.int .u8 0))) (bs (List.replicate 32 (0 : UInt8))) yC rfl ?_; clear M; intro gm w1 M) | (go_at_call 79; (refine (NC.out _ _ _ (M.ok 0 _ rfl)).mono ?_; rintro e w2 ⟨rfl, v1, U⟩; replace M := M.upd 0 rfl U; clear U; simp only [List.set_cons_zero] at M)) | (go_at_call 80; ((first | (with_reducible refine (T1.out _ _ _ (M.ok 0 _ rfl)).mono ?_) | (with_reducible refine (T2.out _ _ _ (M.ok 0 _ rfl)).mono ?_)); rintro e w2 ⟨rfl, v2, U⟩; replace M := M.upd 0 rfl U; clear U; simp only [List.set_cons_zero] at M)) | (go_at_call 110; (refine (KC.out _).mono ?_; rintro e w1 ⟨rfl, hb⟩; replace M := M.call hb; clear hb)) | (go_at_call 47; (refine (TC.out _).mono ?_; rintro e w1 ⟨rfl, hb⟩; replace M := M.call hb; clear hb)) | (go_at_call 81; (refine (Out_String_c _ _ _ _ (M.ok 1 _ rfl)).mono ?_; rintro e w1 ⟨rfl, rfl⟩)) | ((with_reducible show Code.wp _ (Code.region 6 _ _) _ _ _); (have MR := M; refine region_lowc [(0, false), (1, false), (2, true), (3, true), (4, true)] [] [(1, _)] (IxOk MR [0]) 4 yC yC rfl yC (lowA MR 0 0 lows_nil) (ixOk_self MR _) ?_; replace M := M.drew; simp only [planC, opAt, List.getElem?_toArray, List.getElem?_cons_zero, List.getElem?_cons_succ, Option.getD_some])) | ((with_reducible refine tLoad ?_); refine w_at _ _ rfl yI ?_; intro hx; (first | refine w_loadE M _ _ _ rfl (by first | exact at2 | exact at3) hx rfl yA yA yB ?_ | refine w_loadTag M _ _ _ rfl (by first | exact at2 | exact at3) hx rfl yA yA yB ?_); clear hx) | ((with_reducible refine tStore ?_); refine w_at2 _ _ _ rfl yF yF ?_; intro hx hy; (first | refine w_storeE M _ _ _ _ rfl (by first | exact at2 | exact at3) hx rfl hy rfl yA yB yB ?_ | refine w_storeE (k := 0) (b := 0) (n := 0) (d := []) (tg := zeroT) M _ _ _ _ rfl (by first | exact at2 | exact at3) hx rfl hy rfl yA zeroT_len yB ?_ | refine w_storeE (tg := zeroT) M _ _ _ _ rfl (by first | exact at2 | exact at3) hx rfl hy rfl yA zeroT_len yB ?_ | refine w_storeTag M _ _ _ _ rfl (by first | exact at2 | exact at3) hx rfl hy yA yB yB ?_ | refine w_storeData M _ _ _ _ rfl (by first | exact at2 | exact at3) hx rfl hy yA ?_ | refine w_storeNum M _ _ _ _ rfl (by first | exact at2 | exact at3) hx rfl hy yA ?_); clear hx hy M; intro w1 M; (try simp only [setC] at M)) | ((with_reducible refine tConv _ 70 9 ?_); (first | refine w_stringTag M _ _ _ _ _ rfl rfl (by first | exact at2 | exact at3) rfl yB Tryz.underlying70 Tryz.underlying5 Tryz.underlying9 ?_)) | ((with_reducible refine tM rfl ?_); refine mB ?_; try (clear M; (first | intro g w1 M | intro w1 M); try simp only [setC] at M)) | ((with_reducible first | show Seg _ _ _ _ | show OnlyN _ _ _ _ _); refine rA ?_) | ((with_reducible refine tGuard ?_); refine gdC ?_ ?_ <;> (intro hgd; rw [hgd]; try (exfalso; simp at hgd; omega)))) <;> (try conv => arg 5; simp only [Act.put, List.setIfInBounds_toArray, setC]))
 exact bodyPost_ret (results_row rfl _ _ gr 0 (bs r) _ rfl (M.ok 2 _ rfl).2.1 Tryz.underlying64 rfl (by rw [bs_length, hr]; kernel_rfl)) rfl ⟨congrArg (fun x => Ending.returned (.agg (bs x).toArray)) (ER.out ()).symm, M.below⟩
end Go.Proofs.YtidadhbaomieiaaGreat

namespace Go
namespace TL
/-! ### Numbers and texts, read back and cut -/
theorem most_num {m n k : Nat} {r : List UInt8} (h : n ≤ m) (h64 : n < 18446744073709551616) : InS.most ⟨numL n ++ r, k, 0⟩ m = (n, ⟨r, k + (numL n).length, 0⟩) := by
 unfold InS.most InS.take
 simp only [if_true]
 rw [read_num n m r h64, if_neg yE]
 simp
theorem text_text {m k : Nat} {t r : List UInt8} (h : t.length ≤ m) (h64 : t.length < 18446744073709551616) : InS.text ⟨textL t ++ r, k, 0⟩ m = (t, ⟨r, k + (textL t).length, 0⟩) := by
 unfold InS.text InS.take textL
 have e := read_num t.length m (t ++ r) h64
 rw [if_neg yE] at e
 simp only [if_true, List.append_assoc]
 rw [e]
 simp only [if_true]
 rw [if_pos (by simp)]
 simp [List.drop_append]
theorem most_ok {x : InS} {m n : Nat} {y : InS} (h : x.most m = (n, y)) (hx : x.err = 0) (hy : y.err = 0) : x.rest = numL n ++ y.rest ∧ n ≤ m := by
 unfold InS.most InS.take at h
 rw [if_pos hx] at h
 obtain ⟨⟨a, b, c⟩, e⟩ : ∃ R, R = readN x.rest m := ⟨_, rfl⟩
 rw [← e] at h
 simp only [Prod.mk.injEq] at h
 obtain ⟨rfl, rfl⟩ := h
 by_cases hc : c = 0
 ·subst hc
  obtain ⟨h1, h2, h3, _⟩ := read_ok e.symm
  simp only [if_true]
  exact ⟨h1, h3⟩
 ·rw [if_neg hc] at hy; exact absurd hy hc
theorem text_ok {x : InS} {m : Nat} {t : List UInt8} {y : InS} (h : x.text m = (t, y)) (hx : x.err = 0) (hy : y.err = 0) : x.rest = textL t ++ y.rest ∧ t.length ≤ m := by
 have hlen := InS.text_len x m
 rw [h] at hlen
 refine ⟨?_, hlen⟩
 unfold InS.text InS.take at h
 rw [if_pos hx] at h
 obtain ⟨⟨a, b, c⟩, e⟩ : ∃ R, R = readN x.rest m := ⟨_, rfl⟩
 rw [← e] at h
 by_cases hc : c = 0
 ·subst hc
  obtain ⟨h1, h2, h3, _⟩ := read_ok e.symm
  simp only [if_true] at h
  split at h
  ·rename_i hl
   simp only [Prod.mk.injEq] at h
   obtain ⟨rfl, rfl⟩ := h
   have e2 : ((x.rest.drop b).take a).length = a := by simp; omega
   unfold textL
   rw [e2, List.append_assoc]
   simp only
   rw [← List.drop_drop, List.take_append_drop]
   exact h1
  ·simp only [Prod.mk.injEq] at h
   obtain ⟨_, rfl⟩ := h
   simp at hy
 ·simp only [if_neg hc, Prod.mk.injEq] at h
  obtain ⟨_, rfl⟩ := h
  exact absurd hy hc
theorem most_err0 {x : InS} {m : Nat} (h : (x.most m).2.err = 0) : x.err = 0 := by
 by_cases hx : x.err = 0
 ·exact hx
 ·rw [InS.most_err hx] at h; exact h
theorem text_err0 {x : InS} {m : Nat} (h : (x.text m).2.err = 0) : x.err = 0 := by
 by_cases hx : x.err = 0
 ·exact hx
 ·rw [InS.text_err hx] at h; exact h
end TL
end Go

namespace Go
namespace TL
structure Env where
 k : Nat
 b : UInt32
 n : UInt64
 d : List UInt8
 t : List UInt8
def zeroE : Env := ⟨0, 0, 0, [], List.replicate 32 0⟩
def envB (x : Env) : List UInt8 := numL x.k ++ (numL x.b.toNat ++ (numL x.n.toNat ++ (textL x.d ++ x.t)))
def rightEnv (x : Env) : Prop := x.k ≤ 1048576 ∧ x.d.length ≤ 8192 ∧ x.t.length = 32
def tagS (x0 : InS) : Nat → InS × List UInt8
 | 0 => (x0, List.replicate 32 0)
 | n + 1 => ((tagS x0 n).1.byte.2, (tagS x0 n).2.set n (UInt8.ofNat (tagS x0 n).1.byte.1))
theorem tagS_succ (x0 : InS) (n : Nat) : tagS x0 (n + 1) = ((tagS x0 n).1.byte.2, (tagS x0 n).2.set n (UInt8.ofNat (tagS x0 n).1.byte.1)) := rfl
theorem tagS_len (x0 : InS) : ∀ n, (tagS x0 n).2.length = 32
 | 0 => List.length_replicate
 | n + 1 => by rw [tagS_succ, List.length_set]; exact tagS_len x0 n
theorem tagS_fit {x0 : InS} (h : x0.fit) : ∀ n, (tagS x0 n).1.fit
 | 0 => h
 | n + 1 => InS.byte_fit (tagS_fit h n)
structure Nums where
 k : Nat
 b : Nat
 n : Nat
 d : List UInt8
 x : InS
def numsS (s : List UInt8) : Nums :=
 let a := (InS.mk s 0 0).most 1048576
 let b := a.2.most 4294967295
 let c := b.2.most maxU
 let d := c.2.text 8192
 ⟨a.1, b.1, c.1, d.1, d.2⟩
def readS (s : List UInt8) : Env × Nat :=
 let a := numsS s
 let e := tagS a.x 32
 if e.1.fin = 0 then (⟨a.k, UInt32.ofNat a.b, UInt64.ofNat a.n, a.d, e.2⟩, 0) else (zeroE, e.1.fin)
theorem readS_zero {s : List UInt8} (h : (readS s).2 ≠ 0) : readS s = (zeroE, (readS s).2) := by
 unfold readS at h ⊢
 simp only at h ⊢
 by_cases e : (tagS (numsS s).x 32).1.fin = 0
 ·rw [if_pos e] at h; exact absurd rfl h
 ·rw [if_neg e]
theorem byte_has (x : InS) : ∃ q : UInt8, x.byte.1 = q.toNat := by
 unfold InS.byte
 split
 ·split
  ·exact ⟨0, rfl⟩
  ·rename_i b _ _; exact ⟨b, rfl⟩
 ·exact ⟨0, rfl⟩
theorem byte_cons (b : UInt8) (r : List UInt8) (k : Nat) : (InS.mk (b :: r) k 0).byte = (b.toNat, ⟨r, k + 1, 0⟩) := rfl
theorem byte_bad {x : InS} (h : x.err ≠ 0) : x.byte = (0, x) := by unfold InS.byte; rw [if_neg h]
theorem byte_ok {x : InS} (h : x.byte.2.err = 0) : x.err = 0 ∧ x.rest = UInt8.ofNat x.byte.1 :: x.byte.2.rest := by
 obtain ⟨rest, read, err⟩ := x
 by_cases e : err = 0
 ·subst e
  cases rest with
  | nil => cases h
  | cons b r => rw [byte_cons]; exact ⟨rfl, by rw [UInt8.ofNat_toNat]⟩
 ·rw [byte_bad e] at h; exact absurd h e
theorem set_take_succ (l : List UInt8) (j : Nat) (v : UInt8) (h : j < l.length) : (l.set j v).take (j + 1) = l.take j ++ [v] := by
 rw [List.take_succ_eq_append_getElem (by simpa using h), List.getElem_set_self, List.take_set_of_le (Nat.le_refl j)]
theorem tagS_back (t r : List UInt8) (k : Nat) (ht : t.length = 32) : ∀ n, n ≤ 32 → (tagS ⟨t ++ r, k, 0⟩ n).1 = ⟨t.drop n ++ r, k + n, 0⟩ ∧ (tagS ⟨t ++ r, k, 0⟩ n).2.take n = t.take n
 | 0, _ => ⟨rfl, rfl⟩
 | n + 1, h => by
  obtain ⟨h1, h2⟩ := tagS_back t r k ht n yE
  have hd : t.drop n = t[n] :: t.drop (n + 1) := List.drop_eq_getElem_cons yE
  have hl := tagS_len ⟨t ++ r, k, 0⟩ n
  rw [tagS_succ, h1, hd, List.cons_append, byte_cons]
  refine ⟨rfl, ?_⟩
  rw [set_take_succ _ _ _ yE, h2, UInt8.ofNat_toNat, List.take_succ_eq_append_getElem yE]
theorem tagS_only {x : InS} : ∀ n, n ≤ 32 → (tagS x n).1.err = 0 → x.err = 0 ∧ x.rest = (tagS x n).2.take n ++ (tagS x n).1.rest
 | 0, _, h => ⟨h, rfl⟩
 | n + 1, hn, h => by
  rw [tagS_succ] at h ⊢
  obtain ⟨e1, e2⟩ := byte_ok h
  obtain ⟨h1, h2⟩ := tagS_only n yE e1
  have hl := tagS_len x n
  refine ⟨h1, ?_⟩
  rw [set_take_succ _ _ _ yE, h2, e2]
  simp
theorem nums_back (x : Env) (h : rightEnv x) (r : List UInt8) : ∃ k, numsS (numL x.k ++ (numL x.b.toNat ++ (numL x.n.toNat ++ (textL x.d ++ r)))) = ⟨x.k, x.b.toNat, x.n.toNat, x.d, ⟨r, k, 0⟩⟩ := by
 obtain ⟨h1, h2, _⟩ := h
 have hb := x.b.toNat_lt
 have hn := x.n.toNat_lt
 unfold numsS
 simp only
 rw [most_num h1 yE]
 simp only
 rw [most_num yE yE]
 simp only
 rw [most_num (by unfold maxU; omega) yE]
 simp only
 rw [text_text h2 yE]
 exact ⟨_, rfl⟩
theorem read_env (x : Env) (h : rightEnv x) (r : List UInt8) : readS (envB x ++ r) = if r = [] then (x, 0) else (zeroE, 8) := by
 have e : envB x ++ r = numL x.k ++ (numL x.b.toNat ++ (numL x.n.toNat ++ (textL x.d ++ (x.t ++ r)))) := by unfold envB; simp only [List.append_assoc]
 obtain ⟨k, hk⟩ := nums_back x h (x.t ++ r)
 obtain ⟨t1, t2⟩ := tagS_back x.t r k h.2.2 32 (Nat.le_refl _)
 have hl := tagS_len ⟨x.t ++ r, k, 0⟩ 32
 rw [List.take_of_length_le yE, List.take_of_length_le (by have := h.2.2; omega)] at t2
 rw [List.drop_eq_nil_of_le (by have := h.2.2; omega), List.nil_append] at t1
 unfold readS
 rw [e, hk]
 simp only
 rw [t1, t2]
 by_cases hr : r = []
 ·subst hr
  have hf : (InS.mk [] (k + 32) 0).fin = 0 := rfl
  rw [if_pos rfl, if_pos hf, UInt32.ofNat_toNat, UInt64.ofNat_toNat]
 ·have hf : (InS.mk r (k + 32) 0).fin = 8 := by unfold InS.fin; rw [if_pos rfl, if_neg (by simpa using hr)]
  rw [if_neg hr, hf, if_neg yN]
theorem read_envonly {s : List UInt8} (h : (readS s).2 = 0) : s = envB (readS s).1 ∧ rightEnv (readS s).1 := by
 obtain ⟨⟨a, x1⟩, e1⟩ : ∃ R, R = (InS.mk s 0 0).most 1048576 := ⟨_, rfl⟩
 obtain ⟨⟨b, x2⟩, e2⟩ : ∃ R, R = x1.most 4294967295 := ⟨_, rfl⟩
 obtain ⟨⟨c, x3⟩, e3⟩ : ∃ R, R = x2.most maxU := ⟨_, rfl⟩
 obtain ⟨⟨d, x4⟩, e4⟩ : ∃ R, R = x3.text 8192 := ⟨_, rfl⟩
 have en : numsS s = ⟨a, b, c, d, x4⟩ := by unfold numsS; simp only [← e1, ← e2, ← e3, ← e4]
 have g := fun h => tagS_only (x := x4) 32 (Nat.le_refl _) h
 have hl := tagS_len x4 32
 obtain ⟨⟨x5, t⟩, e5⟩ : ∃ R, R = tagS x4 32 := ⟨_, rfl⟩
 rw [← e5] at g hl
 simp only at g hl
 have er : readS s = if x5.fin = 0 then (⟨a, UInt32.ofNat b, UInt64.ofNat c, d, t⟩, 0) else (zeroE, x5.fin) := by unfold readS; simp only [en, ← e5]
 rw [er] at h ⊢
 by_cases e : x5.fin = 0
 ·rw [if_pos e]
  simp only
  have he : x5.err = 0 ∧ x5.rest = [] := by
   unfold InS.fin at e
   by_cases q1 : x5.err = 0
   ·rw [if_pos q1] at e
    refine ⟨q1, ?_⟩
    by_cases q2 : x5.rest.length = 0
    ·simpa using q2
    ·rw [if_neg q2] at e; cases e
   ·rw [if_neg q1] at e; exact absurd e q1
  obtain ⟨g1, g2⟩ := g he.1
  rw [he.2, List.append_nil, List.take_of_length_le yE] at g2
  have f3 : x3.err = 0 := text_err0 (m := 8192) (by rw [← e4]; exact g1)
  have f2 : x2.err = 0 := most_err0 (m := maxU) (by rw [← e3]; exact f3)
  have f1 : x1.err = 0 := most_err0 (m := 4294967295) (by rw [← e2]; exact f2)
  obtain ⟨a1, a2⟩ := most_ok e1.symm rfl f1
  obtain ⟨b1, b2⟩ := most_ok e2.symm f1 f2
  obtain ⟨c1, c2⟩ := most_ok e3.symm f2 f3
  obtain ⟨d1, d2⟩ := text_ok e4.symm f3 g1
  rw [maxU_eq] at c2
  refine ⟨?_, a2, d2, hl⟩
  unfold envB
  simp only
  rw [UInt32.toNat_ofNat', UInt64.toNat_ofNat', Nat.mod_eq_of_lt yE, Nat.mod_eq_of_lt yE, ← g2, ← d1, ← c1, ← b1]
  exact a1
 ·rw [if_neg e] at h; exact absurd h e
end TL
end Go

namespace Go
namespace TL
def ringT : List UInt8 := [114, 105, 110, 103]
def ringU (m : List UInt8) (u : UInt64) : List UInt8 := macL m (ringT ++ bigB u 8)
def ringK (m : List UInt8) (k : Nat) : List UInt8 := ringU m (w64 (k : Int))
theorem ringK_len (m : List UInt8) (k : Nat) : (ringK m k).length = 32 := macL_length _ _
structure RingS where
 m : List UInt8
 c : Nat
 b : UInt32
 n : UInt64
def RingS.env (R : RingS) (about text : List UInt8) : Env :=
 ⟨R.c, R.b, R.n, sealL (ringK R.m R.c) R.b R.n text, tagL (ringK R.m R.c) R.c R.b R.n about (sealL (ringK R.m R.c) R.b R.n text)⟩
def openL (m : List UInt8) (c : Nat) (s about : List UInt8) : List UInt8 × Nat :=
 if (readS s).2 ≠ 0 then ([], (readS s).2) else if c < (readS s).1.k then ([], 20) else
  if (readS s).1.t = tagL (ringK m (readS s).1.k) (readS s).1.k (readS s).1.b (readS s).1.n about (readS s).1.d then (sealL (ringK m (readS s).1.k) (readS s).1.b (readS s).1.n (readS s).1.d, 0) else ([], 13)
theorem RingS.env_right {R : RingS} (about text : List UInt8) (hc : R.c ≤ 1048576) (ht : text.length ≤ 8192) : rightEnv (R.env about text) :=
 ⟨hc, by show (sealL _ _ _ _).length ≤ 8192; unfold sealL; rw [streamL_len]; exact ht, macL_length _ _⟩
theorem RingS.env_bytes (R : RingS) (about text : List UInt8) :
  headL R.c R.b R.n ++ (textL (sealL (ringK R.m R.c) R.b R.n text) ++ tagL (ringK R.m R.c) R.c R.b R.n about (sealL (ringK R.m R.c) R.b R.n text)) = envB (R.env about text) := by
 unfold headL envB RingS.env; simp only [List.append_assoc]
theorem envB_length {x : Env} (h : rightEnv x) : (envB x).length ≤ 8600 := by
 obtain ⟨k, b, n, d, t⟩ := x
 obtain ⟨h1, h2, h3⟩ := h
 simp only at h1 h2 h3
 have e : envB ⟨k, b, n, d, t⟩ = headL k b n ++ (textL d ++ t) := by unfold headL envB; simp only [List.append_assoc]
 rw [e]
 have a1 := headL_len k b n yE
 have a2 : (textL d).length ≤ 8210 := by unfold textL; have := numL_length_le d.length yE; simp; omega
 simp only [List.length_append]; omega
theorem RingS.read {R : RingS} (about text : List UInt8) (hc : R.c ≤ 1048576) (ht : text.length ≤ 8192) : readS (envB (R.env about text)) = (R.env about text, 0) := by
 have h := read_env (R.env about text) (RingS.env_right about text hc ht) []
 rw [List.append_nil, if_pos rfl] at h
 exact h
theorem openL_ok {R : RingS} (about text : List UInt8) (hc : R.c ≤ 1048576) (ht : text.length ≤ 8192) {c : Nat} (h : R.c ≤ c) : openL R.m c (envB (R.env about text)) about = (text, 0) := by
 unfold openL
 rw [RingS.read about text hc ht]
 simp only
 rw [if_neg (by simp), if_neg (by show ¬ c < R.c; omega)]
 have e : sealL (ringK R.m R.c) R.b R.n (sealL (ringK R.m R.c) R.b R.n text) = text := streamL_twice _ _ _
 show (if tagL (ringK R.m R.c) R.c R.b R.n about (sealL (ringK R.m R.c) R.b R.n text) = tagL (ringK R.m R.c) R.c R.b R.n about (sealL (ringK R.m R.c) R.b R.n text) then (sealL (ringK R.m R.c) R.b R.n (sealL (ringK R.m R.c) R.b R.n text), 0) else ([], 13)) = (text, 0)
 rw [if_pos rfl, e]
theorem openL_bad {m : List UInt8} {c : Nat} {s about : List UInt8} (h : (readS s).2 ≠ 0) : openL m c s about = ([], (readS s).2) := by
 unfold openL; rw [if_pos h]
theorem openL_far {m : List UInt8} {c : Nat} {s about : List UInt8} (h : (readS s).2 = 0) (hk : c < (readS s).1.k) : openL m c s about = ([], 20) := by
 unfold openL; rw [if_neg (by simpa using h), if_pos hk]
theorem openL_len (m : List UInt8) (c : Nat) (s about : List UInt8) : (openL m c s about).1.length ≤ 8192 := by
 unfold openL
 split
 ·simp
 split
 ·simp
 split
 ·rename_i h _ _
  have hr := (read_envonly (s := s) (by simpa using h)).2.2.1
  show (sealL _ _ _ _).length ≤ 8192
  unfold sealL; rw [streamL_len]; exact hr
 ·simp
end TL
end Go

namespace Go.Proofs.YtidadhbaomieiaaGreat
open Go.RowKit Go.TL
theorem rKey06_c (m : List UInt8) (i : Int) (w : World) (hm : m.length ≤ 1000000) :
  Calls Tryz.prog 22 #[.string (mkS m), .int .i64 i] w fun e w' => e = .returned (.agg (bs (ringU m (w64 i))).toArray) ∧ Below w.heap.size w w' := by
 have M := Mem.start [] w
 have TC := fun w => refTag_c m (ringT ++ bigB (w64 i) 8) w yE (by rw [List.length_append, bigB_length]; decide)
 have SE : ringU m (w64 i) = macL m (ringT ++ bigB (w64 i) 8) := rfl
 have hr : (macL m (ringT ++ bigB (w64 i) 8)).length = 32 := macL_len _ _
 obtain ⟨r, er⟩ : ∃ r, r = macL m (ringT ++ bigB (w64 i) 8) := ⟨_, rfl⟩
 rw [← er] at SE TC hr
 rw [SE]
 obtain ⟨x, ex⟩ : ∃ x, x = w64 i := ⟨_, rfl⟩
 rw [← ex] at TC
 replace TC := Lib.hid TC
 have EX := Lib.hid fun _ : Unit => ex
 clear er SE ex
 go_enter Tryz.func22, Tryz.ntmps22
 go_wp2_with ((first | ((with_reducible refine tAlloc (some 4) 49 ?_); refine w_alloc M _ rfl rfl (.agg (Array.replicate 32 (.int .u8 0))) (bs (List.replicate 32 (0 : UInt8))) yC rfl ?_; clear M; intro gr w1 M) | ((with_reducible refine tM rfl ?_); refine mB ?_; try (clear M; (first | intro g w1 M | intro w1 M); try simp only [setC] at M)) | ((with_reducible refine tGuard ?_); refine gdC ?_ ?_ <;> (intro hgd; rw [hgd]; try (exfalso; simp at hgd; omega)))) <;> (try conv => arg 5; simp only [apS, setC]))
 go_loopw [5, 6] (fun sv iv wr => ∃ (j : Nat) (done : List UInt8), j ≤ 8 ∧ iv = .int .i64 ((j : Int) - 1) ∧ sv = .string (mkS (ringT ++ done)) ∧ done ++ bigB x j = bigB x 8 ∧ Mem [] w wr [.row gr (bs (List.replicate 32 0))]) (fun _ iv _ => (intOf iv + 1).toNat)
 case atStart => exact ⟨8, [], by omega, rfl, rfl, rfl, M⟩
 case round =>
  clear M
  obtain ⟨j, done, hj, rfl, rfl, H, M⟩ := hrel
  have H' := Lib.hid H; clear H
  cases j with
  | zero =>
   have hx : done = bigB x 8 := by have := H'.out; simpa [bigB] using this
   subst hx
   go_wp2_with ((first | (go_at_call 48; (refine (TC.out _).mono ?_; rintro e w1 ⟨rfl, hb⟩; replace M := M.call hb; clear hb)) | ((with_reducible refine tM rfl ?_); refine mB ?_; try (clear M; (first | intro g w1 M | intro w1 M); try simp only [setC] at M)) | ((with_reducible refine tGuard ?_); refine gdC ?_ ?_ <;> (intro hgd; rw [hgd]; try (exfalso; simp at hgd; omega)))) <;> (try conv => arg 5; simp only [apS, setC]))
   exact bodyPost_ret (results_row rfl _ _ gr 0 (bs r) _ rfl (M.ok 0 _ rfl).2.1 Tryz.underlying49 rfl (by rw [bs_length, hr]; kernel_rfl)) rfl ⟨rfl, M.below⟩
  | succ k =>
   have e : ((k + 1 : Nat) : Int) - 1 = k := by omega
   rw [e]; clear e
   have b1 : 8 * (k : Int) ≤ 63 := by omega
   have b0 : 0 ≤ 8 * (k : Int) := by omega
   have q3 : I64 (w64 (8 * (k : Int))) = 8 * (k : Int) := by rw [show 8 * (k : Int) = ((8 * k : Nat) : Int) by omega]; exact I64_nat _ yE
   have q4 : (8 * (k : Int)).toNat = 8 * k := by omega
   have hd : done.length ≤ 8 := by have := congrArg List.length H'.out; rw [List.length_append, bigB_length, bigB_length] at this; omega
   have hrt : ringT.length = 4 := rfl
   go_wp2_with ((first | ((with_reducible refine tU 70 ?_); refine mU ?_; clear M; intro g w1 M) | ((with_reducible refine tM rfl ?_); refine mB ?_; try (clear M; (first | intro g w1 M | intro w1 M); try simp only [setC] at M)) | ((with_reducible refine tGuard ?_); refine gdC ?_ ?_ <;> (intro hgd; rw [hgd]; try (exfalso; simp at hgd; omega)))) <;> (try conv => arg 5; simp only [apS, setC]))
   go_roundw
   case rel => exact ⟨k, done ++ [(x >>> (8 * UInt64.ofNat k)).toUInt8], by omega, by go_num, by rw [EX.out ()], by rw [← H'.out]; simp [bigB], M.tail⟩
   case measure => simp [intOf]
end Go.Proofs.YtidadhbaomieiaaGreat

namespace Go
namespace TL
open Go.RowKit
inductive PT where
 | nil
 | rd (i : Nat) (r : PT)
 | wr (i : Nat) (r : PT)
 | alt (i : Nat) (r s : PT)
def PT.flat : PT → Plan
 | .nil => []
 | .rd i r => (i, false) :: r.flat
 | .wr i r => (i, true) :: r.flat
 | .alt i r _ => (i, true) :: r.flat
def PT.heads : PT → List Nat
 | .wr i _ => [i]
 | .alt i _ s => i :: s.heads
 | _ => []
def planT (P : Program) (ops : Array Oper) (fin : Act → World → Prop) (I : World → Prop) (c : Nat) : PT → List Oper × (Act → World → Prop)
 | .nil => ([], fin)
 | .rd i r => (opAt ops i :: (planT P ops fin I c r).1, (planT P ops fin I c r).2)
 | .wr i r => ([opAt ops i], fun a w => (i ≠ c → I w) ∧ wpList P ops (Seg (planT P ops fin I c r).2) (planT P ops fin I c r).1 a w)
 | .alt i r s => ([], fun a w => wpList P ops (Seg fun a w => (i ≠ c → I w) ∧ wpList P ops (Seg (planT P ops fin I c r).2) (planT P ops fin I c r).1 a w) [opAt ops i] a w ∧
   wpList P ops (Seg (planT P ops fin I c s).2) (planT P ops fin I c s).1 a w)
def detT (P : Program) (ops : Array Oper) (need : Needs) (idx : List Nat) (c : Nat) : Bool → Array Bool → PT → Bool
 | chk, listed, .nil => chk && (Region.ready .any ops listed).isEmpty
 | chk, listed, .rd i r =>
  chk && ((Region.ready .any ops listed).contains i && Region.free .any ops listed i &&
   ((stays ops need (opAt ops i) ((i, false) :: r.flat) && pureOp P (needOf need (opAt ops i)) (opAt ops i)) || (idx.contains i && staysLow ops (opAt ops i) ((i, false) :: r.flat))) &&
   (waitsC ops c i && detT P ops need idx c true (listed.setIfInBounds i true) r))
 | chk, listed, .wr i r => (!chk || Region.ready .any ops listed == [i]) && ((i != c || r.flat.isEmpty) && detT P ops need idx c true (listed.setIfInBounds i true) r)
 | chk, listed, .alt i r s => (!chk || Region.ready .any ops listed == i :: s.heads) && (((i != c || r.flat.isEmpty) && detT P ops need idx c true (listed.setIfInBounds i true) r) && ((r.flat.length + 1 == s.flat.length) && detT P ops need idx c false listed s))
section
variable {P : Program} {ops : Array Oper} {I : World → Prop} {fin : Act → World → Prop} {c : Nat}
theorem Seg.alt {Q1 Q2 : Exit → Act → World → Prop} {l1 l2 : List Oper} {a : Act} {w : World} (h : wpList P ops Q1 l1 a w) (h' : wpList P ops Q2 l2 a w) : Seg (fun a w => wpList P ops Q1 l1 a w ∧ wpList P ops Q2 l2 a w) .normal a w := ⟨h, h'⟩
theorem endsT : ∀ (t : PT) (a : Act) (w : World), wpList P ops (Seg (planT P ops fin I c t).2) (planT P ops fin I c t).1 a w →
  ∃ af wf, fin af wf ∧ ∀ p, (∀ x ∈ t.flat, (opAt ops x.1).dst ≠ some p) → af.tmps.getD p undef = a.tmps.getD p undef
 | .nil, a, w, h => ⟨a, w, h, fun _ _ => rfl⟩
 | .rd i r, a, w, h => by
  obtain ⟨a', w', h1, h2⟩ := stepS h
  obtain ⟨af, wf, h3, h4⟩ := endsT r a' w' h1
  exact ⟨af, wf, h3, fun t ht => (h4 t fun x hx => ht x (List.mem_cons_of_mem _ hx)).trans (h2 t (ht (i, false) List.mem_cons_self))⟩
 | .wr i r, a, w, h => by
  obtain ⟨a', w', h1, h2⟩ := stepS h
  obtain ⟨af, wf, h3, h4⟩ := endsT r a' w' h1.2
  exact ⟨af, wf, h3, fun t ht => (h4 t fun x hx => ht x (List.mem_cons_of_mem _ hx)).trans (h2 t (ht (i, true) List.mem_cons_self))⟩
 | .alt i r s, a, w, h => by
  obtain ⟨a', w', h1, h2⟩ := stepS h.1
  obtain ⟨af, wf, h3, h4⟩ := endsT r a' w' h1.2
  exact ⟨af, wf, h3, fun t ht => (h4 t fun x hx => ht x (List.mem_cons_of_mem _ hx)).trans (h2 t (ht (i, true) List.mem_cons_self))⟩
theorem writeT {F G K : Act → World → Prop} {i : Nat} {listed : Array Bool} {a : Act} {w : World} (hr : i ∈ Region.ready .any ops listed) (h : wpList P ops (Seg G) [opAt ops i] a w) (cont : ∀ a' w', G a' w' → K a' w') : wpOp P ops (Seg F) i K a w := by
 obtain ⟨_, oi, hoi, _⟩ := mem_ready.1 hr
 have hat : opAt ops i = oi := by simp [opAt, hoi]
 rw [hat] at h
 unfold wpOp
 rw [hoi]
 unfold wpList at h
 dsimp only
 split
 ·rename_i hw
  rw [if_pos hw] at h
  rcases h with h | h
  ·exact .inl (Oper.wp_seg cont h)
  ·exact (Seg.letsOut h.2).elim
 ·rename_i hw
  rw [if_neg hw] at h
  exact cont _ _ h
theorem flat_nil {t : PT} (h : t.flat.isEmpty = true) : t = .nil := by cases t <;> simp [PT.flat] at h ⊢
theorem mainT {need : Needs} {low : List (Nat × Value)} {Q : Exit → Act → World → Prop} (hs : Region.noSelect ops = true) (hlow : ∀ x ∈ low, Stab P I (opAt ops x.1) x.2) : ∀ t : PT,
  (∀ (listed : Array Bool) (a : Act) (w : World), detT P ops need (low.map (·.1)) c true listed t = true → I w →
   wpList P ops (Seg (planT P ops (finI ops need low Q) I c t).2) (planT P ops (finI ops need low Q) I c t).1 a w →
   wpAnyC P .any ops (Seg (finI ops need low Q)) I c t.flat.length listed a w) ∧
  (∀ (listed : Array Bool) (a : Act) (w : World) (m : Nat), t.flat.length = m + 1 → detT P ops need (low.map (·.1)) c false listed t = true → I w →
   wpList P ops (Seg (planT P ops (finI ops need low Q) I c t).2) (planT P ops (finI ops need low Q) I c t).1 a w →
   ∀ j ∈ t.heads, j ∈ Region.ready .any ops listed → wpOp P ops (Seg (finI ops need low Q)) j (fun a' w' => (j ≠ c → I w') ∧ wpAnyC P .any ops (Seg (finI ops need low Q)) I c m (listed.setIfInBounds j true) a' w') a w) := by
 intro t
 induction t with
 | nil =>
  refine ⟨fun listed a w hd _ h => ?_, fun _ _ _ _ _ _ _ _ j hj => by simp [PT.heads] at hj⟩
  have : Region.ready .any ops listed = [] := by simpa [detT] using hd
  exact ⟨this, h⟩
 | rd i r ih =>
  refine ⟨fun listed a w hd hIw h => ?_, fun _ _ _ _ _ _ _ _ j hj => by simp [PT.heads] at hj⟩
  simp only [detT, Bool.true_and, Bool.and_eq_true] at hd
  obtain ⟨⟨⟨hr, hf⟩, hk⟩, hwt, hrest⟩ := hd
  have hwait := waitsC_spec hwt
  have hr' : i ∈ Region.ready .any ops listed := by simpa using hr
  obtain ⟨_, oi, hoi, _⟩ := mem_ready.1 hr'
  have hat : opAt ops i = oi := by simp [opAt, hoi]
  have hends := endsT (.rd i r) a w h
  have h' : wpList P ops (Seg (planT P ops (finI ops need low Q) I c r).2) (oi :: (planT P ops (finI ops need low Q) I c r).1) a w := by
   rw [← hat]; exact h
  have hQ : ∀ v c a w, Seg (finI ops need low Q) (.panic c) (a.put oi.dst v) w → Seg (finI ops need low Q) (.panic c) a w := fun _ _ _ _ h => h.elim
  have hsel := fun j o cs b ho => Region.noSelect_spec hs j o cs b ho
  have key : ∀ (s : Sem Value), execOp a.eval oi = (do Pure.pure (Next.value (← s))) → (∀ v w1, s.run P w = .ok v w1 → w1 = w ∧ ∀ w', I w' → s.run P w' = .ok v w') →
    wpAnyC P .any ops (Seg (finI ops need low Q)) I c (r.flat.length + 1) listed a w := fun s hex hl => by
   cases hw : Region.wanted oi (yielded ops a.tmps) with
   | true =>
    unfold wpList at h'
    rw [if_pos hw] at h'
    rcases h' with h' | h'
    ·unfold Oper.wp at h'
     rw [hex, Sem.run_bind] at h'
     cases hrun : s.run P w with
     | ok v w1 =>
      obtain ⟨rfl, hall⟩ := hl _ _ hrun
      rw [hrun] at h'
      have hy : YieldsIf P ops I oi v a := .inl ⟨hw, fun w' hw' => by rw [hex, Sem.run_bind, hall w' hw']; rfl⟩
      exact C_first hoi hsel (hQ v) hwait r.flat.length listed a w1 (Region.free_spec hoi hf) hr' hy hIw (ih.1 _ _ w1 hrest hIw h')
     | halt x w1 =>
      rw [hrun] at h'
      cases x <;> exact h'.elim
    ·exact (Seg.letsOut h'.2).elim
   | false =>
    unfold wpList at h'
    rw [if_neg (by rw [hw]; decide)] at h'
    exact C_first hoi hsel (hQ undef) hwait r.flat.length listed a w (Region.free_spec hoi hf) hr' (.inr ⟨hw, rfl⟩) hIw (ih.1 _ _ w hrest hIw h')
  obtain ⟨af, wf, ⟨hneed, hlowf, _⟩, hsame⟩ := hends
  rcases (Bool.or_eq_true _ _).mp hk with hp | hp
  ·obtain ⟨hst, hp⟩ := (Bool.and_eq_true _ _).mp hp
   have hne : needOk (needOf need (opAt ops i)) a = true := by
    unfold needOk at hneed ⊢
    rw [List.all_eq_true] at hneed ⊢
    intro p hpm
    have hp0 := hpm
    simp only [needOf, List.mem_filter] at hpm
    have h3 := hneed p hpm.1
    rw [hsame p.1 (fun x hx hd => by
     have h5 := List.all_eq_true.1 hst x hx
     simp only [hd] at h5
     have h6 := List.all_eq_true.1 h5 p hp0
     simp at h6)] at h3
    exact h3
   rw [hat] at hp hne
   obtain ⟨s, hex, hloc⟩ := pureOp_local hp hne
   exact key s hex fun v w1 hrun => ⟨(hloc _ _ _ hrun).1, fun w' _ => (hloc _ _ _ hrun).2 w'⟩
  ·obtain ⟨hix, hst⟩ := (Bool.and_eq_true _ _).mp hp
   simp only [List.contains_iff_mem, List.mem_map] at hix
   obtain ⟨⟨i', p⟩, hxm, hxi⟩ := hix
   have hxi' : i' = i := hxi
   subst hxi'
   have hev : a.eval (lowOpnd oi) = p := by
    have e := hlowf _ hxm
    simp only [hat] at e
    rw [← e]
    refine (eval_same fun t ht => ?_).symm
    refine hsame t fun x hx hd => ?_
    have h5 := List.all_eq_true.1 hst x hx
    simp only [hd, hat] at h5
    have h6 := lowOpnd_in oi ht
    simp [h6] at h5
   have hstab := hlow _ hxm
   simp only [hat] at hstab
   unfold Stab at hstab
   cases hop : oi.op <;> simp only [hop] at hstab
   case load t x =>
    have hev' : a.eval x = p := by simpa only [lowOpnd, hop] using hev
    obtain ⟨v, hv⟩ := hstab
    refine key (Instr.loadAt t p) (by simp only [execOp, hop, hev']) fun u w1 hrun => ?_
    rw [hv w hIw] at hrun
    cases hrun
    exact ⟨rfl, hv⟩
   case convert src d x =>
    have hev' : a.eval x = p := by simpa only [lowOpnd, hop] using hev
    obtain ⟨v, hv⟩ := hstab
    refine key (Go.convert src d p) (by simp only [execOp, hop, hev']) fun u w1 hrun => ?_
    rw [hv w hIw] at hrun
    cases hrun
    exact ⟨rfl, hv⟩
 | wr i r ih =>
  have B : ∀ (listed : Array Bool) (a : Act) (w : World), ((i != c || r.flat.isEmpty) && detT P ops need (low.map (·.1)) c true (listed.setIfInBounds i true) r) = true →
    wpList P ops (Seg (planT P ops (finI ops need low Q) I c (.wr i r)).2) (planT P ops (finI ops need low Q) I c (.wr i r)).1 a w → i ∈ Region.ready .any ops listed →
    wpOp P ops (Seg (finI ops need low Q)) i (fun a' w' => (i ≠ c → I w') ∧ wpAnyC P .any ops (Seg (finI ops need low Q)) I c r.flat.length (listed.setIfInBounds i true) a' w') a w := fun listed a w hd h hr => by
   simp only [Bool.and_eq_true] at hd
   refine writeT hr h fun a' w' ⟨h2, h3⟩ => ⟨h2, ?_⟩
   by_cases e : i = c
   ·have hre := hd.1
    simp only [e, bne_self_eq_false, Bool.false_or] at hre
    have hn := flat_nil hre
    subst hn
    have : Region.ready .any ops (listed.setIfInBounds i true) = [] := by simpa [detT] using hd.2
    exact ⟨this, h3⟩
   ·exact ih.1 _ a' w' hd.2 (h2 e) h3
  refine ⟨fun listed a w hd hIw h => ?_, fun listed a w m hm hd hIw h j hj hr => ?_⟩
  ·unfold detT at hd
   rw [Bool.not_true, Bool.false_or, Bool.and_eq_true] at hd
   have hr : Region.ready .any ops listed = [i] := by simpa using hd.1
   refine ⟨fun h0 => (by rw [hr] at h0; cases h0), fun j hj => ?_⟩
   have hj' := hj
   rw [hr] at hj'
   obtain rfl : j = i := by simpa using hj'
   exact B listed a w hd.2 h hj
  ·unfold detT at hd
   rw [Bool.not_false, Bool.true_or, Bool.true_and] at hd
   obtain rfl : j = i := by simpa [PT.heads] using hj
   obtain rfl : m = r.flat.length := by simp [PT.flat] at hm; omega
   exact B listed a w hd h hr
 | alt i r s ihr ihs =>
  have B : ∀ (listed : Array Bool) (a : Act) (w : World), (((i != c || r.flat.isEmpty) && detT P ops need (low.map (·.1)) c true (listed.setIfInBounds i true) r) && ((r.flat.length + 1 == s.flat.length) && detT P ops need (low.map (·.1)) c false listed s)) = true → I w →
    wpList P ops (Seg (planT P ops (finI ops need low Q) I c (.alt i r s)).2) (planT P ops (finI ops need low Q) I c (.alt i r s)).1 a w → ∀ j ∈ i :: s.heads, j ∈ Region.ready .any ops listed →
    wpOp P ops (Seg (finI ops need low Q)) j (fun a' w' => (j ≠ c → I w') ∧ wpAnyC P .any ops (Seg (finI ops need low Q)) I c r.flat.length (listed.setIfInBounds j true) a' w') a w := fun listed a w hd hIw h j hj hr => by
   rw [Bool.and_eq_true, Bool.and_eq_true, Bool.and_eq_true] at hd
   obtain ⟨⟨hd1, hd2⟩, hd3, hd4⟩ := hd
   rcases List.mem_cons.1 hj with rfl | hj
   ·refine writeT hr h.1 fun a' w' ⟨h2, h3⟩ => ⟨h2, ?_⟩
    by_cases e : j = c
    ·simp only [e, bne_self_eq_false, Bool.false_or] at hd1
     have hn := flat_nil hd1
     subst hn
     have : Region.ready .any ops (listed.setIfInBounds j true) = [] := by simpa [detT] using hd2
     exact ⟨this, h3⟩
    ·exact ihr.1 _ a' w' hd2 (h2 e) h3
   ·exact ihs.2 listed a w r.flat.length (by have := beq_iff_eq.1 hd3; omega) hd4 hIw h.2 j hj hr
  refine ⟨fun listed a w hd hIw h => ?_, fun listed a w m hm hd hIw h j hj hr => ?_⟩
  ·unfold detT at hd
   rw [Bool.not_true, Bool.false_or, Bool.and_eq_true] at hd
   have hr : Region.ready .any ops listed = i :: s.heads := by simpa using hd.1
   refine ⟨fun h0 => (by rw [hr] at h0; cases h0), fun j hj => ?_⟩
   have hj' := hj
   rw [hr] at hj'
   exact B listed a w hd.2 hIw h j hj' hj
  ·unfold detT at hd
   rw [Bool.not_false, Bool.true_or, Bool.true_and] at hd
   obtain rfl : m = r.flat.length := by simp [PT.flat] at hm; omega
   exact B listed a w hd hIw h j hj hr
theorem region_fork {Q : Exit → Act → World → Prop} {id : Nat} {l : List Oper} {a : Act} {w : World} (t : PT) (need : Needs) (low : List (Nat × Value)) (I : World → Prop) (c : Nat) (hm : P.follows .mixedOrders = true)
  (hs : Region.noSelect l.toArray = true) (hn : t.flat.length = l.length) (hd : detT P l.toArray need (low.map (·.1)) c true (Array.replicate l.length false) t = true)
  (hlow : ∀ x ∈ low, Stab P I (opAt l.toArray x.1) x.2) (hI : I w.drew)
  (h : wpList P l.toArray (Seg (planT P l.toArray (finI l.toArray need low Q) I c t).2) (planT P l.toArray (finI l.toArray need low Q) I c t).1 a w.drew) : (Code.region id l.toArray true).wp P Q a w := by
 refine Code.wp_mono (Q := Seg (finI l.toArray need low Q)) (fun e a w h => ?_) ?_
 ·cases e <;> first | exact h.2.2 | exact h.elim
 ·refine wp_region_any hm (wpAny_of_C (I := I) (c := c) _ _ _ _ (?_ : wpAnyC P .any l.toArray (Seg (finI l.toArray need low Q)) I c l.toArray.size (Array.replicate l.toArray.size false) a w.drew))
  have := (mainT (Q := Q) (c := c) hs hlow t).1 (Array.replicate l.length false) a w.drew hd hI h
  rw [hn] at this
  exact this
end
end TL
end Go

namespace Go
namespace TL
theorem byte128' (m : Nat) : 128 + (w64 ((m : Int) % 128)).toUInt8 = UInt8.ofNat (m % 128 + 128) := by
 rw [show ((m : Int) % 128) = ((m % 128 : Nat) : Int) by omega, w64_nat]
 apply UInt8.toNat_inj.1
 simp
 omega
end TL
end Go
namespace Go.Proofs.YtidadhbaomieiaaGreat
open Go.RowKit Go.TL
theorem Num01_c (n : Nat) (a : Int) (ha : a = (n : Int)) (w : World) (h : n < 18446744073709551616) :
  Calls Tryz.prog 107 #[.int .u64 a] w fun e w' => e = .returned (.string (mkS (numL n))) ∧ Below w.heap.size w w' := by
 subst ha
 have M := Mem.start [] w
 have hn10 := numL_length_le n h
 go_enter Tryz.func107, Tryz.ntmps107
 go_wp2_with fail
 (try conv => arg 4; dsimp only [mkS_fold])
 go_loopw [0, 3] (fun nv sv wr => ∃ (m : Nat) (d : List UInt8), m < 18446744073709551616 ∧ nv = .int .u64 m ∧ sv = .string (mkS d) ∧ Hid (d ++ numL m = numL n) ∧ Mem [] w wr []) (fun nv _ _ => (intOf nv).toNat)
 case atStart => exact ⟨n, [], h, rfl, rfl, Lib.hid rfl, M⟩
 case round =>
  clear M
  obtain ⟨m, d, hm, rfl, rfl, HD, M⟩ := hrel
  have hdl : d.length ≤ 10 := by have := congrArg List.length HD.out; simp at this; omega
  by_cases h128 : m < 128
  ·have h127 : (m : Int) ≤ 127 := by omega
   go_wp2_with ((first | ((with_reducible refine tU 70 ?_); refine mU ?_; clear M; intro g w1 M) | ((with_reducible refine tM rfl ?_); refine mB ?_; try (clear M; (first | intro g w1 M | intro w1 M); try simp only [setC] at M)) | ((with_reducible refine tGuard ?_); refine gdC ?_ ?_ <;> (intro hgd; rw [hgd]; try (exfalso; simp at hgd; omega)))) <;> (try conv => arg 5; simp only [apS, setC]))
   go_ret
   refine ⟨?_, M.below⟩
   have e := HD.out
   rw [numL_small h128] at e
   rw [← e, ← w8_nat]; rfl
  ·have h127 : (127 : Int) < m := by omega
   go_wp2_with ((first | ((with_reducible refine tU 70 ?_); refine mU ?_; clear M; intro g w1 M) | ((with_reducible refine tM rfl ?_); refine mB ?_; try (clear M; (first | intro g w1 M | intro w1 M); try simp only [setC] at M)) | ((with_reducible refine tGuard ?_); refine gdC ?_ ?_ <;> (intro hgd; rw [hgd]; try (exfalso; simp at hgd; omega)))) <;> (try conv => arg 5; simp only [apS, setC]))
   go_roundw
   case rel => exact ⟨m / 128, d ++ [UInt8.ofNat (m % 128 + 128)], by omega, by rw [show ((m : Int) / 128) = ((m / 128 : Nat) : Int) by omega, I64_nat _ yE], by rw [byte128'], Lib.hid (by rw [← HD.out, numL_big (n := m) yE]; simp), M.tail⟩
   case measure =>
    rw [show ((m : Int) / 128) = ((m / 128 : Nat) : Int) by omega, I64_nat _ yE]
    simp only [intOf]; omega
theorem Text01_c (t : List UInt8) (w : World) (ht : t.length ≤ 1000000000) :
  Calls Tryz.prog 72 #[.string (mkS t)] w fun e w' => e = .returned (.string (mkS (textL t))) ∧ Below w.heap.size w w' := by
 have M := Mem.start [] w
 have hn := numL_length_le t.length yE
 go_enter Tryz.func72, Tryz.ntmps72
 go_wp2_with ((go_at_call 107; (refine (Num01_c t.length _ (I64_nat _ yE) _ yE).mono ?_; rintro e w1 ⟨rfl, hb⟩; replace M := M.call hb; clear hb)))
 go_ret
 exact ⟨rfl, M.below⟩
end Go.Proofs.YtidadhbaomieiaaGreat
