/- Texts of this seat, put together: Ref05S, Ref05O, Ref01L, Ref05L, Ref01. Each begins with a remark that says what is proved in it, and under which conditions. -/
import Derived.Test.YtidadhbaomieiaaGreatY
import Derived.IntWalk
import Derived.OwnWalk
import Derived.Test.YtidadhbaomieiaaGreatZe
import Derived.Test.YtidadhbaomieiaaGreatZf
import Derived.Test.YtidadhbaomieiaaGreatZj
import Derived.Test.YtidadhbaomieiaaGreatZl
import Derived.Test.YtidadhbaomieiaaGreatZm
import Derived.Test.YtidadhbaomieiaaGreatZn
set_option maxRecDepth 100000
set_option maxHeartbeats 16000000
namespace Go.Proofs.YtidadhbaomieiaaGreat
open Go.RowKit Go.TL
theorem a32T (l m : List UInt8) (hl : l.length = 32) (hm : m.length = 32) : EqRow Tryz.prog 49 l m :=
 eqRow Tryz.underlying49 Tryz.underlying5 yC yC l m hl hm
section
variable (l m : List UInt8) (hl : l.length = 32) (hm : m.length = 32) (w : World)
include hl hm
@[go_sem ↓] theorem a32_neq : (binOp .neq 49 (.agg (bs l).toArray) (.agg (bs m).toArray)).run Tryz.prog w = .ok (.bool (!(l == m))) w := (a32T l m hl hm).neq w
@[go_sem ↓] theorem a32_guardN (x y : Operand) : (eqGuard .neq 49 x y (.agg (bs l).toArray) (.agg (bs m).toArray)).run Tryz.prog w = .ok () w := (a32T l m hl hm).guardN x y w
end
theorem under_c (key label : List UInt8) (w : World) (hk : key.length = 32) (hl : label.length ≤ 100) :
  Calls Tryz.prog 106 #[.agg (bs key).toArray, .string (mkS label)] w fun e w' => e = .returned (.agg (bs (macL key label)).toArray) ∧ Below w.heap.size w w' := by
 have M := Mem.start [] w
 have TC := fun w => refTag_c key label w yE yE
 have hr : (macL key label).length = 32 := macL_len _ _
 obtain ⟨r, er⟩ : ∃ r, r = macL key label := ⟨_, rfl⟩
 rw [← er] at TC hr
 rw [← er]
 replace TC := Lib.hid TC
 clear er
 go_enter Tryz.func106, Tryz.ntmps106
 go_wp2_with ((first | ((with_reducible refine tBox (some 2) ?_); refine w_box M _ _ rfl rfl _ rfl (bs key) rfl ?_; clear M; intro gk w1 M) | ((with_reducible refine tAlloc (some 4) 49 ?_); refine w_alloc M _ rfl rfl (.agg (Array.replicate 32 (.int .u8 0))) (bs (List.replicate 32 (0 : UInt8))) yC rfl ?_; clear M; intro gr w1 M) | (go_at_call 48; (refine (TC.out _).mono ?_; rintro e w1 ⟨rfl, hb⟩; replace M := M.call hb; clear hb)) | ((with_reducible refine tM rfl ?_); refine mB ?_; try (clear M; (first | intro g w1 M | intro w1 M); try simp only [setC] at M)) | ((with_reducible refine tGuard ?_); refine gdC ?_ ?_ <;> (intro hgd; rw [hgd]; try (exfalso; simp at hgd; omega)))) <;> (try conv => arg 5; simp only [Act.put, List.setIfInBounds_toArray, setC]))
 exact bodyPost_ret (results_row rfl _ _ gr 0 (bs r) _ rfl (M.ok 0 _ rfl).2.1 Tryz.underlying49 rfl (by rw [bs_length, hr]; kernel_rfl)) rfl ⟨rfl, M.below⟩
theorem refStream_c (key : List UInt8) (k : Int) (b : UInt32) (n : UInt64) (d t text : List UInt8) (w : World) (hk : key.length = 32) (_ht : t.length = 32) (hx : text.length ≤ 1000000) :
  Calls Tryz.prog 68 #[.agg (bs key).toArray, .agg (envC k b n d t).toArray, .string (mkS text)] w fun e w' => e = .returned (.string (mkS (sealL key b n text))) ∧ Below w.heap.size w w' := by
 have M := Mem.start [] w
 have SE : sealL key b n text = streamL (macL key encL) (nonceL b n) text := rfl
 have hm := macL_len key encL
 have hn0 := nonceL_len b n
 have KC := fun w => under_c key encL w hk yN
 have SC := fun w => rStream_c (macL key encL) (nonceL b n) text w hm hn0 hx
 rw [← SE] at SC
 obtain ⟨s, es⟩ : ∃ s, s = sealL key b n text := ⟨_, rfl⟩
 rw [← es] at SC
 rw [← es]
 obtain ⟨m, em⟩ : ∃ m, m = macL key encL := ⟨_, rfl⟩
 rw [← em] at KC SC hm
 obtain ⟨nn, enn⟩ : ∃ x, x = nonceL b n := ⟨_, rfl⟩
 rw [← enn] at SC hn0
 replace KC := Lib.hid KC
 replace SC := Lib.hid SC
 have ENN := Lib.hid fun _ : Unit => enn
 clear es em SE enn
 go_enter Tryz.func68, Tryz.ntmps68
 go_wp2_with ((first | ((with_reducible refine tBox (some 3) ?_); refine w_box M _ _ rfl rfl _ rfl (bs key) rfl ?_; clear M; intro gk w1 M) | ((with_reducible refine tBox (some 4) ?_); refine w_box M _ _ rfl rfl _ rfl (envC k b n d t) rfl ?_; clear M; intro gx w1 M) | ((with_reducible refine tAlloc (some 7) 194 ?_); refine w_alloc M _ rfl rfl (.agg (Array.replicate 12 (.int .u8 0))) (bs (List.replicate 12 (0 : UInt8))) yC rfl ?_; clear M; intro gn w1 M) | ((with_reducible refine tLoad ?_); refine w_at _ _ rfl yI ?_; intro hx; (first | refine w_loadE M _ _ _ rfl yL hx rfl yA yA yB ?_ | refine w_loadTag M _ _ _ rfl yL hx rfl yA yA yB ?_); clear hx) | ((with_reducible refine tStore ?_); refine w_at2 _ _ _ rfl yF yF ?_; intro hx hy; (first | refine w_storeE M _ _ _ _ rfl yL hx rfl hy rfl yA yB yB ?_ | refine w_storeE (k := 0) (b := 0) (n := 0) (d := []) (tg := zeroT) M _ _ _ _ rfl yL hx rfl hy rfl yA zeroT_len yB ?_ | refine w_storeE (tg := zeroT) M _ _ _ _ rfl yL hx rfl hy rfl yA zeroT_len yB ?_ | refine w_storeTag M _ _ _ _ rfl yL hx rfl hy yA yB yB ?_ | refine w_storeData M _ _ _ _ rfl yL hx rfl hy yA ?_ | refine w_storeNum M _ _ _ _ rfl yL hx rfl hy yA ?_); clear hx hy M; intro w1 M; (try simp only [setC] at M)) | ((with_reducible refine tConv _ 70 9 ?_); (first | refine w_stringTag M _ _ _ _ _ rfl rfl yL rfl yB Tryz.underlying70 Tryz.underlying5 Tryz.underlying9 ?_)) | ((with_reducible refine tM rfl ?_); refine mB ?_; try (clear M; (first | intro g w1 M | intro w1 M); try simp only [setC] at M)) | ((with_reducible refine tGuard ?_); refine gdC ?_ ?_ <;> (intro hgd; rw [hgd]; try (exfalso; simp at hgd; omega)))) <;> (try conv => arg 5; simp only [Act.put, List.setIfInBounds_toArray, setC]))
 go_loopw [8] (fun iv wr => ∃ j : Nat, j ≤ 4 ∧ iv = .int .i64 j ∧ Mem [] w wr [.row gn (bs (nn.take j ++ List.replicate (12 - j) 0)), .row gx (envC k b n d t), .row gk (bs key)]) (fun iv _ => 4 - (intOf iv).toNat)
 case atStart => exact ⟨0, by omega, rfl, M⟩
 case round =>
  clear M
  obtain ⟨j, hj, rfl, M⟩ := hrel
  have hln : (nn.take j ++ List.replicate (12 - j) (0 : UInt8)).length = 12 := by simp; omega
  by_cases hlt : j < 4
  ·obtain ⟨l, el⟩ : ∃ l, l = nn.take j ++ List.replicate (12 - j) (0 : UInt8) := ⟨_, rfl⟩
   rw [← el] at M hln
   have EL := Lib.hid fun _ : Unit => el
   clear el
   have q1 : 0 ≤ 24 - 8 * (j : Int) := by omega
   have q2 : 24 - 8 * (j : Int) ≤ 31 := by omega
   have q3 : I64 (w64 (24 - 8 * (j : Int))) = 24 - 8 * (j : Int) := by rw [show 24 - 8 * (j : Int) = ((24 - 8 * j : Nat) : Int) by omega]; exact I64_nat _ yE
   have q4 : (24 - 8 * (j : Int)).toNat = 24 - 8 * j := by omega
   go_wp2_with ((first | ((with_reducible refine tM rfl ?_); refine mB ?_; try (clear M; (first | intro g w1 M | intro w1 M); try simp only [setC] at M)) | ((with_reducible refine tGuard ?_); refine gdC ?_ ?_ <;> (intro hgd; rw [hgd]; try (exfalso; simp at hgd; omega)))) <;> (try conv => arg 5; simp only [Act.put, List.setIfInBounds_toArray, setC]))
   rw [nonce_lo b n j hlt, ← ENN.out (), EL.out (), take_next nn 12 j hn0 yE] at M
   go_roundw
   case rel => exact ⟨j + 1, by omega, by go_num, M⟩
   case measure => simp [intOf]; omega
  ·obtain rfl : j = 4 := by omega
   go_wp2_with fail
   rw [show ((4 : Nat) : Int) = 4 from rfl]
   go_loopw [9] (fun iv wr => ∃ j : Nat, j ≤ 8 ∧ iv = .int .i64 j ∧ Mem [] w wr [.row gn (bs (nn.take (4 + j) ++ List.replicate (12 - (4 + j)) 0)), .row gx (envC k b n d t), .row gk (bs key)]) (fun iv _ => 8 - (intOf iv).toNat)
   case atStart => exact ⟨0, by omega, rfl, M⟩
   case round =>
    clear M hln
    obtain ⟨j, hj, rfl, M⟩ := hrel
    have hln : (nn.take (4 + j) ++ List.replicate (12 - (4 + j)) (0 : UInt8)).length = 12 := by simp; omega
    by_cases hlt : j < 8
    ·obtain ⟨l, el⟩ : ∃ l, l = nn.take (4 + j) ++ List.replicate (12 - (4 + j)) (0 : UInt8) := ⟨_, rfl⟩
     rw [← el] at M hln
     have EL := Lib.hid fun _ : Unit => el
     clear el
     have q1 : 0 ≤ 56 - 8 * (j : Int) := by omega
     have q2 : 56 - 8 * (j : Int) ≤ 63 := by omega
     have q3 : I64 (w64 (56 - 8 * (j : Int))) = 56 - 8 * (j : Int) := by rw [show 56 - 8 * (j : Int) = ((56 - 8 * j : Nat) : Int) by omega]; exact I64_nat _ yE
     have q4 : (56 - 8 * (j : Int)).toNat = 56 - 8 * j := by omega
     go_wp2_with ((first | ((with_reducible refine tM rfl ?_); refine mB ?_; try (clear M; (first | intro g w1 M | intro w1 M); try simp only [setC] at M)) | ((with_reducible refine tGuard ?_); refine gdC ?_ ?_ <;> (intro hgd; rw [hgd]; try (exfalso; simp at hgd; omega)))) <;> (try conv => arg 5; simp only [Act.put, List.setIfInBounds_toArray, setC]))
     rw [nonce_hj b n j hlt, ← ENN.out (), EL.out (), take_next nn 12 (4 + j) hn0 yE] at M
     go_roundw
     case rel => exact ⟨j + 1, by omega, by go_num, M⟩
     case measure => simp [intOf]; omega
    ·obtain rfl : j = 8 := by omega
     have e : nn.take (4 + 8) ++ List.replicate (12 - (4 + 8)) (0 : UInt8) = nn := by rw [List.take_of_length_le yE]; simp
     rw [e] at M
     clear e hln
     go_wp2_with ((first | ((with_reducible show Code.wp _ (Code.region 10 _ _) _ _ _); (have MR := M; refine region_lowc [(3, false), (0, false), (2, false), (1, true), (4, true), (5, false)] [] [(0, _), (2, _)] (IxOk MR [2, 0]) 6 yC yC rfl yC (lowA MR 2 0 (lowA MR 0 0 lows_nil)) (ixOk_self MR _) ?_; replace M := M.drew; simp only [planC, opAt, List.getElem?_toArray, List.getElem?_cons_zero, List.getElem?_cons_succ, Option.getD_some])) | (go_at_call 106; (refine (KC.out _).mono ?_; rintro e w1 ⟨rfl, hb⟩; replace M := M.call hb; clear hb)) | (go_at_call 105; (refine (SC.out _).mono ?_; rintro e w1 ⟨rfl, hb⟩; replace M := M.call hb; clear hb)) | ((with_reducible refine tM rfl ?_); refine mB ?_; try (clear M; (first | intro g w1 M | intro w1 M); try simp only [setC] at M)) | ((with_reducible first | show Seg _ _ _ _ | show OnlyN _ _ _ _ _); refine rA ?_) | ((with_reducible refine tGuard ?_); refine gdC ?_ ?_ <;> (intro hgd; rw [hgd]; try (exfalso; simp at hgd; omega)))) <;> (try conv => arg 5; simp only [Act.put, List.setIfInBounds_toArray, setC]))
     go_ret
     exact ⟨rfl, M.below⟩
theorem refTag05_c (key : List UInt8) (k : Nat) (b : UInt32) (n : UInt64) (d t about : List UInt8) (w : World) (hk : key.length = 32) (ht : t.length = 32) (hkk : k ≤ 1048576) (ha : about.length ≤ 100000) (hd : d.length ≤ 100000) :
  Calls Tryz.prog 69 #[.agg (bs key).toArray, .agg (envC k b n d t).toArray, .string (mkS about)] w fun e w' => e = .returned (.agg (bs (tagL key k b n about d)).toArray) ∧ Below w.heap.size w w' := by
 have M := Mem.start [] w
 have SE : tagL key k b n about d = macL (macL key macT) (headL k b n ++ (textL about ++ textL d)) := rfl
 have KC := fun w => under_c key macT w hk yN
 have hm := macL_len key macT
 have hh := headL_len k b n yE
 have hta : (textL about).length ≤ 100010 := by unfold textL; have := numL_length_le about.length yE; simp; omega
 have htd : (textL d).length ≤ 100010 := by unfold textL; have := numL_length_le d.length yE; simp; omega
 have HC := fun w => refHead_c k b n d t w hkk
 have T1 := fun w => Text01_c about w yE
 have T2 := fun w => Text01_c d w yE
 have TC := fun w => refTag_c (macL key macT) (headL k b n ++ (textL about ++ textL d)) w yE (by simp; omega)
 obtain ⟨m, em⟩ : ∃ m, m = macL key macT := ⟨_, rfl⟩
 rw [← em] at KC SE hm TC
 obtain ⟨h0, eh⟩ : ∃ x, x = headL k b n := ⟨_, rfl⟩
 rw [← eh] at SE HC TC hh
 obtain ⟨u1, eu1⟩ : ∃ x, x = textL about := ⟨_, rfl⟩
 rw [← eu1] at SE T1 TC hta
 obtain ⟨u2, eu2⟩ : ∃ x, x = textL d := ⟨_, rfl⟩
 rw [← eu2] at SE T2 TC htd
 obtain ⟨r, er⟩ : ∃ x, x = macL m (h0 ++ (u1 ++ u2)) := ⟨_, rfl⟩
 have hr : r.length = 32 := by rw [er]; exact macL_len _ _
 rw [← er] at SE TC
 have ER := Lib.hid fun _ : Unit => SE
 replace KC := Lib.hid KC
 replace HC := Lib.hid HC
 replace TC := Lib.hid TC
 replace T1 := Lib.hid T1
 replace T2 := Lib.hid T2
 clear em eh eu1 eu2 er SE
 go_enter Tryz.func69, Tryz.ntmps69
 go_wp2_with ((first | ((with_reducible refine tBox (some 3) ?_); refine w_box M _ _ rfl rfl _ rfl (bs key) rfl ?_; clear M; intro gk w1 M) | ((with_reducible refine tBox (some 4) ?_); refine w_box M _ _ rfl rfl _ rfl (envC k b n d t) rfl ?_; clear M; intro gx w1 M) | ((with_reducible refine tAlloc (some 6) 49 ?_); refine w_alloc M _ rfl rfl (.agg (Array.replicate 32 (.int .u8 0))) (bs (List.replicate 32 (0 : UInt8))) yC rfl ?_; clear M; intro gr w1 M) | ((with_reducible refine tAlloc (some 7) 49 ?_); refine w_alloc M _ rfl rfl (.agg (Array.replicate 32 (.int .u8 0))) (bs (List.replicate 32 (0 : UInt8))) yC rfl ?_; clear M; intro gm w1 M) | ((with_reducible show Code.wp _ (Code.region 2 _ _) _ _ _); (have MR := M; refine region_lowc [(0, false), (4, false), (7, false), (1, false), (2, false), (8, false), (3, true), (5, true), (6, false), (9, true), (10, false), (11, true), (12, true)] [(13, .str), (15, .str), (16, .str), (19, .str)] [(1, _), (2, _), (8, _)] (IxOk MR [0, 2]) 12 yC yC rfl yC (lowA MR 0 0 (lows_cons (stab_env MR 2 rfl rfl yN yA yA (by first | assumption | exact zeroT_len)) (lowA MR 2 3 lows_nil))) (ixOk_self MR _) ?_; replace M := M.drew; simp only [planC, opAt, List.getElem?_toArray, List.getElem?_cons_zero, List.getElem?_cons_succ, Option.getD_some])) | (go_at_call 72; ((first | (with_reducible refine (T1.out _).mono ?_) | (with_reducible refine (T2.out _).mono ?_)); rintro e w1 ⟨rfl, hb⟩; replace M := M.call hb; clear hb)) | (go_at_call 106; (refine (KC.out _).mono ?_; rintro e w1 ⟨rfl, hb⟩; replace M := M.call hb; clear hb)) | (go_at_call 71; (refine (HC.out _).mono ?_; rintro e w1 ⟨rfl, hb⟩; replace M := M.call hb; clear hb)) | (go_at_call 48; (refine (TC.out _).mono ?_; rintro e w1 ⟨rfl, hb⟩; replace M := M.call hb; clear hb)) | ((with_reducible refine tLoad ?_); refine w_at _ _ rfl yI ?_; intro hx; (first | refine w_loadE M _ _ _ rfl (by first | exact at2 | exact at3) hx rfl yA yA yB ?_ | refine w_loadTag M _ _ _ rfl (by first | exact at2 | exact at3) hx rfl yA yA yB ?_); clear hx) | ((with_reducible refine tStore ?_); refine w_at2 _ _ _ rfl yF yF ?_; intro hx hy; (first | refine w_storeE M _ _ _ _ rfl (by first | exact at2 | exact at3) hx rfl hy rfl yA yB yB ?_ | refine w_storeE (k := 0) (b := 0) (n := 0) (d := []) (tg := zeroT) M _ _ _ _ rfl (by first | exact at2 | exact at3) hx rfl hy rfl yA zeroT_len yB ?_ | refine w_storeE (tg := zeroT) M _ _ _ _ rfl (by first | exact at2 | exact at3) hx rfl hy rfl yA zeroT_len yB ?_ | refine w_storeTag M _ _ _ _ rfl (by first | exact at2 | exact at3) hx rfl hy yA yB yB ?_ | refine w_storeData M _ _ _ _ rfl (by first | exact at2 | exact at3) hx rfl hy yA ?_ | refine w_storeNum M _ _ _ _ rfl (by first | exact at2 | exact at3) hx rfl hy yA ?_); clear hx hy M; intro w1 M; (try simp only [setC] at M)) | ((with_reducible refine tConv _ 70 9 ?_); (first | refine w_stringTag M _ _ _ _ _ rfl rfl (by first | exact at2 | exact at3) rfl yB Tryz.underlying70 Tryz.underlying5 Tryz.underlying9 ?_)) | ((with_reducible refine tM rfl ?_); refine mB ?_; try (clear M; (first | intro g w1 M | intro w1 M); try simp only [setC] at M)) | ((with_reducible first | show Seg _ _ _ _ | show OnlyN _ _ _ _ _); refine rA ?_) | ((with_reducible refine tGuard ?_); refine gdC ?_ ?_ <;> (intro hgd; rw [hgd]; try (exfalso; simp at hgd; omega)))) <;> (try conv => arg 5; simp only [Act.put, List.setIfInBounds_toArray, setC]))
 exact bodyPost_ret (results_row rfl _ _ gr 0 (bs r) _ rfl (M.ok 1 _ rfl).2.1 Tryz.underlying49 rfl (by rw [bs_length, hr]; kernel_rfl)) rfl ⟨congrArg (fun x => Ending.returned (.agg (bs x).toArray)) (ER.out ()).symm, M.below⟩
theorem refClose_ok (key : List UInt8) (k : Nat) (b : UInt32) (n : UInt64) (about text : List UInt8) (w : World) (hk : key.length = 32) (h : k ≤ 1048576) (hx : text.length ≤ 8192) (ha : about.length ≤ 100000) :
  Calls Tryz.prog 35 #[.agg (bs key).toArray, .int .i64 k, .int .u32 (I32 b), .int .u64 (I64 n), .string (mkS about), .string (mkS text)] w fun e w' => e = .returned (.tuple #[.agg (envC k b n (sealL key b n text) (tagL key k b n about (sealL key b n text))).toArray, .int .i64 0]) ∧ Below w.heap.size w w' := by
 have M := Mem.start [] w
 have SC := fun w => refStream_c key k b n [] zeroT text w hk zeroT_len yE
 have hsl : (sealL key b n text).length ≤ 100000 := by unfold sealL; rw [streamL_len]; omega
 have TC := fun w => refTag05_c key k b n (sealL key b n text) zeroT about w hk zeroT_len h ha hsl
 have hr : (tagL key k b n about (sealL key b n text)).length = 32 := macL_len _ _
 obtain ⟨s, es⟩ : ∃ s, s = sealL key b n text := ⟨_, rfl⟩
 rw [← es] at SC TC hr
 rw [← es]
 obtain ⟨t, et⟩ : ∃ t, t = tagL key k b n about s := ⟨_, rfl⟩
 rw [← et] at TC hr
 rw [← et]
 replace SC := Lib.hid SC
 replace TC := Lib.hid TC
 clear es et hsl
 have hx' : (text.length : Int) ≤ 8192 := by omega
 have h3 : ¬ (k : Int) < 0 := by omega
 have h4 : ¬ 1048576 < (k : Int) := by omega
 go_enter Tryz.func35, Tryz.ntmps35
 go_wp2_with ((first | (go_at_call 68; (refine (SC.out _).mono ?_; rintro e w1 ⟨rfl, hb⟩; replace M := M.call hb; clear hb)) | (go_at_call 69; (refine (TC.out _).mono ?_; rintro e w1 ⟨rfl, hb⟩; replace M := M.call hb; clear hb)) | ((with_reducible refine tBox (some 6) ?_); refine w_box M _ _ rfl rfl _ rfl (bs key) rfl ?_; clear M; intro gk w1 M) | ((with_reducible refine tGuard ?_); first | ((with_reducible refine w_stripE ?_ ?_); exact dcd) | ((with_reducible refine w_skip1 ?_ ?_); exact dcd) | ((with_reducible refine w_skip0 ?_ ?_); exact dcd)) | ((with_reducible refine tAlloc (some 12) 75 ?_); refine w_alloc M _ rfl rfl (.agg (envC 0 0 0 [] zeroT).toArray) (envC 0 0 0 [] zeroT) yC rfl ?_; clear M; intro gr w1 M) | ((with_reducible refine tAlloc (some 14) 75 ?_); refine w_alloc M _ rfl rfl (.agg (envC 0 0 0 [] zeroT).toArray) (envC 0 0 0 [] zeroT) yC rfl ?_; clear M; intro gx w1 M) | ((with_reducible refine tLoad ?_); refine w_at _ _ rfl yI ?_; intro hx; (first | refine w_loadE M _ _ _ rfl yU hx rfl yA yA yB ?_ | refine w_loadTag M _ _ _ rfl yU hx rfl yA yA yB ?_); clear hx) | ((with_reducible refine tStore ?_); refine w_at2 _ _ _ rfl yF yF ?_; intro hx hy; (first | refine w_storeE M _ _ _ _ rfl yU hx rfl hy rfl yA yB yB ?_ | refine w_storeE (k := 0) (b := 0) (n := 0) (d := []) (tg := zeroT) M _ _ _ _ rfl yU hx rfl hy rfl yA zeroT_len yB ?_ | refine w_storeE (tg := zeroT) M _ _ _ _ rfl yU hx rfl hy rfl yA zeroT_len yB ?_ | refine w_storeTag M _ _ _ _ rfl yU hx rfl hy yA yB yB ?_ | refine w_storeData M _ _ _ _ rfl yU hx rfl hy yA ?_ | refine w_storeNum M _ _ _ _ rfl yU hx rfl hy yA ?_); clear hx hy M; intro w1 M; (try simp only [setC] at M)) | ((with_reducible refine tConv _ 70 9 ?_); (first | refine w_stringTag M _ _ _ _ _ rfl rfl yU rfl yB Tryz.underlying70 Tryz.underlying5 Tryz.underlying9 ?_)) | ((with_reducible refine tM rfl ?_); refine mB ?_; try (clear M; (first | intro g w1 M | intro w1 M); try simp only [setC] at M))) <;> (try conv => arg 5; simp only [Act.put, List.setIfInBounds_toArray, setC]))
 exact bodyPost_ret (results_two rfl _ _ gr 0 (envC k b n s t) _ (.int .i64 0) rfl rfl (M.ok 1 _ rfl).2.1 Tryz.underlying75 rfl (by rw [envC_len, hr]; kernel_rfl)) rfl ⟨rfl, M.below⟩
end Go.Proofs.YtidadhbaomieiaaGreat

namespace Go.Proofs.YtidadhbaomieiaaGreat
open Go.RowKit Go.TL
end Go.Proofs.YtidadhbaomieiaaGreat

namespace Go
namespace TL
def OnS (s : List UInt8) (x : InS) : Prop := x.rest = s.drop x.read ∧ x.read ≤ s.length
theorem OnS.start (s : List UInt8) : OnS s ⟨s, 0, 0⟩ := ⟨rfl, Nat.zero_le _⟩
theorem OnS.len {s : List UInt8} {x : InS} (h : OnS s x) : x.rest.length = s.length - x.read := by rw [h.1, List.length_drop]
theorem OnS.take {s : List UInt8} {x : InS} (h : OnS s x) {k e : Nat} (hk : k ≤ x.rest.length) : OnS s (x.take k e) := by
 have hl := h.len
 unfold InS.take
 split
 ·exact ⟨by simp only; rw [h.1, List.drop_drop], by simp only; have := h.2; omega⟩
 ·exact h
theorem OnS.most {s : List UInt8} {x : InS} (h : OnS s x) (m : Nat) : OnS s (x.most m).2 := by
 unfold InS.most
 split
 ·exact h.take (readN_le x.rest m).1
 ·exact h
theorem OnS.text {s : List UInt8} {x : InS} (h : OnS s x) (m : Nat) : OnS s (x.text m).2 := by
 unfold InS.text
 split
 ·split
  ·split
   ·have := (readN_le x.rest m).1
    exact h.take yE
   ·exact h.take (Nat.zero_le _)
  ·exact h.take (Nat.zero_le _)
 ·exact h
theorem OnS.byte {s : List UInt8} {x : InS} (h : OnS s x) : OnS s x.byte.2 := by
 unfold InS.byte
 split
 ·split
  ·exact h.take (Nat.zero_le _)
  ·rename_i b l e
   exact h.take (by rw [e]; simp)
 ·exact h
theorem OnS.fit {s : List UInt8} {x : InS} (h : OnS s x) (hs : s.length ≤ 1000000000) : x.fit := by
 have := h.len
 have := h.2
 unfold InS.fit; omega
end TL
end Go

namespace Go
namespace TL
end TL
end Go

namespace Go
namespace TL
open Go.RowKit
def irB (s : List UInt8) (x : InS) : List Value := [.string (mkS s), .int .i64 x.read, .int .i64 x.err]
end TL
end Go
namespace Go.Proofs.YtidadhbaomieiaaGreat
open Go.RowKit Go.TL
section
variable (g : Nat) (s : List UInt8) (x : InS) (w : World) (h : (Chunk.row g (irB s x)).ok w) (hx : OnS s x) (hs : s.length ≤ 1000000000)
include h hx hs
end
end Go.Proofs.YtidadhbaomieiaaGreat
