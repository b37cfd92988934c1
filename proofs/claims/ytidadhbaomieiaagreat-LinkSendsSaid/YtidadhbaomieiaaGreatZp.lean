/- Texts of this seat, put together: Ref01M, Ref05B, Ref05, Ref06. Each begins with a remark that says what is proved in it, and under which conditions. -/
import Derived.Test.YtidadhbaomieiaaGreatY
import Derived.Test.YtidadhbaomieiaaGreatZl
import Derived.Test.YtidadhbaomieiaaGreatZm
import Derived.Test.YtidadhbaomieiaaGreatZo
set_option maxRecDepth 100000
set_option maxHeartbeats 16000000
namespace Go.Proofs.YtidadhbaomieiaaGreat
open Go.RowKit Go.TL
section
variable (g : Nat) (s : List UInt8) (x : InS) (w : World) (h : (Chunk.row g (irB s x)).ok w) (hx : OnS s x) (hs : s.length ≤ 1000000000)
include h hx hs
end
end Go.Proofs.YtidadhbaomieiaaGreat

namespace Go.Proofs.YtidadhbaomieiaaGreat
open Go.RowKit Go.TL
theorem refBytes_ok (k : Nat) (b : UInt32) (n : UInt64) (d t : List UInt8) (w : World) (ht : t.length = 32) (h : rightE k d = true) :
  Calls Tryz.prog 36 #[.agg (envC k b n d t).toArray] w fun e w' => e = .returned (.tuple #[.string (mkS (headL k b n ++ (textL d ++ t))), .int .i64 0]) ∧ Below w.heap.size w w' := by
 have M := Mem.start [] w
 have R := fun w => refRight_c k b n d t w
 obtain ⟨_, hkk, hdd⟩ := rightE_k h
 rw [h] at R
 have hh := headL_len k b n yE
 have HC := fun w => refHead_c k b n d t w yE
 have TC := fun w => Text01_c d w yE
 have hul : (textL d).length ≤ 100000 := by unfold textL; have := numL_length_le d.length yE; simp; omega
 obtain ⟨h0, eh⟩ : ∃ x, x = headL k b n := ⟨_, rfl⟩
 rw [← eh] at HC hh
 rw [← eh]
 obtain ⟨u, eu⟩ : ∃ x, x = textL d := ⟨_, rfl⟩
 rw [← eu] at TC hul
 rw [← eu]
 replace R := Lib.hid R
 replace HC := Lib.hid HC
 replace TC := Lib.hid TC
 clear h eh eu
 go_enter Tryz.func36, Tryz.ntmps36
 go_wp2_with ((first | ((with_reducible refine tBox (some 1) ?_); refine w_box M _ _ rfl rfl _ rfl (envC k b n d t) rfl ?_; clear M; intro gx w1 M) | (go_at_call 70; (refine (R.out _).mono ?_; rintro e w1 ⟨rfl, hb⟩; replace M := M.call hb; clear hb)) | (go_at_call 71; (refine (HC.out _).mono ?_; rintro e w1 ⟨rfl, hb⟩; replace M := M.call hb; clear hb)) | (go_at_call 72; (refine (TC.out _).mono ?_; rintro e w1 ⟨rfl, hb⟩; replace M := M.call hb; clear hb)) | ((with_reducible show Code.wp _ (Code.region 3 _ _) _ _ _); (have MR := M; refine region_lowc [(2, false), (6, false), (7, false), (0, false), (3, false), (8, false), (1, true), (4, true), (5, false), (9, false), (10, false), (11, false)] [(8, .str), (11, .str), (12, .str), (15, .str)] [(0, _), (3, _), (8, _)] (IxOk MR [0]) 12 yC yC rfl yC (lows_cons (stab_env MR 0 rfl rfl yN yA yA (by first | assumption | exact zeroT_len)) (lowA MR 0 3 (lows_cons (stab_strTag MR 0 rfl rfl yN (by first | assumption | exact zeroT_len) Tryz.underlying70 Tryz.underlying5 Tryz.underlying9) lows_nil))) (ixOk_self MR _) ?_; replace M := M.drew; simp only [planC, opAt, List.getElem?_toArray, List.getElem?_cons_zero, List.getElem?_cons_succ, Option.getD_some])) | ((with_reducible refine tLoad ?_); refine w_at _ _ rfl yI ?_; intro hx; (first | refine w_loadE M _ _ _ rfl yL hx rfl yA yA yB ?_ | refine w_loadTag M _ _ _ rfl yL hx rfl yA yA yB ?_); clear hx) | ((with_reducible refine tStore ?_); refine w_at2 _ _ _ rfl yF yF ?_; intro hx hy; (first | refine w_storeE M _ _ _ _ rfl yL hx rfl hy rfl yA yB yB ?_ | refine w_storeE (k := 0) (b := 0) (n := 0) (d := []) (tg := zeroT) M _ _ _ _ rfl yL hx rfl hy rfl yA zeroT_len yB ?_ | refine w_storeE (tg := zeroT) M _ _ _ _ rfl yL hx rfl hy rfl yA zeroT_len yB ?_ | refine w_storeTag M _ _ _ _ rfl yL hx rfl hy yA yB yB ?_ | refine w_storeData M _ _ _ _ rfl yL hx rfl hy yA ?_ | refine w_storeNum M _ _ _ _ rfl yL hx rfl hy yA ?_); clear hx hy M; intro w1 M; (try simp only [setC] at M)) | ((with_reducible refine tConv _ 70 9 ?_); (first | refine w_stringTag M _ _ _ _ _ rfl rfl yL rfl yB Tryz.underlying70 Tryz.underlying5 Tryz.underlying9 ?_)) | ((with_reducible refine tM rfl ?_); refine mB ?_; try (clear M; (first | intro g w1 M | intro w1 M); try simp only [setC] at M)) | ((with_reducible first | show Seg _ _ _ _ | show OnlyN _ _ _ _ _); refine rA ?_) | ((with_reducible refine tGuard ?_); refine gdC ?_ ?_ <;> (intro hgd; rw [hgd]; try (exfalso; simp at hgd; omega)))) <;> (try conv => arg 5; simp only [Act.put, List.setIfInBounds_toArray, setC]))
 go_ret2
 exact ⟨rfl, M.below⟩
end Go.Proofs.YtidadhbaomieiaaGreat

namespace Go
namespace TL
open Go.RowKit
section
variable {P : Program} {ops : Array Oper} {rest : List Oper} {o : Oper} {a : Act} {w w0 : World} {Q : Exit → Act → World → Prop} {F : List Nat} {L : List Chunk} {g : Nat} {k : Int} {b : UInt32} {n : UInt64} {d tg : List UInt8}
end
end TL
end Go
namespace Go.Proofs.YtidadhbaomieiaaGreat
open Go.RowKit Go.TL
end Go.Proofs.YtidadhbaomieiaaGreat

namespace Go
namespace TL
open Go.RowKit
abbrev ringR (R : RingS) : List Value := [.string (mkS R.m), .int .i64 R.c, .int .u32 (I32 R.b), .int .u64 (I64 R.n)]
theorem results_three {P : Program} {fn : Func} {p q r : Tmp} {ty : TypeId} (h : fn.results = #[.cell p ty, .tmp q, .tmp r]) (tmps : Array Value) (w : World) (b o : Nat) (cs : List Value) (d : TypeDesc) (z z' : Value)
  (hp : tmps.getD p undef = .pointer (some ⟨b, o, none⟩)) (hz : tmps.getD q undef = z) (hz' : tmps.getD r undef = z') (hc : w.rangeAt b o cs) (hu : P.underlying ty = some d) (hd : d.isRow = true) (hi : (P.info? ty).map (·.size) = some cs.length) :
  (results fn tmps).run P w = .ok (.tuple #[.agg cs.toArray, z, z']) w := by
 have hp' : tmps[p]?.getD undef = .pointer (some ⟨b, o, none⟩) := by simpa using hp
 have hz1 : tmps[q]?.getD undef = z := by simpa using hz
 have hz2 : tmps[r]?.getD undef = z' := by simpa using hz'
 simp [results, h, hp', hz1, hz2, asAddr, run_loadVar_mid w b o ty cs d hc hu hd hi]
end TL
end Go
namespace Go.Proofs.YtidadhbaomieiaaGreat
open Go.RowKit Go.TL
theorem rWrap_ok (R : RingS) (about text : List UInt8) (w : World) (hm : R.m.length ≤ 1000000) (hc : R.c ≤ 1048576) (hx : text.length ≤ 8192) (ha : about.length ≤ 100000) :
  Calls Tryz.prog 13 #[.agg (ringR R).toArray, .string (mkS about), .string (mkS text)] w fun e w' => e = .returned (.tuple #[.agg (ringR { R with n := R.n + 1 }).toArray, .string (mkS (envB (R.env about text))), .int .i64 0]) ∧ Below w.heap.size w w' := by
 obtain ⟨m, cc, bb, n⟩ := R
 simp only at hm hc ⊢
 have M := Mem.start [] w
 have hk : (ringK m cc).length = 32 := ringK_len _ _
 have CC := fun w => refClose_ok (ringK m cc) cc bb n about text w hk hc hx ha
 have hB : headL cc bb n ++ (textL (sealL (ringK m cc) bb n text) ++ tagL (ringK m cc) cc bb n about (sealL (ringK m cc) bb n text)) = envB (RingS.env ⟨m, cc, bb, n⟩ about text) := RingS.env_bytes ⟨m, cc, bb, n⟩ about text
 have BC := fun w => refBytes_ok cc bb n (sealL (ringK m cc) bb n text) (tagL (ringK m cc) cc bb n about (sealL (ringK m cc) bb n text)) w (macL_len _ _) (by unfold rightE; simp [sealL, streamL_len]; omega)
 rw [hB] at BC
 have ht : (tagL (ringK m cc) cc bb n about (sealL (ringK m cc) bb n text)).length = 32 := macL_len _ _
 obtain ⟨B, eB⟩ : ∃ B, B = envB (RingS.env ⟨m, cc, bb, n⟩ about text) := ⟨_, rfl⟩
 rw [← eB] at BC ⊢
 obtain ⟨d, ed⟩ : ∃ d, d = sealL (ringK m cc) bb n text := ⟨_, rfl⟩
 rw [← ed] at CC BC ht
 obtain ⟨t, et⟩ : ∃ t, t = tagL (ringK m cc) cc bb n about d := ⟨_, rfl⟩
 rw [← et] at CC BC ht
 have KC := fun (w : World) => rKey06_c m cc w hm
 rw [show ringU m (w64 (cc : Int)) = ringK m cc from rfl] at KC
 obtain ⟨kk, ek⟩ : ∃ k, k = ringK m cc := ⟨_, rfl⟩
 rw [← ek] at CC KC hk
 replace KC := Lib.hid KC
 replace CC := Lib.hid CC
 replace BC := Lib.hid BC
 clear eB ed et ek hB hc
 go_enter Tryz.func13, Tryz.ntmps13
 go_wp2_with ((first | ((with_reducible refine tGuard ?_); first | ((with_reducible refine w_stripE ?_ ?_); exact dcd) | ((with_reducible refine w_skip1 ?_ ?_); exact dcd) | ((with_reducible refine w_skip0 ?_ ?_); exact dcd)) | ((with_reducible refine tBox (some 3) ?_); refine w_box M _ _ rfl rfl _ rfl (ringR ⟨m, cc, bb, n⟩) rfl ?_; clear M; intro gx w1 M) | ((with_reducible refine tAlloc (some 6) 32 ?_); refine w_alloc M _ rfl rfl (.agg #[.string (mkS []), .int .i64 0, .int .u32 0, .int .u64 0]) ([.string (mkS []), .int .i64 0, .int .u32 0, .int .u64 0]) yC rfl ?_; clear M; intro gr w1 M) | ((with_reducible show Code.wp _ (Code.region 1 _ _) _ _ _); (have MR := M; refine region_fork (.rd 0 (.rd 2 (.rd 5 (.rd 7 (.rd 9 (.rd 11 (.rd 12 (.rd 1 (.rd 3 (.rd 6 (.rd 8 (.rd 10 (.alt 4 (.alt 13 (.rd 14 (.rd 15 (.rd 16 (.wr 17 (.wr 18 (.rd 19 .nil)))))) (.wr 17 (.wr 13 (.rd 14 (.rd 15 (.rd 16 (.wr 18 (.rd 19 .nil)))))))) (.wr 17 (.wr 4 (.wr 13 (.rd 14 (.rd 15 (.rd 16 (.wr 18 (.rd 19 .nil))))))))))))))))))))) [] [(1, _), (3, _), (6, _), (8, _), (10, _)] (IxOk MR [1]) 20 yC yC rfl yC (lowA MR 1 0 (lowA MR 1 1 (lowA MR 1 1 (lowA MR 1 2 (lowA MR 1 3 lows_nil))))) (ixOk_self MR _) ?_; replace M := M.drew; simp only [planT, opAt, List.getElem?_toArray, List.getElem?_cons_zero, List.getElem?_cons_succ, Option.getD_some])) | (go_at_call 22; (refine (KC.out _).mono ?_; rintro e w1 ⟨rfl, hb⟩; replace M := M.call hb; clear hb)) | (go_at_call 35; (refine (CC.out _).mono ?_; rintro e w1 ⟨rfl, hb⟩; replace M := M.call hb; clear hb)) | (go_at_call 36; (refine (BC.out _).mono ?_; rintro e w1 ⟨rfl, hb⟩; replace M := M.call hb; clear hb)) | ((with_reducible refine tAlloc (some 9) 75 ?_); refine w_alloc M _ rfl rfl (.agg (envC 0 0 0 [] zeroT).toArray) (envC 0 0 0 [] zeroT) yC rfl ?_; clear M; intro ge w1 M) | ((with_reducible refine tLoad ?_); refine w_at _ _ rfl yI ?_; intro hx; (first | refine w_loadE M _ _ _ rfl yL hx rfl yA yA yB ?_ | refine w_loadTag M _ _ _ rfl yL hx rfl yA yA yB ?_); clear hx) | ((with_reducible refine tStore ?_); refine w_at2 _ _ _ rfl yF yF ?_; intro hx hy; (first | refine w_storeE M _ _ _ _ rfl yL hx rfl hy rfl yA yB yB ?_ | refine w_storeE (k := 0) (b := 0) (n := 0) (d := []) (tg := zeroT) M _ _ _ _ rfl yL hx rfl hy rfl yA zeroT_len yB ?_ | refine w_storeE (tg := zeroT) M _ _ _ _ rfl yL hx rfl hy rfl yA zeroT_len yB ?_ | refine w_storeTag M _ _ _ _ rfl yL hx rfl hy yA yB yB ?_ | refine w_storeData M _ _ _ _ rfl yL hx rfl hy yA ?_ | refine w_storeNum M _ _ _ _ rfl yL hx rfl hy yA ?_); clear hx hy M; intro w1 M; (try simp only [setC] at M)) | ((with_reducible refine tConv _ 70 9 ?_); (first | refine w_stringTag M _ _ _ _ _ rfl rfl yL rfl yB Tryz.underlying70 Tryz.underlying5 Tryz.underlying9 ?_)) | (with_reducible refine Seg.alt ?_ ?_) | ((with_reducible refine tM rfl ?_); refine mS ?_; try (clear M; (first | intro g w1 M | intro w1 M); try simp only [setC] at M)) | ((with_reducible first | show Seg _ _ _ _ | show OnlyN _ _ _ _ _); refine rA ?_) | ((with_reducible refine tGuard ?_); refine gdC ?_ ?_ <;> (intro hgd; rw [hgd]; try (exfalso; simp at hgd; omega)))) <;> (try conv => arg 5; simp only [apS, setC]))
 all_goals exact bodyPost_ret (results_three rfl _ _ gr 0 (ringR ⟨m, cc, bb, n + 1⟩) _ (.string (mkS B)) (.int .i64 0) rfl rfl rfl (M.ok 1 _ at1).2.1 Tryz.underlying32 rfl yC) rfl ⟨rfl, M.below⟩
end Go.Proofs.YtidadhbaomieiaaGreat
