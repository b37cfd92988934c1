/- Texts of this seat, put together: BatS, Ref18D0. Each begins with a remark that says what is proved in it, and under which conditions. -/
import Derived.Test.YtidadhbaomieiaaGreatY
import Derived.Test.YtidadhbaomieiaaGreatZm
import Derived.Test.YtidadhbaomieiaaGreatZo
import Derived.Test.YtidadhbaomieiaaGreatZr
set_option maxRecDepth 100000
set_option maxHeartbeats 16000000
namespace Go
namespace TL
open Go.RowKit
theorem RS.text_err {x : RS} (h : x.err ≠ 0) (m : Nat) : x.text m = ([], x) := by
 have e : x.num m = (0, x) := by unfold RS.num; rw [if_neg h]
 unfold RS.text; rw [e, if_neg h]
def RdO (n0 : Nat) (x0 : InS) (k : Nat) (d : List Opr) (y : RS) : Prop :=
 (y.err = 0 → ∃ x : InS, Alike x y ∧ rdOps n0 x0 = (d ++ (rdOps (n0 - k) x).1, (rdOps (n0 - k) x).2)) ∧ (y.err ≠ 0 → (rdOps n0 x0).2.err = y.err)
section
variable {n0 k : Nat} {x0 : InS} {d : List Opr} {y y1 : RS}
theorem RdO.stop {d' : List Opr} {y' : RS} {k' : Nat} (he : y'.err ≠ 0) (h : (rdOps n0 x0).2.err = y'.err) : RdO n0 x0 k' d' y' := ⟨fun h0 => absurd h0 he, fun _ => h⟩
theorem RdO.byteErr {nb : Nat} (h : RdO n0 x0 k d y) (hy : y.err = 0) (hk : k < n0) (hb : y.byte = (nb, y1)) (he : y1.err ≠ 0) : (rdOps n0 x0).2.err = y1.err := by
 obtain ⟨x, ha, hr⟩ := h.1 hy
 have ab := ha.byte
 rw [hb] at ab
 rw [show n0 - k = (n0 - (k + 1)) + 1 by omega] at hr
 rw [rdO_err (x := x) (n := x.byte.1) (x1 := x.byte.2) rfl (by rw [ab.2.1]; exact he)] at hr
 rw [hr]; exact ab.2.1
theorem RdO.kindErr {q : UInt8} (h : RdO n0 x0 k d y) (hy : y.err = 0) (hk : k < n0) (hb : y.byte = (q.toNat, y1)) (he : y1.err = 0) (hq : ¬ (q = 1 ∨ q = 2)) : (rdOps n0 x0).2.err = 10 := by
 obtain ⟨x, ha, hr⟩ := h.1 hy
 have ab := ha.byte
 rw [hb] at ab
 rw [show n0 - k = (n0 - (k + 1)) + 1 by omega] at hr
 rw [rdO_kind (x := x) (q := q) (x1 := x.byte.2) (Prod.ext ab.1 rfl) (by rw [ab.2.1]; exact he) hq] at hr
 rw [hr]; rfl
theorem RdO.put (h : RdO n0 x0 k d y) (hy : y.err = 0) (hk : k < n0) (hb : y.byte = (UInt8.toNat 1, y1)) (he : y1.err = 0) : RdO n0 x0 (k + 1) (d ++ [(1, (y1.text 33).1, ((y1.text 33).2.text 32).1)]) ((y1.text 33).2.text 32).2 := by
 obtain ⟨x, ha, hr⟩ := h.1 hy
 have ab := ha.byte
 rw [hb] at ab
 rw [show n0 - k = (n0 - (k + 1)) + 1 by omega] at hr
 rw [rdO_put (x := x) (x1 := x.byte.2) (Prod.ext ab.1 rfl) (by rw [ab.2.1]; exact he)] at hr
 have a1 := ab.2.text 33
 have a2 := a1.2.text 32
 refine ⟨fun _ => ⟨_, a2.2, ?_⟩, fun hn => ?_⟩
 ·rw [hr, a1.1, a2.1]; simp
 ·rw [hr]; simp only
  rw [qDL (by rw [a2.2.1]; exact hn), a2.2.1]
theorem RdO.del (h : RdO n0 x0 k d y) (hy : y.err = 0) (hk : k < n0) (hb : y.byte = (UInt8.toNat 2, y1)) (he : y1.err = 0) : RdO n0 x0 (k + 1) (d ++ [(2, (y1.text 33).1, [])]) (y1.text 33).2 := by
 obtain ⟨x, ha, hr⟩ := h.1 hy
 have ab := ha.byte
 rw [hb] at ab
 rw [show n0 - k = (n0 - (k + 1)) + 1 by omega] at hr
 rw [rdO_del (x := x) (x1 := x.byte.2) (Prod.ext ab.1 rfl) (by rw [ab.2.1]; exact he)] at hr
 have a1 := ab.2.text 33
 refine ⟨fun _ => ⟨_, a1.2, ?_⟩, fun hn => ?_⟩
 ·rw [hr, a1.1]; simp
 ·rw [hr]; simp only
  rw [qDL (by rw [a1.2.1]; exact hn), a1.2.1]
end
theorem RS.byte_q (x : RS) : ∃ q : UInt8, x.byte.1 = q.toNat := by
 unfold RS.byte
 split
 ·split
  ·exact ⟨0, rfl⟩
  ·rename_i b _ _; exact ⟨b, rfl⟩
 ·exact ⟨0, rfl⟩
theorem RS.byte_zero {x : RS} (h : x.byte.2.err ≠ 0) : x.byte.1 = 0 := by
 unfold RS.byte at h ⊢
 split
 ·rename_i h0
  rw [if_pos h0] at h
  split
  ·rfl
  ·rename_i b r e; rw [e] at h; simp at h
 ·rfl
theorem RS.byte_len (x : RS) : x.byte.2.rest.length ≤ x.rest.length := by
 unfold RS.byte
 split
 ·split
  ·simp
  ·rename_i b r e; rw [e]; simp
 ·exact Nat.le_refl _
theorem nums_alike (s : List UInt8) : (nums3 s).1 = ((RS.mk s 0).num 4611686018427387904).1 ∧ (nums3 s).2.1 = (((RS.mk s 0).num 4611686018427387904).2.num 9223372036854775807).1 ∧
  (nums3 s).2.2.1 = ((((RS.mk s 0).num 4611686018427387904).2.num 9223372036854775807).2.num 4).1 ∧ Alike (nums3 s).2.2.2 ((((RS.mk s 0).num 4611686018427387904).2.num 9223372036854775807).2.num 4).2 := by
 have a0 : Alike ⟨s, 0, 0⟩ ⟨s, 0⟩ := ⟨rfl, fun _ => rfl⟩
 have a1 := a0.most 4611686018427387904
 have a2 := a1.2.most 9223372036854775807
 have a3 := a2.2.most 4
 exact ⟨a1.1, a2.1, a3.1, a3.2⟩
theorem RdO.first {n : Nat} {x0 : InS} {y : RS} (ha : Alike x0 y) : RdO n x0 0 [] y := by
 refine ⟨fun _ => ⟨x0, ha, by simp⟩, fun hn => ?_⟩
 rw [qDL (by rw [ha.1]; exact hn), ha.1]
end TL
end Go
namespace Go.Proofs.YtidadhbaomieiaaGreat
open Go.RowKit Go.TL
theorem rRead_c (s : List UInt8) (w : World) (hs : s.length ≤ 1000000) :
  Calls Tryz.prog 100 #[.string (mkS s)] w (Gives 3 opV (readB s).1.2.2 (batR (readB s).1.1 (readB s).1.2.1 (readB s).2) w) := by
 have M := (Mem.start [] w).nil 3
 have RF := @qFY s
 have RB := @readB_bad s
 have RO := @readB_ok s
 obtain ⟨A, eA⟩ : ∃ A, A = readB s := ⟨_, rfl⟩
 rw [← eA] at RF RB RO ⊢
 clear eA
 obtain ⟨n1, n2, n3, n4⟩ := nums_alike s
 obtain ⟨⟨i, e, n0, x2⟩, e3⟩ : ∃ R, R = nums3 s := ⟨_, rfl⟩
 rw [← e3] at n1 n2 n3 n4
 simp only at n1 n2 n3 n4
 have T0 := fun g w h => qEP g ⟨s, 0⟩ w h 4611686018427387904 4611686018427387904 rfl (by simp only; omega)
 have hi0 := RS.num_le ⟨s, 0⟩ 4611686018427387904
 have hl0 := RS.num_len ⟨s, 0⟩ 4611686018427387904
 obtain ⟨⟨i', y0⟩, e0⟩ : ∃ R, R = (RS.mk s 0).num 4611686018427387904 := ⟨_, rfl⟩
 rw [← e0] at n1 n2 n3 n4 T0 hi0 hl0
 simp only at n1 n2 n3 n4 T0 hi0 hl0
 subst n1
 clear e0
 have T1 := fun g w h => qEP g y0 w h 9223372036854775807 9223372036854775807 rfl yF
 have hi1 := RS.num_le y0 9223372036854775807
 have hl1 := RS.num_len y0 9223372036854775807
 obtain ⟨⟨e', y1⟩, e1⟩ : ∃ R, R = y0.num 9223372036854775807 := ⟨_, rfl⟩
 rw [← e1] at n2 n3 n4 T1 hi1 hl1
 simp only at n2 n3 n4 T1 hi1 hl1
 subst n2
 clear e1
 have T2 := fun g w h => qEP g y1 w h 4 4 rfl yF
 have hi2 := RS.num_le y1 4
 have hl2 := RS.num_len y1 4
 obtain ⟨⟨n', y2⟩, e2⟩ : ∃ R, R = y1.num 4 := ⟨_, rfl⟩
 rw [← e2] at n3 n4 T2 hi2 hl2
 simp only at n3 n4 T2 hi2 hl2
 subst n3
 clear e2
 have FI := RdO.first (n := n0) n4
 replace RF := fun d x => @RF i e n0 x2 x d e3.symm
 replace RB := fun d x r => @RB i e n0 x2 x d r e3.symm
 replace RO := fun d x => @RO i e n0 x2 x d e3.symm
 replace RF := Lib.hid RF
 replace RB := Lib.hid RB
 replace RO := Lib.hid RO
 replace T0 := Lib.hid T0
 replace T1 := Lib.hid T1
 replace T2 := Lib.hid T2
 replace FI := Lib.hid FI
 clear e3 n4
 go_enter Tryz.func100, Tryz.ntmps100
 go_wp2_with ((first | ((with_reducible refine tAlloc (some 2) 63 ?_); refine wal M _ rfl rfl ([.int .i64 0, .int .i64 0, .slice none 0 0]) yD ?_; clear M; intro gr w1 M) | ((with_reducible refine tAlloc (some 5) 63 ?_); refine wal M _ rfl rfl ([.int .i64 0, .int .i64 0, .slice none 0 0]) yD ?_; clear M; intro gb w1 M) | ((with_reducible refine tBox (some 11) ?_); refine w_box M _ _ rfl rfl _ rfl (irV ⟨s, 0⟩) rfl ?_; clear M; intro gi w1 M) | (go_at_call 138; ((first | (with_reducible refine (T0.out gi _ (M.ok 1 _ rfl)).mono ?_) | (with_reducible refine (T1.out gi _ (M.ok 1 _ rfl)).mono ?_) | (with_reducible refine (T2.out gi _ (M.ok 1 _ rfl)).mono ?_)); rintro e w1 ⟨rfl, U⟩; replace M := M.upd 1 rfl U; clear U; simp only [List.set_cons_zero, List.set_cons_succ] at M)) | ((with_reducible refine tM rfl ?_); refine mS ?_; try (clear M; (first | intro g w1 M | intro w1 M); try simp only [setC] at M))) <;> (try conv => arg 5; simp only [apS, setC]))
 clear T0 T1 T2
 go_loopw [7] (fun kv wr => ∃ (k : Nat) (d : List Opr) (y : RS) (q : Option Addr) (c : Nat), kv = .int .u64 k ∧ k ≤ n0 ∧ d.length ≤ 4 ∧ y.rest.length ≤ s.length ∧ Hid (RdO n0 x2 k d y ∧ (∀ z ∈ d, z.2.1.length ≤ 33 ∧ z.2.2.length ≤ 32) ∧ d.length = k) ∧ Mem [] w wr [.row gb [.int .i64 i, .int .i64 e, .slice q d.length c], .row gi (irV y), .row gr [.int .i64 0, .int .i64 0, .slice none 0 0], .sl 3 (.slice q d.length c) d.length (d.flatMap opV)]) (fun kv _ => n0 - (intOf kv).toNat)
 case atStart => exact ⟨0, [], y2, none, 0, rfl, by omega, by simp, by omega, Lib.hid ⟨FI.out, by simp, rfl⟩, M⟩
 case round =>
  clear M
  obtain ⟨k, d, ⟨r, er⟩, q, c, rfl, hk, hdk, hr, HI, M⟩ := hrel
  simp only at hr
  clear hl0 hl1 hl2
  have M : Mem [] w wr [.row gb [.int .i64 i, .int .i64 e, .slice q d.length c], .row gi [.string (mkS r), .int .i64 (er : Nat)], .row gr [.int .i64 0, .int .i64 0, .slice none 0 0], .sl 3 (.slice q d.length c) d.length (d.flatMap opV)] := M
  by_cases he : er = 0
  ·subst he
   by_cases hlt : k < n0
   ·have hlt' : (k : Int) < (n0 : Int) := by omega
    have B := fun g w h => InByte12_c g ⟨r, 0⟩ w h (by simp only; omega)
    have HE := fun nb y1 => @RdO.byteErr n0 k x2 d ⟨r, 0⟩ y1 nb HI.out.1 rfl hlt
    have HQ := fun qk y1 => @RdO.kindErr n0 k x2 d ⟨r, 0⟩ y1 qk HI.out.1 rfl hlt
    have HP := fun y1 => @RdO.put n0 k x2 d ⟨r, 0⟩ y1 HI.out.1 rfl hlt
    have HD := fun y1 => @RdO.del n0 k x2 d ⟨r, 0⟩ y1 HI.out.1 rfl hlt
    have hbl := RS.byte_len ⟨r, 0⟩
    have hbz := @RS.byte_zero ⟨r, 0⟩
    obtain ⟨ki, hki⟩ := RS.byte_q ⟨r, 0⟩
    obtain ⟨⟨nb, y1⟩, eb⟩ : ∃ R, R = (RS.mk r 0).byte := ⟨_, rfl⟩
    rw [← eb] at B hbl hbz hki HP HD
    simp only at B hbl hbz hki
    subst hki
    replace HE := HE _ _ eb.symm
    replace HQ := HQ _ _ eb.symm
    replace HP := fun (h1 : ki = 1) => HP y1 (by rw [h1])
    replace HD := fun (h2 : ki = 2) => HD y1 (by rw [h2])
    clear eb
    obtain ⟨r1, e1⟩ := y1
    simp only at hbl
    by_cases h1 : e1 = 0
    ·subst h1
     replace HQ := HQ rfl
     replace HP := fun h => HP h rfl
     replace HD := fun h => HD h rfl
     clear HE hbz
     by_cases hq : ki = 1 ∨ ki = 2
     ·clear HQ
      have hp : ((RS.mk r1 0).text 33).1.length ≤ 33 := by have := InS.text_len ⟨r1, 0, 0⟩ 33; rwa [((show TL.Alike ⟨r1, 0, 0⟩ ⟨r1, 0⟩ from ⟨rfl, fun _ => rfl⟩).text 33).1] at this
      have hl1 := RS.text_len ⟨r1, 0⟩ 33
      have T1 := fun g w h => qDW g ⟨r1, 0⟩ w h 33 33 rfl (by simp only; omega)
      obtain ⟨⟨pa, y3⟩, e3⟩ : ∃ R, R = (RS.mk r1 0).text 33 := ⟨_, rfl⟩
      rw [← e3] at HP HD hp hl1 T1
      simp only at HP HD hp hl1 T1
      replace T1 := Lib.hid T1
      clear e3
      by_cases h1 : ki = 1
      ·replace HP := HP h1
       clear HD hq
       subst h1
       rw [show (((UInt8.toNat 1 : Nat)) : Int) = 1 from rfl] at B
       have hv : (y3.text 32).1.length ≤ 32 := by
        have a : TL.Alike ⟨y3.rest, 0, y3.err⟩ y3 := ⟨rfl, fun _ => rfl⟩
        have := InS.text_len ⟨y3.rest, 0, y3.err⟩ 32; rwa [(a.text 32).1] at this
       have hl2 := RS.text_len y3 32
       have T2 := fun g w h => qDW g y3 w h 32 32 rfl yF
       obtain ⟨⟨va, y4⟩, e4⟩ : ∃ R, R = y3.text 32 := ⟨_, rfl⟩
       rw [← e4] at HP hv hl2 T2
       simp only at HP hv hl2 T2
       replace T2 := Lib.hid T2
       replace HP := Lib.hid HP
       replace B := Lib.hid B
       clear e4
       go_wp2_with ((first | ((with_reducible refine tGuard ?_); first | ((with_reducible refine qAC ?_ ?_); exact dcd) | ((with_reducible refine qAH ?_ ?_); exact dcd) | ((with_reducible refine qAI ?_ ?_); exact dcd)) | (go_at_call 139; (refine (B.out _ _ (M.ok 2 _ rfl)).mono ?_; rintro e w1 ⟨rfl, U⟩; replace M := M.upd 2 rfl U; clear U; simp only [List.set_cons_zero, List.set_cons_succ] at M)) | (go_at_call 140; ((first | (with_reducible refine (T1.out _ _ (M.ok 2 _ rfl)).mono ?_) | (with_reducible refine (T2.out _ _ (M.ok 2 _ rfl)).mono ?_)); rintro e w1 ⟨rfl, U⟩; replace M := M.upd 2 rfl U; clear U; simp only [List.set_cons_zero, List.set_cons_succ] at M)) | ((with_reducible refine tAlloc (some 8) 181 ?_); refine wal M _ rfl rfl ([.int .u8 0, .string (mkS []), .string (mkS [])]) yD ?_; clear M; intro gp w1 M) | ((with_reducible show wpList _ _ _ (Oper.mk _ (Op.buildSlice _ 1 _) _ _ _ _ :: _) _ _); (refine qAV M opT yN _ rfl rfl yE _ rfl rfl ?_; clear M; intro g w1 M)) | ((with_reducible refine tApp ?_); (refine qAg M 4 opT _ _ rfl rfl rfl rfl rfl rfl yJ yN yS yW ?_; clear M; intro q cap w1 M; (try simp only [setC] at M))) | ((with_reducible refine tM rfl ?_); refine mS ?_; try (clear M; (first | intro g w1 M | intro w1 M); try simp only [setC] at M))) <;> (try conv => arg 5; simp only [apS, setC]))
       have e9 := qFB k yF
       go_roundw
       case rel => exact ⟨k + 1, d ++ [(1, pa, va)], y4, q, cap, by rw [← e9], by omega, by have := HI.out.2.2; simp; omega, by omega, Lib.hid ⟨HP.out, fun z hz => by
        rcases List.mem_append.1 hz with hz | hz
        ·exact HI.out.2.1 z hz
        ·obtain rfl : z = (1, pa, va) := by simpa using hz
         exact ⟨hp, hv⟩, by have := HI.out.2.2; simp; omega⟩, by simpa [opV, irV, show I8 0 = 0 from rfl, show I8 1 = 1 from rfl, show I8 2 = 2 from rfl] using M.tail⟩
       case measure =>
        rw [e9]; simp only [intOf]; omega
      ·have h2 : ki = 2 := hq.resolve_left h1
       replace HD := HD h2
       clear HP hq h1
       subst h2
       rw [show (((UInt8.toNat 2 : Nat)) : Int) = 2 from rfl] at B
       replace HD := Lib.hid HD
       replace B := Lib.hid B
       go_wp2_with ((first | ((with_reducible refine tGuard ?_); first | ((with_reducible refine qAC ?_ ?_); exact dcd) | ((with_reducible refine qAH ?_ ?_); exact dcd) | ((with_reducible refine qAI ?_ ?_); exact dcd)) | (go_at_call 139; (refine (B.out _ _ (M.ok 2 _ rfl)).mono ?_; rintro e w1 ⟨rfl, U⟩; replace M := M.upd 2 rfl U; clear U; simp only [List.set_cons_zero, List.set_cons_succ] at M)) | (go_at_call 140; ((first | (with_reducible refine (T1.out _ _ (M.ok 2 _ rfl)).mono ?_)); rintro e w1 ⟨rfl, U⟩; replace M := M.upd 2 rfl U; clear U; simp only [List.set_cons_zero, List.set_cons_succ] at M)) | ((with_reducible refine tAlloc (some 8) 181 ?_); refine wal M _ rfl rfl ([.int .u8 0, .string (mkS []), .string (mkS [])]) yD ?_; clear M; intro gp w1 M) | ((with_reducible show wpList _ _ _ (Oper.mk _ (Op.buildSlice _ 1 _) _ _ _ _ :: _) _ _); (refine qAV M opT yN _ rfl rfl yE _ rfl rfl ?_; clear M; intro g w1 M)) | ((with_reducible refine tApp ?_); (refine qAg M 4 opT _ _ rfl rfl rfl rfl rfl rfl yJ yN yS yW ?_; clear M; intro q cap w1 M; (try simp only [setC] at M))) | ((with_reducible refine tM rfl ?_); refine mS ?_; try (clear M; (first | intro g w1 M | intro w1 M); try simp only [setC] at M))) <;> (try conv => arg 5; simp only [apS, setC]))
       have e9 := qFB k yF
       go_roundw
       case rel => exact ⟨k + 1, d ++ [(2, pa, [])], y3, q, cap, by rw [← e9], by omega, by have := HI.out.2.2; simp; omega, by omega, Lib.hid ⟨HD.out, fun z hz => by
        rcases List.mem_append.1 hz with hz | hz
        ·exact HI.out.2.1 z hz
        ·obtain rfl : z = (2, pa, []) := by simpa using hz
         exact ⟨hp, by simp⟩, by have := HI.out.2.2; simp; omega⟩, by simpa [opV, irV, show I8 0 = 0 from rfl, show I8 1 = 1 from rfl, show I8 2 = 2 from rfl] using M.tail⟩
       case measure =>
        rw [e9]; simp only [intOf]; omega
     ·have HQ := Lib.hid (HQ hq)
      simp only [← I8_eq] at B
      replace B := Lib.hid B
      obtain ⟨h1, h1'⟩ := I8_ne (q := ki) (c := 1) (fun h => hq (.inl h))
      obtain ⟨h2, h2'⟩ := I8_ne (q := ki) (c := 2) (fun h => hq (.inr h))
      rw [show I8 1 = 1 from rfl] at h1 h1'
      rw [show I8 2 = 2 from rfl] at h2 h2'
      have T1 := fun g w h => qDW g ⟨r1, 10⟩ w h 33 33 rfl (by simp only; omega)
      rw [RS.text_err (x := ⟨r1, 10⟩) yB1] at T1
      simp only at T1
      replace T1 := Lib.hid T1
      clear hq HP HD
      go_wp2_with ((first | ((with_reducible refine tGuard ?_); first | ((with_reducible refine qAC ?_ ?_); exact dcd) | ((with_reducible refine qAH ?_ ?_); exact dcd) | ((with_reducible refine qAI ?_ ?_); exact dcd)) | (go_at_call 139; (refine (B.out _ _ (M.ok 2 _ rfl)).mono ?_; rintro e w1 ⟨rfl, U⟩; replace M := M.upd 2 rfl U; clear U; simp only [List.set_cons_zero, List.set_cons_succ, irV] at M)) | (go_at_call 140; ((refine (T1.out _ _ (M.ok 2 _ rfl)).mono ?_); rintro e w1 ⟨rfl, U⟩; replace M := M.upd 2 rfl U; clear U; simp only [List.set_cons_zero, List.set_cons_succ, irV] at M)) | ((with_reducible refine tAlloc (some 8) 181 ?_); refine wal M _ rfl rfl ([.int .u8 0, .string (mkS []), .string (mkS [])]) yD ?_; clear M; intro gp w1 M) | ((with_reducible show wpList _ _ _ (Oper.mk _ (Op.buildSlice _ 1 _) _ _ _ _ :: _) _ _); (refine qAV M opT yN _ rfl rfl yE _ rfl rfl ?_; clear M; intro g w1 M)) | ((with_reducible refine tApp ?_); (refine qAg M 4 opT _ _ rfl rfl rfl rfl rfl rfl yJ yN yS yW ?_; clear M; intro q cap w1 M; (try simp only [setC] at M))) | ((with_reducible refine tM rfl ?_); refine mS ?_; try (clear M; (first | intro g w1 M | intro w1 M); try simp only [setC] at M))) <;> (try conv => arg 5; simp only [apS, setC]))
      have e9 := qFB k yF
      go_roundw
      case rel => exact ⟨k + 1, d ++ [(ki, [], [])], ⟨r1, 10⟩, q, cap, by rw [← e9], by omega, by have := HI.out.2.2; simp; omega, by simp only; omega, Lib.hid ⟨RdO.stop yB1 HQ.out, fun z hz => by
       rcases List.mem_append.1 hz with hz | hz
       ·exact HI.out.2.1 z hz
       ·obtain rfl : z = (ki, [], []) := by simpa using hz
        exact ⟨by simp, by simp⟩, by have := HI.out.2.2; simp; omega⟩, by simpa [opV, irV, show I8 0 = 0 from rfl, show I8 1 = 1 from rfl, show I8 2 = 2 from rfl] using M.tail⟩
      case measure =>
       rw [e9]; simp only [intOf]; omega
    ·have HQ := Lib.hid (HE h1)
     have hz0 := hbz h1
     rw [hz0] at B
     replace B := Lib.hid B
     have T1 := fun g w h => qDW g ⟨r1, e1⟩ w h 33 33 rfl (by simp only; omega)
     rw [RS.text_err (x := ⟨r1, e1⟩) h1] at T1
     simp only at T1
     replace T1 := Lib.hid T1
     have H1 := Lib.hid h1
     have hz : ((e1 : Int) == 0) = false := by simp; exact h1
     have hz' : ((e1 : Int) != 0) = true := by simp; exact h1
     clear HE HP HD hbz hz0 h1
     go_wp2_with ((first | ((with_reducible refine tGuard ?_); first | ((with_reducible refine qAC ?_ ?_); exact dcd) | ((with_reducible refine qAH ?_ ?_); exact dcd) | ((with_reducible refine qAI ?_ ?_); exact dcd)) | (go_at_call 139; (refine (B.out _ _ (M.ok 2 _ rfl)).mono ?_; rintro e w1 ⟨rfl, U⟩; replace M := M.upd 2 rfl U; clear U; simp only [List.set_cons_zero, List.set_cons_succ] at M)) | (go_at_call 140; ((first | (with_reducible refine (T1.out _ _ (M.ok 2 _ rfl)).mono ?_)); rintro e w1 ⟨rfl, U⟩; replace M := M.upd 2 rfl U; clear U; simp only [List.set_cons_zero, List.set_cons_succ] at M)) | ((with_reducible refine tAlloc (some 8) 181 ?_); refine wal M _ rfl rfl ([.int .u8 0, .string (mkS []), .string (mkS [])]) yD ?_; clear M; intro gp w1 M) | ((with_reducible show wpList _ _ _ (Oper.mk _ (Op.buildSlice _ 1 _) _ _ _ _ :: _) _ _); (refine qAV M opT yN _ rfl rfl yE _ rfl rfl ?_; clear M; intro g w1 M)) | ((with_reducible refine tApp ?_); (refine qAg M 4 opT _ _ rfl rfl rfl rfl rfl rfl yJ yN yS yW ?_; clear M; intro q cap w1 M; (try simp only [setC] at M))) | ((with_reducible refine tM rfl ?_); refine mS ?_; try (clear M; (first | intro g w1 M | intro w1 M); try simp only [setC] at M))) <;> (try conv => arg 5; simp only [apS, setC]))
     have e9 := qFB k yF
     go_roundw
     case rel => exact ⟨k + 1, d ++ [(0, [], [])], ⟨r1, e1⟩, q, cap, by rw [← e9], by omega, by have := HI.out.2.2; simp; omega, by simp only; omega, Lib.hid ⟨RdO.stop H1.out HQ.out, fun z hz => by
      rcases List.mem_append.1 hz with hz | hz
      ·exact HI.out.2.1 z hz
      ·obtain rfl : z = (0, [], []) := by simpa using hz
       exact ⟨by simp, by simp⟩, by have := HI.out.2.2; simp; omega⟩, by simpa [opV, irV, show I8 0 = 0 from rfl, show I8 1 = 1 from rfl, show I8 2 = 2 from rfl] using M.tail⟩
     case measure =>
      rw [e9]; simp only [intOf]; omega
   ·have hlt' : (n0 : Int) ≤ (k : Int) := by omega
    obtain ⟨x, ha, hR⟩ := HI.out.1.1 rfl
    rw [show n0 - k = 0 by omega, rdO_zero, List.append_nil] at hR
    have hx0 : x.err = 0 := ha.1
    have hxr : x.rest = r := ha.2 hx0
    have hm := HI.out.2.1
    have RA := RF.out d x hR
    have RC := RB.out d x
    have RD := RO.out d x hR
    replace RC := fun r => RC r hR
    clear hR hlt
    cases r with
    | cons b t =>
     have hfin : x.fin = 8 := by unfold InS.fin; rw [if_pos hx0, hxr, if_neg yB1]
     have e0 : A = ((0, 0, []), 8) := by rw [RA (by rw [hfin]; decide), hfin]
     subst e0
     clear RA RC RD hx0 hxr hfin ha hm
     go_wp2_with ((first | ((with_reducible refine tGuard ?_); first | ((with_reducible refine qAC ?_ ?_); exact dcd) | ((with_reducible refine qAH ?_ ?_); exact dcd) | ((with_reducible refine qAI ?_ ?_); exact dcd)) | ((with_reducible show Code.wp _ (Code.region 22 _ _) _ _ _); (have MR := M; refine qAB [(1, false), (2, false), (3, false), (4, false), (0, true), (5, true), (6, false)] [(101, .ptr)] [(4, _)] (IxOk MR [1]) 7 yD yD rfl yD (lowA MR 1 1 qAN) (qAJ MR _) ?_; replace M := M.drew; simp only [planC, opAt, gE])) | ((with_reducible refine tM rfl ?_); refine mS ?_; try (clear M; (first | intro g w1 M | intro w1 M); try simp only [setC] at M)) | ((with_reducible first | show Seg _ _ _ _ | show OnlyN _ _ _ _ _); refine rA ?_)) <;> (try conv => arg 5; simp only [apS, setC]))
     refine bodyPost_ret (qAK rfl _ _ gr 0 [.int .i64 0, .int .i64 0, .slice none 0 0] _ (.int .i64 ((8 : Nat) : Int)) rfl rfl (M.ok 2 _ rfl).2.1 Tryz.underlying63 rfl yD) rfl (Gives.intro (r := batR 0 0 8) (p := none) (cap := 0) (M.nil 3))
    | nil =>
     have hfin : x.fin = 0 := by unfold InS.fin; rw [if_pos hx0, hxr, if_pos yB1]
     have P := fun w S => rRight_c i e d (.slice q d.length c) w S yF (fun y hy => by have := hm y hy; omega)
     replace RC := RC _ hfin rfl
     replace RD := RD hfin
     obtain ⟨pe, ep⟩ : ∃ R, R = rightB i e d := ⟨_, rfl⟩
     rw [← ep] at P RC RD
     replace RC := Lib.hid RC
     replace RD := Lib.hid RD
     replace P := Lib.hid P
     clear ep hx0 hxr hfin ha hm RA
     by_cases hpe : pe = 0
     ·subst hpe
      have e0 := RD.out rfl
      subst e0
      clear RC RD
      go_wp2_with ((first | ((with_reducible refine tGuard ?_); first | ((with_reducible refine qAC ?_ ?_); exact dcd) | ((with_reducible refine qAH ?_ ?_); exact dcd) | ((with_reducible refine qAI ?_ ?_); exact dcd)) | (go_at_call 141; (refine (P.out _ (SeesL.own M 3 rfl rfl qCD)).mono ?_; rintro e w1 ⟨rfl, hb⟩; replace M := M.call hb; clear hb)) | ((with_reducible show Code.wp _ (Code.region 22 _ _) _ _ _); (have MR := M; refine qAB [(1, false), (2, false), (3, false), (4, false), (0, true), (5, true), (6, false)] [(101, .ptr)] [(4, _)] (IxOk MR [1]) 7 yD yD rfl yD (lowA MR 1 1 qAN) (qAJ MR _) ?_; replace M := M.drew; simp only [planC, opAt, gE])) | ((with_reducible refine tM rfl ?_); refine mS ?_; try (clear M; (first | intro g w1 M | intro w1 M); try simp only [setC] at M)) | ((with_reducible first | show Seg _ _ _ _ | show OnlyN _ _ _ _ _); refine rA ?_)) <;> (try conv => arg 5; simp only [apS, setC]))
      refine bodyPost_ret (qAK rfl _ _ gr 0 [.int .i64 i, .int .i64 e, .slice q d.length c] _ (.int .i64 ((0 : Nat) : Int)) rfl rfl (M.ok 2 _ rfl).2.1 Tryz.underlying63 rfl yD) rfl (Gives.at (r := batR i e 0) M 3 rfl)
     ·have e0 := RC.out hpe
      subst e0
      clear RC RD
      have hz : ((pe : Int) == 0) = false := by simp; exact hpe
      have hz' : ((pe : Int) != 0) = true := by simp; exact hpe
      clear hpe
      go_wp2_with ((first | ((with_reducible refine tGuard ?_); first | ((with_reducible refine qAC ?_ ?_); exact dcd) | ((with_reducible refine qAH ?_ ?_); exact dcd) | ((with_reducible refine qAI ?_ ?_); exact dcd)) | (go_at_call 141; (refine (P.out _ (SeesL.own M 3 rfl rfl qCD)).mono ?_; rintro e w1 ⟨rfl, hb⟩; replace M := M.call hb; clear hb)) | ((with_reducible show Code.wp _ (Code.region 22 _ _) _ _ _); (have MR := M; refine qAB [(1, false), (2, false), (3, false), (4, false), (0, true), (5, true), (6, false)] [(101, .ptr)] [(4, _)] (IxOk MR [1]) 7 yD yD rfl yD (lowA MR 1 1 qAN) (qAJ MR _) ?_; replace M := M.drew; simp only [planC, opAt, gE])) | ((with_reducible refine tM rfl ?_); refine mS ?_; try (clear M; (first | intro g w1 M | intro w1 M); try simp only [setC] at M)) | ((with_reducible first | show Seg _ _ _ _ | show OnlyN _ _ _ _ _); refine rA ?_)) <;> (try conv => arg 5; simp only [apS, setC]))
      refine bodyPost_ret (qAK rfl _ _ gr 0 [.int .i64 0, .int .i64 0, .slice none 0 0] _ (.int .i64 ((pe : Nat) : Int)) rfl rfl (M.ok 2 _ rfl).2.1 Tryz.underlying63 rfl yD) rfl (Gives.intro (r := batR 0 0 pe) (p := none) (cap := 0) (M.nil 3))
  ·have hE := HI.out.1.2 he
   simp only at hE
   have hfin : (rdOps n0 x2).2.fin = er := by rw [fin_err (by rw [hE]; exact he), hE]
   have e0 := RF.out _ _ (rfl : rdOps n0 x2 = ((rdOps n0 x2).1, (rdOps n0 x2).2)) (by rw [hfin]; exact he)
   rw [hfin] at e0
   subst e0
   have hz : ((er : Int) == 0) = false := by simp; exact he
   have hz' : ((er : Int) != 0) = true := by simp; exact he
   clear hE hfin he RF RB RO
   by_cases hlt : (k : Int) < (n0 : Int)
   all_goals
    go_wp2_with ((first | ((with_reducible refine tGuard ?_); first | ((with_reducible refine qAC ?_ ?_); exact dcd) | ((with_reducible refine qAH ?_ ?_); exact dcd) | ((with_reducible refine qAI ?_ ?_); exact dcd)) | ((with_reducible show Code.wp _ (Code.region 22 _ _) _ _ _); (have MR := M; refine qAB [(1, false), (2, false), (3, false), (4, false), (0, true), (5, true), (6, false)] [(101, .ptr)] [(4, _)] (IxOk MR [1]) 7 yD yD rfl yD (lowA MR 1 1 qAN) (qAJ MR _) ?_; replace M := M.drew; simp only [planC, opAt, gE])) | ((with_reducible refine tM rfl ?_); refine mS ?_; try (clear M; (first | intro g w1 M | intro w1 M); try simp only [setC] at M)) | ((with_reducible first | show Seg _ _ _ _ | show OnlyN _ _ _ _ _); refine rA ?_)) <;> (try conv => arg 5; simp only [apS, setC]))
    refine bodyPost_ret (qAK rfl _ _ gr 0 [.int .i64 0, .int .i64 0, .slice none 0 0] _ (.int .i64 ((er : Nat) : Int)) rfl rfl (M.ok 2 _ rfl).2.1 Tryz.underlying63 rfl yD) rfl (Gives.intro (r := batR 0 0 er) (p := none) (cap := 0) (M.nil 3))
end Go.Proofs.YtidadhbaomieiaaGreat

namespace Go
namespace TL
open Go.RowKit
def runR : List Fld → Lm → InS → Lm × InS
 | [], L, x => (L, x)
 | f :: l, L, x => runR l (f.get L x).2.1 (f.get L x).2.2
def goodR : List Fld → Lm → InS → Prop
 | [], _, _ => True
 | f :: l, L, x => ((f.get L x).2.2.err = 0 → (f.get L x).1 = 0) ∧ goodR l (f.get L x).2.1 (f.get L x).2.2
theorem Fld.get_stop {x : InS} (h : x.err ≠ 0) (f : Fld) (L : Lm) : (f.get L x).2.2 = x := by
 cases f with
 | num q => simp only [Fld.get]; rw [InS.most_err h]
 | hash q => simp only [Fld.get]; exact hashS_err _ h 32
 | bat => rw [Fld.bat_get (InS.text_err h 512), if_neg h]
 | prs => simp only [Fld.get]; rw [InS.most_err h]; rfl
theorem runR_stop {x : InS} (h : x.err ≠ 0) : ∀ (l : List Fld) (L : Lm), (runR l L x).2 = x
 | [], _ => rfl
 | f :: l, L => by
  have e := f.get_stop h L
  rw [runR, e]
  exact runR_stop h l _
theorem runF_R : ∀ (l : List Fld) (L : Lm) (x : InS), x.err = 0 → goodR l L x → ((runR l L x).2.err = 0 → runF l L x = (0, runR l L x)) ∧ ((runR l L x).2.err ≠ 0 → (runF l L x).1 = (runR l L x).2.err)
 | [], L, x, hx, _ => ⟨fun _ => rfl, fun h => absurd hx h⟩
 | f :: l, L, x, _, hg => by
  obtain ⟨h0, hg⟩ := hg
  rw [runR]
  obtain ⟨⟨r, A, y⟩, e⟩ : ∃ R, R = f.get L x := ⟨_, rfl⟩
  rw [← e] at h0 hg ⊢
  simp only at h0 hg ⊢
  by_cases hy : y.err = 0
  ·have ih := runF_R l A y hy hg
   rw [runF_go e.symm (h0 hy) hy]
   exact ih
  ·rw [runR_stop hy, runF_err e.symm hy]
   exact ⟨fun h => absurd h hy, fun _ => rfl⟩
theorem qDg {s : List UInt8} {kb : UInt8} {y : InS} (h : (inStart s).byte = (kb.toNat, y)) (hy : y.err = 0) (hk : isK kb = true) {L : Lm} {x : InS} (hR : runR (fdsL kb) (kindL kb) y = (L, x)) (hg : goodR (fdsL kb) (kindL kb) y) :
  readM s = if x.err = 0 then (if x.rest = [] then (L, 0) else (zeroL, 8)) else (zeroL, x.err) := by
 obtain ⟨h1, h2⟩ := runF_R (fdsL kb) (kindL kb) y hy hg
 rw [hR] at h1 h2
 simp only at h1 h2
 by_cases hx : x.err = 0
 ·rw [qDA h hy hk 0 L x (h1 hx), if_pos rfl, if_pos hx]
  by_cases hr : x.rest = []
  ·rw [if_pos hr, if_pos]
   unfold InS.fin; rw [if_pos hx, hr]; rfl
  ·have hf : x.fin = 8 := by unfold InS.fin; rw [if_pos hx, if_neg (by simpa using hr)]
   rw [if_neg hr, hf, if_neg yN]
 ·obtain ⟨⟨r, A, z⟩, e⟩ : ∃ R, R = runF (fdsL kb) (kindL kb) y := ⟨_, rfl⟩
  have h3 := h2 hx
  rw [← e] at h3
  simp only at h3
  rw [qDA h hy hk r A z e.symm, if_neg hx, if_neg (by rw [h3]; exact hx), h3]
theorem qAp {q : Mf} {l : List Fld} {L : Lm} {x x' : InS} {n : Nat} (h : (n, x') = x.most q.most) : runR (.num q :: l) L x = runR l (q.sl L (n : Int)) x' := by rw [runR]; simp only [Fld.get]; rw [← h]
theorem qFP {q : Hf} {l : List Fld} {L : Lm} {x x' : InS} {d : List UInt8} (h : (x', d) = hashS zeroH x 32) (hz : q.gl L = zeroH) : runR (.hash q :: l) L x = runR l (q.sl L d) x' := by
 rw [runR]; simp only [Fld.get]; rw [hz, ← h]
theorem runR_prs {l : List Fld} {L : Lm} {x x' : InS} {n : Nat} (h : (n, x') = x.most 48) : runR (.prs :: l) L x = runR l { L with prs := L.prs ++ (prS x' n).1 } (prS x' n).2 := by rw [runR]; simp only [Fld.get]; rw [← h]
theorem runR_bat {l : List Fld} {L : Lm} {x x' : InS} {t : List UInt8} (h : (t, x') = x.text 512) (hx : x'.err = 0) : runR (.bat :: l) L x = runR l { L with bi := (readB t).1.1, be := (readB t).1.2.1, ops := (readB t).1.2.2 } x' := by
 rw [runR, Fld.bat_get h.symm, if_pos hx]
theorem runR_bate {l : List Fld} {L : Lm} {x x' : InS} {t : List UInt8} (h : (t, x') = x.text 512) (hx : x'.err ≠ 0) : runR (.bat :: l) L x = runR l L x' := by
 rw [runR, Fld.bat_get h.symm, if_neg hx]
theorem qCJ (L : Lm) (x : InS) : runR [] L x = (L, x) := rfl
theorem qAk {q : Mf} {l : List Fld} {L : Lm} {x x' : InS} {n : Nat} (h : (n, x') = x.most q.most) (hg : goodR l (q.sl L (n : Int)) x') : goodR (.num q :: l) L x := by
 refine ⟨fun _ => rfl, ?_⟩
 simp only [Fld.get]; rw [← h]; exact hg
theorem qEd {q : Hf} {l : List Fld} {L : Lm} {x x' : InS} {d : List UInt8} (h : (x', d) = hashS zeroH x 32) (hz : q.gl L = zeroH) (hg : goodR l (q.sl L d) x') : goodR (.hash q :: l) L x := by
 refine ⟨fun _ => rfl, ?_⟩
 simp only [Fld.get]; rw [hz, ← h]; exact hg
theorem goodR_prs {L : Lm} {x : InS} : goodR [.prs] L x := ⟨fun _ => rfl, trivial⟩
theorem goodR_bat {L : Lm} {x x' : InS} {t : List UInt8} (h : (t, x') = x.text 512) (hg : x'.err = 0 → (readB t).2 = 0) : goodR [.bat] L x := by
 refine ⟨fun he => ?_, trivial⟩
 by_cases hx : x'.err = 0
 ·rw [Fld.bat_get h.symm, if_pos hx]; exact hg hx
 ·rw [Fld.bat_get h.symm, if_neg hx] at he; exact absurd he hx
theorem readM_bat {s : List UInt8} {y : InS} (h : (inStart s).byte = ((2 : UInt8).toNat, y)) (hy : y.err = 0) {n1 n2 : Nat} {x1 x2 x3 : InS} {t : List UInt8} (T1 : (n1, x1) = y.most 9223372036854775807) (T2 : (n2, x2) = x1.most 9223372036854775807) (T3 : (t, x3) = x2.text 512) (h3 : x3.err = 0) {r : Nat} (hr : (readB t).2 = r) (hr0 : r ≠ 0) : readM s = (zeroL, r) := by
 have h2 : x2.err = 0 := qFI (m := 512) (by rw [← T3]; exact h3)
 have h1 : x1.err = 0 := qDC (m := 9223372036854775807) (by rw [← T2]; exact h2)
 have g1 : (Fld.num .e).get (kindL 2) y = (0, Mf.e.sl (kindL 2) (n1 : Int), x1) := by
  show (0, Mf.e.sl (kindL 2) ((y.most 9223372036854775807).1 : Int), (y.most 9223372036854775807).2) = _
  rw [← T1]
 have g2 : (Fld.num .p).get (Mf.e.sl (kindL 2) (n1 : Int)) x1 = (0, Mf.p.sl (Mf.e.sl (kindL 2) (n1 : Int)) (n2 : Int), x2) := by
  show (0, Mf.p.sl (Mf.e.sl (kindL 2) (n1 : Int)) ((x1.most 9223372036854775807).1 : Int), (x1.most 9223372036854775807).2) = _
  rw [← T2]
 obtain ⟨⟨r', A, z⟩, e⟩ : ∃ R, R = Fld.bat.get (Mf.p.sl (Mf.e.sl (kindL 2) (n1 : Int)) (n2 : Int)) x2 := ⟨_, rfl⟩
 have e' := e
 rw [Fld.bat_get T3.symm, if_pos h3] at e'
 simp only [Prod.mk.injEq] at e'
 obtain ⟨e1, e2, e3⟩ := e'
 have hrun : runF (fdsL 2) (kindL 2) y = (r', A, z) := by
  show runF [.num .e, .num .p, .bat] (kindL 2) y = _
  rw [runF_go g1 rfl h1, runF_go g2 rfl h2, runF_say e.symm (by rw [e1, hr]; exact hr0) (by rw [e3]; exact h3)]
 rw [qDA h hy yN r' A z hrun, if_neg (by rw [e1, hr]; exact hr0), e1, hr]
end TL
end Go
