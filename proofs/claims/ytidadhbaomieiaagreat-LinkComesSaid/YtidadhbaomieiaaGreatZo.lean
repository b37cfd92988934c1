/- Texts of this seat, put together: MsgV, MsgY, MsgM. Each begins with a remark that says what is proved in it, and under which conditions. -/
import Derived.Test.YtidadhbaomieiaaGreatY
import Derived.Test.YtidadhbaomieiaaGreatZd
import Derived.Test.YtidadhbaomieiaaGreatZg
import Derived.Test.YtidadhbaomieiaaGreatZi
import Derived.Test.YtidadhbaomieiaaGreatZn
set_option maxRecDepth 100000
set_option maxHeartbeats 16000000
namespace Go.Proofs.YtidadhbaomieiaaGreat
open Go.RowKit Go.TL
theorem Read_c (s : List UInt8) (w : World) (hs : s.length ≤ 1000000) : Calls Tryz.prog 53 #[.string (mkS s)] w (GivesM (readM s) w) := by
 have M := Mem.start [] w
 have hst : (inStart s).fit := by unfold inStart InS.fit; simp; omega
 obtain ⟨kb, hkb⟩ := qDF (inStart s)
 have hfy := InS.byte_fit hst
 have YC := fun g w h => qEO g (inStart s) w h hst
 obtain ⟨y, ey⟩ : ∃ y, y = (inStart s).byte.2 := ⟨_, rfl⟩
 have hb : (inStart s).byte = (kb.toNat, y) := by rw [ey, ← hkb]
 rw [hkb, ← I8_eq, ← ey] at YC
 rw [← ey] at hfy
 have R1 := readM_err hb
 have R2 := qGM hb
 have R3 := qDA hb
 obtain ⟨A, eA⟩ : ∃ A, A = readM s := ⟨_, rfl⟩
 rw [← eA] at R1 R2 R3 ⊢
 clear ey hb eA hkb
 replace R3 := Lib.hid R3
 replace YC := Lib.hid YC
 have hzk := qFk kb
 by_cases hy : y.err = 0
 ·have HY := Lib.hid hy
  have FC := fun w => fields_c kb w
  unfold Fields at FC
  cases hk : isK kb with
  | false =>
   have e0 := R2 hy hk
   subst e0
   rw [hk] at FC
   replace FC := Lib.hid FC
   clear R1 R2 R3 hk hy
   go_enter Tryz.func53, Tryz.ntmps53
   go_wp2_with ((first | ((with_reducible refine tAlloc (some 2) 67 ?_); refine wal M _ rfl rfl (msgC zeroM) yD ?_; clear M; intro gr w1 M) | ((with_reducible refine tAlloc (some 5) 67 ?_); refine wal M _ rfl rfl (msgC zeroM) yD ?_; clear M; intro gm w1 M) | (go_at_call 57; (refine (qEC _ _).mono ?_; rintro e w1 ⟨gi, rfl, MP⟩; replace M := M.join MP; clear MP; simp only [List.cons_append, List.nil_append] at M)) | (go_at_call 61; (refine (YC.out gi _ (M.ok 0 _ rfl)).mono ?_; rintro r w2 ⟨rfl, U⟩; replace M := M.upd 0 rfl U; clear U; simp only [setC] at M)) | (go_at_call 92; (refine (qBj gi y _ (M.ok 1 _ rfl) HY.out).mono ?_; rintro e w1 ⟨rfl, rfl⟩)) | (go_at_call 90; (have hgm := (M.ok 0 _ rfl).1; have hgi := (M.ok 1 _ rfl).1; have hgr := (M.ok 2 _ rfl).1; refine (FC.out _).mono ?_; rintro e w5 ⟨b1, b2, b3, p, c, rfl, hbl, BX, SF, hso⟩; replace M := M.call hbl; clear hbl)) | ((with_reducible show wpList _ _ _ (Oper.mk _ (Op.load 5 _) _ _ _ _ :: _) _ _); refine w_at _ _ rfl yI ?_; intro hx; refine qAM M 0 _ _ rfl rfl hx rfl yB (show (msgC (kindM kb))[0]? = some (.int .u8 (I8 kb)) from rfl) ?_; clear hx) | ((with_reducible refine tStore ?_); refine w_at2 _ _ _ rfl yI yE ?_; intro hx hy; (first | refine qAD (m := kindM kb) M 0 _ _ _ rfl rfl hx rfl hy rfl yD hzk qAA ?_ | refine qAD (m := zeroM) M 2 _ _ _ rfl rfl hx rfl hy rfl yD qAA qAA ?_); clear hx hy M; intro w1 M; (try simp only [setC] at M)) | ((with_reducible refine tM rfl ?_); refine mS ?_; try (clear M; (first | intro g w1 M | intro w1 M); try simp only [setC] at M))) <;> (try conv => arg 5; simp only [apS, setC]))
   exact bodyPost_ret (qAK rfl _ _ gr 0 (msgC zeroM) _ (.int .i64 ((10 : Nat) : Int)) rfl rfl (M.ok 2 _ rfl).2.1 Tryz.underlying67 rfl yT) rfl (GivesM.zero M)
  | true =>
   have hn6 := fds_len kb
   replace R3 := R3.out hy hk
   rw [hk] at FC
   obtain ⟨l, el⟩ : ∃ l, l = fdsL kb := ⟨_, rfl⟩
   rw [← el] at FC R3 hn6
   replace R3 := Lib.hid R3
   replace FC := Lib.hid FC
   clear R1 R2 hk hy el
   go_enter Tryz.func53, Tryz.ntmps53
   go_wp2_with ((first | ((with_reducible refine tAlloc (some 2) 67 ?_); refine wal M _ rfl rfl (msgC zeroM) yD ?_; clear M; intro gr w1 M) | ((with_reducible refine tAlloc (some 5) 67 ?_); refine wal M _ rfl rfl (msgC zeroM) yD ?_; clear M; intro gm w1 M) | (go_at_call 57; (refine (qEC _ _).mono ?_; rintro e w1 ⟨gi, rfl, MP⟩; replace M := M.join MP; clear MP; simp only [List.cons_append, List.nil_append] at M)) | (go_at_call 61; (refine (YC.out gi _ (M.ok 0 _ rfl)).mono ?_; rintro r w2 ⟨rfl, U⟩; replace M := M.upd 0 rfl U; clear U; simp only [setC] at M)) | (go_at_call 92; (refine (qBj gi y _ (M.ok 1 _ rfl) HY.out).mono ?_; rintro e w1 ⟨rfl, rfl⟩)) | (go_at_call 90; (have hgm := (M.ok 0 _ rfl).1; have hgi := (M.ok 1 _ rfl).1; have hgr := (M.ok 2 _ rfl).1; refine (FC.out _).mono ?_; rintro e w5 ⟨b1, b2, b3, p, c, rfl, hbl, BX, SF, hso⟩; replace M := M.call hbl; clear hbl)) | ((with_reducible show wpList _ _ _ (Oper.mk _ (Op.load 5 _) _ _ _ _ :: _) _ _); refine w_at _ _ rfl yI ?_; intro hx; refine qAM M 0 _ _ rfl rfl hx rfl yB (show (msgC (kindM kb))[0]? = some (.int .u8 (I8 kb)) from rfl) ?_; clear hx) | ((with_reducible refine tStore ?_); refine w_at2 _ _ _ rfl yI yE ?_; intro hx hy; (first | refine qAD (m := kindM kb) M 0 _ _ _ rfl rfl hx rfl hy rfl yD hzk qAA ?_ | refine qAD (m := zeroM) M 2 _ _ _ rfl rfl hx rfl hy rfl yD qAA qAA ?_); clear hx hy M; intro w1 M; (try simp only [setC] at M)) | ((with_reducible refine tM rfl ?_); refine mS ?_; try (clear M; (first | intro g w1 M | intro w1 M); try simp only [setC] at M))) <;> (try conv => arg 5; simp only [apS, setC]))
   obtain ⟨n, hgm, hgi, hgr, BX, hso⟩ : ∃ n, gm < n ∧ gi < n ∧ gr < n ∧ Boxes b1 b2 b3 n w5 ∧ ∀ g, (Value.slice p l.length c).ownBlock = some g → n ≤ g := ⟨_, hgm, hgi, hgr, BX, hso⟩
   have MO : Mem [] w w5 (msK gi gm y (kindL kb) (.slice none 0 0) (.slice none 0 0) ++ [Chunk.row gr (msgC zeroM)]) := ((M.nil 2).nil 3).sel [3, 2, 0, 1, 4] _ yN rfl
   clear M
   have M := MO.again0
   have hF : ∀ b, n ≤ b → b ∉ (msK gi gm y (kindL kb) (.slice none 0 0) (.slice none 0 0) ++ [Chunk.row gr (msgC zeroM)]).flatMap Chunk.fp := fun b hb h => by
    simp [msK, Chunk.fp, Value.ownBlock] at h
    omega
   have TR : ∀ (w' : World) (K : List Chunk), Mem ((msK gi gm y (kindL kb) (.slice none 0 0) (.slice none 0 0) ++ [Chunk.row gr (msgC zeroM)]).flatMap Chunk.fp) w5 w' K → Mem [] w w' K := fun w' K U => MO.turn0 U
   obtain ⟨F, eF⟩ : ∃ F, F = (msK gi gm y (kindL kb) (.slice none 0 0) (.slice none 0 0) ++ [Chunk.row gr (msgC zeroM)]).flatMap Chunk.fp := ⟨_, rfl⟩
   rw [← eF] at M hF TR
   clear eF MO
   have hFo : ∀ g, (Value.slice p l.length c).ownBlock = some g → g ∉ F := fun g h => hF g (hso g h)
   have GG := fun (L : Lm) (x : InS) (hL : L.fit) (hf : x.fit) (hp : L.prs.length ≤ 1000) (ov pv : Value) (f : Fld) (w : World) M => get_all BX hF hL hf hp gi gm ov pv [Chunk.row gr (msgC zeroM)] f w M
   replace GG := Lib.hid GG
   replace TR := Lib.hid TR
   have hLk : (kindL kb).fit := qFl kb
   obtain ⟨L0, eL0⟩ : ∃ L0, L0 = kindL kb := ⟨_, rfl⟩
   have hp0 : L0.prs.length = 0 := by rw [eL0]; rfl
   rw [← eL0] at M R3 hLk
   clear eL0 BX hso hgm hgi hgr hzk FC YC
   go_loopw [41] (fun iv wr => ∃ (j : Nat) (L : Lm) (x : InS) (ov pv : Value), j ≤ l.length ∧ iv = .int .i64 j ∧ L.fit ∧ x.fit ∧ L.prs.length ≤ 48 * j ∧ Hid (runF l L0 y = runF (l.drop j) L x) ∧ Mem F w5 wr (msK gi gm x L ov pv ++ [Chunk.row gr (msgC zeroM)])) (fun iv _ => l.length - (intOf iv).toNat)
   case atStart => exact ⟨0, L0, y, _, _, by omega, rfl, hLk, hfy, by omega, Lib.hid rfl, M⟩
   case round =>
    clear M
    obtain ⟨j, L, x, ov, pv, hj, rfl, hL, hf, hpl, HR, M⟩ := hrel
    by_cases hlt : j < l.length
    ·obtain ⟨ga, so, rfl⟩ := SF.addr yF
     obtain ⟨f, hx⟩ : ∃ f, l[j]? = some f := ⟨_, List.getElem?_eq_getElem hlt⟩
     have ED : l.drop j = f :: l.drop (j + 1) := by obtain ⟨h, rfl⟩ := List.getElem?_eq_some_iff.1 hx; exact List.drop_eq_getElem_cons h
     have HR' := HR.out
     rw [ED] at HR'
     clear HR ED
     have SF' := SF.nowF M (fun _ => hFo)
     have HX := Lib.hid hx
     clear hx
     have hkt2 : decide ((j : Int) < (l.length : Int)) = true := decide_eq_true yF
     obtain ⟨hL', hf'⟩ := Fld.get_fit hL hf f
     have hp' := Fld.get_prs (L := L) (x := x) f
     have G := fun w M => GG.out L x hL hf yF ov pv f w M
     have GO := @runF_go f (l.drop (j + 1)) L x
     have GS := @runF_say f (l.drop (j + 1)) L x
     have GE := @runF_err f (l.drop (j + 1)) L x
     obtain ⟨⟨r, L', x'⟩, et⟩ : ∃ R, R = f.get L x := ⟨_, rfl⟩
     rw [← et] at hL' hf' hp' G GO GS GE
     simp only at hL' hf' hp' G
     replace GO := GO rfl
     replace GS := GS rfl
     replace GE := GE rfl
     rw [← HR'] at GO GS GE
     replace G := Lib.hid G
     clear et HR'
     by_cases hx' : x'.err = 0
     ·have HX' := Lib.hid hx'
      by_cases hr : r = 0
      ·subst hr
       have HN := Lib.hid fun _ : Unit => GO rfl hx'
       clear GO GS GE hx'
       cases f
       all_goals
        simp only [getN, getA] at G
        go_wp2_with ((first | ((with_reducible show wpList _ _ _ (Oper.mk _ (Op.load 175 _) _ _ _ _ :: _) _ _); (refine w_at _ _ rfl yI ?_; intro hx; refine qCs SF' HX.out _ _ rfl hx rfl yB yG yD ?_; clear hx; (try conv => arg 5; simp only [Act.put, List.setIfInBounds_toArray, setC, qFr, qEK, qFs, qFq]))) | ((with_reducible refine tAlloc (some 11) 175 ?_); refine wal M _ rfl rfl ([.nilFunc, .nilFunc]) yD ?_; clear M; intro gz w1 M) | ((with_reducible show wpList _ _ _ (Oper.mk _ (Op.store 175 _ _) _ _ _ _ :: _) _ _); (refine w_at2 _ _ _ rfl yI yE ?_; intro hx hy; refine qBK M 0 _ _ _ rfl rfl hx rfl _ hy rfl yD yD1 rfl ?_; clear hx hy M; intro w1 M; (try simp only [setC] at M))) | ((first | go_at_call 165 | go_at_call 167 | go_at_call 134 | go_at_call 136); (replace M := M.tail; refine (G.out _ M).mono ?_; rintro e w6 ⟨rfl, ov', pv', N⟩; clear M; have M := N; clear N)) | (go_at_call 92; (refine (qBj gi x' _ (M.ok 0 _ rfl) HX'.out).mono ?_; rintro e w1 ⟨rfl, rfl⟩)) | ((with_reducible refine tStore ?_); refine w_at2 _ _ _ rfl yI yE ?_; intro hx hy; (first | refine qAD (m := zeroM) M 4 _ _ _ rfl rfl hx rfl hy rfl yD qAA qAA ?_); clear hx hy M; intro w1 M; (try simp only [setC] at M)) | ((with_reducible refine tM rfl ?_); refine mS ?_; try (clear M; (first | intro g w1 M | intro w1 M); try simp only [setC] at M))) <;> (try conv => arg 5; simp only [apS, setC]))
        go_roundw
        case rel => exact ⟨j + 1, L', x', _, _, by omega, by go_num, hL', hf', by omega, Lib.hid (HN.out ()), M⟩
        case measure => simp [intOf]; omega
      ·have e0 := R3.out _ _ _ (GS hr hx')
       rw [if_neg hr] at e0
       subst e0
       have hz : ((r : Int) == 0) = false := by simp; exact hr
       have hz' : ((r : Int) != 0) = true := by simp; exact hr
       clear GO GS GE hx' hr R3
       cases f
       all_goals
        simp only [getN, getA] at G
        go_wp2_with ((first | ((with_reducible show wpList _ _ _ (Oper.mk _ (Op.load 175 _) _ _ _ _ :: _) _ _); (refine w_at _ _ rfl yI ?_; intro hx; refine qCs SF' HX.out _ _ rfl hx rfl yB yG yD ?_; clear hx; (try conv => arg 5; simp only [Act.put, List.setIfInBounds_toArray, setC, qFr, qEK, qFs, qFq]))) | ((with_reducible refine tAlloc (some 11) 175 ?_); refine wal M _ rfl rfl ([.nilFunc, .nilFunc]) yD ?_; clear M; intro gz w1 M) | ((with_reducible show wpList _ _ _ (Oper.mk _ (Op.store 175 _ _) _ _ _ _ :: _) _ _); (refine w_at2 _ _ _ rfl yI yE ?_; intro hx hy; refine qBK M 0 _ _ _ rfl rfl hx rfl _ hy rfl yD yD1 rfl ?_; clear hx hy M; intro w1 M; (try simp only [setC] at M))) | ((first | go_at_call 165 | go_at_call 167 | go_at_call 134 | go_at_call 136); (replace M := M.tail; refine (G.out _ M).mono ?_; rintro e w6 ⟨rfl, ov', pv', N⟩; clear M; have M := N; clear N)) | (go_at_call 92; (refine (qBj gi x' _ (M.ok 0 _ rfl) HX'.out).mono ?_; rintro e w1 ⟨rfl, rfl⟩)) | ((with_reducible refine tStore ?_); refine w_at2 _ _ _ rfl yI yE ?_; intro hx hy; (first | refine qAD (m := zeroM) M 4 _ _ _ rfl rfl hx rfl hy rfl yD qAA qAA ?_); clear hx hy M; intro w1 M; (try simp only [setC] at M)) | ((with_reducible refine tM rfl ?_); refine mS ?_; try (clear M; (first | intro g w1 M | intro w1 M); try simp only [setC] at M))) <;> (try conv => arg 5; simp only [apS, setC]))
        exact bodyPost_ret (qAK rfl _ _ gr 0 (msgC zeroM) _ (.int .i64 (r : Int)) rfl rfl (M.ok 4 _ rfl).2.1 Tryz.underlying67 rfl yT) rfl (GivesM.zero (TR.out _ _ M))
     ·have e0 := R3.out _ _ _ (GE hx')
      rw [if_neg hx'] at e0
      have N := fun w h => qEQ gi x' w h hx'
      obtain ⟨q, eq⟩ : ∃ q, q = x'.err := ⟨_, rfl⟩
      rw [← eq] at N hx' e0
      subst e0
      replace N := Lib.hid N
      have hz : ((q : Int) == 0) = false := by simp; exact hx'
      have hz' : ((q : Int) != 0) = true := by simp; exact hx'
      clear GO GS GE hx' R3 eq
      cases f
      all_goals
       simp only [getN, getA] at G
       go_wp2_with ((first | ((with_reducible show wpList _ _ _ (Oper.mk _ (Op.load 175 _) _ _ _ _ :: _) _ _); (refine w_at _ _ rfl yI ?_; intro hx; refine qCs SF' HX.out _ _ rfl hx rfl yB yG yD ?_; clear hx; (try conv => arg 5; simp only [Act.put, List.setIfInBounds_toArray, setC, qFr, qEK, qFs, qFq]))) | ((with_reducible refine tAlloc (some 11) 175 ?_); refine wal M _ rfl rfl ([.nilFunc, .nilFunc]) yD ?_; clear M; intro gz w1 M) | ((with_reducible show wpList _ _ _ (Oper.mk _ (Op.store 175 _ _) _ _ _ _ :: _) _ _); (refine w_at2 _ _ _ rfl yI yE ?_; intro hx hy; refine qBK M 0 _ _ _ rfl rfl hx rfl _ hy rfl yD yD1 rfl ?_; clear hx hy M; intro w1 M; (try simp only [setC] at M))) | ((first | go_at_call 165 | go_at_call 167 | go_at_call 134 | go_at_call 136); (replace M := M.tail; refine (G.out _ M).mono ?_; rintro e w6 ⟨rfl, ov', pv', N⟩; clear M; have M := N; clear N)) | (go_at_call 92; (refine (N.out _ (M.ok 0 _ rfl)).mono ?_; rintro e w1 ⟨rfl, hb⟩; replace M := M.call hb; clear hb)) | ((with_reducible refine tStore ?_); refine w_at2 _ _ _ rfl yI yE ?_; intro hx hy; (first | refine qAD (m := zeroM) M 4 _ _ _ rfl rfl hx rfl hy rfl yD qAA qAA ?_); clear hx hy M; intro w1 M; (try simp only [setC] at M)) | ((with_reducible refine tM rfl ?_); refine mS ?_; try (clear M; (first | intro g w1 M | intro w1 M); try simp only [setC] at M))) <;> (try conv => arg 5; simp only [apS, setC]))
       exact bodyPost_ret (qAK rfl _ _ gr 0 (msgC zeroM) _ (.int .i64 (q : Int)) rfl rfl (M.ok 4 _ rfl).2.1 Tryz.underlying67 rfl yT) rfl (GivesM.zero (TR.out _ _ M))
    ·obtain rfl : j = l.length := by omega
     have h0 : runF (l.drop l.length) L x = (0, L, x) := by rw [List.drop_length, runF_nil]
     have e0 := R3.out 0 L x (HR.out.trans h0)
     clear h0
     rw [if_pos rfl] at e0
     have E := fun w h => End_c gi x w h hf
     have hfit := sl_fit hL (M.sel [0, 1, 2, 3] (msK gi gm x L ov pv) yN rfl)
     by_cases hfin : x.fin = 0
     ·rw [if_pos hfin] at e0
      subst e0
      rw [hfin] at E
      replace E := Lib.hid E
      clear hfin R3 HR
      go_wp2_with ((first | (go_at_call 62; (refine (E.out _ (M.ok 0 _ rfl)).mono ?_; rintro e w1 ⟨rfl, hb⟩; replace M := M.call hb; clear hb)) | ((with_reducible refine tLoad ?_); refine w_at _ _ rfl yI ?_; intro hx; refine qAQ M 1 _ _ rfl rfl hx rfl yB yD hfit ?_; clear hx) | ((with_reducible refine tStore ?_); refine w_at2 _ _ _ rfl yI yE ?_; intro hx hy; (first | refine qAD (m := L.ms ov pv) M 4 _ _ _ rfl rfl hx rfl hy rfl yD hfit qAA ?_); clear hx hy M; intro w1 M; (try simp only [setC] at M)) | ((with_reducible refine tM rfl ?_); refine mS ?_; try (clear M; (first | intro g w1 M | intro w1 M); try simp only [setC] at M))) <;> (try conv => arg 5; simp only [apS, setC]))
      exact bodyPost_ret (qAK rfl _ _ gr 0 (msgC (L.ms ov pv)) _ (.int .i64 ((0 : Nat) : Int)) rfl rfl (M.ok 4 _ rfl).2.1 Tryz.underlying67 rfl (by rw [qAs hfit]; kernel_rfl)) rfl (⟨ov, pv, rfl, (TR.out _ _ M).sel [2, 3] _ yN rfl⟩)
     ·rw [if_neg hfin] at e0
      obtain ⟨q, eq⟩ : ∃ q, q = x.fin := ⟨_, rfl⟩
      rw [← eq] at E hfin e0
      subst e0
      replace E := Lib.hid E
      have hz : ((q : Int) == 0) = false := by simp; exact hfin
      have hz' : ((q : Int) != 0) = true := by simp; exact hfin
      clear hfin R3 HR eq
      go_wp2_with ((first | (go_at_call 62; (refine (E.out _ (M.ok 0 _ rfl)).mono ?_; rintro e w1 ⟨rfl, hb⟩; replace M := M.call hb; clear hb)) | ((with_reducible refine tStore ?_); refine w_at2 _ _ _ rfl yI yE ?_; intro hx hy; (first | refine qAD (m := zeroM) M 4 _ _ _ rfl rfl hx rfl hy rfl yD qAA qAA ?_); clear hx hy M; intro w1 M; (try simp only [setC] at M)) | ((with_reducible refine tM rfl ?_); refine mS ?_; try (clear M; (first | intro g w1 M | intro w1 M); try simp only [setC] at M))) <;> (try conv => arg 5; simp only [apS, setC]))
      exact bodyPost_ret (qAK rfl _ _ gr 0 (msgC zeroM) _ (.int .i64 (q : Int)) rfl rfl (M.ok 4 _ rfl).2.1 Tryz.underlying67 rfl yT) rfl (GivesM.zero (TR.out _ _ M))
 ·have e0 := R1 hy
  subst e0
  clear R1 R2 R3
  have HY := Lib.hid hy
  obtain ⟨r, er⟩ : ∃ r, r = y.err := ⟨_, rfl⟩
  rw [← er] at hy ⊢
  have hz : ((r : Int) == 0) = false := by simp; exact hy
  have hz' : ((r : Int) != 0) = true := by simp; exact hy
  have N := fun g w h => qEQ g y w h HY.out
  rw [← er] at N
  replace N := Lib.hid N
  clear hy er
  go_enter Tryz.func53, Tryz.ntmps53
  go_wp2_with ((first | ((with_reducible refine tAlloc (some 2) 67 ?_); refine wal M _ rfl rfl (msgC zeroM) yD ?_; clear M; intro gr w1 M) | ((with_reducible refine tAlloc (some 5) 67 ?_); refine wal M _ rfl rfl (msgC zeroM) yD ?_; clear M; intro gm w1 M) | (go_at_call 57; (refine (qEC _ _).mono ?_; rintro e w1 ⟨gi, rfl, MP⟩; replace M := M.join MP; clear MP; simp only [List.cons_append, List.nil_append] at M)) | (go_at_call 61; (refine (YC.out gi _ (M.ok 0 _ rfl)).mono ?_; rintro r w2 ⟨rfl, U⟩; replace M := M.upd 0 rfl U; clear U; simp only [setC] at M)) | (go_at_call 92; (refine (N.out gi _ (M.ok 1 _ rfl)).mono ?_; rintro e w1 ⟨rfl, hb⟩; replace M := M.call hb; clear hb)) | ((with_reducible refine tStore ?_); refine w_at2 _ _ _ rfl yI yE ?_; intro hx hy; (first | refine qAD (m := kindM kb) M 0 _ _ _ rfl rfl hx rfl hy rfl yD hzk qAA ?_ | refine qAD (m := zeroM) M 2 _ _ _ rfl rfl hx rfl hy rfl yD qAA qAA ?_); clear hx hy M; intro w1 M; (try simp only [setC] at M)) | ((with_reducible refine tM rfl ?_); refine mS ?_; try (clear M; (first | intro g w1 M | intro w1 M); try simp only [setC] at M))) <;> (try conv => arg 5; simp only [apS, setC]))
  exact bodyPost_ret (qAK rfl _ _ gr 0 (msgC zeroM) _ (.int .i64 (r : Int)) rfl rfl (M.ok 2 _ rfl).2.1 Tryz.underlying67 rfl yT) rfl (GivesM.zero M)
end Go.Proofs.YtidadhbaomieiaaGreat

namespace Go
namespace TL
open Go.RowKit
theorem runF_fit : ∀ (l : List Fld) (L : Lm) (x : InS), L.fit → x.fit → (runF l L x).2.1.fit
 | [], _, _, h, _ => h
 | f :: l, L, x, h, hx => by
  obtain ⟨h1, h2⟩ := Fld.get_fit h hx f
  rw [runF]
  split
  ·exact runF_fit l _ _ h1 h2
  ·exact h1
theorem readB_ops (s : List UInt8) : (readB s).1.2.2.length ≤ 4 := by
 obtain ⟨⟨⟨i, e, d⟩, r⟩, h⟩ : ∃ R, R = readB s := ⟨_, rfl⟩
 rw [← h]
 by_cases hr : r = 0
 ·subst hr
  obtain ⟨_, h2, _⟩ := read_batonly h.symm
  exact (qDI h2).2.2.2.1
 ·have := readB_zero (s := s) (by rw [← h]; exact hr)
  rw [← h] at this
  simp only [Prod.mk.injEq] at this
  obtain ⟨_, _, rfl⟩ := this
  exact Nat.zero_le _
theorem Fld.get_ops {L : Lm} {x : InS} (h : L.ops.length ≤ 1000) (f : Fld) : (f.get L x).2.1.ops.length ≤ 1000 := by
 cases f with
 | num q =>
  have : (q.sl L ((x.most q.most).1 : Int)).ops = L.ops := by cases q <;> rfl
  show (q.sl L ((x.most q.most).1 : Int)).ops.length ≤ _
  rw [this]; exact h
 | hash q =>
  simp only [Fld.get]
  generalize hashS (q.gl L) x 32 = z
  have : (q.sl L z.2).ops = L.ops := by cases q <;> rfl
  rw [this]; exact h
 | bat =>
  simp only [Fld.get]
  generalize x.text 512 = z
  have h4 := readB_ops z.1
  generalize readB z.1 = y at h4 ⊢
  split
  ·exact Nat.le_trans h4 yF
  ·exact h
 | prs => exact h
theorem runF_ops : ∀ (l : List Fld) (L : Lm) (x : InS), L.ops.length ≤ 1000 → (runF l L x).2.1.ops.length ≤ 1000
 | [], _, _, h => h
 | f :: l, L, x, h => by
  have h1 := Fld.get_ops (x := x) h f
  rw [runF]
  split
  ·exact runF_ops l _ _ h1
  ·exact h1
theorem runF_prs : ∀ (l : List Fld) (L : Lm) (x : InS), (runF l L x).2.1.prs.length ≤ L.prs.length + 48 * l.length
 | [], _, _ => Nat.le_add_right _ _
 | f :: l, L, x => by
  have h1 := Fld.get_prs (L := L) (x := x) f
  rw [runF, List.length_cons]
  split
  ·have := runF_prs l (f.get L x).2.1 (f.get L x).2.2; omega
  ·simp only; omega
theorem qDK (s : List UInt8) (hs : s.length ≤ 1000000) : (readM s).1.fit ∧ (readM s).1.ops.length ≤ 1000 ∧ (readM s).1.prs.length ≤ 1000 := by
 have hst : (inStart s).fit := by unfold inStart InS.fit; simp; omega
 have hz : zeroL.fit ∧ zeroL.ops.length ≤ 1000 ∧ zeroL.prs.length ≤ 1000 := ⟨zeroL_fit, Nat.zero_le _, Nat.zero_le _⟩
 unfold readM
 simp only
 have hy := InS.byte_fit hst
 generalize (inStart s).byte = y at hy ⊢
 split
 ·split
  ·have h1 := runF_fit (fdsL (UInt8.ofNat y.1)) (kindL (UInt8.ofNat y.1)) y.2 (qFl _) hy
   have h2 := runF_ops (fdsL (UInt8.ofNat y.1)) (kindL (UInt8.ofNat y.1)) y.2 (Nat.zero_le _)
   have h3 := runF_prs (fdsL (UInt8.ofNat y.1)) (kindL (UInt8.ofNat y.1)) y.2
   have h4 := fds_len (UInt8.ofNat y.1)
   have h5 : (kindL (UInt8.ofNat y.1)).prs.length = 0 := rfl
   generalize runF (fdsL (UInt8.ofNat y.1)) (kindL (UInt8.ofNat y.1)) y.2 = t at h1 h2 h3 ⊢
   split
   ·split
    ·exact ⟨h1, h2, by show t.2.1.prs.length ≤ 1000; omega⟩
    ·exact hz
   ·exact hz
  ·exact hz
 ·exact hz
theorem bytesM_kind {L : Lm} (h : isK L.k = false) : bytesM L = ([], 10) := by unfold bytesM; rw [if_neg (by rw [h]; decide)]
theorem bytesM_bad {L : Lm} (h : isK L.k = true) {j : Nat} {f : Fld} (hf : (fdsL L.k)[j]? = some f) (ho : f.ok L = false) : bytesM L = ([], 1) := by
 unfold bytesM
 rw [if_pos h, if_neg]
 rintro ⟨h1, _⟩
 rw [List.all_eq_true] at h1
 have := h1 f (List.mem_of_getElem? hf)
 rw [ho] at this; cases this
theorem bytesM_no {L : Lm} (h : isK L.k = true) (hn : readM (L.k :: (fdsL L.k).flatMap (fun f => f.put L)) ≠ (L, 0)) : bytesM L = ([], 1) := by
 unfold bytesM; rw [if_pos h, if_neg (fun h => hn h.2)]
theorem bytesM_yes {L : Lm} (h : isK L.k = true) (ho : ∀ (j : Nat) (f : Fld), (fdsL L.k)[j]? = some f → f.ok L = true) (hn : readM (L.k :: (fdsL L.k).flatMap (fun f => f.put L)) = (L, 0)) : bytesM L = (L.k :: (fdsL L.k).flatMap (fun f => f.put L), 0) := by
 unfold bytesM; rw [if_pos h, if_pos ⟨List.all_eq_true.2 fun f hf => by obtain ⟨j, hj⟩ := List.mem_iff_getElem?.1 hf; exact ho j f hj, hn⟩]
theorem puts_len {L : Lm} (hr : L.rng) (hL : L.fit) : ∀ l : List Fld, (l.flatMap (fun f => f.put L)).length ≤ l.length * 100100
 | [] => by simp
 | f :: l => by
  have h1 := f.put_len hr hL
  have h2 := puts_len hr hL l
  simp only [List.flatMap_cons, List.length_append, List.length_cons]; omega
end TL
end Go
namespace Go
namespace TL
theorem qDB {Lr : Lm} (h : Lr.fit) {F : List Nat} {w0 w : World} {ov pv : Value} {R : List Chunk} (M : Mem F w0 w (.sl 3 ov Lr.ops.length (Lr.ops.flatMap opV) :: .sl 2 pv Lr.prs.length (Lr.prs.flatMap prV) :: R)) : (Lr.ms ov pv).fit := by
 obtain ⟨op, oc, rfl⟩ := qCw (M.ok 0 _ rfl)
 obtain ⟨pp, pc, rfl⟩ := qCw (M.ok 1 _ rfl)
 exact Lm.ms_fit h rfl rfl
end TL
end Go
namespace Go.Proofs.YtidadhbaomieiaaGreat
open Go.RowKit Go.TL
theorem Bytes_c (L : Lm) (ov pv : Value) (w : World) (hL : L.fit) (hr : L.rng) (S : SeesL w 3 opV ov L.ops) (T : SeesL w 2 prV pv L.prs) :
  Calls Tryz.prog 51 #[.agg (msgC (L.ms ov pv)).toArray] w fun e w' => e = .returned (.tuple #[.string (mkS (bytesM L).1), .int .i64 (bytesM L).2]) ∧ Below w.heap.size w w' := by
 have M := Mem.start [] w
 have hmf : (L.ms ov pv).fit := by
  obtain ⟨op, oc, rfl, _⟩ := S.form
  obtain ⟨pp, pc, rfl, _⟩ := T.form
  exact Lm.ms_fit hL rfl rfl
 have HK : (msgC (L.ms ov pv))[0]? = some (.int .u8 (I8 L.k)) := rfl
 replace HK := Lib.hid HK
 have FC := fun w => fields_c L.k w
 unfold Fields at FC
 cases hk : isK L.k with
 | false =>
  rw [bytesM_kind hk]
  rw [hk] at FC
  replace FC := Lib.hid FC
  clear hk
  go_enter Tryz.func51, Tryz.ntmps51
  go_wp2_with ((first | ((with_reducible refine tBox (some 1) ?_); refine w_box M _ _ rfl rfl _ rfl (msgC (L.ms ov pv)) rfl ?_; clear M; intro gm w1 M) | (go_at_call 90; (have hgm := (M.ok 0 _ rfl).1; refine (FC.out _).mono ?_; rintro e w5 ⟨b1, b2, b3, p, c, rfl, hbl, BX, SF, hso⟩; replace M := M.call hbl; clear hbl)) | ((with_reducible show wpList _ _ _ (Oper.mk _ (Op.load 5 _) _ _ _ _ :: _) _ _); refine w_at _ _ rfl yI ?_; intro hx; (first | refine qAM M 0 _ _ rfl rfl hx rfl yB HK.out ?_ | refine qAM M 1 _ _ rfl rfl hx rfl yB HK.out ?_); clear hx) | ((with_reducible refine tM rfl ?_); refine mS ?_; try (clear M; (first | intro g w1 M | intro w1 M); try simp only [setC] at M))) <;> (try conv => arg 5; simp only [apS, setC]))
  go_ret2
  exact ⟨rfl, M.below⟩
 | true =>
  have BB := fun j f => @bytesM_bad L hk j f
  have BN := bytesM_no hk
  have BY := bytesM_yes hk
  have PL := puts_len hr hL
  have hn6 := fds_len L.k
  rw [hk] at FC
  obtain ⟨A, eA⟩ : ∃ A, A = bytesM L := ⟨_, rfl⟩
  obtain ⟨l, el⟩ : ∃ l, l = fdsL L.k := ⟨_, rfl⟩
  rw [← eA] at BB BN BY
  rw [← eA]
  rw [← el] at BB BN BY FC hn6
  replace FC := Lib.hid FC
  replace BB := Lib.hid BB
  clear eA el hk
  go_enter Tryz.func51, Tryz.ntmps51
  go_wp2_with ((first | ((with_reducible refine tBox (some 1) ?_); refine w_box M _ _ rfl rfl _ rfl (msgC (L.ms ov pv)) rfl ?_; clear M; intro gm w1 M) | (go_at_call 90; (have hgm := (M.ok 0 _ rfl).1; refine (FC.out _).mono ?_; rintro e w5 ⟨b1, b2, b3, p, c, rfl, hbl, BX, SF, hso⟩; have MO := M.call hbl; clear hbl M; have M := MO.again0)) | ((with_reducible show wpList _ _ _ (Oper.mk _ (Op.load 5 _) _ _ _ _ :: _) _ _); refine w_at _ _ rfl yI ?_; intro hx; (first | refine qAM M 0 _ _ rfl rfl hx rfl yB HK.out ?_ | refine qAM M 1 _ _ rfl rfl hx rfl yB HK.out ?_); clear hx) | ((with_reducible refine tAlloc (some 6) 155 ?_); refine wal M _ rfl rfl ([.slice none 0 0]) yD ?_; clear M; intro go w1 M) | (go_at_call 91; (replace M := M.outNew; refine (qDU _ _ [] L.k _ yB1 (M.ok 0 _ rfl)).mono ?_; rintro e w2 ⟨rfl, v1, U⟩; replace M := M.upd 0 rfl U; clear U; simp only [setC, List.nil_append] at M)) | ((with_reducible refine tM rfl ?_); refine mS ?_; try (clear M; (first | intro g w1 M | intro w1 M); try simp only [setC] at M))) <;> (try conv => arg 5; simp only [apS, setC]))
  obtain ⟨n, hgm, BX, hso⟩ : ∃ n, gm < n ∧ Boxes b1 b2 b3 n w5 ∧ ∀ g, (Value.slice p l.length c).ownBlock = some g → n ≤ g := ⟨_, hgm, BX, hso⟩
  have hgw : w.heap.size ≤ gm := (MO.own 0 _ rfl gm yG1).resolve_left yB1
  have S5 := S.now MO
  have T5 := T.now MO
  have hF : ∀ b, b ≠ gm → b ∉ [Chunk.row gm (msgC (L.ms ov pv))].flatMap Chunk.fp := fun b hb h => by
   simp [Chunk.fp] at h
   exact hb h
  have TR : ∀ (w' : World) (K : List Chunk), Mem ([Chunk.row gm (msgC (L.ms ov pv))].flatMap Chunk.fp) w5 w' K → Below w.heap.size w w' := fun w' K U => (MO.turn0 U).below
  obtain ⟨F, eF⟩ : ∃ F, F = [Chunk.row gm (msgC (L.ms ov pv))].flatMap Chunk.fp := ⟨_, rfl⟩
  rw [← eF] at M hF TR
  clear eF MO FC
  have hS : 0 < L.ops.length → ∀ k, ov.ownBlock = some k → k ∉ F := fun h0 k h => hF k (by have := S.old h0 k h; omega)
  have hT : 0 < L.prs.length → ∀ k, pv.ownBlock = some k → k ∉ F := fun h0 k h => hF k (by have := T.old h0 k h; omega)
  have hFn : ∀ b, n ≤ b → b ∉ F := fun b h => hF b yF
  have hFo : ∀ g, (Value.slice p l.length c).ownBlock = some g → g ∉ F := fun g h => hFn g (hso g h)
  have GG := fun (f : Fld) (v : Value) (y : List UInt8) (hy : y.length ≤ 700000) (w : World) M => put_all BX hFn hL hr go gm S5 T5 hS hT [] f v y hy w M
  replace GG := Lib.hid GG
  replace TR := Lib.hid TR
  have hTK : ∀ (j : Nat) (f : Fld), l[j]? = some f → (l.take (j + 1)).flatMap (fun f => f.put L) = (l.take j).flatMap (fun f => f.put L) ++ f.put L := fun j f h => by
   obtain ⟨hj, rfl⟩ := List.getElem?_eq_some_iff.1 h
   rw [List.take_succ_eq_append_getElem hj, List.flatMap_append, List.flatMap_cons, List.flatMap_nil, List.append_nil]
  replace hTK := Lib.hid hTK
  clear hgm BX hso hgw hF hFn
  go_loopw [25] (fun iv wr => ∃ (j : Nat) (v1 : Value), j ≤ l.length ∧ iv = .int .i64 j ∧ Hid (∀ (i : Nat) (f : Fld), i < j → l[i]? = some f → f.ok L = true) ∧ Mem F w5 wr [outC go v1 (L.k :: (l.take j).flatMap (fun f => f.put L)), Chunk.row gm (msgC (L.ms ov pv))]) (fun iv _ => l.length - (intOf iv).toNat)
  case atStart => exact ⟨0, _, by omega, rfl, Lib.hid yF, M⟩
  case round =>
   clear M
   obtain ⟨j, v0, hj, rfl, HO, M⟩ := hrel
   by_cases hlt : j < l.length
   ·obtain ⟨ga, so, rfl⟩ := SF.addr yF
    obtain ⟨f, hx⟩ : ∃ f, l[j]? = some f := ⟨_, List.getElem?_eq_getElem hlt⟩
    have SF' := SF.nowF M (fun _ => hFo)
    have HX := Lib.hid hx
    have hT1 := hTK.out j f hx
    have hB1 := BB.out j f hx
    clear hx
    have hkt2 : decide ((j : Int) < (l.length : Int)) = true := decide_eq_true yF
    have hlen : (L.k :: (l.take j).flatMap (fun f => f.put L)).length ≤ 700000 := by
     have h1 := PL (l.take j)
     have h2 : (l.take j).length ≤ 6 := by rw [List.length_take]; omega
     have h3 : (l.take j).length * 100100 ≤ 600600 := by omega
     rw [List.length_cons]; omega
    obtain ⟨y, ey⟩ : ∃ y, y = L.k :: (l.take j).flatMap (fun f => f.put L) := ⟨_, rfl⟩
    have HY : L.k :: (l.take (j + 1)).flatMap (fun f => f.put L) = y ++ f.put L := by rw [hT1, ey]; rfl
    rw [← ey] at M hlen
    have G := fun w M => GG.out f v0 y hlen w M
    obtain ⟨q, eq⟩ : ∃ q, q = f.put L := ⟨_, rfl⟩
    rw [← eq] at G HY
    replace HY := Lib.hid HY
    clear ey eq hT1
    cases hb : f.ok L with
    | false =>
     have e0 := hB1 hb
     subst e0
     rw [hb] at G
     replace G := Lib.hid G
     clear hB1 hb BN BY
     cases f
     all_goals
      simp only [putN, putA] at G
      go_wp2_with ((first | ((with_reducible show wpList _ _ _ (Oper.mk _ (Op.load 175 _) _ _ _ _ :: _) _ _); (refine w_at _ _ rfl yI ?_; intro hx; refine qCs SF' HX.out _ _ rfl hx rfl yB yG yD ?_; clear hx; (try conv => arg 5; simp only [Act.put, List.setIfInBounds_toArray, setC, qFr, qEK, qFs, qFq]))) | ((with_reducible refine tAlloc (some 8) 175 ?_); refine wal M _ rfl rfl ([.nilFunc, .nilFunc]) yD ?_; clear M; intro gz w1 M) | ((with_reducible show wpList _ _ _ (Oper.mk _ (Op.store 175 _ _) _ _ _ _ :: _) _ _); (refine w_at2 _ _ _ rfl yI yE ?_; intro hx hy; refine qBK M 0 _ _ _ rfl rfl hx rfl _ hy rfl yD yD1 rfl ?_; clear hx hy M; intro w1 M; (try simp only [setC] at M))) | ((first | go_at_call 164 | go_at_call 166 | go_at_call 133 | go_at_call 135); (replace M := M.tail; refine (G.out _ M).mono ?_; rintro e w6 ⟨v', l', rfl, hl', N⟩; clear M; have M := N; clear N)) | ((with_reducible refine tM rfl ?_); refine mS ?_; try (clear M; (first | intro g w1 M | intro w1 M); try simp only [setC] at M))) <;> (try conv => arg 5; simp only [apS, setC]))
      go_ret2
      exact ⟨rfl, TR.out _ _ M⟩
    | true =>
     rw [hb] at G
     have HB := Lib.hid hb
     replace G := Lib.hid G
     clear hB1 hb
     cases f
     all_goals
      simp only [putN, putA] at G
      go_wp2_with ((first | ((with_reducible show wpList _ _ _ (Oper.mk _ (Op.load 175 _) _ _ _ _ :: _) _ _); (refine w_at _ _ rfl yI ?_; intro hx; refine qCs SF' HX.out _ _ rfl hx rfl yB yG yD ?_; clear hx; (try conv => arg 5; simp only [Act.put, List.setIfInBounds_toArray, setC, qFr, qEK, qFs, qFq]))) | ((with_reducible refine tAlloc (some 8) 175 ?_); refine wal M _ rfl rfl ([.nilFunc, .nilFunc]) yD ?_; clear M; intro gz w1 M) | ((with_reducible show wpList _ _ _ (Oper.mk _ (Op.store 175 _ _) _ _ _ _ :: _) _ _); (refine w_at2 _ _ _ rfl yI yE ?_; intro hx hy; refine qBK M 0 _ _ _ rfl rfl hx rfl _ hy rfl yD yD1 rfl ?_; clear hx hy M; intro w1 M; (try simp only [setC] at M))) | ((first | go_at_call 164 | go_at_call 166 | go_at_call 133 | go_at_call 135); (replace M := M.tail; refine (G.out _ M).mono ?_; rintro e w6 ⟨v', l', rfl, hl', N⟩; clear M; have M := N; clear N)) | ((with_reducible refine tM rfl ?_); refine mS ?_; try (clear M; (first | intro g w1 M | intro w1 M); try simp only [setC] at M))) <;> (try conv => arg 5; simp only [apS, setC]))
      go_roundw
      case rel => exact ⟨j + 1, v', by omega, by go_num, Lib.hid fun i f hi hf => by
       rcases Nat.lt_succ_iff_lt_or_eq.1 hi with hi | rfl
       ·exact HO.out i f hi hf
       ·have e := HX.out.symm.trans hf
        injection e with e
        rw [← e]; exact HB.out, by rw [HY.out, ← hl' (by first | exact rfl | trivial)]; exact M⟩
      case measure => simp [intOf]; omega
   ·obtain rfl : j = l.length := by omega
    rw [List.take_length] at M
    have hlen : (L.k :: l.flatMap (fun f => f.put L)).length ≤ 700000 := by
     have h1 := PL l
     have h3 : l.length * 100100 ≤ 600600 := by omega
     rw [List.length_cons]; omega
    have BY' := BY fun j f h => HO.out j f (List.getElem?_eq_some_iff.1 h).1 h
    clear BY BB GG hTK HO
    obtain ⟨y, ey⟩ : ∃ y, y = L.k :: l.flatMap (fun f => f.put L) := ⟨_, rfl⟩
    rw [← ey] at M BY' BN hlen
    clear ey
    have RC := fun w => Read_c y w yF
    obtain ⟨hRf, hRo, hRp⟩ := qDK y yF
    obtain ⟨⟨Lr, er⟩, eR⟩ : ∃ R, R = readM y := ⟨_, rfl⟩
    rw [← eR] at RC hRf hRo hRp BY' BN
    unfold GivesM at RC
    simp only at RC hRf hRo hRp
    replace RC := Lib.hid RC
    clear eR
    have SC := fun w ro rp (S1 : SeesL w 3 opV ro Lr.ops) (T1 : SeesL w 2 prV rp Lr.prs) S2 T2 => Same_c Lr L ro rp ov pv w hRf hL S1 T1 S2 T2 yF yF (by have := hr.o1; omega) (by have := hr.p1; omega)
    by_cases he : er = 0
    ·subst he
     by_cases hs : Lr = L
     ·have e0 := BY' (by rw [hs])
      subst e0
      rw [decide_eq_true hs] at SC
      replace SC := Lib.hid SC
      clear BY' BN hs
      go_wp2_with ((first | ((with_reducible refine tGuard ?_); first | ((with_reducible refine qAC ?_ ?_); exact dcd) | ((with_reducible refine qAH ?_ ?_); exact dcd) | ((with_reducible refine qAI ?_ ?_); exact dcd)) | (go_at_call 81; (refine (qBT _ _ _ _ (M.ok 0 _ rfl)).mono ?_; rintro e w1 ⟨rfl, rfl⟩)) | (go_at_call 53; (refine (RC.out _).mono ?_; rintro e w7 ⟨rov, rpv, rfl, N⟩; replace M := M.join N; clear N; simp only [List.cons_append, List.nil_append] at M; have hrf := qDB hRf M)) | ((with_reducible refine tAlloc (some 10) 67 ?_); refine wal M _ rfl rfl (msgC zeroM) yD ?_; clear M; intro gb w1 M) | ((with_reducible show wpList _ _ _ (Oper.mk _ (Op.load 67 _) _ _ _ _ :: _) _ _); refine w_at _ _ rfl yI ?_; intro hx; (first | refine qAQ M 0 _ _ rfl rfl hx rfl yB yD hrf ?_ | refine qAQ M 4 _ _ rfl rfl hx rfl yB yD hmf ?_); clear hx) | (go_at_call 28; (refine (SC.out _ rov rpv (SeesL.own M 1 rfl rfl qCD) (SeesL.own M 2 rfl rfl qDh) (S5.nowF M hS) (T5.nowF M hT)).mono ?_; rintro e w1 ⟨rfl, hb⟩; replace M := M.call hb; clear hb)) | ((with_reducible refine tStore ?_); refine w_at2 _ _ _ rfl yI yE ?_; intro hx hy; refine qAD (m := Lr.ms rov rpv) M 0 _ _ _ rfl rfl hx rfl hy rfl yD hrf qAA ?_; clear hx hy M; intro w1 M; (try simp only [setC] at M)) | ((with_reducible refine tM rfl ?_); refine mS ?_; try (clear M; (first | intro g w1 M | intro w1 M); try simp only [setC] at M))) <;> (try conv => arg 5; simp only [apS, setC]))
      go_ret2
      exact ⟨rfl, TR.out _ _ M⟩
     ·have e0 := BN (by intro h; injection h with h; exact hs h)
      subst e0
      rw [decide_eq_false hs] at SC
      replace SC := Lib.hid SC
      clear BY' BN hs
      go_wp2_with ((first | ((with_reducible refine tGuard ?_); first | ((with_reducible refine qAC ?_ ?_); exact dcd) | ((with_reducible refine qAH ?_ ?_); exact dcd) | ((with_reducible refine qAI ?_ ?_); exact dcd)) | (go_at_call 81; (refine (qBT _ _ _ _ (M.ok 0 _ rfl)).mono ?_; rintro e w1 ⟨rfl, rfl⟩)) | (go_at_call 53; (refine (RC.out _).mono ?_; rintro e w7 ⟨rov, rpv, rfl, N⟩; replace M := M.join N; clear N; simp only [List.cons_append, List.nil_append] at M; have hrf := qDB hRf M)) | ((with_reducible refine tAlloc (some 10) 67 ?_); refine wal M _ rfl rfl (msgC zeroM) yD ?_; clear M; intro gb w1 M) | ((with_reducible show wpList _ _ _ (Oper.mk _ (Op.load 67 _) _ _ _ _ :: _) _ _); refine w_at _ _ rfl yI ?_; intro hx; (first | refine qAQ M 0 _ _ rfl rfl hx rfl yB yD hrf ?_ | refine qAQ M 4 _ _ rfl rfl hx rfl yB yD hmf ?_); clear hx) | (go_at_call 28; (refine (SC.out _ rov rpv (SeesL.own M 1 rfl rfl qCD) (SeesL.own M 2 rfl rfl qDh) (S5.nowF M hS) (T5.nowF M hT)).mono ?_; rintro e w1 ⟨rfl, hb⟩; replace M := M.call hb; clear hb)) | ((with_reducible refine tStore ?_); refine w_at2 _ _ _ rfl yI yE ?_; intro hx hy; refine qAD (m := Lr.ms rov rpv) M 0 _ _ _ rfl rfl hx rfl hy rfl yD hrf qAA ?_; clear hx hy M; intro w1 M; (try simp only [setC] at M)) | ((with_reducible refine tM rfl ?_); refine mS ?_; try (clear M; (first | intro g w1 M | intro w1 M); try simp only [setC] at M))) <;> (try conv => arg 5; simp only [apS, setC]))
      go_ret2
      exact ⟨rfl, TR.out _ _ M⟩
    ·have e0 := BN (by intro h; injection h with _ h; exact he h)
     subst e0
     have hz : ((er : Int) == 0) = false := by simp; exact he
     have hz' : ((er : Int) != 0) = true := by simp; exact he
     clear BY' BN he SC
     go_wp2_with ((first | ((with_reducible refine tGuard ?_); first | ((with_reducible refine qAC ?_ ?_); exact dcd) | ((with_reducible refine qAH ?_ ?_); exact dcd) | ((with_reducible refine qAI ?_ ?_); exact dcd)) | (go_at_call 81; (refine (qBT _ _ _ _ (M.ok 0 _ rfl)).mono ?_; rintro e w1 ⟨rfl, rfl⟩)) | (go_at_call 53; (refine (RC.out _).mono ?_; rintro e w7 ⟨rov, rpv, rfl, N⟩; replace M := M.join N; clear N; simp only [List.cons_append, List.nil_append] at M; have hrf := qDB hRf M)) | ((with_reducible refine tAlloc (some 10) 67 ?_); refine wal M _ rfl rfl (msgC zeroM) yD ?_; clear M; intro gb w1 M) | ((with_reducible show wpList _ _ _ (Oper.mk _ (Op.load 67 _) _ _ _ _ :: _) _ _); refine w_at _ _ rfl yI ?_; intro hx; (first | refine qAQ M 0 _ _ rfl rfl hx rfl yB yD hrf ?_ | refine qAQ M 4 _ _ rfl rfl hx rfl yB yD hmf ?_); clear hx) | ((with_reducible refine tStore ?_); refine w_at2 _ _ _ rfl yI yE ?_; intro hx hy; refine qAD (m := Lr.ms rov rpv) M 0 _ _ _ rfl rfl hx rfl hy rfl yD hrf qAA ?_; clear hx hy M; intro w1 M; (try simp only [setC] at M)) | ((with_reducible refine tM rfl ?_); refine mS ?_; try (clear M; (first | intro g w1 M | intro w1 M); try simp only [setC] at M))) <;> (try conv => arg 5; simp only [apS, setC]))
     go_ret2
     exact ⟨rfl, TR.out _ _ M⟩
end Go.Proofs.YtidadhbaomieiaaGreat

namespace Go
namespace TL
open Go.RowKit
section
variable {P : Program} {ops : Array Oper} {rest : List Oper} {o : Oper} {a : Act} {w w0 : World} {Q : Exit → Act → World → Prop} {F : List Nat} {L : List Chunk} {g : Nat} {m : Ms}
theorem qBV (M : Mem F w0 w L) (i : Nat) (t : TypeId) (x y : Operand) (ho : o.op = .store t x y) (hi : L[i]? = some (.row g (msgC m))) {off : Nat} (hx : a.eval x = .pointer (some ⟨g, off, none⟩)) (hw : Region.wanted o (yielded ops a.tmps) = true)
  {l : List UInt8} (hy : a.eval y = .agg (bs l).toArray) (hl : l.length = 32) (hn : (P.info? t).map (·.size) = some 32) (hm : m.fit) (f : Hf) (hoff : off = f.off)
  (h : ∀ w' : World, Mem F w0 w' (L.set i (.row g (msgC (f.set m l)))) → wpList P ops Q rest (a.put o.dst undef) w') : wpList P ops Q (o :: rest) a w := by
 subst hoff
 refine qDo M i t x y ho hi hx hw (bs l) hy rfl (by rw [qAP, hl]; exact hn) (qEL l) (f.pre m) (bs (f.get m)) (f.post m) (qDO m f) (f.pre_len hm) (by rw [qAP, qAP, hl, f.len hm]) fun w' M' => h w' (by rw [qFg]; exact M')
theorem qAh (M : Mem F w0 w L) (i : Nat) (t : TypeId) (x y : Operand) (ho : o.op = .store t x y) (hi : L[i]? = some (.row g (msgC zeroM))) (hx : a.eval x = .pointer (some ⟨g, 0, none⟩)) (hw : Region.wanted o (yielded ops a.tmps) = true)
  {b : UInt8} (hy : a.eval y = .int .u8 (I8 b)) (hn : (P.info? t).map (·.size) = some 1)
  (h : ∀ w' : World, Mem F w0 w' (L.set i (.row g (msgC (kindM b)))) → wpList P ops Q rest (a.put o.dst undef) w') : wpList P ops Q (o :: rest) a w :=
 qBn M i t x y ho hi hx hw hy rfl rfl hn (by rw [qAs qAA]; omega) fun _ M' => h _ M'
end
end TL
end Go
