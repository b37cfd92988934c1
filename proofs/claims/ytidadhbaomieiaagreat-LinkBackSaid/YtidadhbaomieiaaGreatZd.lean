/- Texts of this seat, put together: Path, Ref11N, Ref11, BatP0, BatE0, BatM0, BatQ, MsgS, OutNew, BatD, InT, BatT, BatB, MsgP, BatF0, BatR, MsgQ, MsgN. Each begins with a remark that says what is proved in it, and under which conditions. -/
import Derived.OwnWalk
import Derived.Test.YtidadhbaomieiaaGreatZb
import Derived.Test.YtidadhbaomieiaaGreatZc
/- The walks of package path's named, key and Cut, and of the reference's. Conditions: lengths. -/
namespace Go.Proofs.YtidadhbaomieiaaGreat
open Go.RowKit Go.TL
set_option maxRecDepth 100000 in
set_option maxHeartbeats 2000000 in
theorem key_c (s : List UInt8) (w : World) (hs : s.length ≤ 1000000000) :
    Calls Tryz.prog 213 #[.string (mkS s)] w fun e w' => e = .returned (.bool (pkeyL s)) ∧ w = w' := by
  have C : ∀ c : UInt8, Calls Tryz.prog 215 #[.string (mkS s), .int .u8 (c.toNat : Int)] w fun e w' => e = .returned (.int .i64 (Lib.indexByte s c)) ∧ w = w' := fun c =>
    (Go.Proofs.Tryz.strings_IndexByte (mkS s) c.toNat w).mono fun _ _ ⟨a, b⟩ => ⟨by rw [a, mkS_data]; simp, b.symm⟩
  have C0 := Lib.hid (C 0)
  have C47 := Lib.hid (C 47)
  clear C
  by_cases hl : 1 ≤ s.length ∧ s.length ≤ 24
  · rw [pkey_index s hl]
    obtain ⟨i0, e0⟩ : ∃ i, i = Lib.indexByte s 0 := ⟨_, rfl⟩
    obtain ⟨i4, e4⟩ : ∃ i, i = Lib.indexByte s 47 := ⟨_, rfl⟩
    rw [← e0] at C0 ⊢
    rw [← e4] at C47 ⊢
    clear e0 e4
    obtain ⟨hl1, hl2⟩ := hl
    by_cases h0 : i0 < 0
    all_goals
      go_enter Tryz.func213, Tryz.ntmps213
      go_wp2_with ((go_at_call 215; go_must ((first | refine (C0.out).mono ?_ | refine (C47.out).mono ?_); rintro e w1 ⟨rfl, rfl⟩)))
      go_ret
      exact ⟨by first | rfl | (simp [h0]; done) | (simp <;> omega), rfl⟩
  · rw [pkey_len hl]
    go_enter Tryz.func213, Tryz.ntmps213
    go_wp2_with fail
    all_goals
      go_ret
      exact ⟨rfl, rfl⟩
set_option maxRecDepth 100000 in
set_option maxHeartbeats 2000000 in
theorem sliteCut_c (p : List UInt8) (w : World) (hp : p.length ≤ 1000000000) :
    Calls Tryz.prog 214 #[.string (mkS p), .string (mkS [47])] w fun e w' => e = .returned (.tuple #[.string (mkS (scutL p).1), .string (mkS (scutL p).2.1), .bool (scutL p).2.2]) ∧ Below w.heap.size w w' := by
  have I : Calls Tryz.prog 216 #[.string (mkS p), .string (mkS [47])] w fun e w' => e = .returned (.int .i64 (if slash p < p.length then (slash p : Int) else -1)) ∧ w = w' :=
    (Go.Proofs.Tryz.stringslite_Index_one (mkS p) 47 w).mono fun _ _ ⟨a, b⟩ => ⟨by rw [a, mkS_data, indexByte_slash], b.symm⟩
  have M := Mem.start [] w
  have hsl := slash_le p
  obtain ⟨C, eC⟩ : ∃ C, C = scutL p := ⟨_, rfl⟩
  rw [← eC]
  by_cases h : slash p < p.length
  · rw [if_pos h] at I
    rw [scut_yes h] at eC
    have I := Lib.hid I
    subst eC
    go_enter Tryz.func214, Tryz.ntmps214
    go_wp2_with ((first | (go_at_call 216; go_must (refine (I.out).mono ?_; rintro e w1 ⟨rfl, rfl⟩)) | ((with_reducible show Code.wp _ (Code.region 3 _ _) _ _ _); go_must (refine region_det [(0, false), (1, false), (2, false), (3, false), (4, false), (5, false), (6, false), (7, false), (8, false), (9, false), (10, false), (11, false)] [(17, .int), (19, .int)] (by kernel_rfl) (by kernel_rfl) rfl (by kernel_rfl) ?_; replace M := M.drew; simp only [reord, opAt, List.map_cons, List.map_nil, List.getElem?_toArray, List.getElem?_cons_zero, List.getElem?_cons_succ, Option.getD_some])) | ((with_reducible show Seg _ _ _ _); go_must (first | refine Seg.intro ⟨fun h => absurd rfl h, ?_⟩ | refine Seg.intro ⟨fun _ => ixA, ?_⟩ | refine Seg.intro ⟨ndA, atA, ?_⟩)) | ((with_reducible show OnlyN _ _ _ _ _); refine OnlyN.intro (by kernel_rfl) ?_) | ((with_reducible refine tGuard ?_); first | refine gdS ?_ | (refine gdC ?_ ?_ <;> (intro hgd; rw [hgd]; try (exfalso; simp at hgd; omega)))) | ((with_reducible refine tConv _ 70 9 ?_); go_must (refine cvB ?_)) | ((with_reducible refine tLoad ?_); go_must (refine ldB ?_)) | ((with_reducible refine tStore ?_); go_must (refine stB ?_; clear M; intro w1 M; (try simp only [setC] at M))) | ((with_reducible refine tBox _ ?_); (refine bxA M ?_; clear M; intro g w1 M))) <;> (try conv => arg 5; simp only [Act.put, List.setIfInBounds_toArray, setC]))
    go_ret3
    exact ⟨rfl, M.below⟩
  · rw [if_neg h] at I
    rw [scut_no h] at eC
    have I := Lib.hid I
    subst eC
    go_enter Tryz.func214, Tryz.ntmps214
    go_wp2_with (first | (go_at_call 216; go_must (refine (I.out).mono ?_; rintro e w1 ⟨rfl, rfl⟩)))
    go_ret3
    exact ⟨rfl, M.below⟩
set_option maxRecDepth 100000 in
set_option maxHeartbeats 2000000 in
theorem strCut_c (p : List UInt8) (w : World) (hp : p.length ≤ 1000000000) :
    Calls Tryz.prog 211 #[.string (mkS p), .string (mkS [47])] w fun e w' => e = .returned (.tuple #[.string (mkS (scutL p).1), .string (mkS (scutL p).2.1), .bool (scutL p).2.2]) ∧ Below w.heap.size w w' := by
  have M := Mem.start [] w
  go_enter Tryz.func211, Tryz.ntmps211
  go_wp2_with ((go_at_call 214; go_must (refine (sliteCut_c p _ hp).mono ?_; rintro e w1 ⟨rfl, hb⟩; replace M := M.call hb; clear hb)))
  go_ret3
  exact ⟨rfl, M.below⟩
set_option maxRecDepth 100000 in
set_option maxHeartbeats 2000000 in
theorem Cut_c (p : List UInt8) (w : World) (hp : p.length ≤ 1000000000) :
    Calls Tryz.prog 203 #[.string (mkS p)] w fun e w' => e = .returned (.tuple #[.string (mkS (cutL p).1), .string (mkS (cutL p).2.1), .bool (cutL p).2.2]) ∧ Below w.heap.size w w' := by
  have M := Mem.start [] w
  have hsl := slash_le p
  obtain ⟨C, eC⟩ : ∃ C, C = cutL p := ⟨_, rfl⟩
  rw [← eC]
  unfold cutL at eC
  have S : Calls Tryz.prog 211 #[.string (mkS p), .string (mkS [47])] w fun e w' => e = .returned (.tuple #[.string (mkS (scutL p).1), .string (mkS (scutL p).2.1), .bool (scutL p).2.2]) ∧ Below w.heap.size w w' := strCut_c p w hp
  by_cases h : slash p < p.length
  · rw [scut_yes h] at S
    have S := Lib.hid S
    obtain ⟨a, ea⟩ : ∃ a, a = p.take (slash p) := ⟨_, rfl⟩
    obtain ⟨b, eb⟩ : ∃ b, b = p.drop (slash p + 1) := ⟨_, rfl⟩
    have la : a.length ≤ 1000000000 := by rw [ea]; simp; omega
    have lb : b.length ≤ 1000000000 := by rw [eb]; simp; omega
    rw [← ea, ← eb] at S eC
    clear ea eb
    have N : ∀ w, Calls Tryz.prog 212 #[.string (mkS a)] w fun e w' => e = .returned (.bool (namedL a)) ∧ w = w' := fun w => named_c a w la
    have K : ∀ w, Calls Tryz.prog 213 #[.string (mkS b)] w fun e w' => e = .returned (.bool (pkeyL b)) ∧ w = w' := fun w => key_c b w lb
    by_cases hn : namedL a = true
    · by_cases hk : pkeyL b = true
      · rw [if_pos ⟨h, hn, hk⟩] at eC
        rw [hn] at N; rw [hk] at K
        have N := Lib.hid N; have K := Lib.hid K
        subst eC
        go_enter Tryz.func203, Tryz.ntmps203
        go_wp2_with (first | (go_at_call 211; go_must (refine (S.out).mono ?_; rintro e w1 ⟨rfl, hb⟩; replace M := M.call hb; clear hb)) | (go_at_call 212; go_must (refine (N.out _).mono ?_; rintro e w1 ⟨rfl, rfl⟩)) | (go_at_call 213; go_must (refine (K.out _).mono ?_; rintro e w1 ⟨rfl, rfl⟩)))
        go_ret3
        exact ⟨rfl, M.below⟩
      · rw [if_neg (fun x => hk x.2.2)] at eC
        rw [hn] at N; rw [Bool.not_eq_true] at hk; rw [hk] at K
        have N := Lib.hid N; have K := Lib.hid K
        subst eC
        go_enter Tryz.func203, Tryz.ntmps203
        go_wp2_with (first | (go_at_call 211; go_must (refine (S.out).mono ?_; rintro e w1 ⟨rfl, hb⟩; replace M := M.call hb; clear hb)) | (go_at_call 212; go_must (refine (N.out _).mono ?_; rintro e w1 ⟨rfl, rfl⟩)) | (go_at_call 213; go_must (refine (K.out _).mono ?_; rintro e w1 ⟨rfl, rfl⟩)))
        go_ret3
        exact ⟨rfl, M.below⟩
    · rw [if_neg (fun x => hn x.2.1)] at eC
      rw [Bool.not_eq_true] at hn; rw [hn] at N
      have N := Lib.hid N
      subst eC
      go_enter Tryz.func203, Tryz.ntmps203
      go_wp2_with (first | (go_at_call 211; go_must (refine (S.out).mono ?_; rintro e w1 ⟨rfl, hb⟩; replace M := M.call hb; clear hb)) | (go_at_call 212; go_must (refine (N.out _).mono ?_; rintro e w1 ⟨rfl, rfl⟩)))
      go_ret3
      exact ⟨rfl, M.below⟩
  · rw [scut_no h] at S
    have S := Lib.hid S
    rw [if_neg (fun x => h x.1)] at eC
    subst eC
    go_enter Tryz.func203, Tryz.ntmps203
    go_wp2_with (first | (go_at_call 211; go_must (refine (S.out).mono ?_; rintro e w1 ⟨rfl, hb⟩; replace M := M.call hb; clear hb)))
    go_ret3
    exact ⟨rfl, M.below⟩
end Go.Proofs.YtidadhbaomieiaaGreat

/- The walk of the reference's layer 11 (path): Named. Conditions: lengths. -/
namespace Go.Proofs.YtidadhbaomieiaaGreat
open Go.RowKit Go.TL
end Go.Proofs.YtidadhbaomieiaaGreat

/- The walks of the reference's layer 11 (path): Named, Key, Cut and Less. Conditions: lengths. -/
namespace Go.Proofs.YtidadhbaomieiaaGreat
open Go.RowKit Go.TL
end Go.Proofs.YtidadhbaomieiaaGreat

/- Plain laws of walks: a variable's one cell; a result of two, the first in memory. No conditions. -/
namespace Go
namespace TL
open Go.RowKit
theorem results_row2 {P : Program} {fn : Func} {p q : Tmp} {ty : TypeId} (h : fn.results = #[.cell p ty, .tmp q]) (tmps : Array Value) (w : World) (b o : Nat) (cs : List Value) (d : TypeDesc) (z : Value)
    (hp : tmps.getD p undef = .pointer (some ⟨b, o, none⟩)) (hz : tmps.getD q undef = z) (hc : w.rangeAt b o cs) (hu : P.underlying ty = some d) (hd : d.isRow = true) (hi : (P.info? ty).map (·.size) = some cs.length) :
    (results fn tmps).run P w = .ok (.tuple #[.agg cs.toArray, z]) w := by
  have hp' : tmps[p]?.getD undef = .pointer (some ⟨b, o, none⟩) := by simpa using hp
  have hz' : tmps[q]?.getD undef = z := by simpa using hz
  simp [results, h, hp', hz', asAddr, run_loadVar_mid w b o ty cs d hc hu hd hi]
end TL
end Go

/- The walks of batch.Right's closure, and of batch.each under it. Conditions: lengths. -/
namespace Go
namespace TL
theorem I8_ne {q c : UInt8} (h : q ≠ c) : (I8 q == I8 c) = false ∧ (I8 q != I8 c) = true := by
  have : I8 q ≠ I8 c := fun e => h (by rw [I8_eq, I8_eq] at e; exact UInt8.toNat_inj.1 (by omega))
  exact ⟨by simpa using this, by simpa using this⟩
theorem each_bad {f : List UInt8 → Nat} {l : List Opr} {k : Nat} {x : Opr} {r : Nat} (h : l[k]? = some x) (hb : ∀ (j : Nat) (y : Opr), j < k → l[j]? = some y → opE f y = 0) (hx : opE f x = r) (hr : r ≠ 0) : eachE f l = r := by
  rw [each_at h hb (by rw [hx]; exact hr), hx]
end TL
end Go
namespace Go.Proofs.YtidadhbaomieiaaGreat
open Go.RowKit Go.TL
set_option maxRecDepth 100000 in
set_option maxHeartbeats 2000000 in
theorem Right1_c (p : List UInt8) (w : World) (hp : p.length ≤ 1000000000) :
    Calls Tryz.prog 202 #[.string (mkS p)] w fun e w' => e = .returned (.int .i64 (cutE p)) ∧ Below w.heap.size w w' := by
  have M := Mem.start [] w
  have C := fun w => Cut_c p w hp
  unfold cutE
  obtain ⟨⟨m, k, ok⟩, ec⟩ : ∃ c, c = cutL p := ⟨_, rfl⟩
  rw [← ec] at C ⊢
  clear ec
  simp only at C ⊢
  replace C := Lib.hid C
  cases ok with
  | true =>
    simp only [if_true]
    go_enter Tryz.func202, Tryz.ntmps202
    go_wp2_with (first | (go_at_call 203; go_must (refine (C.out _).mono ?_; rintro e w1 ⟨rfl, hb⟩; replace M := M.call hb; clear hb)))
    go_ret
    exact ⟨rfl, M.below⟩
  | false =>
    go_enter Tryz.func202, Tryz.ntmps202
    go_wp2_with (first | (go_at_call 203; go_must (refine (C.out _).mono ?_; rintro e w1 ⟨rfl, hb⟩; replace M := M.call hb; clear hb)))
    go_ret
    exact ⟨rfl, M.below⟩
set_option maxRecDepth 100000 in
set_option maxHeartbeats 8000000 in
theorem EachR_c (ops : List Opr) (v : Value) (w : World) (S : SeesL w 3 opV v ops) (hl : ops.length ≤ 1000000) (hm : ∀ x ∈ ops, x.2.1.length ≤ 100000000 ∧ x.2.2.length ≤ 100000000) :
    Calls Tryz.prog 201 #[v, .func (.func 202) #[] #[]] w fun e w' => e = .returned (.int .i64 (eachE cutE ops)) ∧ Below w.heap.size w w' := by
  obtain ⟨q, cap, rfl, hc⟩ := S.form
  have M := Mem.start [] w
  have HB := fun k x r => @each_bad cutE ops k x r
  have HG := @each_all cutE ops
  obtain ⟨R, eR⟩ : ∃ R, R = eachE cutE ops := ⟨_, rfl⟩
  rw [← eR] at HB HG ⊢
  replace HB := Lib.hid HB
  replace HG := Lib.hid HG
  clear eR
  go_enter Tryz.func201, Tryz.ntmps201
  go_wp2_with fail
  go_loopw [10] (fun iv wr => ∃ k : Nat, k ≤ ops.length ∧ iv = .int .i64 k ∧ Hid (∀ (j : Nat) (y : Opr), j < k → ops[j]? = some y → opE cutE y = 0) ∧ Mem [] w wr []) (fun iv _ => ops.length - (intOf iv).toNat)
  case atStart => exact ⟨0, by omega, rfl, Lib.hid (by omega), M⟩
  case round =>
    clear M
    obtain ⟨k, hk, rfl, HK, M⟩ := hrel
    by_cases hlt : k < ops.length
    · obtain ⟨g, so, rfl⟩ := S.addr (by omega)
      obtain ⟨⟨q, a, b⟩, hx⟩ : ∃ x, ops[k]? = some x := ⟨_, List.getElem?_eq_getElem hlt⟩
      obtain ⟨ha, hb⟩ := hm (q, a, b) (List.mem_of_getElem? hx)
      simp only at ha hb
      have C := fun w => Right1_c a w (by omega)
      have HX := Lib.hid hx
      clear hx
      by_cases hq : q = 1 ∨ q = 2
      · have HQ := Lib.hid hq
        have HI : I8 q = 1 ∨ I8 q = 2 := by rcases hq with rfl | rfl; exact .inl rfl; exact .inr rfl
        obtain ⟨n, en⟩ : ∃ n, n = cutE a := ⟨_, rfl⟩
        have EN := Lib.hid en
        try simp only at en
        rw [← en] at C
        replace C := Lib.hid C
        clear en hq
        by_cases hn : n = 0
        · subst hn
          by_cases hb32 : 32 < b.length
          · have e : R = 3 := HB.out k _ _ HX.out HK.out (op_long HQ.out EN.out.symm hb32) (by decide)
            subst e
            have hb33 : (32 : Int) < (b.length : Int) := by omega
            rcases HI with HI | HI
            all_goals
              go_wp2_with ((first | ((with_reducible refine tLoad ?_); refine w_at _ _ rfl (by exact ev_tmp rfl) ?_; intro hx; first | (refine w_seeA M S HX.out _ _ rfl hx rfl (by decide +kernel) (by first | (with_reducible rfl) | omega) (by kernel_rfl) ?_; clear hx; (try conv => arg 5; simp only [Act.put, List.setIfInBounds_toArray, setC, opV_eq])) | (refine w_see M S HX.out _ _ rfl hx rfl (by decide +kernel) 0 (by first | (with_reducible rfl) | omega) rfl ?_; clear hx) | (refine w_see M S HX.out _ _ rfl hx rfl (by decide +kernel) 1 (by first | (with_reducible rfl) | omega) rfl ?_; clear hx) | (refine w_see M S HX.out _ _ rfl hx rfl (by decide +kernel) 2 (by first | (with_reducible rfl) | omega) rfl ?_; clear hx)) | ((with_reducible refine tAlloc (some 6) 181 ?_); refine w_alloc M _ rfl rfl (.agg #[.int .u8 0, .string (mkS []), .string (mkS [])]) (opV (0, [], [])) (by kernel_rfl) rfl ?_; clear M; intro gx w1 M) | (go_at_call 202; go_must (refine (C.out _).mono ?_; rintro e w1 ⟨rfl, hb⟩; replace M := M.call hb; clear hb)) | ((with_reducible refine tGuard ?_); refine gdS ?_) | fail | ((with_reducible refine tLoad ?_); go_must (refine ldS ?_)) | ((with_reducible refine tStore ?_); go_must (refine stS ?_; clear M; intro w1 M; (try simp only [setC] at M))) | ((with_reducible refine tBox _ ?_); (refine bxA M ?_; clear M; intro g w1 M))) <;> (try conv => arg 5; simp only [Act.put, List.setIfInBounds_toArray, setC]))
              go_ret
              exact ⟨rfl, M.below⟩
          · have hb33 : (b.length : Int) ≤ 32 := by omega
            rcases HI with HI | HI
            · have hq1 : q = 1 := by
                rcases HQ.out with h | h
                · exact h
                · subst h; exact absurd HI (by decide)
              have HZ := Lib.hid (op_good (f := cutE) (x := (q, a, b)) HQ.out EN.out.symm (by simp only; omega) (fun h => by simp only at h; rw [hq1] at h; exact absurd h (by decide)))
              clear hq1
              go_wp2_with ((first | ((with_reducible refine tLoad ?_); refine w_at _ _ rfl (by exact ev_tmp rfl) ?_; intro hx; first | (refine w_seeA M S HX.out _ _ rfl hx rfl (by decide +kernel) (by first | (with_reducible rfl) | omega) (by kernel_rfl) ?_; clear hx; (try conv => arg 5; simp only [Act.put, List.setIfInBounds_toArray, setC, opV_eq])) | (refine w_see M S HX.out _ _ rfl hx rfl (by decide +kernel) 0 (by first | (with_reducible rfl) | omega) rfl ?_; clear hx) | (refine w_see M S HX.out _ _ rfl hx rfl (by decide +kernel) 1 (by first | (with_reducible rfl) | omega) rfl ?_; clear hx) | (refine w_see M S HX.out _ _ rfl hx rfl (by decide +kernel) 2 (by first | (with_reducible rfl) | omega) rfl ?_; clear hx)) | ((with_reducible refine tAlloc (some 6) 181 ?_); refine w_alloc M _ rfl rfl (.agg #[.int .u8 0, .string (mkS []), .string (mkS [])]) (opV (0, [], [])) (by kernel_rfl) rfl ?_; clear M; intro gx w1 M) | (go_at_call 202; go_must (refine (C.out _).mono ?_; rintro e w1 ⟨rfl, hb⟩; replace M := M.call hb; clear hb)) | ((with_reducible refine tGuard ?_); refine gdS ?_) | fail | ((with_reducible refine tLoad ?_); go_must (refine ldS ?_)) | ((with_reducible refine tStore ?_); go_must (refine stS ?_; clear M; intro w1 M; (try simp only [setC] at M))) | ((with_reducible refine tBox _ ?_); (refine bxA M ?_; clear M; intro g w1 M))) <;> (try conv => arg 5; simp only [Act.put, List.setIfInBounds_toArray, setC]))
              go_roundw
              case rel => exact ⟨k + 1, by omega, by go_num, Lib.hid fun j y hj hy => by
                rcases Nat.lt_succ_iff_lt_or_eq.1 hj with hj | rfl
                · exact HK.out j y hj hy
                · have := HX.out; rw [hy] at this; cases this; exact HZ.out, M.tail⟩
              case measure => simp [intOf]; omega
            · have hq2 : q = 2 := by
                rcases HQ.out with h | h
                · subst h; exact absurd HI (by decide)
                · exact h
              by_cases hbe : b = []
              · subst hbe
                have HZ := Lib.hid (op_good (f := cutE) (x := (q, a, [])) HQ.out EN.out.symm (by simp) (fun h => rfl))
                clear hq2
                go_wp2_with ((first | ((with_reducible refine tLoad ?_); refine w_at _ _ rfl (by exact ev_tmp rfl) ?_; intro hx; first | (refine w_seeA M S HX.out _ _ rfl hx rfl (by decide +kernel) (by first | (with_reducible rfl) | omega) (by kernel_rfl) ?_; clear hx; (try conv => arg 5; simp only [Act.put, List.setIfInBounds_toArray, setC, opV_eq])) | (refine w_see M S HX.out _ _ rfl hx rfl (by decide +kernel) 0 (by first | (with_reducible rfl) | omega) rfl ?_; clear hx) | (refine w_see M S HX.out _ _ rfl hx rfl (by decide +kernel) 1 (by first | (with_reducible rfl) | omega) rfl ?_; clear hx) | (refine w_see M S HX.out _ _ rfl hx rfl (by decide +kernel) 2 (by first | (with_reducible rfl) | omega) rfl ?_; clear hx)) | ((with_reducible refine tAlloc (some 6) 181 ?_); refine w_alloc M _ rfl rfl (.agg #[.int .u8 0, .string (mkS []), .string (mkS [])]) (opV (0, [], [])) (by kernel_rfl) rfl ?_; clear M; intro gx w1 M) | (go_at_call 202; go_must (refine (C.out _).mono ?_; rintro e w1 ⟨rfl, hb⟩; replace M := M.call hb; clear hb)) | ((with_reducible refine tGuard ?_); refine gdS ?_) | fail | ((with_reducible refine tLoad ?_); go_must (refine ldS ?_)) | ((with_reducible refine tStore ?_); go_must (refine stS ?_; clear M; intro w1 M; (try simp only [setC] at M))) | ((with_reducible refine tBox _ ?_); (refine bxA M ?_; clear M; intro g w1 M))) <;> (try conv => arg 5; simp only [Act.put, List.setIfInBounds_toArray, setC]))
                go_roundw
                case rel => exact ⟨k + 1, by omega, by go_num, Lib.hid fun j y hj hy => by
                  rcases Nat.lt_succ_iff_lt_or_eq.1 hj with hj | rfl
                  · exact HK.out j y hj hy
                  · have := HX.out; rw [hy] at this; cases this; exact HZ.out, M.tail⟩
                case measure => simp [intOf]; omega
              · have e : R = 1 := HB.out k _ _ HX.out HK.out (op_arg hq2 EN.out.symm (by simp only; omega) hbe) (by decide)
                subst e
                have hbe' : b.isEmpty = false := by simpa using hbe
                clear hq2 hbe
                go_wp2_with ((first | ((with_reducible refine tLoad ?_); refine w_at _ _ rfl (by exact ev_tmp rfl) ?_; intro hx; first | (refine w_seeA M S HX.out _ _ rfl hx rfl (by decide +kernel) (by first | (with_reducible rfl) | omega) (by kernel_rfl) ?_; clear hx; (try conv => arg 5; simp only [Act.put, List.setIfInBounds_toArray, setC, opV_eq])) | (refine w_see M S HX.out _ _ rfl hx rfl (by decide +kernel) 0 (by first | (with_reducible rfl) | omega) rfl ?_; clear hx) | (refine w_see M S HX.out _ _ rfl hx rfl (by decide +kernel) 1 (by first | (with_reducible rfl) | omega) rfl ?_; clear hx) | (refine w_see M S HX.out _ _ rfl hx rfl (by decide +kernel) 2 (by first | (with_reducible rfl) | omega) rfl ?_; clear hx)) | ((with_reducible refine tAlloc (some 6) 181 ?_); refine w_alloc M _ rfl rfl (.agg #[.int .u8 0, .string (mkS []), .string (mkS [])]) (opV (0, [], [])) (by kernel_rfl) rfl ?_; clear M; intro gx w1 M) | (go_at_call 202; go_must (refine (C.out _).mono ?_; rintro e w1 ⟨rfl, hb⟩; replace M := M.call hb; clear hb)) | ((with_reducible refine tGuard ?_); refine gdS ?_) | fail | ((with_reducible refine tLoad ?_); go_must (refine ldS ?_)) | ((with_reducible refine tStore ?_); go_must (refine stS ?_; clear M; intro w1 M; (try simp only [setC] at M))) | ((with_reducible refine tBox _ ?_); (refine bxA M ?_; clear M; intro g w1 M))) <;> (try conv => arg 5; simp only [Act.put, List.setIfInBounds_toArray, setC]))
                go_ret
                exact ⟨rfl, M.below⟩
        · have e : R = n := HB.out k _ _ HX.out HK.out ((op_path HQ.out (fun h0 => hn (EN.out.trans h0))).trans EN.out.symm) hn
          subst e
          have hz : ((R : Int) == 0) = false := by simp; exact hn
          have hz' : ((R : Int) != 0) = true := by simp; exact hn
          clear hn
          rcases HI with HI | HI
          all_goals
            go_wp2_with ((first | ((with_reducible refine tLoad ?_); refine w_at _ _ rfl (by exact ev_tmp rfl) ?_; intro hx; first | (refine w_seeA M S HX.out _ _ rfl hx rfl (by decide +kernel) (by first | (with_reducible rfl) | omega) (by kernel_rfl) ?_; clear hx; (try conv => arg 5; simp only [Act.put, List.setIfInBounds_toArray, setC, opV_eq])) | (refine w_see M S HX.out _ _ rfl hx rfl (by decide +kernel) 0 (by first | (with_reducible rfl) | omega) rfl ?_; clear hx) | (refine w_see M S HX.out _ _ rfl hx rfl (by decide +kernel) 1 (by first | (with_reducible rfl) | omega) rfl ?_; clear hx) | (refine w_see M S HX.out _ _ rfl hx rfl (by decide +kernel) 2 (by first | (with_reducible rfl) | omega) rfl ?_; clear hx)) | ((with_reducible refine tAlloc (some 6) 181 ?_); refine w_alloc M _ rfl rfl (.agg #[.int .u8 0, .string (mkS []), .string (mkS [])]) (opV (0, [], [])) (by kernel_rfl) rfl ?_; clear M; intro gx w1 M) | (go_at_call 202; go_must (refine (C.out _).mono ?_; rintro e w1 ⟨rfl, hb⟩; replace M := M.call hb; clear hb)) | ((with_reducible refine tGuard ?_); refine gdS ?_) | fail | ((with_reducible refine tLoad ?_); go_must (refine ldS ?_)) | ((with_reducible refine tStore ?_); go_must (refine stS ?_; clear M; intro w1 M; (try simp only [setC] at M))) | ((with_reducible refine tBox _ ?_); (refine bxA M ?_; clear M; intro g w1 M))) <;> (try conv => arg 5; simp only [Act.put, List.setIfInBounds_toArray, setC]))
            go_ret
            exact ⟨rfl, M.below⟩
      · have e : R = 10 := HB.out k _ _ HX.out HK.out (op_kind hq) (by decide)
        subst e
        obtain ⟨h1, h1'⟩ := I8_ne (q := q) (c := 1) (fun h => hq (.inl h))
        obtain ⟨h2, h2'⟩ := I8_ne (q := q) (c := 2) (fun h => hq (.inr h))
        rw [show I8 1 = 1 from rfl] at h1 h1'
        rw [show I8 2 = 2 from rfl] at h2 h2'
        clear hq C
        go_wp2_with ((first | ((with_reducible refine tLoad ?_); refine w_at _ _ rfl (by exact ev_tmp rfl) ?_; intro hx; first | (refine w_seeA M S HX.out _ _ rfl hx rfl (by decide +kernel) (by first | (with_reducible rfl) | omega) (by kernel_rfl) ?_; clear hx; (try conv => arg 5; simp only [Act.put, List.setIfInBounds_toArray, setC, opV_eq])) | (refine w_see M S HX.out _ _ rfl hx rfl (by decide +kernel) 0 (by first | (with_reducible rfl) | omega) rfl ?_; clear hx) | (refine w_see M S HX.out _ _ rfl hx rfl (by decide +kernel) 1 (by first | (with_reducible rfl) | omega) rfl ?_; clear hx) | (refine w_see M S HX.out _ _ rfl hx rfl (by decide +kernel) 2 (by first | (with_reducible rfl) | omega) rfl ?_; clear hx)) | ((with_reducible refine tAlloc (some 6) 181 ?_); refine w_alloc M _ rfl rfl (.agg #[.int .u8 0, .string (mkS []), .string (mkS [])]) (opV (0, [], [])) (by kernel_rfl) rfl ?_; clear M; intro gx w1 M) | ((with_reducible refine tGuard ?_); refine gdS ?_) | fail | ((with_reducible refine tLoad ?_); go_must (refine ldS ?_)) | ((with_reducible refine tStore ?_); go_must (refine stS ?_; clear M; intro w1 M; (try simp only [setC] at M))) | ((with_reducible refine tBox _ ?_); (refine bxA M ?_; clear M; intro g w1 M))) <;> (try conv => arg 5; simp only [Act.put, List.setIfInBounds_toArray, setC]))
        go_ret
        exact ⟨rfl, M.below⟩
    · obtain rfl : k = ops.length := by omega
      obtain rfl : R = 0 := HG.out fun j x hx => HK.out j x (List.getElem?_eq_some_iff.1 hx).1 hx
      go_wp2_with fail
      go_ret
      exact ⟨rfl, M.below⟩
end Go.Proofs.YtidadhbaomieiaaGreat

/- The walks of batch.Right and of the reference's value. Conditions: lengths. -/
namespace Go
namespace TL
open Go.RowKit
theorem right_n {i e : Int} {ops : List Opr} (h : i < 1 ∨ 4611686018427387904 < i ∨ e < 1) : rightB i e ops = 1 := if_pos h
theorem right_4 {i e : Int} {ops : List Opr} (h : ¬ (i < 1 ∨ 4611686018427387904 < i ∨ e < 1)) (h4 : 4 < ops.length) : rightB i e ops = 3 := by unfold rightB; rw [if_neg h, if_pos h4]
theorem right_e {i e : Int} {ops : List Opr} (h : ¬ (i < 1 ∨ 4611686018427387904 < i ∨ e < 1)) (h4 : ops.length ≤ 4) : rightB i e ops = eachE cutE ops := by unfold rightB; rw [if_neg h, if_neg (by omega)]
end TL
end Go
namespace Go.Proofs.YtidadhbaomieiaaGreat
open Go.RowKit Go.TL
set_option maxRecDepth 100000 in
set_option maxHeartbeats 4000000 in
theorem bRight_c (i e : Int) (ops : List Opr) (v : Value) (w : World) (S : SeesL w 3 opV v ops) (hl : ops.length ≤ 1000000) (hm : ∀ x ∈ ops, x.2.1.length ≤ 100000000 ∧ x.2.2.length ≤ 100000000) :
    Calls Tryz.prog 187 #[.agg #[.int .i64 i, .int .i64 e, v]] w fun e' w' => e' = .returned (.int .i64 (rightB i e ops)) ∧ Below w.heap.size w w' := by
  have M := Mem.start [] w
  have E := fun w S => EachR_c ops v w S hl hm
  obtain ⟨q, cap, rfl, hc⟩ := S.form
  by_cases h : i < 1 ∨ 4611686018427387904 < i ∨ e < 1
  · rw [right_n h]
    replace E := Lib.hid E
    rcases h with h | h
    · go_enter Tryz.func187, Tryz.ntmps187
      go_wp2_with ((first | ((with_reducible refine tBox (some 1) ?_); refine w_box M _ _ rfl rfl _ rfl ([.int .i64 i, .int .i64 e, .slice q ops.length cap]) rfl ?_; clear M; intro gx w1 M) | ((with_reducible refine tGuard ?_); (with_reducible refine w_stripE ?_ ?_); (focus (refine ⟨_, rfl, ?_⟩; first | (with_reducible rfl) | exact decide_eq_false (by omega) | exact decide_eq_true (by omega)))) | ((with_reducible refine tGuard ?_); first | refine gdS ?_ | (refine gdC ?_ ?_ <;> (intro hgd; rw [hgd]; try (exfalso; simp at hgd; omega)))) | fail | ((with_reducible refine tLoad ?_); go_must (refine ldS ?_)) | ((with_reducible refine tStore ?_); go_must (refine stS ?_; clear M; intro w1 M; (try simp only [setC] at M))) | ((with_reducible refine tBox _ ?_); (refine bxA M ?_; clear M; intro g w1 M))) <;> (try conv => arg 5; simp only [Act.put, List.setIfInBounds_toArray, setC]))
      go_ret
      exact ⟨rfl, M.below⟩
    · by_cases h1 : i < 1
      · clear h
        go_enter Tryz.func187, Tryz.ntmps187
        go_wp2_with ((first | ((with_reducible refine tBox (some 1) ?_); refine w_box M _ _ rfl rfl _ rfl ([.int .i64 i, .int .i64 e, .slice q ops.length cap]) rfl ?_; clear M; intro gx w1 M) | ((with_reducible refine tGuard ?_); (with_reducible refine w_stripE ?_ ?_); (focus (refine ⟨_, rfl, ?_⟩; first | (with_reducible rfl) | exact decide_eq_false (by omega) | exact decide_eq_true (by omega)))) | ((with_reducible refine tGuard ?_); first | refine gdS ?_ | (refine gdC ?_ ?_ <;> (intro hgd; rw [hgd]; try (exfalso; simp at hgd; omega)))) | fail | ((with_reducible refine tLoad ?_); go_must (refine ldS ?_)) | ((with_reducible refine tStore ?_); go_must (refine stS ?_; clear M; intro w1 M; (try simp only [setC] at M))) | ((with_reducible refine tBox _ ?_); (refine bxA M ?_; clear M; intro g w1 M))) <;> (try conv => arg 5; simp only [Act.put, List.setIfInBounds_toArray, setC]))
        go_ret
        exact ⟨rfl, M.below⟩
      · have h1' : 1 ≤ i := by omega
        rcases h with h | h
        · go_enter Tryz.func187, Tryz.ntmps187
          go_wp2_with ((first | ((with_reducible refine tBox (some 1) ?_); refine w_box M _ _ rfl rfl _ rfl ([.int .i64 i, .int .i64 e, .slice q ops.length cap]) rfl ?_; clear M; intro gx w1 M) | ((with_reducible refine tGuard ?_); (with_reducible refine w_stripE ?_ ?_); (focus (refine ⟨_, rfl, ?_⟩; first | (with_reducible rfl) | exact decide_eq_false (by omega) | exact decide_eq_true (by omega)))) | ((with_reducible refine tGuard ?_); first | refine gdS ?_ | (refine gdC ?_ ?_ <;> (intro hgd; rw [hgd]; try (exfalso; simp at hgd; omega)))) | fail | ((with_reducible refine tLoad ?_); go_must (refine ldS ?_)) | ((with_reducible refine tStore ?_); go_must (refine stS ?_; clear M; intro w1 M; (try simp only [setC] at M))) | ((with_reducible refine tBox _ ?_); (refine bxA M ?_; clear M; intro g w1 M))) <;> (try conv => arg 5; simp only [Act.put, List.setIfInBounds_toArray, setC]))
          go_ret
          exact ⟨rfl, M.below⟩
        · by_cases h2 : 4611686018427387904 < i
          · clear h
            go_enter Tryz.func187, Tryz.ntmps187
            go_wp2_with ((first | ((with_reducible refine tBox (some 1) ?_); refine w_box M _ _ rfl rfl _ rfl ([.int .i64 i, .int .i64 e, .slice q ops.length cap]) rfl ?_; clear M; intro gx w1 M) | ((with_reducible refine tGuard ?_); (with_reducible refine w_stripE ?_ ?_); (focus (refine ⟨_, rfl, ?_⟩; first | (with_reducible rfl) | exact decide_eq_false (by omega) | exact decide_eq_true (by omega)))) | ((with_reducible refine tGuard ?_); first | refine gdS ?_ | (refine gdC ?_ ?_ <;> (intro hgd; rw [hgd]; try (exfalso; simp at hgd; omega)))) | fail | ((with_reducible refine tLoad ?_); go_must (refine ldS ?_)) | ((with_reducible refine tStore ?_); go_must (refine stS ?_; clear M; intro w1 M; (try simp only [setC] at M))) | ((with_reducible refine tBox _ ?_); (refine bxA M ?_; clear M; intro g w1 M))) <;> (try conv => arg 5; simp only [Act.put, List.setIfInBounds_toArray, setC]))
            go_ret
            exact ⟨rfl, M.below⟩
          · have h2' : i ≤ 4611686018427387904 := by omega
            go_enter Tryz.func187, Tryz.ntmps187
            go_wp2_with ((first | ((with_reducible refine tBox (some 1) ?_); refine w_box M _ _ rfl rfl _ rfl ([.int .i64 i, .int .i64 e, .slice q ops.length cap]) rfl ?_; clear M; intro gx w1 M) | ((with_reducible refine tGuard ?_); (with_reducible refine w_stripE ?_ ?_); (focus (refine ⟨_, rfl, ?_⟩; first | (with_reducible rfl) | exact decide_eq_false (by omega) | exact decide_eq_true (by omega)))) | ((with_reducible refine tGuard ?_); first | refine gdS ?_ | (refine gdC ?_ ?_ <;> (intro hgd; rw [hgd]; try (exfalso; simp at hgd; omega)))) | fail | ((with_reducible refine tLoad ?_); go_must (refine ldS ?_)) | ((with_reducible refine tStore ?_); go_must (refine stS ?_; clear M; intro w1 M; (try simp only [setC] at M))) | ((with_reducible refine tBox _ ?_); (refine bxA M ?_; clear M; intro g w1 M))) <;> (try conv => arg 5; simp only [Act.put, List.setIfInBounds_toArray, setC]))
            go_ret
            exact ⟨rfl, M.below⟩
  · obtain ⟨h1, h2, h3⟩ : 1 ≤ i ∧ i ≤ 4611686018427387904 ∧ 1 ≤ e := by omega
    by_cases h4 : 4 < ops.length
    · rw [right_4 h h4]
      have h4' : (4 : Int) < (ops.length : Int) := by omega
      replace E := Lib.hid E
      clear h
      go_enter Tryz.func187, Tryz.ntmps187
      go_wp2_with ((first | ((with_reducible refine tBox (some 1) ?_); refine w_box M _ _ rfl rfl _ rfl ([.int .i64 i, .int .i64 e, .slice q ops.length cap]) rfl ?_; clear M; intro gx w1 M) | ((with_reducible refine tGuard ?_); (with_reducible refine w_stripE ?_ ?_); (focus (refine ⟨_, rfl, ?_⟩; first | (with_reducible rfl) | exact decide_eq_false (by omega) | exact decide_eq_true (by omega)))) | ((with_reducible refine tGuard ?_); first | refine gdS ?_ | (refine gdC ?_ ?_ <;> (intro hgd; rw [hgd]; try (exfalso; simp at hgd; omega)))) | fail | ((with_reducible refine tLoad ?_); go_must (refine ldS ?_)) | ((with_reducible refine tStore ?_); go_must (refine stS ?_; clear M; intro w1 M; (try simp only [setC] at M))) | ((with_reducible refine tBox _ ?_); (refine bxA M ?_; clear M; intro g w1 M))) <;> (try conv => arg 5; simp only [Act.put, List.setIfInBounds_toArray, setC]))
      go_ret
      exact ⟨rfl, M.below⟩
    · rw [right_e h (by omega)]
      have h4' : (ops.length : Int) ≤ 4 := by omega
      obtain ⟨R, eR⟩ : ∃ R, R = eachE cutE ops := ⟨_, rfl⟩
      rw [← eR] at E ⊢
      replace E := Lib.hid E
      clear h eR
      go_enter Tryz.func187, Tryz.ntmps187
      go_wp2_with ((first | ((with_reducible refine tBox (some 1) ?_); refine w_box M _ _ rfl rfl _ rfl ([.int .i64 i, .int .i64 e, .slice q ops.length cap]) rfl ?_; clear M; intro gx w1 M) | ((with_reducible refine tGuard ?_); (with_reducible refine w_stripE ?_ ?_); (focus (refine ⟨_, rfl, ?_⟩; first | (with_reducible rfl) | exact decide_eq_false (by omega) | exact decide_eq_true (by omega)))) | (go_at_call 201; go_must (refine (E.out _ (S.now M)).mono ?_; rintro e w1 ⟨rfl, hb⟩; replace M := M.call hb; clear hb)) | ((with_reducible refine tGuard ?_); first | refine gdS ?_ | (refine gdC ?_ ?_ <;> (intro hgd; rw [hgd]; try (exfalso; simp at hgd; omega)))) | fail | ((with_reducible refine tLoad ?_); go_must (refine ldS ?_)) | ((with_reducible refine tStore ?_); go_must (refine stS ?_; clear M; intro w1 M; (try simp only [setC] at M))) | ((with_reducible refine tBox _ ?_); (refine bxA M ?_; clear M; intro g w1 M))) <;> (try conv => arg 5; simp only [Act.put, List.setIfInBounds_toArray, setC]))
      go_ret
      exact ⟨rfl, M.below⟩
end Go.Proofs.YtidadhbaomieiaaGreat

/- The walks of batch.Same (with slices.Equal at operations) and of the reference's Same. Conditions: lengths. -/
namespace Go
namespace TL
def sameB (i e j f : Int) (l m : List Opr) : Bool := i == j && (e == f && l == m)
theorem sameB_i {i e j f : Int} {l m : List Opr} (h : i ≠ j) : sameB i e j f l m = false := by unfold sameB; rw [beq_eq_false_iff_ne.2 h]; rfl
theorem sameB_e {i e j f : Int} {l m : List Opr} (h : e ≠ f) : sameB i e j f l m = false := by unfold sameB; rw [beq_eq_false_iff_ne.2 h, Bool.false_and, Bool.and_false]
theorem sameB_l {i e : Int} {l m : List Opr} : sameB i e i e l m = (l == m) := by unfold sameB; rw [beq_self_eq_true, beq_self_eq_true, Bool.true_and, Bool.true_and]
theorem eqO_ne {l m : List Opr} (k : Nat) (x y : Opr) (h1 : l[k]? = some x) (h2 : m[k]? = some y) (h : x ≠ y) : (l == m) = false := by
  rw [beq_eq_false_iff_ne]; rintro rfl; rw [h1] at h2; cases h2; exact h rfl
theorem eqO_eq {l m : List Opr} (h0 : l.length = m.length) (h : ∀ (k : Nat), k < l.length → l[k]? = m[k]?) : (l == m) = true := by
  rw [beq_iff_eq]
  apply List.ext_getElem?
  intro k
  by_cases hk : k < l.length
  · exact h k hk
  · rw [List.getElem?_eq_none (by omega), List.getElem?_eq_none (by omega)]
theorem eqO_len {l m : List Opr} (h : l.length ≠ m.length) : (l == m) = false := by
  rw [beq_eq_false_iff_ne]; rintro rfl; exact h rfl
theorem opV_ne {q q' : UInt8} {a b c d : List UInt8} (h : (q, a, b) ≠ (q', c, d)) : ¬ (I8 q = I8 q' ∧ a = c ∧ b = d) := by
  rintro ⟨h1, rfl, rfl⟩
  rw [I8_eq, I8_eq] at h1
  have : q = q' := UInt8.toNat_inj.1 (by omega)
  subst this; exact h rfl
end TL
end Go
namespace Go.Proofs.YtidadhbaomieiaaGreat
open Go.RowKit Go.TL
set_option maxRecDepth 100000 in
set_option maxHeartbeats 4000000 in
theorem EqualO_c (l m : List Opr) (v u : Value) (w : World) (S : SeesL w 3 opV v l) (T : SeesL w 3 opV u m) (hl : l.length ≤ 1000000) (_hm : m.length ≤ 1000000) :
    Calls Tryz.prog 93 #[v, u] w fun e w' => e = .returned (.bool (l == m)) ∧ Below w.heap.size w w' := by
  obtain ⟨p, cap, rfl, hc⟩ := S.form
  obtain ⟨q, cap', rfl, hc'⟩ := T.form
  have hne := @eqO_ne l m
  have heq := @eqO_eq l m
  have hln := @eqO_len l m
  obtain ⟨R, eR⟩ : ∃ R, R = (l == m) := ⟨_, rfl⟩
  rw [← eR] at hne heq hln ⊢
  replace hne := Lib.hid hne
  replace heq := Lib.hid heq
  replace hln := Lib.hid hln
  clear eR
  have M := Mem.start [] w
  by_cases hn : l.length = m.length
  · have hq : ((l.length : Int) != (m.length : Int)) = false := by simp; omega
    go_enter Tryz.func93, Tryz.ntmps93
    replace hn := Lib.hid hn
    go_wp2_with fail
    go_loopw [13] (fun iv wr => ∃ k : Nat, k ≤ l.length ∧ iv = .int .i64 k ∧ Hid (∀ (j : Nat), j < k → l[j]? = m[j]?) ∧ Mem [] w wr []) (fun iv _ => l.length - (intOf iv).toNat)
    case atStart => exact ⟨0, by omega, rfl, Lib.hid (by omega), M⟩
    case round =>
      clear M
      obtain ⟨k, hk, rfl, HK, M⟩ := hrel
      by_cases hlt : k < l.length
      · obtain ⟨g, so, rfl⟩ := S.addr (by omega)
        obtain ⟨g', so', rfl⟩ := T.addr (by have := hn.out; omega)
        have hkm : k < m.length := by have := hn.out; omega
        obtain ⟨⟨qa, a, b⟩, hx⟩ : ∃ x, l[k]? = some x := ⟨_, List.getElem?_eq_getElem hlt⟩
        obtain ⟨⟨qc, c, d⟩, hy⟩ : ∃ x, m[k]? = some x := ⟨_, List.getElem?_eq_getElem hkm⟩
        have HX := Lib.hid hx; clear hx
        have HY := Lib.hid hy; clear hy
        by_cases hab : (qa, a, b) = (qc, c, d)
        · simp only [Prod.mk.injEq] at hab
          obtain ⟨rfl, rfl, rfl⟩ := hab
          go_wp2_with ((first | ((with_reducible refine tLoad ?_); refine w_at _ _ rfl (by exact ev_tmp rfl) ?_; intro hx; first | (refine w_seeA M S HX.out _ _ rfl hx rfl (by decide +kernel) (by first | (with_reducible rfl) | omega) (by kernel_rfl) ?_; clear hx; (try conv => arg 5; simp only [Act.put, List.setIfInBounds_toArray, setC, opV_eq])) | (refine w_see M S HX.out _ _ rfl hx rfl (by decide +kernel) 0 (by first | (with_reducible rfl) | omega) rfl ?_; clear hx) | (refine w_see M S HX.out _ _ rfl hx rfl (by decide +kernel) 1 (by first | (with_reducible rfl) | omega) rfl ?_; clear hx) | (refine w_see M S HX.out _ _ rfl hx rfl (by decide +kernel) 2 (by first | (with_reducible rfl) | omega) rfl ?_; clear hx) | (refine w_seeA M T HY.out _ _ rfl hx rfl (by decide +kernel) (by first | (with_reducible rfl) | omega) (by kernel_rfl) ?_; clear hx; (try conv => arg 5; simp only [Act.put, List.setIfInBounds_toArray, setC, opV_eq])) | (refine w_see M T HY.out _ _ rfl hx rfl (by decide +kernel) 0 (by first | (with_reducible rfl) | omega) rfl ?_; clear hx) | (refine w_see M T HY.out _ _ rfl hx rfl (by decide +kernel) 1 (by first | (with_reducible rfl) | omega) rfl ?_; clear hx) | (refine w_see M T HY.out _ _ rfl hx rfl (by decide +kernel) 2 (by first | (with_reducible rfl) | omega) rfl ?_; clear hx)) | ((with_reducible show Code.wp _ (Code.region 6 _ _) _ _ _); go_must (refine region_det [(0, false), (1, false), (2, false), (4, false), (5, false), (6, false), (3, false), (7, false), (8, false)] [(19, .cells), (23, .cells)] (by kernel_rfl) (by kernel_rfl) rfl (by kernel_rfl) ?_; replace M := M.drew; simp only [reord, opAt, List.map_cons, List.map_nil, List.getElem?_toArray, List.getElem?_cons_zero, List.getElem?_cons_succ, Option.getD_some])) | ((with_reducible show Seg _ _ _ _); go_must (first | refine Seg.intro ⟨fun h => absurd rfl h, ?_⟩ | refine Seg.intro ⟨fun _ => ixA, ?_⟩ | refine Seg.intro ⟨ndA, atA, ?_⟩)) | ((with_reducible show OnlyN _ _ _ _ _); refine OnlyN.intro (by kernel_rfl) ?_) | ((with_reducible refine tGuard ?_); refine gdS ?_) | fail | ((with_reducible refine tLoad ?_); go_must (refine ldS ?_)) | ((with_reducible refine tStore ?_); go_must (refine stS ?_; clear M; intro w1 M; (try simp only [setC] at M))) | ((with_reducible refine tBox _ ?_); (refine bxA M ?_; clear M; intro g w1 M))) <;> (try conv => arg 5; simp only [Act.put, List.setIfInBounds_toArray, setC]))
          go_roundw
          case rel => exact ⟨k + 1, by omega, by go_num, Lib.hid fun j hj => by
            rcases Nat.lt_succ_iff_lt_or_eq.1 hj with hj | rfl
            · exact HK.out j hj
            · exact HX.out.trans HY.out.symm, M⟩
          case measure => simp [intOf]; omega
        · have e0 : R = false := hne.out k _ _ HX.out HY.out hab
          subst e0
          have hab := Lib.hid (opV_ne hab)
          go_wp2_with ((first | ((with_reducible refine tLoad ?_); refine w_at _ _ rfl (by exact ev_tmp rfl) ?_; intro hx; first | (refine w_seeA M S HX.out _ _ rfl hx rfl (by decide +kernel) (by first | (with_reducible rfl) | omega) (by kernel_rfl) ?_; clear hx; (try conv => arg 5; simp only [Act.put, List.setIfInBounds_toArray, setC, opV_eq])) | (refine w_see M S HX.out _ _ rfl hx rfl (by decide +kernel) 0 (by first | (with_reducible rfl) | omega) rfl ?_; clear hx) | (refine w_see M S HX.out _ _ rfl hx rfl (by decide +kernel) 1 (by first | (with_reducible rfl) | omega) rfl ?_; clear hx) | (refine w_see M S HX.out _ _ rfl hx rfl (by decide +kernel) 2 (by first | (with_reducible rfl) | omega) rfl ?_; clear hx) | (refine w_seeA M T HY.out _ _ rfl hx rfl (by decide +kernel) (by first | (with_reducible rfl) | omega) (by kernel_rfl) ?_; clear hx; (try conv => arg 5; simp only [Act.put, List.setIfInBounds_toArray, setC, opV_eq])) | (refine w_see M T HY.out _ _ rfl hx rfl (by decide +kernel) 0 (by first | (with_reducible rfl) | omega) rfl ?_; clear hx) | (refine w_see M T HY.out _ _ rfl hx rfl (by decide +kernel) 1 (by first | (with_reducible rfl) | omega) rfl ?_; clear hx) | (refine w_see M T HY.out _ _ rfl hx rfl (by decide +kernel) 2 (by first | (with_reducible rfl) | omega) rfl ?_; clear hx)) | ((with_reducible show Code.wp _ (Code.region 6 _ _) _ _ _); go_must (refine region_det [(0, false), (1, false), (2, false), (4, false), (5, false), (6, false), (3, false), (7, false), (8, false)] [(19, .cells), (23, .cells)] (by kernel_rfl) (by kernel_rfl) rfl (by kernel_rfl) ?_; replace M := M.drew; simp only [reord, opAt, List.map_cons, List.map_nil, List.getElem?_toArray, List.getElem?_cons_zero, List.getElem?_cons_succ, Option.getD_some])) | ((with_reducible show Seg _ _ _ _); go_must (first | refine Seg.intro ⟨fun h => absurd rfl h, ?_⟩ | refine Seg.intro ⟨fun _ => ixA, ?_⟩ | refine Seg.intro ⟨ndA, atA, ?_⟩)) | ((with_reducible show OnlyN _ _ _ _ _); refine OnlyN.intro (by kernel_rfl) ?_) | ((with_reducible refine tGuard ?_); refine gdS ?_) | fail | ((with_reducible refine tLoad ?_); go_must (refine ldS ?_)) | ((with_reducible refine tStore ?_); go_must (refine stS ?_; clear M; intro w1 M; (try simp only [setC] at M))) | ((with_reducible refine tBox _ ?_); (refine bxA M ?_; clear M; intro g w1 M))) <;> (try conv => arg 5; simp only [Act.put, List.setIfInBounds_toArray, setC]))
          all_goals (first | exact absurd ⟨‹I8 qa = I8 qc›, ‹a = c›, ‹b = d›⟩ hab.out | (go_ret; exact ⟨rfl, M.below⟩))
      · obtain rfl : k = l.length := by omega
        have e0 : R = true := heq.out hn.out HK.out
        subst e0
        have hkm : ¬ l.length < m.length := by have := hn.out; omega
        go_wp2_with ((first | ((with_reducible refine tGuard ?_); refine gdS ?_) | fail | ((with_reducible refine tLoad ?_); go_must (refine ldS ?_)) | ((with_reducible refine tStore ?_); go_must (refine stS ?_; clear M; intro w1 M; (try simp only [setC] at M))) | ((with_reducible refine tBox _ ?_); (refine bxA M ?_; clear M; intro g w1 M))) <;> (try conv => arg 5; simp only [Act.put, List.setIfInBounds_toArray, setC]))
        go_ret
        exact ⟨rfl, M.below⟩
  · have e0 : R = false := hln.out hn
    subst e0
    have hq : ((l.length : Int) != (m.length : Int)) = true := by simp; omega
    go_enter Tryz.func93, Tryz.ntmps93
    go_wp2_with fail
    go_ret
    exact ⟨rfl, M.below⟩
set_option maxRecDepth 100000 in
set_option maxHeartbeats 4000000 in
theorem bSame_c (i e j f : Int) (l m : List Opr) (v u : Value) (w : World) (S : SeesL w 3 opV v l) (T : SeesL w 3 opV u m) (hl : l.length ≤ 1000000) (_hm : m.length ≤ 1000000) :
    Calls Tryz.prog 54 #[.agg #[.int .i64 i, .int .i64 e, v], .agg #[.int .i64 j, .int .i64 f, u]] w fun r w' => r = .returned (.bool (sameB i e j f l m)) ∧ Below w.heap.size w w' := by
  obtain ⟨p, cap, rfl, hc⟩ := S.form
  obtain ⟨q, cap', rfl, hc'⟩ := T.form
  have M := Mem.start [] w
  by_cases hij : i = j
  · subst hij
    by_cases hef : e = f
    · subst hef
      rw [sameB_l]
      have E := fun w S T => EqualO_c l m (.slice p l.length cap) (.slice q m.length cap') w S T hl _hm
      obtain ⟨R, eR⟩ : ∃ R, R = (l == m) := ⟨_, rfl⟩
      rw [← eR] at E ⊢
      replace E := Lib.hid E
      clear eR
      go_enter Tryz.func54, Tryz.ntmps54
      go_wp2_with ((first | ((with_reducible refine tBox (some 2) ?_); refine w_box M _ _ rfl rfl _ rfl ([.int .i64 i, .int .i64 e, .slice p l.length cap]) rfl ?_; clear M; intro ga w1 M) | ((with_reducible refine tBox (some 3) ?_); refine w_box M _ _ rfl rfl _ rfl ([.int .i64 i, .int .i64 e, .slice q m.length cap']) rfl ?_; clear M; intro gb w1 M) | ((with_reducible refine tGuard ?_); (with_reducible refine w_stripE ?_ ?_); (focus (refine ⟨_, rfl, ?_⟩; first | (with_reducible rfl) | exact decide_eq_false (by omega) | exact decide_eq_true (by omega)))) | ((with_reducible refine tGuard ?_); first | ((with_reducible refine w_skip1 ?_ ?_); (focus (refine ⟨_, rfl, ?_⟩; first | (with_reducible rfl) | exact decide_eq_false (by omega) | exact decide_eq_true (by omega)))) | ((with_reducible refine w_skip0 ?_ ?_); (focus (refine ⟨_, rfl, ?_⟩; first | (with_reducible rfl) | exact decide_eq_false (by omega) | exact decide_eq_true (by omega))))) | (go_at_call 93; go_must (refine (E.out _ (S.now M) (T.now M)).mono ?_; rintro e w1 ⟨rfl, hb⟩; replace M := M.call hb; clear hb)) | ((with_reducible refine tGuard ?_); refine gdS ?_) | fail | ((with_reducible refine tLoad ?_); go_must (refine ldS ?_)) | ((with_reducible refine tStore ?_); go_must (refine stS ?_; clear M; intro w1 M; (try simp only [setC] at M))) | ((with_reducible refine tBox _ ?_); (refine bxA M ?_; clear M; intro g w1 M))) <;> (try conv => arg 5; simp only [Act.put, List.setIfInBounds_toArray, setC]))
      go_ret
      exact ⟨rfl, M.below⟩
    · rw [sameB_e hef]
      have h1 : (e == f) = false := beq_eq_false_iff_ne.2 hef
      have h2 : (e != f) = true := by simpa using hef
      clear hef
      go_enter Tryz.func54, Tryz.ntmps54
      go_wp2_with ((first | ((with_reducible refine tBox (some 2) ?_); refine w_box M _ _ rfl rfl _ rfl ([.int .i64 i, .int .i64 e, .slice p l.length cap]) rfl ?_; clear M; intro ga w1 M) | ((with_reducible refine tBox (some 3) ?_); refine w_box M _ _ rfl rfl _ rfl ([.int .i64 i, .int .i64 f, .slice q m.length cap']) rfl ?_; clear M; intro gb w1 M) | ((with_reducible refine tGuard ?_); (with_reducible refine w_stripE ?_ ?_); (focus (refine ⟨_, rfl, ?_⟩; first | (with_reducible rfl) | exact decide_eq_false (by omega) | exact decide_eq_true (by omega)))) | ((with_reducible refine tGuard ?_); first | ((with_reducible refine w_skip1 ?_ ?_); (focus (refine ⟨_, rfl, ?_⟩; first | (with_reducible rfl) | exact decide_eq_false (by omega) | exact decide_eq_true (by omega)))) | ((with_reducible refine w_skip0 ?_ ?_); (focus (refine ⟨_, rfl, ?_⟩; first | (with_reducible rfl) | exact decide_eq_false (by omega) | exact decide_eq_true (by omega))))) | ((with_reducible refine tGuard ?_); refine gdS ?_) | fail | ((with_reducible refine tLoad ?_); go_must (refine ldS ?_)) | ((with_reducible refine tStore ?_); go_must (refine stS ?_; clear M; intro w1 M; (try simp only [setC] at M))) | ((with_reducible refine tBox _ ?_); (refine bxA M ?_; clear M; intro g w1 M))) <;> (try conv => arg 5; simp only [Act.put, List.setIfInBounds_toArray, setC]))
      go_ret
      exact ⟨rfl, M.below⟩
  · rw [sameB_i hij]
    have h1 : (i == j) = false := beq_eq_false_iff_ne.2 hij
    have h2 : (i != j) = true := by simpa using hij
    clear hij
    go_enter Tryz.func54, Tryz.ntmps54
    go_wp2_with ((first | ((with_reducible refine tBox (some 2) ?_); refine w_box M _ _ rfl rfl _ rfl ([.int .i64 i, .int .i64 e, .slice p l.length cap]) rfl ?_; clear M; intro ga w1 M) | ((with_reducible refine tBox (some 3) ?_); refine w_box M _ _ rfl rfl _ rfl ([.int .i64 j, .int .i64 f, .slice q m.length cap']) rfl ?_; clear M; intro gb w1 M) | ((with_reducible refine tGuard ?_); (with_reducible refine w_stripE ?_ ?_); (focus (refine ⟨_, rfl, ?_⟩; first | (with_reducible rfl) | exact decide_eq_false (by omega) | exact decide_eq_true (by omega)))) | ((with_reducible refine tGuard ?_); first | ((with_reducible refine w_skip1 ?_ ?_); (focus (refine ⟨_, rfl, ?_⟩; first | (with_reducible rfl) | exact decide_eq_false (by omega) | exact decide_eq_true (by omega)))) | ((with_reducible refine w_skip0 ?_ ?_); (focus (refine ⟨_, rfl, ?_⟩; first | (with_reducible rfl) | exact decide_eq_false (by omega) | exact decide_eq_true (by omega))))) | ((with_reducible refine tGuard ?_); refine gdS ?_) | fail | ((with_reducible refine tLoad ?_); go_must (refine ldS ?_)) | ((with_reducible refine tStore ?_); go_must (refine stS ?_; clear M; intro w1 M; (try simp only [setC] at M))) | ((with_reducible refine tBox _ ?_); (refine bxA M ?_; clear M; intro g w1 M))) <;> (try conv => arg 5; simp only [Act.put, List.setIfInBounds_toArray, setC]))
    go_ret
    exact ⟨rfl, M.below⟩
end Go.Proofs.YtidadhbaomieiaaGreat

/- The walk of msg.Same. Conditions: lengths. -/
namespace Go
namespace TL
open Go.RowKit
structure MsgCells (C : List Value) (k : UInt8) (e a o bi be : Int) (ov : Value) (p : Int) (r : List UInt8) (v i : Int) (lf rt : List UInt8) (pv : Value) : Prop where
  k : C[0]? = some (.int .u8 (I8 k))
  e : C[1]? = some (.int .i64 e)
  a : C[2]? = some (.int .i64 a)
  o : C[3]? = some (.int .i64 o)
  p : C[7]? = some (.int .i64 p)
  v : C[40]? = some (.int .i64 v)
  i : C[41]? = some (.int .i64 i)
  pv : C[106]? = some pv
  bat : ∃ pre post, C = pre ++ ([.int .i64 bi, .int .i64 be, ov] ++ post) ∧ pre.length = 4
  r : ∃ pre post, C = pre ++ (bs r ++ post) ∧ pre.length = 8 ∧ r.length = 32
  lf : ∃ pre post, C = pre ++ (bs lf ++ post) ∧ pre.length = 42 ∧ lf.length = 32
  rt : ∃ pre post, C = pre ++ (bs rt ++ post) ∧ pre.length = 74 ∧ rt.length = 32
  len : C.length = 107
  one : ∀ x ∈ C, x.oneCell' = true
theorem msg_cells {m : Ms} (h : m.fit) : MsgCells (msgC m) m.k m.e m.a m.o m.bi m.be m.ov m.p m.r m.v m.i m.lf m.rt m.pv :=
  ⟨msgC_at h .k, msgC_at h .e, msgC_at h .a, msgC_at h .o, msgC_at h .p, msgC_at h .v, msgC_at h .i, msgC_at h .pv, ⟨_, _, by unfold msgC; exact (show _ = [.int .u8 (I8 m.k), .int .i64 m.e, .int .i64 m.a, .int .i64 m.o] ++ ([.int .i64 m.bi, .int .i64 m.be, m.ov] ++ ([.int .i64 m.p] ++ (bs m.r ++ ([.int .i64 m.v, .int .i64 m.i] ++ (bs m.lf ++ (bs m.rt ++ [m.pv])))))) from rfl), rfl⟩,
    ⟨_, _, msgC_get m .r, Hf.pre_len h .r, Hf.len h .r⟩, ⟨_, _, msgC_get m .lf, Hf.pre_len h .lf, Hf.len h .lf⟩, ⟨_, _, msgC_get m .rt, Hf.pre_len h .rt, Hf.len h .rt⟩, msgC_len h, msgC_one h⟩
theorem sameB_iff {i e j f : Int} {l m : List Opr} : sameB i e j f l m = true ↔ i = j ∧ e = f ∧ l = m := by
  unfold sameB
  simp only [Bool.and_eq_true, beq_iff_eq]
theorem msg_first (k k' : UInt8) (e a o bi be e' a' o' bi' be' p v i p' v' i' : Int) (ops ops' : List Opr) (r lf rt r' lf' rt' : List UInt8) (prs prs' : List (List UInt8 × List UInt8)) : (I8 k ≠ I8 k') ∨ (k = k' ∧ e ≠ e') ∨ (k = k' ∧ e = e' ∧ a ≠ a') ∨ (k = k' ∧ e = e' ∧ a = a' ∧ o ≠ o') ∨ (k = k' ∧ e = e' ∧ a = a' ∧ o = o' ∧ sameB bi be bi' be' ops ops' = false) ∨ (k = k' ∧ e = e' ∧ a = a' ∧ o = o' ∧ (bi = bi' ∧ be = be' ∧ ops = ops') ∧ p ≠ p') ∨ (k = k' ∧ e = e' ∧ a = a' ∧ o = o' ∧ (bi = bi' ∧ be = be' ∧ ops = ops') ∧ p = p' ∧ r ≠ r') ∨ (k = k' ∧ e = e' ∧ a = a' ∧ o = o' ∧ (bi = bi' ∧ be = be' ∧ ops = ops') ∧ p = p' ∧ r = r' ∧ v ≠ v') ∨ (k = k' ∧ e = e' ∧ a = a' ∧ o = o' ∧ (bi = bi' ∧ be = be' ∧ ops = ops') ∧ p = p' ∧ r = r' ∧ v = v' ∧ i ≠ i') ∨ (k = k' ∧ e = e' ∧ a = a' ∧ o = o' ∧ (bi = bi' ∧ be = be' ∧ ops = ops') ∧ p = p' ∧ r = r' ∧ v = v' ∧ i = i' ∧ lf ≠ lf') ∨ (k = k' ∧ e = e' ∧ a = a' ∧ o = o' ∧ (bi = bi' ∧ be = be' ∧ ops = ops') ∧ p = p' ∧ r = r' ∧ v = v' ∧ i = i' ∧ lf = lf' ∧ rt ≠ rt') ∨ (k = k' ∧ e = e' ∧ a = a' ∧ o = o' ∧ (bi = bi' ∧ be = be' ∧ ops = ops') ∧ p = p' ∧ r = r' ∧ v = v' ∧ i = i' ∧ lf = lf' ∧ rt = rt' ∧ prs ≠ prs') ∨ (k = k' ∧ e = e' ∧ a = a' ∧ o = o' ∧ (bi = bi' ∧ be = be' ∧ ops = ops') ∧ p = p' ∧ r = r' ∧ v = v' ∧ i = i' ∧ lf = lf' ∧ rt = rt' ∧ prs = prs') := by
  by_cases hk : k = k'
  rotate_left
  · exact Or.inl (fun h => hk (I8_inj.1 h))
  by_cases he : e = e'
  rotate_left
  · exact Or.inr (Or.inl ⟨hk, he⟩)
  by_cases ha : a = a'
  rotate_left
  · exact Or.inr (Or.inr (Or.inl ⟨hk, he, ha⟩))
  by_cases ho : o = o'
  rotate_left
  · exact Or.inr (Or.inr (Or.inr (Or.inl ⟨hk, he, ha, ho⟩)))
  cases hb : sameB bi be bi' be' ops ops'
  · exact Or.inr (Or.inr (Or.inr (Or.inr (Or.inl ⟨hk, he, ha, ho, rfl⟩))))
  obtain hbat := sameB_iff.1 hb
  by_cases hp : p = p'
  rotate_left
  · exact Or.inr (Or.inr (Or.inr (Or.inr (Or.inr (Or.inl ⟨hk, he, ha, ho, hbat, hp⟩)))))
  by_cases hr : r = r'
  rotate_left
  · exact Or.inr (Or.inr (Or.inr (Or.inr (Or.inr (Or.inr (Or.inl ⟨hk, he, ha, ho, hbat, hp, hr⟩))))))
  by_cases hv : v = v'
  rotate_left
  · exact Or.inr (Or.inr (Or.inr (Or.inr (Or.inr (Or.inr (Or.inr (Or.inl ⟨hk, he, ha, ho, hbat, hp, hr, hv⟩)))))))
  by_cases hi : i = i'
  rotate_left
  · exact Or.inr (Or.inr (Or.inr (Or.inr (Or.inr (Or.inr (Or.inr (Or.inr (Or.inl ⟨hk, he, ha, ho, hbat, hp, hr, hv, hi⟩))))))))
  by_cases hlf : lf = lf'
  rotate_left
  · exact Or.inr (Or.inr (Or.inr (Or.inr (Or.inr (Or.inr (Or.inr (Or.inr (Or.inr (Or.inl ⟨hk, he, ha, ho, hbat, hp, hr, hv, hi, hlf⟩)))))))))
  by_cases hrt : rt = rt'
  rotate_left
  · exact Or.inr (Or.inr (Or.inr (Or.inr (Or.inr (Or.inr (Or.inr (Or.inr (Or.inr (Or.inr (Or.inl ⟨hk, he, ha, ho, hbat, hp, hr, hv, hi, hlf, hrt⟩))))))))))
  by_cases hprs : prs = prs'
  rotate_left
  · exact Or.inr (Or.inr (Or.inr (Or.inr (Or.inr (Or.inr (Or.inr (Or.inr (Or.inr (Or.inr (Or.inr (Or.inl ⟨hk, he, ha, ho, hbat, hp, hr, hv, hi, hlf, hrt, hprs⟩)))))))))))
  exact Or.inr (Or.inr (Or.inr (Or.inr (Or.inr (Or.inr (Or.inr (Or.inr (Or.inr (Or.inr (Or.inr (Or.inr (⟨hk, he, ha, ho, hbat, hp, hr, hv, hi, hlf, hrt, hprs⟩))))))))))))
end TL
end Go
namespace Go.Proofs.YtidadhbaomieiaaGreat
open Go.RowKit Go.TL
set_option maxRecDepth 100000 in
set_option maxHeartbeats 16000000 in
theorem Same_c (L1 L2 : Lm) (ov pv ov' pv' : Value) (w : World) (hL : L1.fit) (hL' : L2.fit) (S : SeesL w 3 opV ov L1.ops) (T : SeesL w 2 prV pv L1.prs) (S' : SeesL w 3 opV ov' L2.ops) (T' : SeesL w 2 prV pv' L2.prs)
    (h1 : L1.ops.length ≤ 1000000) (h2 : L1.prs.length ≤ 1000000) (h3 : L2.ops.length ≤ 1000000) (h4 : L2.prs.length ≤ 1000000) :
    Calls Tryz.prog 28 #[.agg (msgC (L1.ms ov pv)).toArray, .agg (msgC (L2.ms ov' pv')).toArray] w fun r w' => r = .returned (.bool (decide (L1 = L2))) ∧ Below w.heap.size w w' := by
  have M := Mem.start [] w
  obtain ⟨k, e, a, o, bi, be, ops, p, r, v, i, lf, rt, prs⟩ := L1
  obtain ⟨k', e', a', o', bi', be', ops', p', r', v', i', lf', rt', prs'⟩ := L2
  dsimp only at S T S' T' h1 h2 h3 h4
  obtain ⟨op, oc, rfl, _⟩ := S.form
  obtain ⟨pp, pc, rfl, _⟩ := T.form
  obtain ⟨op', oc', rfl, _⟩ := S'.form
  obtain ⟨pp', pc', rfl, _⟩ := T'.form
  have X1 := msg_cells (Lm.ms_fit hL (ov := .slice op ops.length oc) (pv := .slice pp prs.length pc) rfl rfl)
  have X2 := msg_cells (Lm.ms_fit hL' (ov := .slice op' ops'.length oc') (pv := .slice pp' prs'.length pc') rfl rfl)
  simp only [Lm.ms] at X1 X2 ⊢
  obtain ⟨C1, e1⟩ : ∃ C, C = msgC ⟨k, e, a, o, bi, be, .slice op ops.length oc, p, r, v, i, lf, rt, .slice pp prs.length pc⟩ := ⟨_, rfl⟩
  obtain ⟨C2, e2⟩ : ∃ C, C = msgC ⟨k', e', a', o', bi', be', .slice op' ops'.length oc', p', r', v', i', lf', rt', .slice pp' prs'.length pc'⟩ := ⟨_, rfl⟩
  rw [← e1] at X1
  rw [← e2] at X2
  rw [← e1, ← e2]
  clear e1 e2 hL hL'
  obtain ⟨N1k, N1e, N1a, N1o, N1p, N1v, N1i, N1pv, ⟨_, _, b1⟩, ⟨_, _, r1⟩, ⟨_, _, l1⟩, ⟨_, _, t1⟩, c1, _⟩ := X1
  obtain ⟨N2k, N2e, N2a, N2o, N2p, N2v, N2i, N2pv, ⟨_, _, b2⟩, ⟨_, _, r2⟩, ⟨_, _, l2⟩, ⟨_, _, t2⟩, c2, _⟩ := X2
  replace N1k := Lib.hid N1k
  replace N1e := Lib.hid N1e
  replace N1a := Lib.hid N1a
  replace N1o := Lib.hid N1o
  replace N1p := Lib.hid N1p
  replace N1v := Lib.hid N1v
  replace N1i := Lib.hid N1i
  replace N1pv := Lib.hid N1pv
  have B1 := Lib.hid b1
  have H1r := Lib.hid r1
  have H1lf := Lib.hid l1
  have H1rt := Lib.hid t1
  have hr1 := r1.2.2
  have hl1 := l1.2.2
  have ht1 := t1.2.2
  clear b1 r1 l1 t1 c1
  replace N2k := Lib.hid N2k
  replace N2e := Lib.hid N2e
  replace N2a := Lib.hid N2a
  replace N2o := Lib.hid N2o
  replace N2p := Lib.hid N2p
  replace N2v := Lib.hid N2v
  replace N2i := Lib.hid N2i
  replace N2pv := Lib.hid N2pv
  have B2 := Lib.hid b2
  have H2r := Lib.hid r2
  have H2lf := Lib.hid l2
  have H2rt := Lib.hid t2
  have hr2 := r2.2.2
  have hl2 := l2.2.2
  have ht2 := t2.2.2
  clear b2 r2 l2 t2 c2
  have BS := fun w S S' => bSame_c bi be bi' be' ops ops' (.slice op ops.length oc) (.slice op' ops'.length oc') w S S' h1 h3
  have PS := fun w T T' => EqualP_c prs prs' (.slice pp prs.length pc) (.slice pp' prs'.length pc') w T T' h2 h4
  have RF : ¬ ((Lm.mk k e a o bi be ops p r v i lf rt prs) = (Lm.mk k' e' a' o' bi' be' ops' p' r' v' i' lf' rt' prs')) → decide ((Lm.mk k e a o bi be ops p r v i lf rt prs) = (Lm.mk k' e' a' o' bi' be' ops' p' r' v' i' lf' rt' prs')) = false := fun h => decide_eq_false h
  have RT : ((Lm.mk k e a o bi be ops p r v i lf rt prs) = (Lm.mk k' e' a' o' bi' be' ops' p' r' v' i' lf' rt' prs')) → decide ((Lm.mk k e a o bi be ops p r v i lf rt prs) = (Lm.mk k' e' a' o' bi' be' ops' p' r' v' i' lf' rt' prs')) = true := fun h => decide_eq_true h
  obtain ⟨R, eR⟩ : ∃ R, R = decide ((Lm.mk k e a o bi be ops p r v i lf rt prs) = (Lm.mk k' e' a' o' bi' be' ops' p' r' v' i' lf' rt' prs')) := ⟨_, rfl⟩
  rw [← eR] at RF RT ⊢
  replace RF := Lib.hid RF
  replace RT := Lib.hid RT
  clear eR
  rcases msg_first k k' e a o bi be e' a' o' bi' be' p v i p' v' i' ops ops' r lf rt r' lf' rt' prs prs' with hc | ⟨rfl, hc⟩ | ⟨rfl, rfl, hc⟩ | ⟨rfl, rfl, rfl, hc⟩ | ⟨rfl, rfl, rfl, rfl, hc⟩ | ⟨rfl, rfl, rfl, rfl, ⟨rfl, rfl, rfl⟩, hc⟩ | ⟨rfl, rfl, rfl, rfl, ⟨rfl, rfl, rfl⟩, rfl, hc⟩ | ⟨rfl, rfl, rfl, rfl, ⟨rfl, rfl, rfl⟩, rfl, rfl, hc⟩ | ⟨rfl, rfl, rfl, rfl, ⟨rfl, rfl, rfl⟩, rfl, rfl, rfl, hc⟩ | ⟨rfl, rfl, rfl, rfl, ⟨rfl, rfl, rfl⟩, rfl, rfl, rfl, rfl, hc⟩ | ⟨rfl, rfl, rfl, rfl, ⟨rfl, rfl, rfl⟩, rfl, rfl, rfl, rfl, rfl, hc⟩ | ⟨rfl, rfl, rfl, rfl, ⟨rfl, rfl, rfl⟩, rfl, rfl, rfl, rfl, rfl, rfl, hc⟩ | ⟨rfl, rfl, rfl, rfl, ⟨rfl, rfl, rfl⟩, rfl, rfl, rfl, rfl, rfl, rfl, rfl⟩
  all_goals
    first
      | (have e0 : R = false := RF.out (fun h => by injection h; first | exact hc (by assumption) | exact hc (congrArg I8 (by assumption)) | (subst_vars; rw [sameB_iff.2 ⟨rfl, rfl, rfl⟩] at hc; cases hc)))
      | (have e0 : R = true := RT.out rfl)
    subst e0
    (try rw [sameB_iff.2 ⟨rfl, rfl, rfl⟩] at BS)
    (try rw [hc] at BS)
    (try have hc' := beq_eq_false_iff_ne.2 hc)
    (try rw [beq_self_eq_true] at PS)
    (try rw [hc'] at PS)
    (try clear hc)
    replace BS := Lib.hid BS
    replace PS := Lib.hid PS
    go_enter Tryz.func28, Tryz.ntmps28
    simp only [List.append_eq, List.cons_append, List.nil_append]
    go_wp2_with ((first | ((with_reducible refine tBox (some 2) ?_); refine w_box M _ _ rfl rfl _ rfl (C1) rfl ?_; clear M; intro ga w1 M) | ((with_reducible refine tBox (some 3) ?_); refine w_box M _ _ rfl rfl _ rfl (C2) rfl ?_; clear M; intro gb w1 M) | ((with_reducible refine tGuard ?_); (with_reducible refine w_stripE ?_ ?_); (focus (refine ⟨_, rfl, ?_⟩; first | (with_reducible rfl) | exact decide_eq_false (by omega) | exact decide_eq_true (by omega)))) | ((with_reducible refine tGuard ?_); first | ((with_reducible refine w_skip1 ?_ ?_); (focus (refine ⟨_, rfl, ?_⟩; first | (with_reducible rfl) | exact decide_eq_false (by omega) | exact decide_eq_true (by omega)))) | ((with_reducible refine w_skip0 ?_ ?_); (focus (refine ⟨_, rfl, ?_⟩; first | (with_reducible rfl) | exact decide_eq_false (by omega) | exact decide_eq_true (by omega))))) | ((with_reducible refine tLoad ?_); go_must (refine w_at _ _ rfl (by exact ev_tmp rfl) ?_; intro hx; (first | refine w_load M 0 _ _ rfl rfl hx rfl (by decide +kernel) (by with_reducible first | exact N2k.out | exact N2e.out | exact N2a.out | exact N2o.out | exact N2p.out | exact N2v.out | exact N2i.out | exact N2pv.out) ?_ | refine w_loadA M 0 _ _ rfl rfl hx rfl (by decide +kernel) _ _ _ H2r.out.1 H2r.out.2.1 (by rw [bs_length, H2r.out.2.2]; kernel_rfl) ?_ | refine w_loadA M 0 _ _ rfl rfl hx rfl (by decide +kernel) _ _ _ H2lf.out.1 H2lf.out.2.1 (by rw [bs_length, H2lf.out.2.2]; kernel_rfl) ?_ | refine w_loadA M 0 _ _ rfl rfl hx rfl (by decide +kernel) _ _ _ H2rt.out.1 H2rt.out.2.1 (by rw [bs_length, H2rt.out.2.2]; kernel_rfl) ?_ | refine w_loadA M 0 _ _ rfl rfl hx rfl (by decide +kernel) _ _ _ B2.out.1 B2.out.2 (by kernel_rfl) ?_ | refine w_load M 1 _ _ rfl rfl hx rfl (by decide +kernel) (by with_reducible first | exact N1k.out | exact N1e.out | exact N1a.out | exact N1o.out | exact N1p.out | exact N1v.out | exact N1i.out | exact N1pv.out) ?_ | refine w_loadA M 1 _ _ rfl rfl hx rfl (by decide +kernel) _ _ _ H1r.out.1 H1r.out.2.1 (by rw [bs_length, H1r.out.2.2]; kernel_rfl) ?_ | refine w_loadA M 1 _ _ rfl rfl hx rfl (by decide +kernel) _ _ _ H1lf.out.1 H1lf.out.2.1 (by rw [bs_length, H1lf.out.2.2]; kernel_rfl) ?_ | refine w_loadA M 1 _ _ rfl rfl hx rfl (by decide +kernel) _ _ _ H1rt.out.1 H1rt.out.2.1 (by rw [bs_length, H1rt.out.2.2]; kernel_rfl) ?_ | refine w_loadA M 1 _ _ rfl rfl hx rfl (by decide +kernel) _ _ _ B1.out.1 B1.out.2 (by kernel_rfl) ?_); clear hx)) | (go_at_call 54; go_must (refine (BS.out _ (S.now M) (S'.now M)).mono ?_; rintro e w1 ⟨rfl, hb⟩; replace M := M.call hb; clear hb)) | (go_at_call 55; go_must (refine (PS.out _ (T.now M) (T'.now M)).mono ?_; rintro e w1 ⟨rfl, hb⟩; replace M := M.call hb; clear hb)) | ((with_reducible refine tGuard ?_); refine gdS ?_) | fail | ((with_reducible refine tLoad ?_); go_must (refine ldS ?_)) | ((with_reducible refine tStore ?_); go_must (refine stS ?_; clear M; intro w1 M; (try simp only [setC] at M))) | ((with_reducible refine tBox _ ?_); (refine bxA M ?_; clear M; intro g w1 M))) <;> (try conv => arg 5; simp only [Act.put, List.setIfInBounds_toArray, setC]))
    go_ret
    exact ⟨by first | rfl | simp, M.below⟩
end Go.Proofs.YtidadhbaomieiaaGreat

/- A new writer, as a piece of the walk's memory. No conditions. -/
namespace Go
namespace TL
open Go.RowKit
theorem Mem.outNew {F : List Nat} {w0 w : World} {g : Nat} {L : List Chunk} (M : Mem F w0 w (.row g [.slice none 0 0] :: L)) : Mem F w0 w (outC g (.slice none 0 0) [] :: L) := by
  have M2 := M.nil 1
  have M3 : Mem F w0 w (.row g [.slice none 0 0] :: .sl 1 (.slice none 0 0) ([] : List UInt8).length (bs []) :: L) := by
    refine M2.pick _ (fun i => if i = 0 then 1 else if i = 1 then 0 else i) ?_ ?_
    · intro i j hi hj h
      by_cases i0 : i = 0 <;> by_cases i1 : i = 1 <;> by_cases j0 : j = 0 <;> by_cases j1 : j = 1 <;> simp_all <;> omega
    · intro i c h
      match i with
      | 0 => exact h
      | 1 => exact h
      | i + 2 => simpa using h
  exact M3.outShut
end TL
end Go

/- Plain laws of a batch's reading, step by step. No program in this text. No conditions but those each lemma names. -/
namespace Go
namespace TL
theorem InS.byte_q (x : InS) : ∃ q : UInt8, x.byte.1 = q.toNat := by
  unfold InS.byte
  split
  · split
    · exact ⟨0, rfl⟩
    · rename_i b _ _; exact ⟨b, rfl⟩
  · exact ⟨0, rfl⟩
theorem rdO_zero (x : InS) : rdOps 0 x = ([], x) := rfl
theorem rdO_err {m n : Nat} {x x1 : InS} (h : x.byte = (n, x1)) (he : x1.err ≠ 0) : rdOps (m + 1) x = ([], x1) := by rw [rdOps, h, if_neg he]
theorem rdO_kind {m : Nat} {q : UInt8} {x x1 : InS} (h : x.byte = (q.toNat, x1)) (he : x1.err = 0) (hq : ¬ (q = 1 ∨ q = 2)) : rdOps (m + 1) x = ([], x1.bad 10) := by
  rw [rdOps, h, if_pos he, if_neg]
  rintro (e | e)
  · exact hq (.inl (UInt8.toNat_inj.1 e))
  · exact hq (.inr (UInt8.toNat_inj.1 e))
theorem rdO_put {m : Nat} {x x1 : InS} (h : x.byte = (UInt8.toNat 1, x1)) (he : x1.err = 0) : rdOps (m + 1) x = ((1, (x1.text 33).1, ((x1.text 33).2.text 32).1) :: (rdOps m ((x1.text 33).2.text 32).2).1, (rdOps m ((x1.text 33).2.text 32).2).2) := by
  simp only [rdOps, h, if_pos he]; rfl
theorem rdO_del {m : Nat} {x x1 : InS} (h : x.byte = (UInt8.toNat 2, x1)) (he : x1.err = 0) : rdOps (m + 1) x = ((2, (x1.text 33).1, []) :: (rdOps m (x1.text 33).2).1, (rdOps m (x1.text 33).2).2) := by
  simp only [rdOps, h, if_pos he]; rfl
theorem readB_fin {s : List UInt8} {i e n : Nat} {x0 x : InS} {d : List Opr} (h : nums3 s = (i, e, n, x0)) (hr : rdOps n x0 = (d, x)) (hf : x.fin ≠ 0) : readB s = ((0, 0, []), x.fin) := by
  unfold readB; simp only [h, hr]; rw [if_neg hf]
theorem readB_bad {s : List UInt8} {i e n : Nat} {x0 x : InS} {d : List Opr} {r : Nat} (h : nums3 s = (i, e, n, x0)) (hr : rdOps n x0 = (d, x)) (hf : x.fin = 0) (hp : rightB i e d = r) (hr0 : r ≠ 0) : readB s = ((0, 0, []), r) := by
  unfold readB; simp only [h, hr]; rw [if_pos hf, if_neg (by rw [hp]; exact hr0), hp]
theorem readB_ok {s : List UInt8} {i e n : Nat} {x0 x : InS} {d : List Opr} (h : nums3 s = (i, e, n, x0)) (hr : rdOps n x0 = (d, x)) (hf : x.fin = 0) (hp : rightB i e d = 0) : readB s = ((i, e, d), 0) := by
  unfold readB; simp only [h, hr]; rw [if_pos hf, if_pos hp]
theorem bad_fin (x : InS) {e : Nat} (h : e ≠ 0) : (x.bad e).fin = e := by unfold InS.bad InS.fin; rw [if_neg h]
theorem rdO_stop {x : InS} (h : x.err ≠ 0) : ∀ m, (rdOps m x).2.err = x.err
  | 0 => rfl
  | m + 1 => by
    have e : x.byte = (0, x) := by unfold InS.byte; rw [if_neg h]
    rw [rdO_err e h]
end TL
end Go

/- Plain laws of pack's reader: numbers and texts, read back and cut. No program in this text. No conditions but those each lemma names. -/
namespace Go
namespace TL
/-! ### Numbers and texts, read back and cut -/
theorem most_num {m n k : Nat} {r : List UInt8} (h : n ≤ m) (h64 : n < 18446744073709551616) : InS.most ⟨numL n ++ r, k, 0⟩ m = (n, ⟨r, k + (numL n).length, 0⟩) := by
  unfold InS.most InS.take
  simp only [if_true]
  rw [read_num n m r h64, if_neg (by omega)]
  simp
theorem text_text {m k : Nat} {t r : List UInt8} (h : t.length ≤ m) (h64 : t.length < 18446744073709551616) : InS.text ⟨textL t ++ r, k, 0⟩ m = (t, ⟨r, k + (textL t).length, 0⟩) := by
  unfold InS.text InS.take textL
  have e := read_num t.length m (t ++ r) h64
  rw [if_neg (by omega)] at e
  simp only [if_true, List.append_assoc]
  rw [e]
  simp only [if_true]
  rw [if_pos (by simp)]
  simp [List.drop_append]
theorem most_ok {x : InS} {m n : Nat} {y : InS} (h : x.most m = (n, y)) (hx : x.err = 0) (hy : y.err = 0) : x.rest = numL n ++ y.rest ∧ n ≤ m := by
  unfold InS.most InS.take at h
  rw [if_pos hx] at h
  obtain ⟨⟨a, b, c⟩, e⟩ : ∃ R, R = readN x.rest m := ⟨_, rfl⟩
  rw [← e] at h
  simp only [Prod.mk.injEq] at h
  obtain ⟨rfl, rfl⟩ := h
  by_cases hc : c = 0
  · subst hc
    obtain ⟨h1, h2, h3, _⟩ := read_ok e.symm
    simp only [if_true]
    exact ⟨h1, h3⟩
  · rw [if_neg hc] at hy; exact absurd hy hc
theorem text_ok {x : InS} {m : Nat} {t : List UInt8} {y : InS} (h : x.text m = (t, y)) (hx : x.err = 0) (hy : y.err = 0) : x.rest = textL t ++ y.rest ∧ t.length ≤ m := by
  have hlen := InS.text_len x m
  rw [h] at hlen
  refine ⟨?_, hlen⟩
  unfold InS.text InS.take at h
  rw [if_pos hx] at h
  obtain ⟨⟨a, b, c⟩, e⟩ : ∃ R, R = readN x.rest m := ⟨_, rfl⟩
  rw [← e] at h
  by_cases hc : c = 0
  · subst hc
    obtain ⟨h1, h2, h3, _⟩ := read_ok e.symm
    simp only [if_true] at h
    split at h
    · rename_i hl
      simp only [Prod.mk.injEq] at h
      obtain ⟨rfl, rfl⟩ := h
      have e2 : ((x.rest.drop b).take a).length = a := by simp; omega
      unfold textL
      rw [e2, List.append_assoc]
      simp only
      rw [← List.drop_drop, List.take_append_drop]
      exact h1
    · simp only [Prod.mk.injEq] at h
      obtain ⟨_, rfl⟩ := h
      simp at hy
  · simp only [if_neg hc, Prod.mk.injEq] at h
    obtain ⟨_, rfl⟩ := h
    exact absurd hy hc
theorem most_err0 {x : InS} {m : Nat} (h : (x.most m).2.err = 0) : x.err = 0 := by
  by_cases hx : x.err = 0
  · exact hx
  · rw [InS.most_err hx] at h; exact h
theorem text_err0 {x : InS} {m : Nat} (h : (x.text m).2.err = 0) : x.err = 0 := by
  by_cases hx : x.err = 0
  · exact hx
  · rw [InS.text_err hx] at h; exact h
end TL
end Go

/- Plain laws of layer 12 (batch): a batch's bytes, read, are the batch; cut they end too early; what is read has just its bytes; what is shipped; which operations fit. No program in this text. No conditions but those each lemma names. -/
namespace Go
namespace TL
def fitO (x : Opr) : Prop := (x.1 = 1 ∨ x.1 = 2) ∧ x.2.1.length ≤ 33 ∧ x.2.2.length ≤ 32 ∧ (x.1 = 2 → x.2.2 = [])
theorem byte_consB (b : UInt8) (r : List UInt8) (k : Nat) : InS.byte ⟨b :: r, k, 0⟩ = (b.toNat, ⟨r, k + 1, 0⟩) := rfl
theorem byte_nilB (k : Nat) : InS.byte ⟨[], k, 0⟩ = (0, ⟨[], k, 7⟩) := rfl
theorem opB_1 (p v : List UInt8) : opB (1, p, v) = 1 :: (textL p ++ textL v) := rfl
theorem opB_2 (p v : List UInt8) : opB (2, p, v) = 2 :: textL p := by unfold opB; rw [if_neg (by simp), List.append_nil]
theorem rd_ops : ∀ (l : List Opr) (r : List UInt8) (k : Nat), (∀ x ∈ l, fitO x) → ∃ k', rdOps l.length ⟨l.flatMap opB ++ r, k, 0⟩ = (l, ⟨r, k', 0⟩)
  | [], r, k, _ => ⟨k, by simp [rdOps]⟩
  | (q, p, v) :: l, r, k, h => by
    obtain ⟨hq, h1, h2, h3⟩ := h (q, p, v) List.mem_cons_self
    simp only at hq h1 h2 h3
    rcases hq with rfl | rfl
    · obtain ⟨k', ih⟩ := rd_ops l r (k + 1 + (textL p).length + (textL v).length) fun y hy => h y (List.mem_cons_of_mem _ hy)
      refine ⟨k', ?_⟩
      rw [List.length_cons, List.flatMap_cons, opB_1, List.cons_append, List.cons_append, List.append_assoc, List.append_assoc]
      rw [rdO_put (byte_consB _ _ _) rfl, text_text h1 (by omega)]
      simp only
      rw [text_text h2 (by omega)]
      simp only
      rw [ih]
    · obtain rfl := h3 rfl
      obtain ⟨k', ih⟩ := rd_ops l r (k + 1 + (textL p).length) fun y hy => h y (List.mem_cons_of_mem _ hy)
      refine ⟨k', ?_⟩
      rw [List.length_cons, List.flatMap_cons, opB_2, List.cons_append, List.cons_append, List.append_assoc]
      rw [rdO_del (byte_consB _ _ _) rfl, text_text h1 (by omega)]
      simp only
      rw [ih]
theorem rd_oonly : ∀ (n : Nat) (x : InS) (l : List Opr) (y : InS), rdOps n x = (l, y) → x.err = 0 → y.err = 0 → x.rest = l.flatMap opB ++ y.rest ∧ l.length = n
  | 0, x, l, y, h, _, _ => by
    simp only [rdOps, Prod.mk.injEq] at h
    obtain ⟨rfl, rfl⟩ := h
    simp
  | n + 1, x, l, y, h, hx, hy => by
    obtain ⟨rest, k, er⟩ := x
    simp only at hx; subst hx
    cases rest with
    | nil =>
      rw [rdO_err (byte_nilB k) (by simp)] at h
      simp only [Prod.mk.injEq] at h
      obtain ⟨_, rfl⟩ := h
      cases hy
    | cons b r =>
      by_cases hq : b = 1 ∨ b = 2
      · rcases hq with rfl | rfl
        · rw [rdO_put (byte_consB _ _ _) rfl] at h
          obtain ⟨⟨p, x3⟩, e3⟩ : ∃ R, R = InS.text ⟨r, k + 1, 0⟩ 33 := ⟨_, rfl⟩
          rw [← e3] at h
          simp only at h
          obtain ⟨⟨v, x4⟩, e4⟩ : ∃ R, R = x3.text 32 := ⟨_, rfl⟩
          rw [← e4] at h
          simp only [Prod.mk.injEq] at h
          obtain ⟨rfl, rfl⟩ := h
          have h4 : x4.err = 0 := by
            by_cases h0 : x4.err = 0
            · exact h0
            · rw [rdO_stop h0] at hy; exact hy
          have h3 : x3.err = 0 := text_err0 (m := 32) (by rw [← e4]; exact h4)
          have t1 := text_ok e3.symm rfl h3
          have t2 := text_ok e4.symm h3 h4
          obtain ⟨r1, r2⟩ := rd_oonly n x4 _ _ (Prod.ext rfl rfl) h4 hy
          refine ⟨?_, by simp [r2]⟩
          simp only at t1 ⊢
          rw [List.flatMap_cons, opB_1, List.cons_append, List.cons_append, t1.1, t2.1, r1]
          simp only [List.append_assoc]
        · rw [rdO_del (byte_consB _ _ _) rfl] at h
          obtain ⟨⟨p, x3⟩, e3⟩ : ∃ R, R = InS.text ⟨r, k + 1, 0⟩ 33 := ⟨_, rfl⟩
          rw [← e3] at h
          simp only [Prod.mk.injEq] at h
          obtain ⟨rfl, rfl⟩ := h
          have h3 : x3.err = 0 := by
            by_cases h0 : x3.err = 0
            · exact h0
            · rw [rdO_stop h0] at hy; exact hy
          have t1 := text_ok e3.symm rfl h3
          obtain ⟨r1, r2⟩ := rd_oonly n x3 _ _ (Prod.ext rfl rfl) h3 hy
          refine ⟨?_, by simp [r2]⟩
          simp only at t1 ⊢
          rw [List.flatMap_cons, opB_2, List.cons_append, List.cons_append, t1.1, r1]
          simp only [List.append_assoc]
      · rw [rdO_kind (byte_consB _ _ _) rfl hq] at h
        simp only [Prod.mk.injEq] at h
        obtain ⟨_, rfl⟩ := h
        cases hy
/-! ### Batches -/
theorem cutE_ok {p : List UInt8} (h : cutE p = 0) : p.length ≤ 33 ∧ (cutL p).2.2 = true := by
  unfold cutE at h
  split at h
  · rename_i h0
    obtain ⟨⟨m, k, ok⟩, e⟩ : ∃ c, c = cutL p := ⟨_, rfl⟩
    rw [← e] at h0 ⊢
    simp only at h0; subst h0
    obtain ⟨hp, _, _, hm, hk', _⟩ := cut_ok e.symm
    refine ⟨?_, rfl⟩
    rw [hp]; simp; omega
  · cases h
theorem right_fit {i e : Int} {ops : List Opr} (h : rightB i e ops = 0) : ∀ x ∈ ops, fitO x := fun x hx => by
  obtain ⟨_, _, _, _, h4⟩ := right_ok h
  obtain ⟨k1, k2, k3, k4⟩ := op_zero (each_ok h4 x hx)
  exact ⟨k1, (cutE_ok k2).1, k3, k4⟩
theorem nums_bat {i e : Nat} {ops : List Opr} (r : List UInt8) (hi : i ≤ 4611686018427387904) (he : e ≤ 9223372036854775807) (hl : ops.length ≤ 4) : ∃ k, nums3 (batB i e ops ++ r) = (i, e, ops.length, ⟨ops.flatMap opB ++ r, k, 0⟩) := by
  unfold nums3 batB
  simp only [List.append_assoc]
  rw [most_num hi (by omega)]
  simp only
  rw [most_num he (by omega)]
  simp only
  rw [most_num hl (by omega)]
  exact ⟨_, rfl⟩
theorem read_bat {i e : Nat} {ops : List Opr} (h : rightB i e ops = 0) (he : e ≤ 9223372036854775807) (r : List UInt8) : readB (batB i e ops ++ r) = if r = [] then ((i, e, ops), 0) else ((0, 0, []), 8) := by
  obtain ⟨h1, h2, h3, h4, _⟩ := right_ok h
  obtain ⟨k, hn⟩ := nums_bat (ops := ops) r (by omega : i ≤ 4611686018427387904) he h4
  obtain ⟨k', hr⟩ := rd_ops ops r k (right_fit h)
  by_cases e0 : r = []
  · subst e0
    rw [if_pos rfl]
    exact readB_ok hn hr rfl h
  · rw [if_neg e0]
    have hf : (InS.mk r k' 0).fin = 8 := by unfold InS.fin; rw [if_pos rfl, if_neg (by simpa using e0)]
    rw [readB_fin hn hr (by rw [hf]; decide), hf]
theorem readB_zero {s : List UInt8} (h : (readB s).2 ≠ 0) : (readB s).1 = (0, 0, []) := by
  unfold readB at h ⊢
  simp only at h ⊢
  split
  · rename_i h1
    rw [if_pos h1] at h
    split
    · rename_i h2; rw [if_pos h2] at h; exact absurd rfl h
    · rfl
  · rfl
theorem read_batonly {s : List UInt8} {i e : Nat} {d : List Opr} (h : readB s = ((i, e, d), 0)) : s = batB i e d ∧ rightB i e d = 0 ∧ e ≤ 9223372036854775807 := by
  unfold readB at h
  simp only at h
  split at h
  · rename_i hfin
    split at h
    · rename_i hr
      simp only [Prod.mk.injEq, and_true] at h
      obtain ⟨rfl, rfl, rfl⟩ := h
      refine ⟨?_, hr, InS.most_le _ _⟩
      unfold nums3 at hfin hr ⊢
      simp only at hfin hr ⊢
      obtain ⟨⟨i, x0⟩, e0⟩ : ∃ R, R = InS.most ⟨s, 0, 0⟩ 4611686018427387904 := ⟨_, rfl⟩
      rw [← e0] at hfin hr ⊢
      simp only at hfin hr ⊢
      obtain ⟨⟨e, x1⟩, e1⟩ : ∃ R, R = x0.most 9223372036854775807 := ⟨_, rfl⟩
      rw [← e1] at hfin hr ⊢
      simp only at hfin hr ⊢
      obtain ⟨⟨n, x2⟩, e2⟩ : ∃ R, R = x1.most 4 := ⟨_, rfl⟩
      rw [← e2] at hfin hr ⊢
      simp only at hfin hr ⊢
      obtain ⟨⟨l, x⟩, e3⟩ : ∃ R, R = rdOps n x2 := ⟨_, rfl⟩
      rw [← e3] at hfin hr ⊢
      simp only at hfin hr ⊢
      have hx : x.err = 0 := by
        unfold InS.fin at hfin; split at hfin
        · assumption
        · assumption
      have hxr : x.rest = [] := by
        unfold InS.fin at hfin; rw [if_pos hx] at hfin; split at hfin
        · rename_i hz; simpa using hz
        · cases hfin
      have hx2 : x2.err = 0 := by
        by_cases h0 : x2.err = 0
        · exact h0
        · have := rdO_stop h0 n
          rw [← e3] at this
          exact absurd (this.symm.trans hx) h0
      have hx1 : x1.err = 0 := most_err0 (m := 4) (by rw [← e2]; exact hx2)
      have hx0 : x0.err = 0 := most_err0 (m := 9223372036854775807) (by rw [← e1]; exact hx1)
      have m0 := most_ok e0.symm rfl hx0
      have m1 := most_ok e1.symm hx0 hx1
      have m2 := most_ok e2.symm hx1 hx2
      obtain ⟨r1, r2⟩ := rd_oonly n x2 l x e3.symm hx2 hx
      rw [hxr, List.append_nil] at r1
      have : s = numL i ++ x0.rest := m0.1
      unfold batB
      rw [this, m1.1, m2.1, r1, r2]
    · simp only [Prod.mk.injEq] at h
      rename_i hr
      exact absurd h.2 hr
  · rename_i hfin
    simp only [Prod.mk.injEq] at h
    exact absurd h.2 hfin
/-! ### What is shipped -/
/-! ### What fits -/
end TL
end Go

/- The walks of batch.Bytes and of the reference's Bytes. Conditions: lengths; the numbers are int's. -/
namespace Go
namespace TL
theorem opB_len {x : Opr} (h1 : x.2.1.length ≤ 1000) (h2 : x.2.2.length ≤ 1000) : (opB x).length ≤ 2021 := by
  unfold opB textL
  have := numL_length_le x.2.1.length (by omega)
  have := numL_length_le x.2.2.length (by omega)
  split <;> simp <;> omega
theorem opsB_len : ∀ {l : List Opr}, (∀ x ∈ l, x.2.1.length ≤ 1000 ∧ x.2.2.length ≤ 1000) → (l.flatMap opB).length ≤ l.length * 2021
  | [], _ => by simp
  | x :: l, h => by
    have h1 := h x List.mem_cons_self
    have := opB_len h1.1 h1.2
    have := opsB_len (l := l) fun y hy => h y (List.mem_cons_of_mem _ hy)
    simp only [List.flatMap_cons, List.length_append, List.length_cons]; omega
theorem flatO_take {l : List Opr} {k : Nat} {x : Opr} (h : l[k]? = some x) : (l.take (k + 1)).flatMap opB = (l.take k).flatMap opB ++ opB x := by
  obtain ⟨hk, rfl⟩ := List.getElem?_eq_some_iff.1 h
  rw [List.take_succ_eq_append_getElem hk, List.flatMap_append, List.flatMap_cons, List.flatMap_nil, List.append_nil]
theorem opB_put {q : UInt8} {a b : List UInt8} (h : q = 1) : opB (q, a, b) = [q] ++ textL a ++ textL b := by unfold opB; rw [if_pos h]; rfl
theorem opB_del {q : UInt8} {a b : List UInt8} (h : q ≠ 1) : opB (q, a, b) = [q] ++ textL a := by unfold opB; rw [if_neg h, List.append_nil]; rfl
theorem bytesB_no {i e : Int} {ops : List Opr} (h : rightB i e ops ≠ 0) : bytesB i e ops = ([], rightB i e ops) := if_neg h
theorem bytesB_ok {i e : Int} {ops : List Opr} (h : rightB i e ops = 0) : bytesB i e ops = (batB i.toNat e.toNat ops, 0) := if_pos h
end TL
end Go
namespace Go.Proofs.YtidadhbaomieiaaGreat
open Go.RowKit Go.TL
set_option maxRecDepth 100000 in
set_option maxHeartbeats 8000000 in
theorem bBytes_c (i e : Int) (he : e ≤ 9223372036854775807) (ops : List Opr) (v : Value) (w : World) (S : SeesL w 3 opV v ops) (hl : ops.length ≤ 1000) (hm0 : ∀ x ∈ ops, x.2.1.length ≤ 100000000 ∧ x.2.2.length ≤ 100000000) :
    Calls Tryz.prog 168 #[.agg #[.int .i64 i, .int .i64 e, v]] w fun r w' => r = .returned (.tuple #[.string (mkS (bytesB i e ops).1), .int .i64 (bytesB i e ops).2]) ∧ Below w.heap.size w w' := by
  have M := Mem.start [] w
  have Y := fun w (S : SeesL w 3 opV v ops) => bRight_c i e ops v w S (by omega) (fun x hx => by have := hm0 x hx; omega)
  have BN := @bytesB_no i e ops
  have BO := @bytesB_ok i e ops
  have RO := @right_ok i e ops
  have hm : rightB i e ops = 0 → ∀ x ∈ ops, x.2.1.length ≤ 1000 ∧ x.2.2.length ≤ 1000 := fun h x hx => by
    obtain ⟨_, k2, k3, _⟩ := right_fit h x hx
    omega
  obtain ⟨A, eA⟩ : ∃ A, A = bytesB i e ops := ⟨_, rfl⟩
  obtain ⟨R, eR⟩ : ∃ R, R = rightB i e ops := ⟨_, rfl⟩
  rw [← eA, ← eR] at BN
  rw [← eA, ← eR] at BO
  rw [← eR] at RO Y hm
  rw [← eA]
  replace Y := Lib.hid Y
  clear eA eR
  obtain ⟨p, cap, rfl, hc⟩ := S.form
  by_cases hR : R = 0
  · subst hR
    obtain ⟨h1, h2, h3, h4, _⟩ := RO rfl
    have e0 := BO rfl
    replace hm := hm rfl
    clear BN BO RO
    obtain ⟨i, rfl⟩ : ∃ n : Nat, i = n := ⟨i.toNat, by omega⟩
    obtain ⟨e, rfl⟩ : ∃ n : Nat, e = n := ⟨e.toNat, by omega⟩
    rw [Int.toNat_natCast, Int.toNat_natCast] at e0
    unfold batB at e0
    subst e0
    have hni := numL_length_le i (by omega)
    have hne := numL_length_le e (by omega)
    have hnn := numL_length_le ops.length (by omega)
    have hz : (i : Int) ≤ 4611686018427387904 := by omega
    have hz' : (e : Int) ≤ 9223372036854775807 := by omega
    have hz2 : 0 ≤ (i : Int) := by omega
    have hz3 : 0 ≤ (e : Int) := by omega
    go_enter Tryz.func168, Tryz.ntmps168
    have hmB := fun k => opsB_len (l := ops.take k) (fun x hx => hm x (List.mem_of_mem_take hx))
    go_wp2_with ((first | ((with_reducible refine tBox (some 1) ?_); refine w_box M _ _ rfl rfl _ rfl ([.int .i64 i, .int .i64 e, .slice p ops.length cap]) rfl ?_; clear M; intro gb w1 M) | ((with_reducible refine tBox (some 14) ?_); refine w_box M _ _ rfl rfl _ rfl ([.slice none 0 0]) rfl ?_; clear M; intro go w1 M) | (go_at_call 187; go_must (refine (Y.out _ (S.now M)).mono ?_; rintro e w1 ⟨rfl, hb⟩; replace M := M.call hb; clear hb)) | (go_at_call 113; go_must (first | ((with_reducible refine (Num_c _ _ _ i _ (I64_nat i (by omega)) _ (by omega) (by simp) (M.outNew.ok 0 _ rfl)).mono ?_); rintro e w2 ⟨rfl, v1, U⟩; replace M := M.outNew.upd 0 rfl U; clear U; simp only [List.set_cons_zero, List.nil_append] at M) | ((with_reducible refine (Num_c _ _ _ e _ (I64_nat e (by omega)) _ (by omega) (by omega) (M.ok 0 _ rfl)).mono ?_); rintro e w2 ⟨rfl, v1, U⟩; replace M := M.upd 0 rfl U; clear U; simp only [List.set_cons_zero] at M) | ((with_reducible refine (Num_c _ _ _ ops.length _ (I64_nat ops.length (by omega)) _ (by omega) (by simp; omega) (M.ok 0 _ rfl)).mono ?_); rintro e w2 ⟨rfl, v1, U⟩; replace M := M.upd 0 rfl U; clear U; simp only [List.set_cons_zero] at M))) | ((with_reducible refine tGuard ?_); refine gdS ?_) | fail | ((with_reducible refine tLoad ?_); go_must (refine ldS ?_)) | ((with_reducible refine tStore ?_); go_must (refine stS ?_; clear M; intro w1 M; (try simp only [setC] at M))) | ((with_reducible refine tBox _ ?_); (refine bxA M ?_; clear M; intro g w1 M))) <;> (try conv => arg 5; simp only [Act.put, List.setIfInBounds_toArray, setC]))
    rw [List.append_assoc] at M
    go_loopw [34] (fun iv wr => ∃ (k : Nat) (v : Value), k ≤ ops.length ∧ iv = .int .i64 k ∧ Mem [] w wr [outC go v (numL i ++ (numL e ++ (numL ops.length ++ (ops.take k).flatMap opB))), .row gb [.int .i64 i, .int .i64 e, .slice p ops.length cap]]) (fun iv _ => ops.length - (intOf iv).toNat)
    case atStart => exact ⟨0, _, by omega, rfl, by simpa using M⟩
    case round =>
      clear M
      obtain ⟨k, v0, hk, rfl, M⟩ := hrel
      have hB := hmB k
      have hk2 : (ops.take k).length ≤ k := List.length_take_le _ _
      by_cases hlt : k < ops.length
      · obtain ⟨g, so, rfl⟩ := S.addr (by omega)
        obtain ⟨⟨q, a, b⟩, hx⟩ : ∃ x, ops[k]? = some x := ⟨_, List.getElem?_eq_getElem hlt⟩
        obtain ⟨ha, hb⟩ := hm (q, a, b) (List.mem_of_getElem? hx)
        simp only at ha hb
        have HT := Lib.hid (flatO_take hx)
        obtain ⟨d, ed⟩ : ∃ d, d = numL i ++ (numL e ++ (numL ops.length ++ (ops.take k).flatMap opB)) := ⟨_, rfl⟩
        have hd : d.length ≤ 200000 := by rw [ed]; simp only [List.length_append]; omega
        rw [← ed] at M
        have ED := Lib.hid ed
        have HX := Lib.hid hx
        have hta : (textL a).length ≤ 1010 := by unfold textL; have := numL_length_le a.length (by omega); simp; omega
        clear hx ed hmB hB
        by_cases hq : q = 1
        · have HQ := Lib.hid hq
          have hq1 : (I8 q == 1) = true := by rw [hq]; rfl
          clear hq
          go_wp2_with ((first | ((with_reducible refine tLoad ?_); refine w_at _ _ rfl (by exact ev_tmp rfl) ?_; intro hx; first | (refine w_seeA M S HX.out _ _ rfl hx rfl (by decide +kernel) (by first | (with_reducible rfl) | omega) (by kernel_rfl) ?_; clear hx; (try conv => arg 5; simp only [Act.put, List.setIfInBounds_toArray, setC, opV_eq])) | (refine w_see M S HX.out _ _ rfl hx rfl (by decide +kernel) 0 (by first | (with_reducible rfl) | omega) rfl ?_; clear hx) | (refine w_see M S HX.out _ _ rfl hx rfl (by decide +kernel) 1 (by first | (with_reducible rfl) | omega) rfl ?_; clear hx) | (refine w_see M S HX.out _ _ rfl hx rfl (by decide +kernel) 2 (by first | (with_reducible rfl) | omega) rfl ?_; clear hx)) | ((with_reducible refine tAlloc (some 7) 181 ?_); refine w_alloc M _ rfl rfl (.agg #[.int .u8 0, .string (mkS []), .string (mkS [])]) (opV (0, [], [])) (by kernel_rfl) rfl ?_; clear M; intro gx w1 M) | (go_at_call 91; go_must (refine (Out_Byte_c _ _ _ q _ (by omega) (M.ok 1 _ rfl)).mono ?_; rintro e w2 ⟨rfl, v1, U⟩; replace M := M.upd 1 rfl U; clear U; simp only [List.set_cons_zero, List.set_cons_succ] at M)) | (go_at_call 80; go_must (refine (Out_Text_c _ _ _ _ _ (by omega) (by first | omega | (simp; omega)) (M.ok 1 _ rfl)).mono ?_; rintro e w2 ⟨rfl, v1, U⟩; replace M := M.upd 1 rfl U; clear U; simp only [List.set_cons_zero, List.set_cons_succ] at M)) | ((with_reducible refine tGuard ?_); refine gdS ?_) | fail | ((with_reducible refine tLoad ?_); go_must (refine ldS ?_)) | ((with_reducible refine tStore ?_); go_must (refine stS ?_; clear M; intro w1 M; (try simp only [setC] at M))) | ((with_reducible refine tBox _ ?_); (refine bxA M ?_; clear M; intro g w1 M))) <;> (try conv => arg 5; simp only [Act.put, List.setIfInBounds_toArray, setC]))
          go_roundw
          case rel => exact ⟨k + 1, _, by omega, by go_num, by
            rw [HT.out, opB_put HQ.out]
            have e9 : numL i ++ (numL e ++ (numL ops.length ++ ((ops.take k).flatMap opB ++ ([q] ++ textL a ++ textL b)))) = d ++ [q] ++ textL a ++ textL b := by rw [ED.out]; simp only [List.append_assoc]
            rw [e9]; exact M.tail⟩
          case measure => simp [intOf]; omega
        · have HQ := Lib.hid hq
          obtain ⟨hq1, hq2⟩ := I8_ne (q := q) (c := 1) hq
          rw [show I8 1 = 1 from rfl] at hq1 hq2
          clear hq
          go_wp2_with ((first | ((with_reducible refine tLoad ?_); refine w_at _ _ rfl (by exact ev_tmp rfl) ?_; intro hx; first | (refine w_seeA M S HX.out _ _ rfl hx rfl (by decide +kernel) (by first | (with_reducible rfl) | omega) (by kernel_rfl) ?_; clear hx; (try conv => arg 5; simp only [Act.put, List.setIfInBounds_toArray, setC, opV_eq])) | (refine w_see M S HX.out _ _ rfl hx rfl (by decide +kernel) 0 (by first | (with_reducible rfl) | omega) rfl ?_; clear hx) | (refine w_see M S HX.out _ _ rfl hx rfl (by decide +kernel) 1 (by first | (with_reducible rfl) | omega) rfl ?_; clear hx) | (refine w_see M S HX.out _ _ rfl hx rfl (by decide +kernel) 2 (by first | (with_reducible rfl) | omega) rfl ?_; clear hx)) | ((with_reducible refine tAlloc (some 7) 181 ?_); refine w_alloc M _ rfl rfl (.agg #[.int .u8 0, .string (mkS []), .string (mkS [])]) (opV (0, [], [])) (by kernel_rfl) rfl ?_; clear M; intro gx w1 M) | (go_at_call 91; go_must (refine (Out_Byte_c _ _ _ q _ (by omega) (M.ok 1 _ rfl)).mono ?_; rintro e w2 ⟨rfl, v1, U⟩; replace M := M.upd 1 rfl U; clear U; simp only [List.set_cons_zero, List.set_cons_succ] at M)) | (go_at_call 80; go_must (refine (Out_Text_c _ _ _ _ _ (by omega) (by first | omega | (simp; omega)) (M.ok 1 _ rfl)).mono ?_; rintro e w2 ⟨rfl, v1, U⟩; replace M := M.upd 1 rfl U; clear U; simp only [List.set_cons_zero, List.set_cons_succ] at M)) | ((with_reducible refine tGuard ?_); refine gdS ?_) | fail | ((with_reducible refine tLoad ?_); go_must (refine ldS ?_)) | ((with_reducible refine tStore ?_); go_must (refine stS ?_; clear M; intro w1 M; (try simp only [setC] at M))) | ((with_reducible refine tBox _ ?_); (refine bxA M ?_; clear M; intro g w1 M))) <;> (try conv => arg 5; simp only [Act.put, List.setIfInBounds_toArray, setC]))
          go_roundw
          case rel => exact ⟨k + 1, _, by omega, by go_num, by
            rw [HT.out, opB_del HQ.out]
            have e9 : numL i ++ (numL e ++ (numL ops.length ++ ((ops.take k).flatMap opB ++ ([q] ++ textL a)))) = d ++ [q] ++ textL a := by rw [ED.out]; simp only [List.append_assoc]
            rw [e9]; exact M.tail⟩
          case measure => simp [intOf]; omega
      · obtain rfl : k = ops.length := by omega
        rw [List.take_length] at M
        go_wp2_with (first | (go_at_call 81; go_must (refine (Out_String_c _ _ _ _ (M.ok 0 _ rfl)).mono ?_; rintro e w1 ⟨rfl, rfl⟩)))
        go_ret2
        exact ⟨rfl, M.below⟩
  · have e0 := BN hR
    subst e0
    clear BN BO RO
    have hz : ((R : Int) == 0) = false := by simp; exact hR
    have hz' : ((R : Int) != 0) = true := by simp; exact hR
    clear hR
    go_enter Tryz.func168, Tryz.ntmps168
    go_wp2_with ((first | ((with_reducible refine tBox (some 1) ?_); refine w_box M _ _ rfl rfl _ rfl ([.int .i64 i, .int .i64 e, .slice p ops.length cap]) rfl ?_; clear M; intro gb w1 M) | (go_at_call 187; go_must (refine (Y.out _ (S.now M)).mono ?_; rintro e w1 ⟨rfl, hb⟩; replace M := M.call hb; clear hb)) | ((with_reducible refine tGuard ?_); refine gdS ?_) | fail | ((with_reducible refine tLoad ?_); go_must (refine ldS ?_)) | ((with_reducible refine tStore ?_); go_must (refine stS ?_; clear M; intro w1 M; (try simp only [setC] at M))) | ((with_reducible refine tBox _ ?_); (refine bxA M ?_; clear M; intro g w1 M))) <;> (try conv => arg 5; simp only [Act.put, List.setIfInBounds_toArray, setC]))
    go_ret2
    exact ⟨rfl, M.below⟩
end Go.Proofs.YtidadhbaomieiaaGreat

/- The walks of layer 18's fields that are written: a batch, pairs. Conditions: lengths; the numbers are int's. -/
namespace Go
namespace TL
open Go.RowKit
theorem bytesB_len {i e : Int} (he : e ≤ 9223372036854775807) (ops : List Opr) : (bytesB i e ops).1.length ≤ 10000 := by
  unfold bytesB
  split
  · rename_i h
    obtain ⟨h1, h2, h3, h4, _⟩ := right_ok h
    have := opsB_len (l := ops) fun x hx => by obtain ⟨_, k2, k3, _⟩ := right_fit h x hx; omega
    have := numL_length_le i.toNat (by omega)
    have := numL_length_le e.toNat (by omega)
    have := numL_length_le ops.length (by omega)
    unfold batB
    simp only [List.length_append]
    omega
  · simp
section
variable {P : Program} {ops : Array Oper} {rest : List Oper} {o : Oper} {a : Act} {w w0 : World} {Q : Exit → Act → World → Prop} {F : List Nat} {L : List Chunk} {g : Nat}
theorem w_rowFBt {m : Ms} (M : Mem F w0 w L) (R : (Chunk.row g (msgC m)).ok w0) (hF : g ∉ F) (t : TypeId) (x : Operand) (ho : o.op = .load t x) (hx : a.eval x = .pointer (some ⟨g, 4, none⟩)) (hw : Region.wanted o (yielded ops a.tmps) = true)
    (ht : rowT P t = true) (hn : (P.info? t).map (·.size) = some 3) (h : wpList P ops Q rest (a.put o.dst (.agg #[.int .i64 m.bi, .int .i64 m.be, m.ov])) w) : wpList P ops Q (o :: rest) a w :=
  w_rowFA M R hF t x ho hx hw ht [.int .u8 (I8 m.k), .int .i64 m.e, .int .i64 m.a, .int .i64 m.o] [.int .i64 m.bi, .int .i64 m.be, m.ov] ([.int .i64 m.p] ++ (bs m.r ++ ([.int .i64 m.v, .int .i64 m.i] ++ (bs m.lf ++ (bs m.rt ++ [m.pv]))))) rfl rfl hn h
end
theorem w_seeNA {α : Type} {P : Program} {ops : Array Oper} {rest : List Oper} {o : Oper} {a : Act} {w : World} {Q : Exit → Act → World → Prop} {size : Nat} {f : α → List Value} {l : List α} {g so n cap : Nat} (S : SeesL w size f (.slice (some ⟨g, so, none⟩) n cap) l) {k : Nat} {x : α} (hk : l[k]? = some x) (t : TypeId) (op : Operand) (ho : o.op = .load t op) {off : Nat} (hx : a.eval op = .pointer (some ⟨g, off, none⟩)) (hw : Region.wanted o (yielded ops a.tmps) = true)
    (ht : rowT P t = true) (hoff : off = so + k * size) (hn : (P.info? t).map (·.size) = some (f x).length) (h : wpList P ops Q rest (a.put o.dst (.agg (f x).toArray)) w) : wpList P ops Q (o :: rest) a w :=
  wpW hw fun _ hK => by
    subst hoff
    unfold rowT at ht
    cases hu : P.underlying t with
    | none => simp [hu] at ht
    | some d =>
      simp only [hu] at ht
      refine wp_load_mid t op ho g _ hx (f x) d ?_ hu ht hn (hK _ _ h)
      intro j val hv
      rw [Nat.add_assoc]
      exact S.cell hk hv
theorem SeesL.nowF {α : Type} {size : Nat} {f : α → List Value} {v : Value} {l : List α} {F : List Nat} {w0 w : World} {L : List Chunk} (M : Mem F w0 w L) (S : SeesL w0 size f v l) (hF : 0 < l.length → ∀ k, v.ownBlock = some k → k ∉ F) : SeesL w size f v l := S.kept0 M.kept hF
end TL
end Go
namespace Go.Proofs.YtidadhbaomieiaaGreat
open Go.RowKit Go.TL
set_option maxRecDepth 100000 in
set_option maxHeartbeats 8000000 in
theorem putBatch_c (L : Lm) (ov pv : Value) (gm go : Nat) (v : Value) (l : List UInt8) (w : World) (_hm : (L.ms ov pv).fit) (hbe : L.be ≤ 9223372036854775807) (hl : l.length ≤ 900000) (ho : (outC go v l).ok w)
    (R : (Chunk.row gm (msgC (L.ms ov pv))).ok w) (n0 : gm ∉ (outC go v l).fp) (S : SeesL w 3 opV ov L.ops) (h1 : L.ops.length ≤ 1000) (h2 : ∀ x ∈ L.ops, x.2.1.length ≤ 100000000 ∧ x.2.2.length ≤ 100000000) :
    Calls Tryz.prog 133 #[.pointer (some ⟨go, 0, none⟩), .pointer (some ⟨gm, 0, none⟩)] w fun e w' => e = .returned (.bool (Fld.bat.ok L)) ∧ ∃ v', Upd w (outC go v l) w' (outC go v' (l ++ Fld.bat.put L)) := by
  have M := Mem.start1 ho
  have Y := fun w (S : SeesL w 3 opV ov L.ops) => bBytes_c L.bi L.be hbe L.ops ov w S h1 h2
  have hA := bytesB_len (i := L.bi) hbe L.ops
  simp only [Fld.ok, Fld.put]
  obtain ⟨⟨s, e⟩, eA⟩ : ∃ A, A = bytesB L.bi L.be L.ops := ⟨_, rfl⟩
  rw [← eA] at Y hA ⊢
  simp only at Y hA ⊢
  clear eA
  replace Y := Lib.hid Y
  go_enter Tryz.func133, Tryz.ntmps133
  by_cases he : e = 0
  · subst he
    go_wp2_with ((first | ((with_reducible refine tLoad ?_); go_must (refine w_at _ _ rfl (by exact ev_tmp rfl) ?_; intro hx; (first | refine w_rowFBt M R n0 _ _ rfl hx rfl (by decide +kernel) (by kernel_rfl) ?_); clear hx)) | (go_at_call 168; go_must (refine (Y.out _ S).mono ?_; rintro e w1 ⟨rfl, hb⟩; replace M := M.call hb; clear hb)) | (go_at_call 80; go_must (refine (Out_Text_c _ _ l s _ (by omega) (by omega) (M.ok 0 _ rfl)).mono ?_; rintro r w2 ⟨rfl, v1, U⟩; replace M := M.upd 0 rfl U; clear U; simp only [setC] at M)) | ((with_reducible refine tGuard ?_); (with_reducible refine w_stripE ?_ ?_); (focus (refine ⟨_, rfl, ?_⟩; first | (with_reducible rfl) | exact decide_eq_false (by omega) | exact decide_eq_true (by omega)))) | ((with_reducible refine tGuard ?_); first | ((with_reducible refine w_skip1 ?_ ?_); (focus (refine ⟨_, rfl, ?_⟩; first | (with_reducible rfl) | exact decide_eq_false (by omega) | exact decide_eq_true (by omega)))) | ((with_reducible refine w_skip0 ?_ ?_); (focus (refine ⟨_, rfl, ?_⟩; first | (with_reducible rfl) | exact decide_eq_false (by omega) | exact decide_eq_true (by omega))))) | ((with_reducible refine tGuard ?_); refine gdS ?_) | fail | ((with_reducible refine tLoad ?_); go_must (refine ldS ?_)) | ((with_reducible refine tStore ?_); go_must (refine stS ?_; clear M; intro w1 M; (try simp only [setC] at M))) | ((with_reducible refine tBox _ ?_); (refine bxA M ?_; clear M; intro g w1 M))) <;> (try conv => arg 5; simp only [Act.put, List.setIfInBounds_toArray, setC]))
    go_ret
    exact ⟨by simp; omega, _, M.upd1 0 rfl⟩
  · have hz : ((e : Int) == 0) = false := by simp; exact he
    have hz2 : (e == 0) = false := by simp; exact he
    clear he
    go_wp2_with ((first | ((with_reducible refine tLoad ?_); go_must (refine w_at _ _ rfl (by exact ev_tmp rfl) ?_; intro hx; (first | refine w_rowFBt M R n0 _ _ rfl hx rfl (by decide +kernel) (by kernel_rfl) ?_); clear hx)) | (go_at_call 168; go_must (refine (Y.out _ S).mono ?_; rintro e w1 ⟨rfl, hb⟩; replace M := M.call hb; clear hb)) | (go_at_call 80; go_must (refine (Out_Text_c _ _ l s _ (by omega) (by omega) (M.ok 0 _ rfl)).mono ?_; rintro r w2 ⟨rfl, v1, U⟩; replace M := M.upd 0 rfl U; clear U; simp only [setC] at M)) | ((with_reducible refine tGuard ?_); (with_reducible refine w_stripE ?_ ?_); (focus (refine ⟨_, rfl, ?_⟩; first | (with_reducible rfl) | exact decide_eq_false (by omega) | exact decide_eq_true (by omega)))) | ((with_reducible refine tGuard ?_); first | ((with_reducible refine w_skip1 ?_ ?_); (focus (refine ⟨_, rfl, ?_⟩; first | (with_reducible rfl) | exact decide_eq_false (by omega) | exact decide_eq_true (by omega)))) | ((with_reducible refine w_skip0 ?_ ?_); (focus (refine ⟨_, rfl, ?_⟩; first | (with_reducible rfl) | exact decide_eq_false (by omega) | exact decide_eq_true (by omega))))) | ((with_reducible refine tGuard ?_); refine gdS ?_) | fail | ((with_reducible refine tLoad ?_); go_must (refine ldS ?_)) | ((with_reducible refine tStore ?_); go_must (refine stS ?_; clear M; intro w1 M; (try simp only [setC] at M))) | ((with_reducible refine tBox _ ?_); (refine bxA M ?_; clear M; intro g w1 M))) <;> (try conv => arg 5; simp only [Act.put, List.setIfInBounds_toArray, setC]))
    go_ret
    exact ⟨by rw [hz2]; rfl, _, M.upd1 0 rfl⟩
set_option maxRecDepth 100000 in
set_option maxHeartbeats 8000000 in
theorem putPairs_c (L : Lm) (ov pv : Value) (gm go : Nat) (v : Value) (l : List UInt8) (w : World) (hm : (L.ms ov pv).fit) (hl : l.length ≤ 700000) (ho : (outC go v l).ok w)
    (R : (Chunk.row gm (msgC (L.ms ov pv))).ok w) (n0 : gm ∉ (outC go v l).fp) (S : SeesL w 2 prV pv L.prs) (nS : 0 < L.prs.length → ∀ k, pv.ownBlock = some k → k ∉ (outC go v l).fp) (h1 : L.prs.length ≤ 1000) (h2 : ∀ x ∈ L.prs, x.1.length ≤ 100000 ∧ x.2.length ≤ 100000) (h3 : (L.prs.flatMap prBm).length ≤ 100000) :
    Calls Tryz.prog 135 #[.pointer (some ⟨go, 0, none⟩), .pointer (some ⟨gm, 0, none⟩)] w fun e w' => e = .returned (.bool (Fld.prs.ok L)) ∧ ∃ v', Upd w (outC go v l) w' (outC go v' (l ++ Fld.prs.put L)) := by
  have M := Mem.start1 ho
  simp only [Fld.ok, Fld.put]
  have HQ := msgC_at hm .pv
  obtain ⟨p, cap, rfl, hc⟩ := S.form
  obtain ⟨d, ed⟩ : ∃ d, d = L.prs := ⟨_, rfl⟩
  rw [← ed] at S h1 h2 h3 hc ⊢
  have HQ' : Nf.pv.get (L.ms ov (.slice p L.prs.length cap)) = .slice p d.length cap := by rw [ed]; rfl
  rw [HQ'] at HQ
  have R0 := R
  clear R HQ'
  obtain ⟨cs, ecs⟩ : ∃ cs, cs = msgC (L.ms ov (.slice p L.prs.length cap)) := ⟨_, rfl⟩
  rw [← ed] at nS
  rw [← ecs] at R0 HQ
  clear ecs ed hm
  replace HQ := Lib.hid HQ
  have hnl := numL_length_le d.length (by omega)
  have e1 := I64_nat d.length (by omega)
  go_enter Tryz.func135, Tryz.ntmps135
  go_wp2_with ((first | ((with_reducible refine tLoad ?_); go_must (refine w_at _ _ rfl (by exact ev_tmp rfl) ?_; intro hx; (first | refine w_rowF M R0 n0 _ _ rfl hx rfl (by decide +kernel) HQ.out ?_); clear hx)) | (go_at_call 113; go_must (refine (Num_c _ _ l d.length (d.length : Int) rfl _ (by omega) (by omega) (M.ok 0 _ rfl)).mono ?_; rintro r w2 ⟨rfl, v1, U⟩; replace M := M.upd 0 rfl U; clear U; simp only [setC] at M)) | ((with_reducible refine tGuard ?_); refine gdS ?_) | fail | ((with_reducible refine tLoad ?_); go_must (refine ldS ?_)) | ((with_reducible refine tStore ?_); go_must (refine stS ?_; clear M; intro w1 M; (try simp only [setC] at M))) | ((with_reducible refine tBox _ ?_); (refine bxA M ?_; clear M; intro g w1 M))) <;> (try conv => arg 5; simp only [Act.put, List.setIfInBounds_toArray, setC]))
  have HB : ∀ (k : Nat) (x : List UInt8 × List UInt8), d[k]? = some x → (decide (d.length ≤ 48) && (d.take (k + 1)).all okP) = ((decide (d.length ≤ 48) && (d.take k).all okP) && okP x) := fun k x hx => by
    obtain ⟨hk, rfl⟩ := List.getElem?_eq_some_iff.1 hx
    rw [List.take_succ_eq_append_getElem hk, List.all_append, List.all_cons, List.all_nil, Bool.and_true, Bool.and_assoc]
  have HT : ∀ (k : Nat) (x : List UInt8 × List UInt8), d[k]? = some x → (d.take (k + 1)).flatMap prBm = (d.take k).flatMap prBm ++ (textL x.1 ++ textL x.2) := fun k x hx => by
    obtain ⟨hk, rfl⟩ := List.getElem?_eq_some_iff.1 hx
    rw [List.take_succ_eq_append_getElem hk, List.flatMap_append, List.flatMap_cons, List.flatMap_nil, List.append_nil]; rfl
  have HL : ∀ k, ((d.take k).flatMap prBm).length ≤ 100000 := fun k => by
    have : (d.take k).flatMap prBm ++ (d.drop k).flatMap prBm = d.flatMap prBm := by rw [← List.flatMap_append, List.take_append_drop]
    have := congrArg List.length this
    rw [List.length_append] at this
    omega
  have hfp : ∀ (v v' : Value) (l l' : List UInt8), True := fun _ _ _ _ => trivial
  clear hfp
  replace HB := Lib.hid HB
  replace HT := Lib.hid HT
  replace HL := Lib.hid HL
  clear h3
  go_loopw [5, 27] (fun bv iv wr => ∃ (k : Nat) (v1 : Value), k ≤ d.length ∧ iv = .int .i64 k ∧ bv = .bool (decide (d.length ≤ 48) && (d.take k).all okP) ∧ Mem (outC go v l).fp w wr [outC go v1 (l ++ (numL d.length ++ (d.take k).flatMap prBm))]) (fun _ iv _ => d.length - (intOf iv).toNat)
  case atStart => exact ⟨0, _, by omega, rfl, by simp; omega, by simpa using M⟩
  case round =>
    clear M
    obtain ⟨k, v1, hk, rfl, rfl, M⟩ := hrel
    have hB := HL.out k
    by_cases hlt : k < d.length
    · have S' := S.nowF M nS
      obtain ⟨g, so, rfl⟩ := S.addr (by omega)
      obtain ⟨⟨x, y⟩, hx⟩ : ∃ x, d[k]? = some x := ⟨_, List.getElem?_eq_getElem hlt⟩
      obtain ⟨hx1, hy1⟩ := h2 (x, y) (List.mem_of_getElem? hx)
      simp only at hx1 hy1
      have HB1 := HB.out k _ hx
      have HT1 := HT.out k _ hx
      simp only at HT1
      obtain ⟨b, eb⟩ : ∃ b, b = (decide (d.length ≤ 48) && (d.take k).all okP) := ⟨_, rfl⟩
      rw [← eb] at HB1 ⊢
      obtain ⟨z, ez⟩ : ∃ z, z = l ++ (numL d.length ++ (d.take k).flatMap prBm) := ⟨_, rfl⟩
      have hz : z.length ≤ 800010 := by rw [ez]; simp only [List.length_append]; omega
      have EZ : l ++ (numL d.length ++ (d.take (k + 1)).flatMap prBm) = z ++ textL x ++ textL y := by rw [HT1, ez]; simp only [List.append_assoc]
      rw [← ez] at M
      have hta : (textL x).length ≤ 100010 := by unfold textL; have := numL_length_le x.length (by omega); simp; omega
      replace EZ := Lib.hid EZ
      replace HB1 := Lib.hid HB1
      have HX := Lib.hid hx
      have hkt : (k : Int) < (d.length : Int) := by omega
      have hkt2 : decide ((k : Int) < (d.length : Int)) = true := decide_eq_true hkt
      clear ez eb HT1 hx hB
      cases b with
      | false =>
        go_wp2_with ((first | ((with_reducible show wpList _ _ _ (Oper.mk _ (Op.load 120 _) _ _ _ _ :: _) _ _); go_must (refine w_at _ _ rfl (by exact ev_tmp rfl) ?_; intro hx; refine w_seeNA S' HX.out _ _ rfl hx rfl (by decide +kernel) (by first | (with_reducible rfl) | omega) (by kernel_rfl) ?_; clear hx; (try conv => arg 5; simp only [Act.put, List.setIfInBounds_toArray, setC, prV_eq]))) | ((with_reducible refine tAlloc (some 7) 120 ?_); refine w_alloc M _ rfl rfl (.agg #[.string (mkS []), .string (mkS [])]) (prV ([], [])) (by kernel_rfl) rfl ?_; clear M; intro gx w1 M) | (go_at_call 80; go_must (refine (Out_Text_c _ _ _ _ _ (by omega) (by first | omega | (simp; omega)) (M.ok 1 _ rfl)).mono ?_; rintro e w2 ⟨rfl, v1, U⟩; replace M := M.upd 1 rfl U; clear U; simp only [setC] at M)) | ((with_reducible refine tGuard ?_); (with_reducible refine w_stripE ?_ ?_); (focus (refine ⟨_, rfl, ?_⟩; first | (with_reducible rfl) | exact decide_eq_false (by omega) | exact decide_eq_true (by omega)))) | ((with_reducible refine tGuard ?_); first | ((with_reducible refine w_skip1 ?_ ?_); (focus (refine ⟨_, rfl, ?_⟩; first | (with_reducible rfl) | exact decide_eq_false (by omega) | exact decide_eq_true (by omega)))) | ((with_reducible refine w_skip0 ?_ ?_); (focus (refine ⟨_, rfl, ?_⟩; first | (with_reducible rfl) | exact decide_eq_false (by omega) | exact decide_eq_true (by omega))))) | ((with_reducible refine tGuard ?_); refine gdS ?_) | fail | ((with_reducible refine tLoad ?_); go_must (refine ldS ?_)) | ((with_reducible refine tStore ?_); go_must (refine stS ?_; clear M; intro w1 M; (try simp only [setC] at M))) | ((with_reducible refine tBox _ ?_); (refine bxA M ?_; clear M; intro g w1 M))) <;> (try conv => arg 5; simp only [Act.put, List.setIfInBounds_toArray, setC]))
        go_roundw
        case rel => exact ⟨k + 1, _, by omega, by go_num, by rw [HB1.out]; rfl, by rw [EZ.out]; exact M.tail⟩
        case measure => simp [intOf]; omega
      | true =>
        by_cases hx33 : x.length ≤ 33
        · have hok : okP (x, y) = decide (y.length ≤ 32) := by unfold okP; rw [decide_eq_true hx33]; rfl
          replace hok := Lib.hid hok
          go_wp2_with ((first | ((with_reducible show wpList _ _ _ (Oper.mk _ (Op.load 120 _) _ _ _ _ :: _) _ _); go_must (refine w_at _ _ rfl (by exact ev_tmp rfl) ?_; intro hx; refine w_seeNA S' HX.out _ _ rfl hx rfl (by decide +kernel) (by first | (with_reducible rfl) | omega) (by kernel_rfl) ?_; clear hx; (try conv => arg 5; simp only [Act.put, List.setIfInBounds_toArray, setC, prV_eq]))) | ((with_reducible refine tAlloc (some 7) 120 ?_); refine w_alloc M _ rfl rfl (.agg #[.string (mkS []), .string (mkS [])]) (prV ([], [])) (by kernel_rfl) rfl ?_; clear M; intro gx w1 M) | (go_at_call 80; go_must (refine (Out_Text_c _ _ _ _ _ (by omega) (by first | omega | (simp; omega)) (M.ok 1 _ rfl)).mono ?_; rintro e w2 ⟨rfl, v1, U⟩; replace M := M.upd 1 rfl U; clear U; simp only [setC] at M)) | ((with_reducible refine tGuard ?_); (with_reducible refine w_stripE ?_ ?_); (focus (refine ⟨_, rfl, ?_⟩; first | (with_reducible rfl) | exact decide_eq_false (by omega) | exact decide_eq_true (by omega)))) | ((with_reducible refine tGuard ?_); first | ((with_reducible refine w_skip1 ?_ ?_); (focus (refine ⟨_, rfl, ?_⟩; first | (with_reducible rfl) | exact decide_eq_false (by omega) | exact decide_eq_true (by omega)))) | ((with_reducible refine w_skip0 ?_ ?_); (focus (refine ⟨_, rfl, ?_⟩; first | (with_reducible rfl) | exact decide_eq_false (by omega) | exact decide_eq_true (by omega))))) | ((with_reducible refine tGuard ?_); refine gdS ?_) | fail | ((with_reducible refine tLoad ?_); go_must (refine ldS ?_)) | ((with_reducible refine tStore ?_); go_must (refine stS ?_; clear M; intro w1 M; (try simp only [setC] at M))) | ((with_reducible refine tBox _ ?_); (refine bxA M ?_; clear M; intro g w1 M))) <;> (try conv => arg 5; simp only [Act.put, List.setIfInBounds_toArray, setC]))
          go_roundw
          case rel => exact ⟨k + 1, _, by omega, by go_num, by rw [HB1.out, hok.out, Bool.true_and, decide_eq_true (show (x.length : Int) ≤ 33 by omega), Bool.true_and]; simp; omega, by rw [EZ.out]; exact M.tail⟩
          case measure => simp [intOf]; omega
        · have hok : okP (x, y) = false := by unfold okP; rw [decide_eq_false hx33]; rfl
          replace hok := Lib.hid hok
          go_wp2_with ((first | ((with_reducible show wpList _ _ _ (Oper.mk _ (Op.load 120 _) _ _ _ _ :: _) _ _); go_must (refine w_at _ _ rfl (by exact ev_tmp rfl) ?_; intro hx; refine w_seeNA S' HX.out _ _ rfl hx rfl (by decide +kernel) (by first | (with_reducible rfl) | omega) (by kernel_rfl) ?_; clear hx; (try conv => arg 5; simp only [Act.put, List.setIfInBounds_toArray, setC, prV_eq]))) | ((with_reducible refine tAlloc (some 7) 120 ?_); refine w_alloc M _ rfl rfl (.agg #[.string (mkS []), .string (mkS [])]) (prV ([], [])) (by kernel_rfl) rfl ?_; clear M; intro gx w1 M) | (go_at_call 80; go_must (refine (Out_Text_c _ _ _ _ _ (by omega) (by first | omega | (simp; omega)) (M.ok 1 _ rfl)).mono ?_; rintro e w2 ⟨rfl, v1, U⟩; replace M := M.upd 1 rfl U; clear U; simp only [setC] at M)) | ((with_reducible refine tGuard ?_); (with_reducible refine w_stripE ?_ ?_); (focus (refine ⟨_, rfl, ?_⟩; first | (with_reducible rfl) | exact decide_eq_false (by omega) | exact decide_eq_true (by omega)))) | ((with_reducible refine tGuard ?_); first | ((with_reducible refine w_skip1 ?_ ?_); (focus (refine ⟨_, rfl, ?_⟩; first | (with_reducible rfl) | exact decide_eq_false (by omega) | exact decide_eq_true (by omega)))) | ((with_reducible refine w_skip0 ?_ ?_); (focus (refine ⟨_, rfl, ?_⟩; first | (with_reducible rfl) | exact decide_eq_false (by omega) | exact decide_eq_true (by omega))))) | ((with_reducible refine tGuard ?_); refine gdS ?_) | fail | ((with_reducible refine tLoad ?_); go_must (refine ldS ?_)) | ((with_reducible refine tStore ?_); go_must (refine stS ?_; clear M; intro w1 M; (try simp only [setC] at M))) | ((with_reducible refine tBox _ ?_); (refine bxA M ?_; clear M; intro g w1 M))) <;> (try conv => arg 5; simp only [Act.put, List.setIfInBounds_toArray, setC]))
          go_roundw
          case rel => exact ⟨k + 1, _, by omega, by go_num, by rw [HB1.out, hok.out]; rfl, by rw [EZ.out]; exact M.tail⟩
          case measure => simp [intOf]; omega
    · obtain rfl : k = d.length := by omega
      rw [List.take_length] at M ⊢
      go_wp2_with ((first | ((with_reducible refine tGuard ?_); refine gdS ?_) | fail | ((with_reducible refine tLoad ?_); go_must (refine ldS ?_)) | ((with_reducible refine tStore ?_); go_must (refine stS ?_; clear M; intro w1 M; (try simp only [setC] at M))) | ((with_reducible refine tBox _ ?_); (refine bxA M ?_; clear M; intro g w1 M))) <;> (try conv => arg 5; simp only [Act.put, List.setIfInBounds_toArray, setC]))
      go_ret
      exact ⟨rfl, _, M.upd1 0 rfl⟩
end Go.Proofs.YtidadhbaomieiaaGreat

/- A slice of operations, as a type. No conditions. -/
namespace Go.Proofs.YtidadhbaomieiaaGreat
open Go.RowKit Go.TL
set_option maxRecDepth 1000000 in
theorem opT : SliceT Tryz.prog 61 181 3 40 := ⟨Tryz.underlying61, ⟨_, _, rfl, rfl, rfl, rfl, rfl⟩, by omega⟩
end Go.Proofs.YtidadhbaomieiaaGreat

/- The walk of batch.Read. Conditions: lengths. -/
namespace Go
namespace TL
open Go.RowKit
def batR (i e r : Nat) (z : Value) : Value := .tuple #[.agg #[.int .i64 i, .int .i64 e, z], .int .i64 r]
end TL
end Go
namespace Go.Proofs.YtidadhbaomieiaaGreat
open Go.RowKit Go.TL
set_option maxRecDepth 100000 in
set_option maxHeartbeats 16000000 in
theorem bRead_c (s : List UInt8) (w : World) (hs : s.length ≤ 1000000) :
    Calls Tryz.prog 169 #[.string (mkS s)] w (Gives 3 opV (readB s).1.2.2 (batR (readB s).1.1 (readB s).1.2.1 (readB s).2) w) := by
  have M := (Mem.start [] w).nil 3
  have hst : (inStart s).fit := by unfold inStart InS.fit; simp; omega
  have RF := @readB_fin s
  have RB := @readB_bad s
  have RO := @readB_ok s
  obtain ⟨A, eA⟩ : ∃ A, A = readB s := ⟨_, rfl⟩
  rw [← eA] at RF RB RO ⊢
  clear eA
  have e3 : nums3 s = (((inStart s).most 4611686018427387904).1, ((inStart s).most 4611686018427387904).2.most 9223372036854775807 |>.1, (((inStart s).most 4611686018427387904).2.most 9223372036854775807).2.most 4) := rfl
  have T0 := fun g w h => Most_c g (inStart s) w h hst 4611686018427387904 4611686018427387904 rfl (by omega)
  have hf0 := InS.most_fit hst 4611686018427387904
  have hi0 := InS.most_le (inStart s) 4611686018427387904
  obtain ⟨⟨i, x0⟩, e0⟩ : ∃ R, R = (inStart s).most 4611686018427387904 := ⟨_, rfl⟩
  rw [← e0] at e3 T0 hf0 hi0
  simp only at e3 T0 hf0 hi0
  clear e0
  have T1 := fun g w h => Most_c g x0 w h hf0 9223372036854775807 9223372036854775807 rfl (by omega)
  have hf1 := InS.most_fit hf0 9223372036854775807
  have hi1 := InS.most_le x0 9223372036854775807
  obtain ⟨⟨e, x1⟩, e1⟩ : ∃ R, R = x0.most 9223372036854775807 := ⟨_, rfl⟩
  rw [← e1] at e3 T1 hf1 hi1
  simp only at e3 T1 hf1 hi1
  clear e1
  have T2 := fun g w h => Most_c g x1 w h hf1 4 4 rfl (by omega)
  have hf2 := InS.most_fit hf1 4
  have hi2 := InS.most_le x1 4
  obtain ⟨⟨n0, x2⟩, e2⟩ : ∃ R, R = x1.most 4 := ⟨_, rfl⟩
  rw [← e2] at e3 T2 hf2 hi2
  simp only at e3 T2 hf2 hi2
  clear e2
  replace RF := fun d x => @RF i e n0 x2 x d e3
  replace RB := fun d x r => @RB i e n0 x2 x d r e3
  replace RO := fun d x => @RO i e n0 x2 x d e3
  replace RF := Lib.hid RF
  replace RB := Lib.hid RB
  replace RO := Lib.hid RO
  replace T0 := Lib.hid T0
  replace T1 := Lib.hid T1
  replace T2 := Lib.hid T2
  clear e3
  go_enter Tryz.func169, Tryz.ntmps169
  go_wp2_with ((first | ((with_reducible refine tAlloc (some 2) 63 ?_); refine w_alloc M _ rfl rfl (.agg #[.int .i64 0, .int .i64 0, .slice none 0 0]) ([.int .i64 0, .int .i64 0, .slice none 0 0]) (by kernel_rfl) rfl ?_; clear M; intro gr w1 M) | (go_at_call 57; go_must (refine (packOf_c _ _).mono ?_; rintro e w1 ⟨gi, rfl, MP⟩; replace M := M.join MP; clear MP; simp only [List.cons_append, List.nil_append] at M)) | (go_at_call 58; go_must (first | ((first | (with_reducible refine (T0.out gi _ (M.ok 0 _ rfl)).mono ?_) | (with_reducible refine (T1.out gi _ (M.ok 0 _ rfl)).mono ?_)); rintro e w1 ⟨rfl, U⟩; replace M := M.upd 0 rfl U; clear U; simp only [List.set_cons_zero] at M) | ((with_reducible refine (T2.out gi _ (M.ok 1 _ rfl)).mono ?_); rintro e w1 ⟨rfl, U⟩; replace M := M.upd 1 rfl U; clear U; simp only [List.set_cons_zero, List.set_cons_succ] at M))) | ((with_reducible refine tAlloc (some 5) 63 ?_); refine w_alloc M _ rfl rfl (.agg #[.int .i64 0, .int .i64 0, .slice none 0 0]) ([.int .i64 0, .int .i64 0, .slice none 0 0]) (by kernel_rfl) rfl ?_; clear M; intro gb w1 M) | ((with_reducible refine tGuard ?_); refine gdS ?_) | fail | ((with_reducible refine tLoad ?_); go_must (refine ldS ?_)) | ((with_reducible refine tStore ?_); go_must (refine stS ?_; clear M; intro w1 M; (try simp only [setC] at M))) | ((with_reducible refine tBox _ ?_); (refine bxA M ?_; clear M; intro g w1 M))) <;> (try conv => arg 5; simp only [Act.put, List.setIfInBounds_toArray, setC]))
  clear T0 T1 T2
  go_loopw [6] (fun nv wr => ∃ (m : Nat) (d : List Opr) (x : InS) (q : Option Addr) (c : Nat), nv = .int .i64 m ∧ x.fit ∧ d.length + m ≤ 4 ∧ Hid (rdOps n0 x2 = (d ++ (rdOps m x).1, (rdOps m x).2) ∧ ∀ y ∈ d, y.2.1.length ≤ 33 ∧ y.2.2.length ≤ 32) ∧ Mem [] w wr [.row gb [.int .i64 i, .int .i64 e, .slice q d.length c], .row gi (inV x), .row gr [.int .i64 0, .int .i64 0, .slice none 0 0], .sl 3 (.slice q d.length c) d.length (d.flatMap opV)]) (fun nv _ => (intOf nv).toNat)
  case atStart => exact ⟨n0, [], x2, none, 0, rfl, hf2, by simp; omega, Lib.hid ⟨by simp, by simp⟩, M⟩
  case round =>
    clear M
    obtain ⟨m, d, x, q, c, rfl, hf, hdm, HR, M⟩ := hrel
    cases m with
    | zero =>
      have hR : rdOps n0 x2 = (d, x) := by simpa [rdO_zero] using HR.out.1
      have hm := HR.out.2
      have RA := RF.out d x hR
      have RC := RB.out d x
      have RD := RO.out d x hR
      replace RC := fun r => RC r hR
      clear hR
      by_cases hfin : x.fin = 0
      · have P := fun w S => bRight_c i e d (.slice q d.length c) w S (by omega) (fun y hy => by have := hm y hy; omega)
        replace RC := RC _ hfin rfl
        replace RD := RD hfin
        obtain ⟨pe, ep⟩ : ∃ R, R = rightB i e d := ⟨_, rfl⟩
        rw [← ep] at P RC RD
        replace RC := Lib.hid RC
        replace RD := Lib.hid RD
        replace P := Lib.hid P
        have E := fun w h => End_c gi x w h hf
        rw [hfin] at E
        replace E := Lib.hid E
        clear ep hfin RA
        by_cases hpe : pe = 0
        · subst hpe
          have e0 := RD.out rfl
          subst e0
          clear RC RD
          go_wp2_with ((first | (go_at_call 62; go_must (refine (E.out _ (M.ok 1 _ rfl)).mono ?_; rintro e w1 ⟨rfl, hb⟩; replace M := M.call hb; clear hb)) | (go_at_call 187; go_must (refine (P.out _ (SeesL.own M 3 rfl rfl opV_len)).mono ?_; rintro e w1 ⟨rfl, hb⟩; replace M := M.call hb; clear hb)) | ((with_reducible refine tGuard ?_); refine gdS ?_) | fail | ((with_reducible refine tLoad ?_); go_must (refine ldS ?_)) | ((with_reducible refine tStore ?_); go_must (refine stS ?_; clear M; intro w1 M; (try simp only [setC] at M))) | ((with_reducible refine tBox _ ?_); (refine bxA M ?_; clear M; intro g w1 M))) <;> (try conv => arg 5; simp only [Act.put, List.setIfInBounds_toArray, setC]))
          refine bodyPost_ret (results_row2 rfl _ _ gr 0 [.int .i64 i, .int .i64 e, .slice q d.length c] _ (.int .i64 ((0 : Nat) : Int)) rfl rfl (M.ok 2 _ rfl).2.1 Tryz.underlying63 rfl (by kernel_rfl)) rfl (Gives.at (r := batR i e 0) M 3 rfl)
        · have e0 := RC.out hpe
          subst e0
          clear RC RD
          have hz : ((pe : Int) == 0) = false := by simp; exact hpe
          have hz' : ((pe : Int) != 0) = true := by simp; exact hpe
          clear hpe
          go_wp2_with ((first | (go_at_call 62; go_must (refine (E.out _ (M.ok 1 _ rfl)).mono ?_; rintro e w1 ⟨rfl, hb⟩; replace M := M.call hb; clear hb)) | (go_at_call 187; go_must (refine (P.out _ (SeesL.own M 3 rfl rfl opV_len)).mono ?_; rintro e w1 ⟨rfl, hb⟩; replace M := M.call hb; clear hb)) | ((with_reducible refine tGuard ?_); refine gdS ?_) | fail | ((with_reducible refine tLoad ?_); go_must (refine ldS ?_)) | ((with_reducible refine tStore ?_); go_must (refine stS ?_; clear M; intro w1 M; (try simp only [setC] at M))) | ((with_reducible refine tBox _ ?_); (refine bxA M ?_; clear M; intro g w1 M))) <;> (try conv => arg 5; simp only [Act.put, List.setIfInBounds_toArray, setC]))
          refine bodyPost_ret (results_row2 rfl _ _ gr 0 [.int .i64 0, .int .i64 0, .slice none 0 0] _ (.int .i64 ((pe : Nat) : Int)) rfl rfl (M.ok 2 _ rfl).2.1 Tryz.underlying63 rfl (by kernel_rfl)) rfl (Gives.intro (r := batR 0 0 pe) (p := none) (cap := 0) (M.nil 3))
      · have e0 := RA hfin
        have E := fun w h => End_c gi x w h hf
        obtain ⟨fe, efe⟩ : ∃ f, f = x.fin := ⟨_, rfl⟩
        rw [← efe] at e0 E hfin
        subst e0
        replace E := Lib.hid E
        clear RA RC RD efe
        have hz : ((fe : Int) == 0) = false := by simp; exact hfin
        have hz' : ((fe : Int) != 0) = true := by simp; exact hfin
        clear hfin
        go_wp2_with ((first | (go_at_call 62; go_must (refine (E.out _ (M.ok 1 _ rfl)).mono ?_; rintro e w1 ⟨rfl, hb⟩; replace M := M.call hb; clear hb)) | ((with_reducible refine tGuard ?_); refine gdS ?_) | fail | ((with_reducible refine tLoad ?_); go_must (refine ldS ?_)) | ((with_reducible refine tStore ?_); go_must (refine stS ?_; clear M; intro w1 M; (try simp only [setC] at M))) | ((with_reducible refine tBox _ ?_); (refine bxA M ?_; clear M; intro g w1 M))) <;> (try conv => arg 5; simp only [Act.put, List.setIfInBounds_toArray, setC]))
        refine bodyPost_ret (results_row2 rfl _ _ gr 0 [.int .i64 0, .int .i64 0, .slice none 0 0] _ (.int .i64 ((fe : Nat) : Int)) rfl rfl (M.ok 2 _ rfl).2.1 Tryz.underlying63 rfl (by kernel_rfl)) rfl (Gives.intro (r := batR 0 0 fe) (p := none) (cap := 0) (M.nil 3))
    | succ m =>
      obtain ⟨ki, hki⟩ := InS.byte_q x
      have hf1 := InS.byte_fit hf
      have B := fun g w h => In_Byte_c g x w h hf
      have GE := @rdO_err m ki.toNat x
      have GK := @rdO_kind m ki x
      have GP := fun x1 (h : x.byte = (ki.toNat, x1)) (h1 : ki = 1) => @rdO_put m x x1 (by rw [h, h1])
      have GD := fun x1 (h : x.byte = (ki.toNat, x1)) (h1 : ki = 2) => @rdO_del m x x1 (by rw [h, h1])
      obtain ⟨⟨nb, x3⟩, e1⟩ : ∃ R, R = x.byte := ⟨_, rfl⟩
      rw [← e1] at hki hf1 B GE GK GP GD
      simp only at hki hf1 B
      subst hki
      simp only [← I8_eq] at B
      replace GE := GE rfl
      replace GK := GK rfl
      replace GP := GP _ rfl
      replace GD := GD _ rfl
      replace B := Lib.hid B
      clear e1
      by_cases he : x3.err = 0
      · have HE := Lib.hid he
        replace GK := GK he
        clear he GE
        by_cases hq : ki = 1 ∨ ki = 2
        · clear GK
          have hf4 := InS.text_fit hf1 33
          have hp := InS.text_len x3 33
          have T1 := fun g w h => In_Text_c g x3 w h hf1 33 33 rfl (by omega)
          replace GP := fun h => GP h HE.out
          replace GD := fun h => GD h HE.out
          obtain ⟨⟨pa, x4⟩, e1⟩ : ∃ R, R = x3.text 33 := ⟨_, rfl⟩
          rw [← e1] at hf4 hp T1 GP GD
          simp only at hf4 hp T1 GP GD
          replace T1 := Lib.hid T1
          clear e1
          by_cases h1 : ki = 1
          · replace GP := GP h1
            clear GD hq
            subst h1
            have hf5 := InS.text_fit hf4 32
            have hv := InS.text_len x4 32
            have T2 := fun g w h => In_Text_c g x4 w h hf4 32 32 rfl (by omega)
            obtain ⟨⟨va, x5⟩, e2⟩ : ∃ R, R = x4.text 32 := ⟨_, rfl⟩
            rw [← e2] at hf5 hv T2 GP
            simp only at hf5 hv T2 GP
            replace T2 := Lib.hid T2
            replace GP := Lib.hid GP
            clear e2
            go_wp2_with ((first | ((with_reducible refine tGuard ?_); (with_reducible refine w_stripE ?_ ?_); (focus (refine ⟨_, rfl, ?_⟩; first | (with_reducible rfl) | exact decide_eq_false (by omega) | exact decide_eq_true (by omega)))) | ((with_reducible refine tGuard ?_); first | ((with_reducible refine w_skip1 ?_ ?_); (focus (refine ⟨_, rfl, ?_⟩; first | (with_reducible rfl) | exact decide_eq_false (by omega) | exact decide_eq_true (by omega)))) | ((with_reducible refine w_skip0 ?_ ?_); (focus (refine ⟨_, rfl, ?_⟩; first | (with_reducible rfl) | exact decide_eq_false (by omega) | exact decide_eq_true (by omega))))) | (go_at_call 61; go_must (refine (B.out _ _ (M.ok 1 _ rfl)).mono ?_; rintro e w1 ⟨rfl, U⟩; replace M := M.upd 1 rfl U; clear U; simp only [List.set_cons_zero, List.set_cons_succ] at M)) | (go_at_call 60; go_must ((first | (with_reducible refine (T1.out _ _ (M.ok 2 _ rfl)).mono ?_) | (with_reducible refine (T2.out _ _ (M.ok 2 _ rfl)).mono ?_)); rintro e w1 ⟨rfl, U⟩; replace M := M.upd 2 rfl U; clear U; simp only [List.set_cons_zero, List.set_cons_succ] at M)) | ((with_reducible refine tAlloc (some 7) 181 ?_); refine w_alloc M _ rfl rfl (.agg #[.int .u8 0, .string (mkS []), .string (mkS [])]) (opV (0, [], [])) (by kernel_rfl) rfl ?_; clear M; intro gp w1 M) | (go_at_call 92; go_must (refine (Fault_ok _ _ _ (M.ok 2 _ rfl) HE.out).mono ?_; rintro e w1 ⟨rfl, rfl⟩)) | ((with_reducible show wpList _ _ _ (Oper.mk _ (Op.buildSlice _ 1 _) _ _ _ _ :: _) _ _); go_must (refine w_buildSlice1 M opT (by decide) _ rfl rfl (by first | exact ev_tmp rfl | exact ev_const) _ rfl rfl ?_; clear M; intro g w1 M)) | ((with_reducible refine tApp ?_); go_must (refine w_append_new M 4 opT _ _ rfl rfl rfl rfl rfl rfl (by first | decide | (intro q hq; simp at hq; subst hq; rfl) | (intro q hq; simp at hq; rcases hq with rfl | rfl; rfl; rfl) | (intro q hq; simp at hq; rcases hq with rfl | rfl | rfl <;> rfl)) (by decide) (by first | (simp only [maxLen]; omega) | (simp [maxLen]; omega)) (by first | omega | (simp; omega)) ?_; clear M; intro q cap w1 M; (try simp only [setC] at M))) | ((with_reducible refine tGuard ?_); refine gdS ?_) | fail | ((with_reducible refine tLoad ?_); go_must (refine ldS ?_)) | ((with_reducible refine tStore ?_); go_must (refine stS ?_; clear M; intro w1 M; (try simp only [setC] at M))) | ((with_reducible refine tBox _ ?_); (refine bxA M ?_; clear M; intro g w1 M))) <;> (try conv => arg 5; simp only [Act.put, List.setIfInBounds_toArray, setC]))
            go_roundw
            case rel => exact ⟨m, d ++ [(1, pa, va)], x5, q, cap, by go_num, hf5, by simp; omega, Lib.hid ⟨by rw [HR.out.1, GP.out]; simp, fun y hy => by
              rcases List.mem_append.1 hy with hy | hy
              · exact HR.out.2 y hy
              · obtain rfl : y = (1, pa, va) := by simpa using hy
                exact ⟨hp, hv⟩⟩, by simpa [opV] using M.tail⟩
            case measure => simp [intOf]
          · have h2 : ki = 2 := hq.resolve_left h1
            replace GD := GD h2
            clear GP hq h1
            subst h2
            replace GD := Lib.hid GD
            go_wp2_with ((first | ((with_reducible refine tGuard ?_); (with_reducible refine w_stripE ?_ ?_); (focus (refine ⟨_, rfl, ?_⟩; first | (with_reducible rfl) | exact decide_eq_false (by omega) | exact decide_eq_true (by omega)))) | ((with_reducible refine tGuard ?_); first | ((with_reducible refine w_skip1 ?_ ?_); (focus (refine ⟨_, rfl, ?_⟩; first | (with_reducible rfl) | exact decide_eq_false (by omega) | exact decide_eq_true (by omega)))) | ((with_reducible refine w_skip0 ?_ ?_); (focus (refine ⟨_, rfl, ?_⟩; first | (with_reducible rfl) | exact decide_eq_false (by omega) | exact decide_eq_true (by omega))))) | (go_at_call 61; go_must (refine (B.out _ _ (M.ok 1 _ rfl)).mono ?_; rintro e w1 ⟨rfl, U⟩; replace M := M.upd 1 rfl U; clear U; simp only [List.set_cons_zero, List.set_cons_succ] at M)) | (go_at_call 60; go_must (refine (T1.out _ _ (M.ok 2 _ rfl)).mono ?_; rintro e w1 ⟨rfl, U⟩; replace M := M.upd 2 rfl U; clear U; simp only [List.set_cons_zero, List.set_cons_succ] at M)) | ((with_reducible refine tAlloc (some 7) 181 ?_); refine w_alloc M _ rfl rfl (.agg #[.int .u8 0, .string (mkS []), .string (mkS [])]) (opV (0, [], [])) (by kernel_rfl) rfl ?_; clear M; intro gp w1 M) | (go_at_call 92; go_must (refine (Fault_ok _ _ _ (M.ok 2 _ rfl) HE.out).mono ?_; rintro e w1 ⟨rfl, rfl⟩)) | ((with_reducible show wpList _ _ _ (Oper.mk _ (Op.buildSlice _ 1 _) _ _ _ _ :: _) _ _); go_must (refine w_buildSlice1 M opT (by decide) _ rfl rfl (by first | exact ev_tmp rfl | exact ev_const) _ rfl rfl ?_; clear M; intro g w1 M)) | ((with_reducible refine tApp ?_); go_must (refine w_append_new M 4 opT _ _ rfl rfl rfl rfl rfl rfl (by first | decide | (intro q hq; simp at hq; subst hq; rfl) | (intro q hq; simp at hq; rcases hq with rfl | rfl; rfl; rfl) | (intro q hq; simp at hq; rcases hq with rfl | rfl | rfl <;> rfl)) (by decide) (by first | (simp only [maxLen]; omega) | (simp [maxLen]; omega)) (by first | omega | (simp; omega)) ?_; clear M; intro q cap w1 M; (try simp only [setC] at M))) | ((with_reducible refine tGuard ?_); refine gdS ?_) | fail | ((with_reducible refine tLoad ?_); go_must (refine ldS ?_)) | ((with_reducible refine tStore ?_); go_must (refine stS ?_; clear M; intro w1 M; (try simp only [setC] at M))) | ((with_reducible refine tBox _ ?_); (refine bxA M ?_; clear M; intro g w1 M))) <;> (try conv => arg 5; simp only [Act.put, List.setIfInBounds_toArray, setC]))
            go_roundw
            case rel => exact ⟨m, d ++ [(2, pa, [])], x4, q, cap, by go_num, hf4, by simp; omega, Lib.hid ⟨by rw [HR.out.1, GD.out]; simp, fun y hy => by
              rcases List.mem_append.1 hy with hy | hy
              · exact HR.out.2 y hy
              · obtain rfl : y = (2, pa, []) := by simpa using hy
                exact ⟨hp, by simp⟩⟩, by simpa [opV] using M.tail⟩
            case measure => simp [intOf]
        · replace GK := GK hq
          have hR : rdOps n0 x2 = (d, x3.bad 10) := by rw [HR.out.1, GK]; simp
          have e0 := RF.out _ _ hR (by rw [bad_fin _ (by decide)]; decide)
          rw [bad_fin _ (by decide)] at e0
          obtain ⟨h1, h1'⟩ := I8_ne (q := ki) (c := 1) (fun h => hq (.inl h))
          obtain ⟨h2, h2'⟩ := I8_ne (q := ki) (c := 2) (fun h => hq (.inr h))
          rw [show I8 1 = 1 from rfl] at h1 h1'
          rw [show I8 2 = 2 from rfl] at h2 h2'
          subst e0
          clear hq GK GP GD hR
          go_wp2_with ((first | ((with_reducible refine tGuard ?_); (with_reducible refine w_stripE ?_ ?_); (focus (refine ⟨_, rfl, ?_⟩; first | (with_reducible rfl) | exact decide_eq_false (by omega) | exact decide_eq_true (by omega)))) | ((with_reducible refine tGuard ?_); first | ((with_reducible refine w_skip1 ?_ ?_); (focus (refine ⟨_, rfl, ?_⟩; first | (with_reducible rfl) | exact decide_eq_false (by omega) | exact decide_eq_true (by omega)))) | ((with_reducible refine w_skip0 ?_ ?_); (focus (refine ⟨_, rfl, ?_⟩; first | (with_reducible rfl) | exact decide_eq_false (by omega) | exact decide_eq_true (by omega))))) | (go_at_call 61; go_must (refine (B.out _ _ (M.ok 1 _ rfl)).mono ?_; rintro e w1 ⟨rfl, U⟩; replace M := M.upd 1 rfl U; clear U; simp only [List.set_cons_zero, List.set_cons_succ] at M)) | ((with_reducible refine tAlloc (some 7) 181 ?_); refine w_alloc M _ rfl rfl (.agg #[.int .u8 0, .string (mkS []), .string (mkS [])]) (opV (0, [], [])) (by kernel_rfl) rfl ?_; clear M; intro gp w1 M) | (go_at_call 92; go_must (refine (Fault_ok _ _ _ (M.ok 2 _ rfl) HE.out).mono ?_; rintro e w1 ⟨rfl, rfl⟩)) | ((with_reducible refine tGuard ?_); refine gdS ?_) | fail | ((with_reducible refine tLoad ?_); go_must (refine ldS ?_)) | ((with_reducible refine tStore ?_); go_must (refine stS ?_; clear M; intro w1 M; (try simp only [setC] at M))) | ((with_reducible refine tBox _ ?_); (refine bxA M ?_; clear M; intro g w1 M))) <;> (try conv => arg 5; simp only [Act.put, List.setIfInBounds_toArray, setC]))
          refine bodyPost_ret (results_row2 rfl _ _ gr 0 [.int .i64 0, .int .i64 0, .slice none 0 0] _ (.int .i64 ((10 : Nat) : Int)) rfl rfl (M.ok 3 _ rfl).2.1 Tryz.underlying63 rfl (by kernel_rfl)) rfl (Gives.intro (r := batR 0 0 10) (p := none) (cap := 0) (M.nil 3))
      · have HE := Lib.hid he
        replace GE := GE he
        have hR : rdOps n0 x2 = (d, x3) := by rw [HR.out.1, GE]; simp
        have e0 := RF.out _ _ hR (by rw [fin_err he]; exact he)
        rw [fin_err he] at e0
        obtain ⟨fe, efe⟩ : ∃ f, f = x3.err := ⟨_, rfl⟩
        have F := fun w h => Fault_no gi x3 w h HE.out
        rw [← efe] at e0 F HE
        have HF := HE.out
        have hz : ((fe : Int) == 0) = false := by simp; exact HF
        have hz' : ((fe : Int) != 0) = true := by simp; exact HF
        replace F := Lib.hid F
        subst e0
        clear efe hR HF he GE GK GP GD
        go_wp2_with ((first | (go_at_call 61; go_must (refine (B.out _ _ (M.ok 1 _ rfl)).mono ?_; rintro e w1 ⟨rfl, U⟩; replace M := M.upd 1 rfl U; clear U; simp only [List.set_cons_zero, List.set_cons_succ] at M)) | ((with_reducible refine tAlloc (some 7) 181 ?_); refine w_alloc M _ rfl rfl (.agg #[.int .u8 0, .string (mkS []), .string (mkS [])]) (opV (0, [], [])) (by kernel_rfl) rfl ?_; clear M; intro gp w1 M) | (go_at_call 92; go_must (refine (F.out _ (M.ok 2 _ rfl)).mono ?_; rintro e w1 ⟨rfl, hb⟩; replace M := M.call hb; clear hb)) | ((with_reducible refine tGuard ?_); refine gdS ?_) | fail | ((with_reducible refine tLoad ?_); go_must (refine ldS ?_)) | ((with_reducible refine tStore ?_); go_must (refine stS ?_; clear M; intro w1 M; (try simp only [setC] at M))) | ((with_reducible refine tBox _ ?_); (refine bxA M ?_; clear M; intro g w1 M))) <;> (try conv => arg 5; simp only [Act.put, List.setIfInBounds_toArray, setC]))
        refine bodyPost_ret (results_row2 rfl _ _ gr 0 [.int .i64 0, .int .i64 0, .slice none 0 0] _ (.int .i64 ((fe : Nat) : Int)) rfl rfl (M.ok 3 _ rfl).2.1 Tryz.underlying63 rfl (by kernel_rfl)) rfl (Gives.intro (r := batR 0 0 fe) (p := none) (cap := 0) (M.nil 3))
end Go.Proofs.YtidadhbaomieiaaGreat

/- The walks of layer 18's fields that are read: a batch, pairs. Conditions: lengths. -/
namespace Go
namespace TL
open Go.RowKit
theorem Mem.sel {F : List Nat} {w0 w : World} {L : List Chunk} (M : Mem F w0 w L) (is : List Nat) (L' : List Chunk) (hd : is.Nodup) (hl : L'.map some = is.map (L[·]?)) : Mem F w0 w L' := by
  have hn : L'.length = is.length := by simpa using congrArg List.length hl
  have key : ∀ (i : Nat) (c : Chunk), L'[i]? = some c → ∃ k, is[i]? = some k ∧ L[k]? = some c := fun i c h => by
    have h2 := congrArg (fun l : List (Option Chunk) => l[i]?) hl
    simp only [List.getElem?_map, h, Option.map_some] at h2
    cases hk : is[i]? with
    | none => rw [hk] at h2; cases h2
    | some k => rw [hk] at h2; simp only [Option.map_some, Option.some.injEq] at h2; exact ⟨k, rfl, h2.symm⟩
  refine M.pick L' (fun i => is.getD i 0) (fun i j hi hj h => ?_) fun i c h => ?_
  · have hi' : i < is.length := by omega
    have hj' : j < is.length := by omega
    simp only [List.getD_eq_getElem?_getD, List.getElem?_eq_getElem hi', List.getElem?_eq_getElem hj', Option.getD_some] at h
    exact (List.getElem_inj hd).1 h
  · obtain ⟨k, hk, hc⟩ := key i c h
    simp only [List.getD_eq_getElem?_getD, hk, Option.getD_some]
    exact hc
theorem sl_form {w : World} {size n : Nat} {v : Value} {xs : List Value} (h : (Chunk.sl size v n xs).ok w) : ∃ p cap, v = .slice p n cap := by
  obtain ⟨p, cap, e, _⟩ := (Own.sees h).form; exact ⟨p, cap, e⟩
end TL
end Go
namespace Go.Proofs.YtidadhbaomieiaaGreat
open Go.RowKit Go.TL
set_option maxRecDepth 100000 in
set_option maxHeartbeats 8000000 in
theorem getBatch_c (L : Lm) (ov pv : Value) (gm gi : Nat) (x : InS) (F : List Nat) (w : World) (hL : L.fit) (hf : x.fit)
    (M : Mem F w w [.row gi (inV x), .row gm (msgC (L.ms ov pv)), .sl 3 ov L.ops.length (L.ops.flatMap opV), .sl 2 pv L.prs.length (L.prs.flatMap prV)]) :
    Calls Tryz.prog 134 #[.pointer (some ⟨gi, 0, none⟩), .pointer (some ⟨gm, 0, none⟩)] w fun e w' => e = .returned (.int .i64 (Fld.bat.get L x).1) ∧ ∃ ov', Mem F w w' [.row gi (inV (Fld.bat.get L x).2.2), .row gm (msgC ((Fld.bat.get L x).2.1.ms ov' pv)), .sl 3 ov' (Fld.bat.get L x).2.1.ops.length ((Fld.bat.get L x).2.1.ops.flatMap opV), .sl 2 pv (Fld.bat.get L x).2.1.prs.length ((Fld.bat.get L x).2.1.prs.flatMap prV)] := by
  obtain ⟨op, oc, rfl⟩ := sl_form (M.ok 2 _ rfl)
  obtain ⟨pp, pc, rfl⟩ := sl_form (M.ok 3 _ rfl)
  have T := fun g w h => In_Text_c g x w h hf 512 512 rfl (by omega)
  have hl := InS.text_len x 512
  have hfit := Lm.ms_fit hL (ov := .slice op L.ops.length oc) (pv := .slice pp L.prs.length pc) rfl rfl
  simp only [Fld.get]
  obtain ⟨⟨s, y⟩, ey⟩ : ∃ R, R = x.text 512 := ⟨_, rfl⟩
  rw [← ey] at T hl ⊢
  simp only at T hl ⊢
  clear ey
  replace T := Lib.hid T
  replace hL := Lib.hid hL
  by_cases hy : y.err = 0
  · rw [if_pos hy]
    have Y := fun w => bRead_c s w (by omega)
    obtain ⟨⟨⟨i, e, d⟩, r⟩, er⟩ : ∃ R, R = readB s := ⟨_, rfl⟩
    rw [← er] at Y ⊢
    simp only at Y ⊢
    clear er
    replace Y := Lib.hid Y
    have HY := Lib.hid hy
    clear hy
    go_enter Tryz.func134, Tryz.ntmps134
    go_wp2_with ((first | (go_at_call 60; go_must (refine (T.out gi _ (M.ok 0 _ rfl)).mono ?_; rintro e w1 ⟨rfl, U⟩; replace M := M.upd 0 rfl U; clear U; simp only [setC] at M)) | (go_at_call 92; go_must (refine (Fault_ok gi y _ (M.ok 0 _ rfl) HY.out).mono ?_; rintro e w1 ⟨rfl, rfl⟩)) | (go_at_call 169; go_must (refine (Y.out _).mono ?_; rintro e w1 ⟨q, c, rfl, N⟩; simp only [batR]; replace M := M.join N; clear N; simp only [List.cons_append, List.nil_append] at M)) | ((with_reducible refine tAlloc (some 8) 63 ?_); refine w_alloc M _ rfl rfl (.agg #[.int .i64 0, .int .i64 0, .slice none 0 0]) ([.int .i64 0, .int .i64 0, .slice none 0 0]) (by kernel_rfl) rfl ?_; clear M; intro gb w1 M) | ((with_reducible refine tStore ?_); refine w_at2 _ _ _ rfl (by exact ev_tmp rfl) (by first | exact ev_tmp rfl | exact ev_const) ?_; intro hx hy; (refine w_storeBt M 3 _ _ _ rfl rfl hx rfl hy (by decide +kernel) rfl ?_); clear hx hy M; intro w1 M; (try simp only [setC] at M)) | ((with_reducible refine tGuard ?_); refine gdS ?_) | fail | ((with_reducible refine tLoad ?_); go_must (refine ldS ?_)) | ((with_reducible refine tStore ?_); go_must (refine stS ?_; clear M; intro w1 M; (try simp only [setC] at M))) | ((with_reducible refine tBox _ ?_); (refine bxA M ?_; clear M; intro g w1 M))) <;> (try conv => arg 5; simp only [Act.put, List.setIfInBounds_toArray, setC]))
    go_ret
    exact ⟨rfl, _, M.sel [2, 3, 1, 5] _ (by decide) rfl⟩
  · rw [if_neg hy]
    simp only
    have HY := Lib.hid hy
    obtain ⟨r, er⟩ : ∃ r, r = y.err := ⟨_, rfl⟩
    rw [← er] at hy
    have hz : ((r : Int) == 0) = false := by simp; exact hy
    have hz' : ((r : Int) != 0) = true := by simp; exact hy
    rw [← er]
    have N := fun w h => Fault_no gi y w h HY.out
    rw [← er] at N
    replace N := Lib.hid N
    clear hy er
    go_enter Tryz.func134, Tryz.ntmps134
    go_wp2_with ((first | (go_at_call 60; go_must (refine (T.out gi _ (M.ok 0 _ rfl)).mono ?_; rintro e w1 ⟨rfl, U⟩; replace M := M.upd 0 rfl U; clear U; simp only [setC] at M)) | (go_at_call 92; go_must (refine (N.out _ (M.ok 0 _ rfl)).mono ?_; rintro e w1 ⟨rfl, hb⟩; replace M := M.call hb; clear hb)) | ((with_reducible refine tGuard ?_); refine gdS ?_) | fail | ((with_reducible refine tLoad ?_); go_must (refine ldS ?_)) | ((with_reducible refine tStore ?_); go_must (refine stS ?_; clear M; intro w1 M; (try simp only [setC] at M))) | ((with_reducible refine tBox _ ?_); (refine bxA M ?_; clear M; intro g w1 M))) <;> (try conv => arg 5; simp only [Act.put, List.setIfInBounds_toArray, setC]))
    go_ret
    exact ⟨rfl, _, M⟩
set_option maxRecDepth 100000 in
theorem pairT18 : SliceT Tryz.prog 65 120 2 32 := ⟨Tryz.underlying65, ⟨_, _, rfl, rfl, rfl, rfl, rfl⟩, by omega⟩
set_option maxRecDepth 100000 in
set_option maxHeartbeats 8000000 in
theorem getPairs_c (L : Lm) (ov pv : Value) (gm gi : Nat) (x : InS) (F : List Nat) (w : World) (hL : L.fit) (hf : x.fit) (hp : L.prs.length ≤ 1000)
    (M : Mem F w w [.row gi (inV x), .row gm (msgC (L.ms ov pv)), .sl 3 ov L.ops.length (L.ops.flatMap opV), .sl 2 pv L.prs.length (L.prs.flatMap prV)]) :
    Calls Tryz.prog 136 #[.pointer (some ⟨gi, 0, none⟩), .pointer (some ⟨gm, 0, none⟩)] w fun e w' => e = .returned (.int .i64 0) ∧ ∃ pv', Mem F w w' [.row gi (inV (Fld.prs.get L x).2.2), .row gm (msgC ((Fld.prs.get L x).2.1.ms ov pv')), .sl 3 ov (Fld.prs.get L x).2.1.ops.length ((Fld.prs.get L x).2.1.ops.flatMap opV), .sl 2 pv' (Fld.prs.get L x).2.1.prs.length ((Fld.prs.get L x).2.1.prs.flatMap prV)] := by
  obtain ⟨op, oc, rfl⟩ := sl_form (M.ok 2 _ rfl)
  obtain ⟨pp, pc, rfl⟩ := sl_form (M.ok 3 _ rfl)
  have T := fun g w h => Most_c g x w h hf 48 48 rfl (by omega)
  have hf0 := InS.most_fit hf 48
  have hn := InS.most_le x 48
  simp only [Fld.get]
  obtain ⟨⟨n, y⟩, ey⟩ : ∃ R, R = x.most 48 := ⟨_, rfl⟩
  rw [← ey] at T hf0 hn ⊢
  simp only at T hf0 hn ⊢
  clear ey
  replace T := Lib.hid T
  have sn := prS_succ y
  have s0 := prS_zero y
  have sl := prS_len y
  have sf := prS_fit hf0
  obtain ⟨S, eS⟩ : ∃ S, S = prS y := ⟨_, rfl⟩
  rw [← eS] at sn s0 sl sf ⊢
  clear eS
  replace sn := Lib.hid sn
  replace sf := Lib.hid sf
  replace sl := Lib.hid sl
  have hx2 : ∀ (z : InS), z.fit → (z.text 33).2.fit ∧ ((z.text 33).2.text 32).2.fit := fun z h => ⟨InS.text_fit h 33, InS.text_fit (InS.text_fit h 33) 32⟩
  have HPV : ∀ v : Value, v.oneCell' = true → (msgC (L.ms (.slice op L.ops.length oc) v))[106]? = some v := fun v hv => msgC_at (Lm.ms_fit hL (ov := .slice op L.ops.length oc) rfl hv) .pv
  have HFT : ∀ v : Value, v.oneCell' = true → (L.ms (.slice op L.ops.length oc) v).fit := fun v hv => Lm.ms_fit hL rfl hv
  replace HPV := Lib.hid HPV
  replace HFT := Lib.hid HFT
  replace hL := Lib.hid hL
  go_enter Tryz.func136, Tryz.ntmps136
  go_wp2_with ((first | (go_at_call 58; go_must (refine (T.out gi _ (M.ok 0 _ rfl)).mono ?_; rintro e w1 ⟨rfl, U⟩; replace M := M.upd 0 rfl U; clear U; simp only [setC] at M)) | ((with_reducible refine tGuard ?_); refine gdS ?_) | fail | ((with_reducible refine tLoad ?_); go_must (refine ldS ?_)) | ((with_reducible refine tStore ?_); go_must (refine stS ?_; clear M; intro w1 M; (try simp only [setC] at M))) | ((with_reducible refine tBox _ ?_); (refine bxA M ?_; clear M; intro g w1 M))) <;> (try conv => arg 5; simp only [Act.put, List.setIfInBounds_toArray, setC]))
  go_loopw [7] (fun iv wr => ∃ (j : Nat) (q : Option Addr) (c : Nat), j ≤ n ∧ iv = .int .i64 j ∧ Mem F w wr [.row gi (inV (S j).2), .row gm (msgC (L.ms (.slice op L.ops.length oc) (.slice q (L.prs.length + j) c))), .sl 3 (.slice op L.ops.length oc) L.ops.length (L.ops.flatMap opV), .sl 2 (.slice q (L.prs.length + j) c) (L.prs.length + j) ((L.prs ++ (S j).1).flatMap prV)]) (fun iv _ => n - (intOf iv).toNat)
  case atStart => exact ⟨0, pp, pc, by omega, rfl, by rw [s0]; simpa using M⟩
  case round =>
    clear M
    obtain ⟨j, q, c, hj, rfl, M⟩ := hrel
    by_cases hlt : j < n
    · have SN := sn.out j
      have SL := sl.out j
      have hfy := sf.out j
      have hkt2 : decide ((j : Int) < (n : Int)) = true := decide_eq_true (by omega)
      obtain ⟨z, ez⟩ : ∃ z, z = (S j).2 := ⟨_, rfl⟩
      obtain ⟨d, ed⟩ : ∃ d, d = (S j).1 := ⟨_, rfl⟩
      rw [← ez] at M SN hfy
      rw [← ed] at M SN SL
      obtain ⟨hfz, _⟩ := hx2 z hfy
      have A := fun g w h => In_Text_c g z w h hfy 33 33 rfl (by omega)
      have B := fun g w h => In_Text_c g (z.text 33).2 w h hfz 32 32 rfl (by omega)
      have HQ := HPV.out (.slice q (L.prs.length + j) c) rfl
      have hfit := HFT.out (.slice q (L.prs.length + j) c) rfl
      replace HQ := Lib.hid HQ
      obtain ⟨⟨a, z1⟩, e1⟩ : ∃ R, R = z.text 33 := ⟨_, rfl⟩
      rw [← e1] at A B SN
      simp only at A B SN
      obtain ⟨⟨b, z2⟩, e2⟩ : ∃ R, R = z1.text 32 := ⟨_, rfl⟩
      rw [← e2] at B SN
      simp only at B SN
      replace A := Lib.hid A
      replace B := Lib.hid B
      replace SN := Lib.hid fun _ : Unit => SN
      clear e1 e2 ez ed
      go_wp2_with ((first | ((with_reducible show Code.wp _ (Code.region 3 _ _) _ _ _); go_must (have MR := M; refine region_lowc [(0, false), (1, false), (2, false), (3, false), (5, false), (7, false), (4, false), (6, true), (8, true), (9, true), (10, true), (11, true), (12, true), (13, false), (14, true)] [(10, .ptr)] [(4, _)] (IxOk MR [1]) 14 (by kernel_rfl) (by kernel_rfl) rfl (by kernel_rfl) (lows_cons (stab_ix MR 1 106 rfl rfl (by decide) (by decide +kernel) HQ.out) lows_nil) (ixOk_self MR _) ?_; replace M := M.drew; simp only [planC, opAt, List.getElem?_toArray, List.getElem?_cons_zero, List.getElem?_cons_succ, Option.getD_some])) | (go_at_call 60; go_must ((first | (with_reducible refine (A.out gi _ (M.ok 0 _ rfl)).mono ?_) | (with_reducible refine (B.out gi _ (M.ok 0 _ rfl)).mono ?_)); rintro e w1 ⟨rfl, U⟩; replace M := M.upd 0 rfl U; clear U; simp only [setC] at M)) | ((with_reducible refine tLoad ?_); refine w_at _ _ rfl (by exact ev_tmp rfl) ?_; intro hx; refine w_load M 1 _ _ rfl rfl hx rfl (by decide +kernel) HQ.out ?_; clear hx) | ((with_reducible show wpList _ _ _ (Oper.mk _ (Op.buildSlice _ 1 _) _ _ _ _ :: _) _ _); go_must (refine w_buildSlice1 M pairT18 (by decide) _ rfl rfl (by first | exact ev_tmp rfl | exact ev_const) _ rfl rfl ?_; clear M; intro g w1 M)) | ((with_reducible refine tApp ?_); go_must (refine w_append_new M 3 pairT18 _ _ rfl rfl rfl rfl rfl rfl (by first | decide | (intro q hq; simp at hq; subst hq; rfl) | (intro q hq; simp at hq; rcases hq with rfl | rfl; rfl; rfl) | (intro q hq; simp at hq; rcases hq with rfl | rfl | rfl <;> rfl)) (by decide) (by first | (simp only [maxLen]; omega) | (simp [maxLen]; omega)) (by first | omega | (simp; omega)) ?_; clear M; intro q cap w1 M; (try simp only [setC] at M))) | ((with_reducible refine tStore ?_); refine w_at2 _ _ _ rfl (by exact ev_tmp rfl) (by first | exact ev_tmp rfl | exact ev_const) ?_; intro hx hy; (refine w_storePv M 1 _ _ _ rfl rfl hx rfl hy rfl rfl (by decide +kernel) hfit ?_); clear hx hy M; intro w1 M; (try simp only [setC] at M)) | ((with_reducible show Seg _ _ _ _); go_must (first | refine Seg.intro ⟨fun h => absurd rfl h, ?_⟩ | refine Seg.intro ⟨fun _ => ixA, ?_⟩ | refine Seg.intro ⟨ndA, atA, ?_⟩)) | ((with_reducible show OnlyN _ _ _ _ _); refine OnlyN.intro (by kernel_rfl) ?_) | ((with_reducible refine tGuard ?_); refine gdS ?_) | fail | ((with_reducible refine tLoad ?_); go_must (refine ldS ?_)) | ((with_reducible refine tStore ?_); go_must (refine stS ?_; clear M; intro w1 M; (try simp only [setC] at M))) | ((with_reducible refine tBox _ ?_); (refine bxA M ?_; clear M; intro g w1 M))) <;> (try conv => arg 5; simp only [Act.put, List.setIfInBounds_toArray, setC]))
      go_roundw
      case rel => exact ⟨j + 1, _, _, by omega, by go_num, by
        rw [SN.out ()]
        simp only
        rw [← List.append_assoc, List.flatMap_append (xs := L.prs ++ d)]
        exact M⟩
      case measure => simp [intOf]; omega
    · obtain rfl : j = n := by omega
      go_wp2_with fail
      go_ret
      refine ⟨rfl, .slice q (L.prs.length + j) c, ?_⟩
      rw [List.length_append, sl.out]
      exact M
end Go.Proofs.YtidadhbaomieiaaGreat

/- The walk of layer 18's numbers below nought. Conditions: lengths. -/
namespace Go.Proofs.YtidadhbaomieiaaGreat
open Go.RowKit Go.TL
set_option maxRecDepth 100000 in
set_option maxHeartbeats 8000000 in
theorem numPutN_c (q : Mf) (_most : Int) (gm g1 g2 go : Nat) (m : Ms) (v : Value) (l : List UInt8) (w : World) (hm : m.fit) (hn : -9223372036854775808 ≤ q.get m ∧ q.get m < 0) (hl : l.length ≤ 1000000) (ho : (outC go v l).ok w)
    (R : (Chunk.row gm (msgC m)).ok w) (B2 : (Chunk.row g2 [.func (.func (mfFn q)) #[] #[]]).ok w) (n0 : gm ∉ (outC go v l).fp) (n2 : g2 ∉ (outC go v l).fp) :
    Calls Tryz.prog 164 #[.pointer (some ⟨go, 0, none⟩), .pointer (some ⟨gm, 0, none⟩), .pointer (some ⟨g2, 0, none⟩), .pointer (some ⟨g1, 0, none⟩)] w fun e w' => e = .returned (.bool false) ∧ ∃ v' l', Upd w (outC go v l) w' (outC go v' l') := by
  have M := Mem.start1 ho
  have HQ := msgC_num hm q
  obtain ⟨z, ez⟩ : ∃ z, z = q.get m := ⟨_, rfl⟩
  rw [← ez] at HQ hn
  clear ez
  replace HQ := Lib.hid HQ
  obtain ⟨hn1, hn2⟩ := hn
  cases q
  all_goals
    simp only [mfFn] at B2
    go_enter Tryz.func164, Tryz.ntmps164
    go_wp2_with ((first | ((with_reducible refine tGuard ?_); (with_reducible refine w_stripE ?_ ?_); (focus (refine ⟨_, rfl, ?_⟩; first | (with_reducible rfl) | exact decide_eq_false (by omega) | exact decide_eq_true (by omega)))) | ((with_reducible refine tGuard ?_); first | ((with_reducible refine w_skip1 ?_ ?_); (focus (refine ⟨_, rfl, ?_⟩; first | (with_reducible rfl) | exact decide_eq_false (by omega) | exact decide_eq_true (by omega)))) | ((with_reducible refine w_skip0 ?_ ?_); (focus (refine ⟨_, rfl, ?_⟩; first | (with_reducible rfl) | exact decide_eq_false (by omega) | exact decide_eq_true (by omega))))) | ((with_reducible refine tLoad ?_); go_must (refine w_at _ _ rfl (by exact ev_tmp rfl) ?_; intro hx; (first | refine w_rowF M B2 n2 _ _ rfl hx rfl (by decide +kernel) rfl ?_ | refine w_rowF M R n0 _ _ rfl hx rfl (by decide +kernel) HQ.out ?_); clear hx)) | ((first | (go_at_call 123; refine (at1F_c _ _).mono ?_) | (go_at_call 124; refine (at2F_c _ _).mono ?_) | (go_at_call 125; refine (at3F_c _ _).mono ?_) | (go_at_call 126; refine (at4F_c _ _).mono ?_) | (go_at_call 127; refine (at5F_c _ _).mono ?_) | (go_at_call 128; refine (at6F_c _ _).mono ?_)); rintro e w1 ⟨rfl, rfl⟩) | (go_at_call 113; go_must (refine (Num_c _ _ l (w64 z).toNat (I64 (w64 z)) rfl _ (w64 z).toNat_lt (by omega) (M.ok 0 _ rfl)).mono ?_; rintro r w2 ⟨rfl, v1, U⟩; replace M := M.upd 0 rfl U; clear U; simp only [setC] at M)) | ((with_reducible refine tGuard ?_); refine gdS ?_) | fail | ((with_reducible refine tLoad ?_); go_must (refine ldS ?_)) | ((with_reducible refine tStore ?_); go_must (refine stS ?_; clear M; intro w1 M; (try simp only [setC] at M))) | ((with_reducible refine tBox _ ?_); (refine bxA M ?_; clear M; intro g w1 M))) <;> (try conv => arg 5; simp only [Act.put, List.setIfInBounds_toArray, setC]))
    go_ret
    exact ⟨rfl, _, _, M.upd1 0 rfl⟩
end Go.Proofs.YtidadhbaomieiaaGreat
