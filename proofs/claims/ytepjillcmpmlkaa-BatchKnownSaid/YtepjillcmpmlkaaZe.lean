/- Texts of this seat, put together: BatE, BatM, BatF0, InM, BatD, BatR, OutNew, InT, BatT, BatB, BatQ, BatW, Frame, RegI. Each begins with a remark that says what is proved in it, and under which conditions. -/
import Derived.ProofKit
import Derived.OpenShut
import Derived.ShutString
import Derived.ChangeOld
import Derived.Below
import Derived.Test.YtepjillcmpmlkaaZa
import Derived.Test.YtepjillcmpmlkaaZb
import Derived.Test.YtepjillcmpmlkaaZc
import Derived.Test.YtepjillcmpmlkaaZd
/- The walks of path.Ships, the reference's Of and Ships, and of batch.each under each of its two function values. Conditions: lengths. (Printed by dev/gen_bate.py.) -/
namespace Go.Proofs.Ytepjillcmpmlkaa
open Go.RowKit Go.TL
set_option maxRecDepth 100000 in
set_option maxHeartbeats 2000000 in
theorem May1_c (l : List Mt) (p : List UInt8) (gv : Nat) (v : Value) (w : World) (S : SeesL w 2 mtV v l) (T : SeesL w 1 cellV (.slice (some ⟨gv, 0, none⟩) 1 1) [v]) (hl : l.length ≤ 1000000) (hp : p.length ≤ 1000000000) :
    Calls Try.prog 30 #[.string (mkS p), .pointer (some ⟨gv, 0, none⟩)] w fun e w' => e = .returned (.int .i64 (ofP l p).2) ∧ Below w.heap.size w w' := by
  have M := Mem.start [] w
  have C := fun w S => Of_c l p v w S hl hp
  obtain ⟨⟨⟨a, b⟩, n⟩, eR⟩ : ∃ R, R = ofP l p := ⟨_, rfl⟩
  rw [← eR] at C ⊢
  clear eR
  simp only [mtV] at C
  replace C := Lib.hid C
  have HC : Hid ([v][0]? = some v) := Lib.hid rfl
  go_enter Try.func30, Try.ntmps30
  go_wp2_with ((first | ((with_reducible refine tLoad ?_); refine w_at _ _ rfl (by exact ev_tmp rfl) ?_; intro hx; first | (refine w_seeA M T HC.out _ _ rfl hx rfl (by decide +kernel) (by first | (with_reducible rfl) | omega) (by kernel_rfl) ?_; clear hx) | (refine w_see M T HC.out _ _ rfl hx rfl (by decide +kernel) 0 (by first | (with_reducible rfl) | omega) rfl ?_; clear hx) | (refine w_see M T HC.out _ _ rfl hx rfl (by decide +kernel) 1 (by first | (with_reducible rfl) | omega) rfl ?_; clear hx) | (refine w_see M T HC.out _ _ rfl hx rfl (by decide +kernel) 2 (by first | (with_reducible rfl) | omega) rfl ?_; clear hx)) | (go_at_call 31; go_must (refine (C.out _ (S.now M)).mono ?_; rintro e w1 ⟨rfl, hb⟩; replace M := M.call hb; clear hb)) | ((with_reducible refine tAlloc (some 4) 55 ?_); refine w_alloc M _ rfl rfl (.agg #[.string (mkS []), .bool false]) (mtV ([], false)) (by kernel_rfl) rfl ?_; clear M; intro gx w1 M) | ((with_reducible refine tM rfl ?_); refine mS ?_; try (clear M; (first | intro g w1 M | intro w1 M); try simp only [setC] at M))) <;> (try conv => arg 5; simp only [apS, setC]))
  go_ret
  exact ⟨rfl, M.below⟩
set_option maxRecDepth 100000 in
set_option maxHeartbeats 2000000 in
theorem Ships_c (l : List Mt) (p : List UInt8) (v : Value) (w : World) (S : SeesL w 2 mtV v l) (hl : l.length ≤ 1000000) (hp : p.length ≤ 1000000000) :
    Calls Try.prog 25 #[v, .string (mkS p)] w fun e w' => e = .returned (.bool (shipL l p)) ∧ Below w.heap.size w w' := by
  have M := Mem.start [] w
  have C := fun w S => Of_c l p v w S hl hp
  unfold shipL
  obtain ⟨⟨⟨a, b⟩, n⟩, eR⟩ : ∃ R, R = ofP l p := ⟨_, rfl⟩
  rw [← eR] at C ⊢
  clear eR
  simp only [mtV] at C ⊢
  replace C := Lib.hid C
  by_cases hn : n = 0
  · subst hn
    go_enter Try.func25, Try.ntmps25
    go_wp2_with ((first | (go_at_call 31; go_must (refine (C.out _ (S.now M)).mono ?_; rintro e w1 ⟨rfl, hb⟩; replace M := M.call hb; clear hb)) | ((with_reducible refine tAlloc (some 5) 55 ?_); refine w_alloc M _ rfl rfl (.agg #[.string (mkS []), .bool false]) (mtV ([], false)) (by kernel_rfl) rfl ?_; clear M; intro gx w1 M) | ((with_reducible refine tM rfl ?_); refine mS ?_; try (clear M; (first | intro g w1 M | intro w1 M); try simp only [setC] at M))) <;> (try conv => arg 5; simp only [apS, setC]))
    go_ret
    exact ⟨rfl, M.below⟩
  · have e : (n == 0 && b) = false := by simp [hn]
    have hz : ((n : Int) == 0) = false := by simp; exact hn
    rw [e]; clear e hn
    go_enter Try.func25, Try.ntmps25
    go_wp2_with ((first | (go_at_call 31; go_must (refine (C.out _ (S.now M)).mono ?_; rintro e w1 ⟨rfl, hb⟩; replace M := M.call hb; clear hb)) | ((with_reducible refine tAlloc (some 5) 55 ?_); refine w_alloc M _ rfl rfl (.agg #[.string (mkS []), .bool false]) (mtV ([], false)) (by kernel_rfl) rfl ?_; clear M; intro gx w1 M) | ((with_reducible refine tM rfl ?_); refine mS ?_; try (clear M; (first | intro g w1 M | intro w1 M); try simp only [setC] at M))) <;> (try conv => arg 5; simp only [apS, setC]))
    go_ret
    exact ⟨rfl, M.below⟩
set_option maxRecDepth 100000 in
set_option maxHeartbeats 8000000 in
theorem EachM_c (l : List Mt) (u : Value) (gv : Nat) (ops : List Opr) (v : Value) (w : World) (S : SeesL w 3 opV v ops) (U : SeesL w 2 mtV u l) (T : SeesL w 1 cellV (.slice (some ⟨gv, 0, none⟩) 1 1) [u]) (hml : l.length ≤ 1000000) (hl : ops.length ≤ 1000000) (hm : ∀ x ∈ ops, x.2.1.length ≤ 100000000 ∧ x.2.2.length ≤ 100000000) :
    Calls Try.prog 29 #[v, .func (.func 30) #[] #[.pointer (some ⟨gv, 0, none⟩)]] w fun e w' => e = .returned (.int .i64 (eachE (fun p => (ofP l p).2) ops)) ∧ Below w.heap.size w w' := by
  obtain ⟨q, cap, rfl, hc⟩ := S.form
  have M := Mem.start [] w
  have HB := fun k x r => @each_bad (fun p => (ofP l p).2) ops k x r
  have HG := @each_all (fun p => (ofP l p).2) ops
  obtain ⟨R, eR⟩ : ∃ R, R = eachE (fun p => (ofP l p).2) ops := ⟨_, rfl⟩
  rw [← eR] at HB HG ⊢
  replace HB := Lib.hid HB
  replace HG := Lib.hid HG
  clear eR
  go_enter Try.func29, Try.ntmps29
  go_wp2_with fail
  go_loopw [10] (fun iv wr => ∃ k : Nat, k ≤ ops.length ∧ iv = .int .i64 k ∧ Hid (∀ (j : Nat) (y : Opr), j < k → ops[j]? = some y → opE (fun p => (ofP l p).2) y = 0) ∧ Mem [] w wr []) (fun iv _ => ops.length - (intOf iv).toNat)
  case atStart => exact ⟨0, by omega, rfl, Lib.hid (by omega), M⟩
  case round =>
    clear M
    obtain ⟨k, hk, rfl, HK, M⟩ := hrel
    by_cases hlt : k < ops.length
    · obtain ⟨g, so, rfl⟩ := S.addr (by omega)
      obtain ⟨⟨q, a, b⟩, hx⟩ : ∃ x, ops[k]? = some x := ⟨_, List.getElem?_eq_getElem hlt⟩
      obtain ⟨ha, hb⟩ := hm (q, a, b) (List.mem_of_getElem? hx)
      simp only at ha hb
      have C := fun w U T => May1_c l a gv u w U T hml (by omega)
      have HX := Lib.hid hx
      clear hx
      by_cases hq : q = 1 ∨ q = 2
      · have HQ := Lib.hid hq
        have HI : I8 q = 1 ∨ I8 q = 2 := by rcases hq with rfl | rfl; exact .inl rfl; exact .inr rfl
        obtain ⟨n, en⟩ : ∃ n, n = (fun p => (ofP l p).2) a := ⟨_, rfl⟩
        have EN := Lib.hid en
        try simp only at en
        rw [← en] at C
        replace C := Lib.hid C
        clear en hq
        by_cases hn : n = 0
        · subst hn
          by_cases hb32 : 32 < b.length
          · have e : R = 3 := HB.out k _ _ HX.out HK.out (op_long HQ.out EN.out.symm hb32) (by decide)
            subst e
            have hb33 : (32 : Int) < (b.length : Int) := by omega
            rcases HI with HI | HI
            all_goals
              go_wp2_with ((first | ((with_reducible refine tLoad ?_); refine w_at _ _ rfl (by exact ev_tmp rfl) ?_; intro hx; first | (refine w_seeA M S HX.out _ _ rfl hx rfl (by decide +kernel) (by first | (with_reducible rfl) | omega) (by kernel_rfl) ?_; clear hx; (try conv => arg 5; simp only [Act.put, List.setIfInBounds_toArray, setC, opV_eq])) | (refine w_see M S HX.out _ _ rfl hx rfl (by decide +kernel) 0 (by first | (with_reducible rfl) | omega) rfl ?_; clear hx) | (refine w_see M S HX.out _ _ rfl hx rfl (by decide +kernel) 1 (by first | (with_reducible rfl) | omega) rfl ?_; clear hx) | (refine w_see M S HX.out _ _ rfl hx rfl (by decide +kernel) 2 (by first | (with_reducible rfl) | omega) rfl ?_; clear hx)) | ((with_reducible refine tAlloc (some 6) 44 ?_); refine w_alloc M _ rfl rfl (.agg #[.int .u8 0, .string (mkS []), .string (mkS [])]) (opV (0, [], [])) (by kernel_rfl) rfl ?_; clear M; intro gx w1 M) | (go_at_call 30; go_must (refine (C.out _ (U.now M) (T.now M)).mono ?_; rintro e w1 ⟨rfl, hb⟩; replace M := M.call hb; clear hb)) | ((with_reducible refine tM rfl ?_); refine mS ?_; try (clear M; (first | intro g w1 M | intro w1 M); try simp only [setC] at M))) <;> (try conv => arg 5; simp only [apS, setC]))
              go_ret
              exact ⟨rfl, M.below⟩
          · have hb33 : (b.length : Int) ≤ 32 := by omega
            rcases HI with HI | HI
            · have hq1 : q = 1 := by
                rcases HQ.out with h | h
                · exact h
                · subst h; exact absurd HI (by decide)
              have HZ := Lib.hid (op_good (f := (fun p => (ofP l p).2)) (x := (q, a, b)) HQ.out EN.out.symm (by simp only; omega) (fun h => by simp only at h; rw [hq1] at h; exact absurd h (by decide)))
              clear hq1
              go_wp2_with ((first | ((with_reducible refine tLoad ?_); refine w_at _ _ rfl (by exact ev_tmp rfl) ?_; intro hx; first | (refine w_seeA M S HX.out _ _ rfl hx rfl (by decide +kernel) (by first | (with_reducible rfl) | omega) (by kernel_rfl) ?_; clear hx; (try conv => arg 5; simp only [Act.put, List.setIfInBounds_toArray, setC, opV_eq])) | (refine w_see M S HX.out _ _ rfl hx rfl (by decide +kernel) 0 (by first | (with_reducible rfl) | omega) rfl ?_; clear hx) | (refine w_see M S HX.out _ _ rfl hx rfl (by decide +kernel) 1 (by first | (with_reducible rfl) | omega) rfl ?_; clear hx) | (refine w_see M S HX.out _ _ rfl hx rfl (by decide +kernel) 2 (by first | (with_reducible rfl) | omega) rfl ?_; clear hx)) | ((with_reducible refine tAlloc (some 6) 44 ?_); refine w_alloc M _ rfl rfl (.agg #[.int .u8 0, .string (mkS []), .string (mkS [])]) (opV (0, [], [])) (by kernel_rfl) rfl ?_; clear M; intro gx w1 M) | (go_at_call 30; go_must (refine (C.out _ (U.now M) (T.now M)).mono ?_; rintro e w1 ⟨rfl, hb⟩; replace M := M.call hb; clear hb)) | ((with_reducible refine tM rfl ?_); refine mS ?_; try (clear M; (first | intro g w1 M | intro w1 M); try simp only [setC] at M))) <;> (try conv => arg 5; simp only [apS, setC]))
              go_roundw
              case rel => exact ⟨k + 1, by omega, by go_num, Lib.hid fun j y hj hy => by
                rcases Nat.lt_succ_iff_lt_or_eq.1 hj with hj | rfl
                · exact HK.out j y hj hy
                · have := HX.out; rw [hy] at this; cases this; exact HZ.out, M.tail⟩
              case measure => simp [intOf]; omega
            · have hq2 : q = 2 := by
                rcases HQ.out with h | h
                · subst h; exact absurd HI (by decide)
                · exact h
              by_cases hbe : b = []
              · subst hbe
                have HZ := Lib.hid (op_good (f := (fun p => (ofP l p).2)) (x := (q, a, [])) HQ.out EN.out.symm (by simp) (fun h => rfl))
                clear hq2
                go_wp2_with ((first | ((with_reducible refine tLoad ?_); refine w_at _ _ rfl (by exact ev_tmp rfl) ?_; intro hx; first | (refine w_seeA M S HX.out _ _ rfl hx rfl (by decide +kernel) (by first | (with_reducible rfl) | omega) (by kernel_rfl) ?_; clear hx; (try conv => arg 5; simp only [Act.put, List.setIfInBounds_toArray, setC, opV_eq])) | (refine w_see M S HX.out _ _ rfl hx rfl (by decide +kernel) 0 (by first | (with_reducible rfl) | omega) rfl ?_; clear hx) | (refine w_see M S HX.out _ _ rfl hx rfl (by decide +kernel) 1 (by first | (with_reducible rfl) | omega) rfl ?_; clear hx) | (refine w_see M S HX.out _ _ rfl hx rfl (by decide +kernel) 2 (by first | (with_reducible rfl) | omega) rfl ?_; clear hx)) | ((with_reducible refine tAlloc (some 6) 44 ?_); refine w_alloc M _ rfl rfl (.agg #[.int .u8 0, .string (mkS []), .string (mkS [])]) (opV (0, [], [])) (by kernel_rfl) rfl ?_; clear M; intro gx w1 M) | (go_at_call 30; go_must (refine (C.out _ (U.now M) (T.now M)).mono ?_; rintro e w1 ⟨rfl, hb⟩; replace M := M.call hb; clear hb)) | ((with_reducible refine tM rfl ?_); refine mS ?_; try (clear M; (first | intro g w1 M | intro w1 M); try simp only [setC] at M))) <;> (try conv => arg 5; simp only [apS, setC]))
                go_roundw
                case rel => exact ⟨k + 1, by omega, by go_num, Lib.hid fun j y hj hy => by
                  rcases Nat.lt_succ_iff_lt_or_eq.1 hj with hj | rfl
                  · exact HK.out j y hj hy
                  · have := HX.out; rw [hy] at this; cases this; exact HZ.out, M.tail⟩
                case measure => simp [intOf]; omega
              · have e : R = 1 := HB.out k _ _ HX.out HK.out (op_arg hq2 EN.out.symm (by simp only; omega) hbe) (by decide)
                subst e
                have hbe' : b.isEmpty = false := by simpa using hbe
                clear hq2 hbe
                go_wp2_with ((first | ((with_reducible refine tLoad ?_); refine w_at _ _ rfl (by exact ev_tmp rfl) ?_; intro hx; first | (refine w_seeA M S HX.out _ _ rfl hx rfl (by decide +kernel) (by first | (with_reducible rfl) | omega) (by kernel_rfl) ?_; clear hx; (try conv => arg 5; simp only [Act.put, List.setIfInBounds_toArray, setC, opV_eq])) | (refine w_see M S HX.out _ _ rfl hx rfl (by decide +kernel) 0 (by first | (with_reducible rfl) | omega) rfl ?_; clear hx) | (refine w_see M S HX.out _ _ rfl hx rfl (by decide +kernel) 1 (by first | (with_reducible rfl) | omega) rfl ?_; clear hx) | (refine w_see M S HX.out _ _ rfl hx rfl (by decide +kernel) 2 (by first | (with_reducible rfl) | omega) rfl ?_; clear hx)) | ((with_reducible refine tAlloc (some 6) 44 ?_); refine w_alloc M _ rfl rfl (.agg #[.int .u8 0, .string (mkS []), .string (mkS [])]) (opV (0, [], [])) (by kernel_rfl) rfl ?_; clear M; intro gx w1 M) | (go_at_call 30; go_must (refine (C.out _ (U.now M) (T.now M)).mono ?_; rintro e w1 ⟨rfl, hb⟩; replace M := M.call hb; clear hb)) | ((with_reducible refine tM rfl ?_); refine mS ?_; try (clear M; (first | intro g w1 M | intro w1 M); try simp only [setC] at M))) <;> (try conv => arg 5; simp only [apS, setC]))
                go_ret
                exact ⟨rfl, M.below⟩
        · have e : R = n := HB.out k _ _ HX.out HK.out ((op_path HQ.out (fun h0 => hn (EN.out.trans h0))).trans EN.out.symm) hn
          subst e
          have hz : ((R : Int) == 0) = false := by simp; exact hn
          have hz' : ((R : Int) != 0) = true := by simp; exact hn
          clear hn
          rcases HI with HI | HI
          all_goals
            go_wp2_with ((first | ((with_reducible refine tLoad ?_); refine w_at _ _ rfl (by exact ev_tmp rfl) ?_; intro hx; first | (refine w_seeA M S HX.out _ _ rfl hx rfl (by decide +kernel) (by first | (with_reducible rfl) | omega) (by kernel_rfl) ?_; clear hx; (try conv => arg 5; simp only [Act.put, List.setIfInBounds_toArray, setC, opV_eq])) | (refine w_see M S HX.out _ _ rfl hx rfl (by decide +kernel) 0 (by first | (with_reducible rfl) | omega) rfl ?_; clear hx) | (refine w_see M S HX.out _ _ rfl hx rfl (by decide +kernel) 1 (by first | (with_reducible rfl) | omega) rfl ?_; clear hx) | (refine w_see M S HX.out _ _ rfl hx rfl (by decide +kernel) 2 (by first | (with_reducible rfl) | omega) rfl ?_; clear hx)) | ((with_reducible refine tAlloc (some 6) 44 ?_); refine w_alloc M _ rfl rfl (.agg #[.int .u8 0, .string (mkS []), .string (mkS [])]) (opV (0, [], [])) (by kernel_rfl) rfl ?_; clear M; intro gx w1 M) | (go_at_call 30; go_must (refine (C.out _ (U.now M) (T.now M)).mono ?_; rintro e w1 ⟨rfl, hb⟩; replace M := M.call hb; clear hb)) | ((with_reducible refine tM rfl ?_); refine mS ?_; try (clear M; (first | intro g w1 M | intro w1 M); try simp only [setC] at M))) <;> (try conv => arg 5; simp only [apS, setC]))
            go_ret
            exact ⟨rfl, M.below⟩
      · have e : R = 10 := HB.out k _ _ HX.out HK.out (op_kind hq) (by decide)
        subst e
        obtain ⟨h1, h1'⟩ := I8_ne (q := q) (c := 1) (fun h => hq (.inl h))
        obtain ⟨h2, h2'⟩ := I8_ne (q := q) (c := 2) (fun h => hq (.inr h))
        rw [show I8 1 = 1 from rfl] at h1 h1'
        rw [show I8 2 = 2 from rfl] at h2 h2'
        clear hq C
        go_wp2_with ((first | ((with_reducible refine tLoad ?_); refine w_at _ _ rfl (by exact ev_tmp rfl) ?_; intro hx; first | (refine w_seeA M S HX.out _ _ rfl hx rfl (by decide +kernel) (by first | (with_reducible rfl) | omega) (by kernel_rfl) ?_; clear hx; (try conv => arg 5; simp only [Act.put, List.setIfInBounds_toArray, setC, opV_eq])) | (refine w_see M S HX.out _ _ rfl hx rfl (by decide +kernel) 0 (by first | (with_reducible rfl) | omega) rfl ?_; clear hx) | (refine w_see M S HX.out _ _ rfl hx rfl (by decide +kernel) 1 (by first | (with_reducible rfl) | omega) rfl ?_; clear hx) | (refine w_see M S HX.out _ _ rfl hx rfl (by decide +kernel) 2 (by first | (with_reducible rfl) | omega) rfl ?_; clear hx)) | ((with_reducible refine tAlloc (some 6) 44 ?_); refine w_alloc M _ rfl rfl (.agg #[.int .u8 0, .string (mkS []), .string (mkS [])]) (opV (0, [], [])) (by kernel_rfl) rfl ?_; clear M; intro gx w1 M) | ((with_reducible refine tM rfl ?_); refine mS ?_; try (clear M; (first | intro g w1 M | intro w1 M); try simp only [setC] at M))) <;> (try conv => arg 5; simp only [apS, setC]))
        go_ret
        exact ⟨rfl, M.below⟩
    · obtain rfl : k = ops.length := by omega
      obtain rfl : R = 0 := HG.out fun j x hx => HK.out j x (List.getElem?_eq_some_iff.1 hx).1 hx
      go_wp2_with fail
      go_ret
      exact ⟨rfl, M.below⟩
end Go.Proofs.Ytepjillcmpmlkaa

/- The walk of batch.May. Conditions: lengths. -/
namespace Go.Proofs.Ytepjillcmpmlkaa
open Go.RowKit Go.TL
set_option maxRecDepth 100000 in
set_option maxHeartbeats 4000000 in
theorem bMay_c (l : List Mt) (ops : List Opr) (u v : Value) (w : World) (U : SeesL w 2 mtV u l) (S : SeesL w 3 opV v ops) (hml : l.length ≤ 1000000) (hl : ops.length ≤ 1000000) (hm : ∀ x ∈ ops, x.2.1.length ≤ 100000000 ∧ x.2.2.length ≤ 100000000) :
    Calls Try.prog 14 #[u, v] w fun e w' => e = .returned (.int .i64 (mayO l ops)) ∧ Below w.heap.size w w' := by
  have M := Mem.start [] w
  have hmf : ∀ (fn : Fn) (first cap : Array Value) (w : World), (Instr.makeFunc fn first cap).run Try.prog w = .ok (.func fn first cap) w := fun _ _ _ _ => rfl
  have E := fun gv w S U T => EachM_c l u gv ops v w S U T hml hl hm
  obtain ⟨q, cap, rfl, hc⟩ := S.form
  obtain ⟨qu, capu, rfl, hcu⟩ := U.form
  by_cases h0 : ops.length = 0
  · rw [may_0 h0]
    have hz : ((ops.length : Int) == 0) = true := by rw [beq_iff_eq]; omega
    replace E := Lib.hid E
    clear h0
    go_enter Try.func14, Try.ntmps14
    go_wp2_with ((first | ((with_reducible refine tBox (some 2) ?_); refine w_box M _ _ rfl rfl _ rfl ([.slice qu l.length capu]) rfl ?_; clear M; intro gx w1 M) | ((with_reducible refine tM rfl ?_); refine mS ?_; try (clear M; (first | intro g w1 M | intro w1 M); try simp only [setC] at M))) <;> (try conv => arg 5; simp only [apS, setC]))
    go_ret
    exact ⟨rfl, M.below⟩
  · have hz : ((ops.length : Int) == 0) = false := by rw [beq_eq_false_iff_ne]; omega
    by_cases h4 : 4 < ops.length
    · rw [may_4 h4]
      have h4' : (4 : Int) < (ops.length : Int) := by omega
      replace E := Lib.hid E
      clear h0
      go_enter Try.func14, Try.ntmps14
      go_wp2_with ((first | ((with_reducible refine tBox (some 2) ?_); refine w_box M _ _ rfl rfl _ rfl ([.slice qu l.length capu]) rfl ?_; clear M; intro gx w1 M) | ((with_reducible refine tM rfl ?_); refine mS ?_; try (clear M; (first | intro g w1 M | intro w1 M); try simp only [setC] at M))) <;> (try conv => arg 5; simp only [apS, setC]))
      go_ret
      exact ⟨rfl, M.below⟩
    · rw [may_e (l := l) (by omega) (by omega)]
      have h4' : (ops.length : Int) ≤ 4 := by omega
      obtain ⟨R, eR⟩ : ∃ R, R = eachE (fun p => (ofP l p).2) ops := ⟨_, rfl⟩
      rw [← eR] at E ⊢
      replace E := Lib.hid E
      clear h0 eR
      go_enter Try.func14, Try.ntmps14
      go_wp2_with ((first | ((with_reducible refine tBox (some 2) ?_); refine w_box M _ _ rfl rfl _ rfl ([.slice qu l.length capu]) rfl ?_; clear M; intro gx w1 M) | (go_at_call 29; go_must (refine (E.out _ _ (S.now M) (U.now M) (SeesL.row1 (M.ok 0 _ rfl))).mono ?_; rintro e w1 ⟨rfl, hb⟩; replace M := M.call hb; clear hb)) | ((with_reducible refine tM rfl ?_); refine mS ?_; try (clear M; (first | intro g w1 M | intro w1 M); try simp only [setC] at M))) <;> (try conv => arg 5; simp only [apS, setC]))
      go_ret
      exact ⟨rfl, M.below⟩
end Go.Proofs.Ytepjillcmpmlkaa

/- A slice of operations, as a type. No conditions. -/
namespace Go.Proofs.Ytepjillcmpmlkaa
open Go.RowKit Go.TL
set_option maxRecDepth 1000000 in
theorem opT : SliceT Try.prog 23 44 3 40 := ⟨Try.underlying23, ⟨_, _, rfl, rfl, rfl, rfl, rfl⟩, by omega⟩
end Go.Proofs.Ytepjillcmpmlkaa

/- Plain laws of pack's reader: it stays within its bounds; behind a fault nothing is read. No program in this text. No conditions but those each lemma names. -/
namespace Go
namespace TL
theorem readN_le (s : List UInt8) (m : Nat) : (readN s m).2.1 ≤ s.length ∧ (readN s m).2.1 ≤ 10 ∧ (readN s m).1 ≤ m := read_le (s := s) (most := m) rfl
def inStart (s : List UInt8) : InS := ⟨s, 0, 0⟩
/-! ### The reader stays within its bounds -/
theorem InS.take_fit {x : InS} {k e : Nat} (h : x.fit) (hk : k ≤ x.rest.length) : (x.take k e).fit := by
  unfold InS.take InS.fit at *
  split
  · simp only [List.length_drop]; omega
  · exact h
theorem InS.most_fit {x : InS} (h : x.fit) (m : Nat) : (x.most m).2.fit := by
  unfold InS.most
  split
  · exact InS.take_fit h (read_le (s := x.rest) (most := m) rfl).1
  · exact h
theorem InS.text_fit {x : InS} (h : x.fit) (m : Nat) : (x.text m).2.fit := by
  unfold InS.text
  split
  · split
    · split
      · have := (readN_le x.rest m).1
        exact InS.take_fit h (by omega)
      · exact InS.take_fit h (Nat.zero_le _)
    · exact InS.take_fit h (Nat.zero_le _)
  · exact h
theorem InS.byte_fit {x : InS} (h : x.fit) : x.byte.2.fit := by
  unfold InS.byte
  split
  · split
    · exact InS.take_fit h (Nat.zero_le _)
    · rename_i b l e; exact InS.take_fit h (by rw [e]; simp)
  · exact h
theorem InS.most_le (x : InS) (m : Nat) : (x.most m).1 ≤ m := by
  unfold InS.most
  split
  · exact (read_le (s := x.rest) (most := m) rfl).2.2
  · exact Nat.zero_le _
theorem InS.text_len (x : InS) (m : Nat) : (x.text m).1.length ≤ m := by
  unfold InS.text
  split
  · split
    · split
      · have := (readN_le x.rest m).2.2
        simp; omega
      · simp
    · simp
  · simp
theorem fin_err {x : InS} (h : x.err ≠ 0) : x.fin = x.err := by unfold InS.fin; rw [if_neg h]
end TL
end Go

/- Plain laws of a batch's reading, step by step. No program in this text. No conditions but those each lemma names. -/
namespace Go
namespace TL
theorem InS.byte_q (x : InS) : ∃ q : UInt8, x.byte.1 = q.toNat := by
  unfold InS.byte
  split
  · split
    · exact ⟨0, rfl⟩
    · rename_i b _ _; exact ⟨b, rfl⟩
  · exact ⟨0, rfl⟩
theorem rdO_zero (x : InS) : rdOps 0 x = ([], x) := rfl
theorem rdO_err {m n : Nat} {x x1 : InS} (h : x.byte = (n, x1)) (he : x1.err ≠ 0) : rdOps (m + 1) x = ([], x1) := by rw [rdOps, h, if_neg he]
theorem rdO_kind {m : Nat} {q : UInt8} {x x1 : InS} (h : x.byte = (q.toNat, x1)) (he : x1.err = 0) (hq : ¬ (q = 1 ∨ q = 2)) : rdOps (m + 1) x = ([], x1.bad 10) := by
  rw [rdOps, h, if_pos he, if_neg]
  rintro (e | e)
  · exact hq (.inl (UInt8.toNat_inj.1 e))
  · exact hq (.inr (UInt8.toNat_inj.1 e))
theorem rdO_put {m : Nat} {x x1 : InS} (h : x.byte = (UInt8.toNat 1, x1)) (he : x1.err = 0) : rdOps (m + 1) x = ((1, (x1.text 33).1, ((x1.text 33).2.text 32).1) :: (rdOps m ((x1.text 33).2.text 32).2).1, (rdOps m ((x1.text 33).2.text 32).2).2) := by
  simp only [rdOps, h, if_pos he]; rfl
theorem rdO_del {m : Nat} {x x1 : InS} (h : x.byte = (UInt8.toNat 2, x1)) (he : x1.err = 0) : rdOps (m + 1) x = ((2, (x1.text 33).1, []) :: (rdOps m (x1.text 33).2).1, (rdOps m (x1.text 33).2).2) := by
  simp only [rdOps, h, if_pos he]; rfl
theorem readB_fin {s : List UInt8} {i e n : Nat} {x0 x : InS} {d : List Opr} (h : nums3 s = (i, e, n, x0)) (hr : rdOps n x0 = (d, x)) (hf : x.fin ≠ 0) : readB s = ((0, 0, []), x.fin) := by
  unfold readB; simp only [h, hr]; rw [if_neg hf]
theorem readB_bad {s : List UInt8} {i e n : Nat} {x0 x : InS} {d : List Opr} {r : Nat} (h : nums3 s = (i, e, n, x0)) (hr : rdOps n x0 = (d, x)) (hf : x.fin = 0) (hp : rightB i e d = r) (hr0 : r ≠ 0) : readB s = ((0, 0, []), r) := by
  unfold readB; simp only [h, hr]; rw [if_pos hf, if_neg (by rw [hp]; exact hr0), hp]
theorem readB_ok {s : List UInt8} {i e n : Nat} {x0 x : InS} {d : List Opr} (h : nums3 s = (i, e, n, x0)) (hr : rdOps n x0 = (d, x)) (hf : x.fin = 0) (hp : rightB i e d = 0) : readB s = ((i, e, d), 0) := by
  unfold readB; simp only [h, hr]; rw [if_pos hf, if_pos hp]
theorem bad_fin (x : InS) {e : Nat} (h : e ≠ 0) : (x.bad e).fin = e := by unfold InS.bad InS.fin; rw [if_neg h]
end TL
end Go

/- The walk of batch.Read. Conditions: lengths. -/
namespace Go
namespace TL
open Go.RowKit
def batR (i e r : Nat) (z : Value) : Value := .tuple #[.agg #[.int .i64 i, .int .i64 e, z], .int .i64 r]
end TL
end Go
namespace Go.Proofs.Ytepjillcmpmlkaa
open Go.RowKit Go.TL
set_option maxRecDepth 100000 in
set_option maxHeartbeats 16000000 in
theorem bRead_c (s : List UInt8) (w : World) (hs : s.length ≤ 1000000) :
    Calls Try.prog 16 #[.string (mkS s)] w (Gives 3 opV (readB s).1.2.2 (batR (readB s).1.1 (readB s).1.2.1 (readB s).2) w) := by
  have M := (Mem.start [] w).nil 3
  have hst : (inStart s).fit := by unfold inStart InS.fit; simp; omega
  have RF := @readB_fin s
  have RB := @readB_bad s
  have RO := @readB_ok s
  obtain ⟨A, eA⟩ : ∃ A, A = readB s := ⟨_, rfl⟩
  rw [← eA] at RF RB RO ⊢
  clear eA
  have e3 : nums3 s = (((inStart s).most 4611686018427387904).1, ((inStart s).most 4611686018427387904).2.most 9223372036854775807 |>.1, (((inStart s).most 4611686018427387904).2.most 9223372036854775807).2.most 4) := rfl
  have T0 := fun g w h => Most_c g (inStart s) w h hst 4611686018427387904 4611686018427387904 rfl (by omega)
  have hf0 := InS.most_fit hst 4611686018427387904
  have hi0 := InS.most_le (inStart s) 4611686018427387904
  obtain ⟨⟨i, x0⟩, e0⟩ : ∃ R, R = (inStart s).most 4611686018427387904 := ⟨_, rfl⟩
  rw [← e0] at e3 T0 hf0 hi0
  simp only at e3 T0 hf0 hi0
  clear e0
  have T1 := fun g w h => Most_c g x0 w h hf0 9223372036854775807 9223372036854775807 rfl (by omega)
  have hf1 := InS.most_fit hf0 9223372036854775807
  have hi1 := InS.most_le x0 9223372036854775807
  obtain ⟨⟨e, x1⟩, e1⟩ : ∃ R, R = x0.most 9223372036854775807 := ⟨_, rfl⟩
  rw [← e1] at e3 T1 hf1 hi1
  simp only at e3 T1 hf1 hi1
  clear e1
  have T2 := fun g w h => Most_c g x1 w h hf1 4 4 rfl (by omega)
  have hf2 := InS.most_fit hf1 4
  have hi2 := InS.most_le x1 4
  obtain ⟨⟨n0, x2⟩, e2⟩ : ∃ R, R = x1.most 4 := ⟨_, rfl⟩
  rw [← e2] at e3 T2 hf2 hi2
  simp only at e3 T2 hf2 hi2
  clear e2
  replace RF := fun d x => @RF i e n0 x2 x d e3
  replace RB := fun d x r => @RB i e n0 x2 x d r e3
  replace RO := fun d x => @RO i e n0 x2 x d e3
  replace RF := Lib.hid RF
  replace RB := Lib.hid RB
  replace RO := Lib.hid RO
  replace T0 := Lib.hid T0
  replace T1 := Lib.hid T1
  replace T2 := Lib.hid T2
  clear e3
  go_enter Try.func16, Try.ntmps16
  go_wp2_with ((first | ((with_reducible refine tAlloc (some 2) 31 ?_); refine w_alloc M _ rfl rfl (.agg #[.int .i64 0, .int .i64 0, .slice none 0 0]) ([.int .i64 0, .int .i64 0, .slice none 0 0]) (by kernel_rfl) rfl ?_; clear M; intro gr w1 M) | (go_at_call 34; go_must (refine (packOf_c _ _).mono ?_; rintro e w1 ⟨gi, rfl, MP⟩; replace M := M.join MP; clear MP; simp only [List.cons_append, List.nil_append] at M)) | (go_at_call 35; go_must (first | ((first | (with_reducible refine (T0.out gi _ (M.ok 0 _ rfl)).mono ?_) | (with_reducible refine (T1.out gi _ (M.ok 0 _ rfl)).mono ?_)); rintro e w1 ⟨rfl, U⟩; replace M := M.upd 0 rfl U; clear U; simp only [List.set_cons_zero] at M) | ((with_reducible refine (T2.out gi _ (M.ok 1 _ rfl)).mono ?_); rintro e w1 ⟨rfl, U⟩; replace M := M.upd 1 rfl U; clear U; simp only [List.set_cons_zero, List.set_cons_succ] at M))) | ((with_reducible refine tAlloc (some 5) 31 ?_); refine w_alloc M _ rfl rfl (.agg #[.int .i64 0, .int .i64 0, .slice none 0 0]) ([.int .i64 0, .int .i64 0, .slice none 0 0]) (by kernel_rfl) rfl ?_; clear M; intro gb w1 M) | ((with_reducible refine tM rfl ?_); refine mS ?_; try (clear M; (first | intro g w1 M | intro w1 M); try simp only [setC] at M))) <;> (try conv => arg 5; simp only [apS, setC]))
  clear T0 T1 T2
  go_loopw [6] (fun nv wr => ∃ (m : Nat) (d : List Opr) (x : InS) (q : Option Addr) (c : Nat), nv = .int .i64 m ∧ x.fit ∧ d.length + m ≤ 4 ∧ Hid (rdOps n0 x2 = (d ++ (rdOps m x).1, (rdOps m x).2) ∧ ∀ y ∈ d, y.2.1.length ≤ 33 ∧ y.2.2.length ≤ 32) ∧ Mem [] w wr [.row gb [.int .i64 i, .int .i64 e, .slice q d.length c], .row gi (inV x), .row gr [.int .i64 0, .int .i64 0, .slice none 0 0], .sl 3 (.slice q d.length c) d.length (d.flatMap opV)]) (fun nv _ => (intOf nv).toNat)
  case atStart => exact ⟨n0, [], x2, none, 0, rfl, hf2, by simp; omega, Lib.hid ⟨by simp, by simp⟩, M⟩
  case round =>
    clear M
    obtain ⟨m, d, x, q, c, rfl, hf, hdm, HR, M⟩ := hrel
    cases m with
    | zero =>
      have hR : rdOps n0 x2 = (d, x) := by simpa [rdO_zero] using HR.out.1
      have hm := HR.out.2
      have RA := RF.out d x hR
      have RC := RB.out d x
      have RD := RO.out d x hR
      replace RC := fun r => RC r hR
      clear hR
      by_cases hfin : x.fin = 0
      · have P := fun w S => bRight_c i e d (.slice q d.length c) w S (by omega) (fun y hy => by have := hm y hy; omega)
        replace RC := RC _ hfin rfl
        replace RD := RD hfin
        obtain ⟨pe, ep⟩ : ∃ R, R = rightB i e d := ⟨_, rfl⟩
        rw [← ep] at P RC RD
        replace RC := Lib.hid RC
        replace RD := Lib.hid RD
        replace P := Lib.hid P
        have E := fun w h => End_c gi x w h hf
        rw [hfin] at E
        replace E := Lib.hid E
        clear ep hfin RA
        by_cases hpe : pe = 0
        · subst hpe
          have e0 := RD.out rfl
          subst e0
          clear RC RD
          go_wp2_with ((first | (go_at_call 39; go_must (refine (E.out _ (M.ok 1 _ rfl)).mono ?_; rintro e w1 ⟨rfl, hb⟩; replace M := M.call hb; clear hb)) | (go_at_call 21; go_must (refine (P.out _ (SeesL.own M 3 rfl rfl opV_len)).mono ?_; rintro e w1 ⟨rfl, hb⟩; replace M := M.call hb; clear hb)) | ((with_reducible refine tM rfl ?_); refine mS ?_; try (clear M; (first | intro g w1 M | intro w1 M); try simp only [setC] at M))) <;> (try conv => arg 5; simp only [apS, setC]))
          refine bodyPost_ret (results_row2 rfl _ _ gr 0 [.int .i64 i, .int .i64 e, .slice q d.length c] _ (.int .i64 ((0 : Nat) : Int)) rfl rfl (M.ok 2 _ rfl).2.1 Try.underlying31 rfl (by kernel_rfl)) rfl (Gives.at (r := batR i e 0) M 3 rfl)
        · have e0 := RC.out hpe
          subst e0
          clear RC RD
          have hz : ((pe : Int) == 0) = false := by simp; exact hpe
          have hz' : ((pe : Int) != 0) = true := by simp; exact hpe
          clear hpe
          go_wp2_with ((first | (go_at_call 39; go_must (refine (E.out _ (M.ok 1 _ rfl)).mono ?_; rintro e w1 ⟨rfl, hb⟩; replace M := M.call hb; clear hb)) | (go_at_call 21; go_must (refine (P.out _ (SeesL.own M 3 rfl rfl opV_len)).mono ?_; rintro e w1 ⟨rfl, hb⟩; replace M := M.call hb; clear hb)) | ((with_reducible refine tM rfl ?_); refine mS ?_; try (clear M; (first | intro g w1 M | intro w1 M); try simp only [setC] at M))) <;> (try conv => arg 5; simp only [apS, setC]))
          refine bodyPost_ret (results_row2 rfl _ _ gr 0 [.int .i64 0, .int .i64 0, .slice none 0 0] _ (.int .i64 ((pe : Nat) : Int)) rfl rfl (M.ok 2 _ rfl).2.1 Try.underlying31 rfl (by kernel_rfl)) rfl (Gives.intro (r := batR 0 0 pe) (p := none) (cap := 0) (M.nil 3))
      · have e0 := RA hfin
        have E := fun w h => End_c gi x w h hf
        obtain ⟨fe, efe⟩ : ∃ f, f = x.fin := ⟨_, rfl⟩
        rw [← efe] at e0 E hfin
        subst e0
        replace E := Lib.hid E
        clear RA RC RD efe
        have hz : ((fe : Int) == 0) = false := by simp; exact hfin
        have hz' : ((fe : Int) != 0) = true := by simp; exact hfin
        clear hfin
        go_wp2_with ((first | (go_at_call 39; go_must (refine (E.out _ (M.ok 1 _ rfl)).mono ?_; rintro e w1 ⟨rfl, hb⟩; replace M := M.call hb; clear hb)) | ((with_reducible refine tM rfl ?_); refine mS ?_; try (clear M; (first | intro g w1 M | intro w1 M); try simp only [setC] at M))) <;> (try conv => arg 5; simp only [apS, setC]))
        refine bodyPost_ret (results_row2 rfl _ _ gr 0 [.int .i64 0, .int .i64 0, .slice none 0 0] _ (.int .i64 ((fe : Nat) : Int)) rfl rfl (M.ok 2 _ rfl).2.1 Try.underlying31 rfl (by kernel_rfl)) rfl (Gives.intro (r := batR 0 0 fe) (p := none) (cap := 0) (M.nil 3))
    | succ m =>
      obtain ⟨ki, hki⟩ := InS.byte_q x
      have hf1 := InS.byte_fit hf
      have B := fun g w h => In_Byte_c g x w h hf
      have GE := @rdO_err m ki.toNat x
      have GK := @rdO_kind m ki x
      have GP := fun x1 (h : x.byte = (ki.toNat, x1)) (h1 : ki = 1) => @rdO_put m x x1 (by rw [h, h1])
      have GD := fun x1 (h : x.byte = (ki.toNat, x1)) (h1 : ki = 2) => @rdO_del m x x1 (by rw [h, h1])
      obtain ⟨⟨nb, x3⟩, e1⟩ : ∃ R, R = x.byte := ⟨_, rfl⟩
      rw [← e1] at hki hf1 B GE GK GP GD
      simp only at hki hf1 B
      subst hki
      simp only [← I8_eq] at B
      replace GE := GE rfl
      replace GK := GK rfl
      replace GP := GP _ rfl
      replace GD := GD _ rfl
      replace B := Lib.hid B
      clear e1
      by_cases he : x3.err = 0
      · have HE := Lib.hid he
        replace GK := GK he
        clear he GE
        by_cases hq : ki = 1 ∨ ki = 2
        · clear GK
          have hf4 := InS.text_fit hf1 33
          have hp := InS.text_len x3 33
          have T1 := fun g w h => In_Text_c g x3 w h hf1 33 33 rfl (by omega)
          replace GP := fun h => GP h HE.out
          replace GD := fun h => GD h HE.out
          obtain ⟨⟨pa, x4⟩, e1⟩ : ∃ R, R = x3.text 33 := ⟨_, rfl⟩
          rw [← e1] at hf4 hp T1 GP GD
          simp only at hf4 hp T1 GP GD
          replace T1 := Lib.hid T1
          clear e1
          by_cases h1 : ki = 1
          · replace GP := GP h1
            clear GD hq
            subst h1
            have hf5 := InS.text_fit hf4 32
            have hv := InS.text_len x4 32
            have T2 := fun g w h => In_Text_c g x4 w h hf4 32 32 rfl (by omega)
            obtain ⟨⟨va, x5⟩, e2⟩ : ∃ R, R = x4.text 32 := ⟨_, rfl⟩
            rw [← e2] at hf5 hv T2 GP
            simp only at hf5 hv T2 GP
            replace T2 := Lib.hid T2
            replace GP := Lib.hid GP
            clear e2
            go_wp2_with ((first | ((with_reducible refine tGuard ?_); first | ((with_reducible refine w_stripE ?_ ?_); exact dcd) | ((with_reducible refine w_skip1 ?_ ?_); exact dcd) | ((with_reducible refine w_skip0 ?_ ?_); exact dcd)) | (go_at_call 36; go_must (refine (B.out _ _ (M.ok 1 _ rfl)).mono ?_; rintro e w1 ⟨rfl, U⟩; replace M := M.upd 1 rfl U; clear U; simp only [List.set_cons_zero, List.set_cons_succ] at M)) | (go_at_call 38; go_must ((first | (with_reducible refine (T1.out _ _ (M.ok 2 _ rfl)).mono ?_) | (with_reducible refine (T2.out _ _ (M.ok 2 _ rfl)).mono ?_)); rintro e w1 ⟨rfl, U⟩; replace M := M.upd 2 rfl U; clear U; simp only [List.set_cons_zero, List.set_cons_succ] at M)) | ((with_reducible refine tAlloc (some 7) 44 ?_); refine w_alloc M _ rfl rfl (.agg #[.int .u8 0, .string (mkS []), .string (mkS [])]) (opV (0, [], [])) (by kernel_rfl) rfl ?_; clear M; intro gp w1 M) | (go_at_call 37; go_must (refine (Fault_ok _ _ _ (M.ok 2 _ rfl) HE.out).mono ?_; rintro e w1 ⟨rfl, rfl⟩)) | ((with_reducible show wpList _ _ _ (Oper.mk _ (Op.buildSlice _ 1 _) _ _ _ _ :: _) _ _); go_must (refine w_buildSlice1 M opT (by decide) _ rfl rfl (by first | exact ev_tmp rfl | exact ev_const) _ rfl rfl ?_; clear M; intro g w1 M)) | ((with_reducible refine tApp ?_); go_must (refine w_append_new M 4 opT _ _ rfl rfl rfl rfl rfl rfl (by first | decide | (intro q hq; simp at hq; subst hq; rfl) | (intro q hq; simp at hq; rcases hq with rfl | rfl; rfl; rfl) | (intro q hq; simp at hq; rcases hq with rfl | rfl | rfl <;> rfl)) (by decide) (by first | (simp only [maxLen]; omega) | (simp [maxLen]; omega)) (by first | omega | (simp; omega)) ?_; clear M; intro q cap w1 M; (try simp only [setC] at M))) | ((with_reducible refine tM rfl ?_); refine mS ?_; try (clear M; (first | intro g w1 M | intro w1 M); try simp only [setC] at M))) <;> (try conv => arg 5; simp only [apS, setC]))
            go_roundw
            case rel => exact ⟨m, d ++ [(1, pa, va)], x5, q, cap, by go_num, hf5, by simp; omega, Lib.hid ⟨by rw [HR.out.1, GP.out]; simp, fun y hy => by
              rcases List.mem_append.1 hy with hy | hy
              · exact HR.out.2 y hy
              · obtain rfl : y = (1, pa, va) := by simpa using hy
                exact ⟨hp, hv⟩⟩, by simpa [opV] using M.tail⟩
            case measure => simp [intOf]
          · have h2 : ki = 2 := hq.resolve_left h1
            replace GD := GD h2
            clear GP hq h1
            subst h2
            replace GD := Lib.hid GD
            go_wp2_with ((first | ((with_reducible refine tGuard ?_); first | ((with_reducible refine w_stripE ?_ ?_); exact dcd) | ((with_reducible refine w_skip1 ?_ ?_); exact dcd) | ((with_reducible refine w_skip0 ?_ ?_); exact dcd)) | (go_at_call 36; go_must (refine (B.out _ _ (M.ok 1 _ rfl)).mono ?_; rintro e w1 ⟨rfl, U⟩; replace M := M.upd 1 rfl U; clear U; simp only [List.set_cons_zero, List.set_cons_succ] at M)) | (go_at_call 38; go_must (refine (T1.out _ _ (M.ok 2 _ rfl)).mono ?_; rintro e w1 ⟨rfl, U⟩; replace M := M.upd 2 rfl U; clear U; simp only [List.set_cons_zero, List.set_cons_succ] at M)) | ((with_reducible refine tAlloc (some 7) 44 ?_); refine w_alloc M _ rfl rfl (.agg #[.int .u8 0, .string (mkS []), .string (mkS [])]) (opV (0, [], [])) (by kernel_rfl) rfl ?_; clear M; intro gp w1 M) | (go_at_call 37; go_must (refine (Fault_ok _ _ _ (M.ok 2 _ rfl) HE.out).mono ?_; rintro e w1 ⟨rfl, rfl⟩)) | ((with_reducible show wpList _ _ _ (Oper.mk _ (Op.buildSlice _ 1 _) _ _ _ _ :: _) _ _); go_must (refine w_buildSlice1 M opT (by decide) _ rfl rfl (by first | exact ev_tmp rfl | exact ev_const) _ rfl rfl ?_; clear M; intro g w1 M)) | ((with_reducible refine tApp ?_); go_must (refine w_append_new M 4 opT _ _ rfl rfl rfl rfl rfl rfl (by first | decide | (intro q hq; simp at hq; subst hq; rfl) | (intro q hq; simp at hq; rcases hq with rfl | rfl; rfl; rfl) | (intro q hq; simp at hq; rcases hq with rfl | rfl | rfl <;> rfl)) (by decide) (by first | (simp only [maxLen]; omega) | (simp [maxLen]; omega)) (by first | omega | (simp; omega)) ?_; clear M; intro q cap w1 M; (try simp only [setC] at M))) | ((with_reducible refine tM rfl ?_); refine mS ?_; try (clear M; (first | intro g w1 M | intro w1 M); try simp only [setC] at M))) <;> (try conv => arg 5; simp only [apS, setC]))
            go_roundw
            case rel => exact ⟨m, d ++ [(2, pa, [])], x4, q, cap, by go_num, hf4, by simp; omega, Lib.hid ⟨by rw [HR.out.1, GD.out]; simp, fun y hy => by
              rcases List.mem_append.1 hy with hy | hy
              · exact HR.out.2 y hy
              · obtain rfl : y = (2, pa, []) := by simpa using hy
                exact ⟨hp, by simp⟩⟩, by simpa [opV] using M.tail⟩
            case measure => simp [intOf]
        · replace GK := GK hq
          have hR : rdOps n0 x2 = (d, x3.bad 10) := by rw [HR.out.1, GK]; simp
          have e0 := RF.out _ _ hR (by rw [bad_fin _ (by decide)]; decide)
          rw [bad_fin _ (by decide)] at e0
          obtain ⟨h1, h1'⟩ := I8_ne (q := ki) (c := 1) (fun h => hq (.inl h))
          obtain ⟨h2, h2'⟩ := I8_ne (q := ki) (c := 2) (fun h => hq (.inr h))
          rw [show I8 1 = 1 from rfl] at h1 h1'
          rw [show I8 2 = 2 from rfl] at h2 h2'
          subst e0
          clear hq GK GP GD hR
          go_wp2_with ((first | ((with_reducible refine tGuard ?_); first | ((with_reducible refine w_stripE ?_ ?_); exact dcd) | ((with_reducible refine w_skip1 ?_ ?_); exact dcd) | ((with_reducible refine w_skip0 ?_ ?_); exact dcd)) | (go_at_call 36; go_must (refine (B.out _ _ (M.ok 1 _ rfl)).mono ?_; rintro e w1 ⟨rfl, U⟩; replace M := M.upd 1 rfl U; clear U; simp only [List.set_cons_zero, List.set_cons_succ] at M)) | ((with_reducible refine tAlloc (some 7) 44 ?_); refine w_alloc M _ rfl rfl (.agg #[.int .u8 0, .string (mkS []), .string (mkS [])]) (opV (0, [], [])) (by kernel_rfl) rfl ?_; clear M; intro gp w1 M) | (go_at_call 37; go_must (refine (Fault_ok _ _ _ (M.ok 2 _ rfl) HE.out).mono ?_; rintro e w1 ⟨rfl, rfl⟩)) | ((with_reducible refine tM rfl ?_); refine mS ?_; try (clear M; (first | intro g w1 M | intro w1 M); try simp only [setC] at M))) <;> (try conv => arg 5; simp only [apS, setC]))
          refine bodyPost_ret (results_row2 rfl _ _ gr 0 [.int .i64 0, .int .i64 0, .slice none 0 0] _ (.int .i64 ((10 : Nat) : Int)) rfl rfl (M.ok 3 _ rfl).2.1 Try.underlying31 rfl (by kernel_rfl)) rfl (Gives.intro (r := batR 0 0 10) (p := none) (cap := 0) (M.nil 3))
      · have HE := Lib.hid he
        replace GE := GE he
        have hR : rdOps n0 x2 = (d, x3) := by rw [HR.out.1, GE]; simp
        have e0 := RF.out _ _ hR (by rw [fin_err he]; exact he)
        rw [fin_err he] at e0
        obtain ⟨fe, efe⟩ : ∃ f, f = x3.err := ⟨_, rfl⟩
        have F := fun w h => Fault_no gi x3 w h HE.out
        rw [← efe] at e0 F HE
        have HF := HE.out
        have hz : ((fe : Int) == 0) = false := by simp; exact HF
        have hz' : ((fe : Int) != 0) = true := by simp; exact HF
        replace F := Lib.hid F
        subst e0
        clear efe hR HF he GE GK GP GD
        go_wp2_with ((first | (go_at_call 36; go_must (refine (B.out _ _ (M.ok 1 _ rfl)).mono ?_; rintro e w1 ⟨rfl, U⟩; replace M := M.upd 1 rfl U; clear U; simp only [List.set_cons_zero, List.set_cons_succ] at M)) | ((with_reducible refine tAlloc (some 7) 44 ?_); refine w_alloc M _ rfl rfl (.agg #[.int .u8 0, .string (mkS []), .string (mkS [])]) (opV (0, [], [])) (by kernel_rfl) rfl ?_; clear M; intro gp w1 M) | (go_at_call 37; go_must (refine (F.out _ (M.ok 2 _ rfl)).mono ?_; rintro e w1 ⟨rfl, hb⟩; replace M := M.call hb; clear hb)) | ((with_reducible refine tM rfl ?_); refine mS ?_; try (clear M; (first | intro g w1 M | intro w1 M); try simp only [setC] at M))) <;> (try conv => arg 5; simp only [apS, setC]))
        refine bodyPost_ret (results_row2 rfl _ _ gr 0 [.int .i64 0, .int .i64 0, .slice none 0 0] _ (.int .i64 ((fe : Nat) : Int)) rfl rfl (M.ok 3 _ rfl).2.1 Try.underlying31 rfl (by kernel_rfl)) rfl (Gives.intro (r := batR 0 0 fe) (p := none) (cap := 0) (M.nil 3))
end Go.Proofs.Ytepjillcmpmlkaa

/- A new writer, as a piece of the walk's memory. No conditions. -/
namespace Go
namespace TL
open Go.RowKit
theorem Mem.outNew {F : List Nat} {w0 w : World} {g : Nat} {L : List Chunk} (M : Mem F w0 w (.row g [.slice none 0 0] :: L)) : Mem F w0 w (outC g (.slice none 0 0) [] :: L) := by
  have M2 := M.nil 1
  have M3 : Mem F w0 w (.row g [.slice none 0 0] :: .sl 1 (.slice none 0 0) ([] : List UInt8).length (bs []) :: L) := by
    refine M2.pick _ (fun i => if i = 0 then 1 else if i = 1 then 0 else i) ?_ ?_
    · intro i j hi hj h
      by_cases i0 : i = 0 <;> by_cases i1 : i = 1 <;> by_cases j0 : j = 0 <;> by_cases j1 : j = 1 <;> simp_all <;> omega
    · intro i c h
      match i with
      | 0 => exact h
      | 1 => exact h
      | i + 2 => simpa using h
  exact M3.outShut
end TL
end Go

/- Plain laws of pack's reader: numbers and texts, read back and cut. No program in this text. No conditions but those each lemma names. -/
namespace Go
namespace TL
/-! ### Numbers and texts, read back and cut -/
theorem most_num {m n k : Nat} {r : List UInt8} (h : n ≤ m) (h64 : n < 18446744073709551616) : InS.most ⟨numL n ++ r, k, 0⟩ m = (n, ⟨r, k + (numL n).length, 0⟩) := by
  unfold InS.most InS.take
  simp only [if_true]
  rw [read_num n m r h64, if_neg (by omega)]
  simp
theorem text_text {m k : Nat} {t r : List UInt8} (h : t.length ≤ m) (h64 : t.length < 18446744073709551616) : InS.text ⟨textL t ++ r, k, 0⟩ m = (t, ⟨r, k + (textL t).length, 0⟩) := by
  unfold InS.text InS.take textL
  have e := read_num t.length m (t ++ r) h64
  rw [if_neg (by omega)] at e
  simp only [if_true, List.append_assoc]
  rw [e]
  simp only [if_true]
  rw [if_pos (by simp)]
  simp [List.drop_append]
end TL
end Go

/- Plain laws of layer 12 (batch): a batch's bytes, read, are the batch; cut they end too early; what is read has just its bytes; what is shipped; which operations fit. No program in this text. No conditions but those each lemma names. -/
namespace Go
namespace TL
def fitO (x : Opr) : Prop := (x.1 = 1 ∨ x.1 = 2) ∧ x.2.1.length ≤ 33 ∧ x.2.2.length ≤ 32 ∧ (x.1 = 2 → x.2.2 = [])
theorem byte_consB (b : UInt8) (r : List UInt8) (k : Nat) : InS.byte ⟨b :: r, k, 0⟩ = (b.toNat, ⟨r, k + 1, 0⟩) := rfl
theorem opB_1 (p v : List UInt8) : opB (1, p, v) = 1 :: (textL p ++ textL v) := rfl
theorem opB_2 (p v : List UInt8) : opB (2, p, v) = 2 :: textL p := by unfold opB; rw [if_neg (by simp), List.append_nil]
theorem rd_ops : ∀ (l : List Opr) (r : List UInt8) (k : Nat), (∀ x ∈ l, fitO x) → ∃ k', rdOps l.length ⟨l.flatMap opB ++ r, k, 0⟩ = (l, ⟨r, k', 0⟩)
  | [], r, k, _ => ⟨k, by simp [rdOps]⟩
  | (q, p, v) :: l, r, k, h => by
    obtain ⟨hq, h1, h2, h3⟩ := h (q, p, v) List.mem_cons_self
    simp only at hq h1 h2 h3
    rcases hq with rfl | rfl
    · obtain ⟨k', ih⟩ := rd_ops l r (k + 1 + (textL p).length + (textL v).length) fun y hy => h y (List.mem_cons_of_mem _ hy)
      refine ⟨k', ?_⟩
      rw [List.length_cons, List.flatMap_cons, opB_1, List.cons_append, List.cons_append, List.append_assoc, List.append_assoc]
      rw [rdO_put (byte_consB _ _ _) rfl, text_text h1 (by omega)]
      simp only
      rw [text_text h2 (by omega)]
      simp only
      rw [ih]
    · obtain rfl := h3 rfl
      obtain ⟨k', ih⟩ := rd_ops l r (k + 1 + (textL p).length) fun y hy => h y (List.mem_cons_of_mem _ hy)
      refine ⟨k', ?_⟩
      rw [List.length_cons, List.flatMap_cons, opB_2, List.cons_append, List.cons_append, List.append_assoc]
      rw [rdO_del (byte_consB _ _ _) rfl, text_text h1 (by omega)]
      simp only
      rw [ih]
/-! ### Batches -/
theorem cutE_ok {p : List UInt8} (h : cutE p = 0) : p.length ≤ 33 ∧ (cutL p).2.2 = true := by
  unfold cutE at h
  split at h
  · rename_i h0
    obtain ⟨⟨m, k, ok⟩, e⟩ : ∃ c, c = cutL p := ⟨_, rfl⟩
    rw [← e] at h0 ⊢
    simp only at h0; subst h0
    obtain ⟨hp, _, _, hm, hk', _⟩ := cut_ok e.symm
    refine ⟨?_, rfl⟩
    rw [hp]; simp; omega
  · cases h
theorem right_fit {i e : Int} {ops : List Opr} (h : rightB i e ops = 0) : ∀ x ∈ ops, fitO x := fun x hx => by
  obtain ⟨_, _, _, _, h4⟩ := right_ok h
  obtain ⟨k1, k2, k3, k4⟩ := op_zero (each_ok h4 x hx)
  exact ⟨k1, (cutE_ok k2).1, k3, k4⟩
theorem nums_bat {i e : Nat} {ops : List Opr} (r : List UInt8) (hi : i ≤ 4611686018427387904) (he : e ≤ 9223372036854775807) (hl : ops.length ≤ 4) : ∃ k, nums3 (batB i e ops ++ r) = (i, e, ops.length, ⟨ops.flatMap opB ++ r, k, 0⟩) := by
  unfold nums3 batB
  simp only [List.append_assoc]
  rw [most_num hi (by omega)]
  simp only
  rw [most_num he (by omega)]
  simp only
  rw [most_num hl (by omega)]
  exact ⟨_, rfl⟩
theorem read_bat {i e : Nat} {ops : List Opr} (h : rightB i e ops = 0) (he : e ≤ 9223372036854775807) (r : List UInt8) : readB (batB i e ops ++ r) = if r = [] then ((i, e, ops), 0) else ((0, 0, []), 8) := by
  obtain ⟨h1, h2, h3, h4, _⟩ := right_ok h
  obtain ⟨k, hn⟩ := nums_bat (ops := ops) r (by omega : i ≤ 4611686018427387904) he h4
  obtain ⟨k', hr⟩ := rd_ops ops r k (right_fit h)
  by_cases e0 : r = []
  · subst e0
    rw [if_pos rfl]
    exact readB_ok hn hr rfl h
  · rw [if_neg e0]
    have hf : (InS.mk r k' 0).fin = 8 := by unfold InS.fin; rw [if_pos rfl, if_neg (by simpa using e0)]
    rw [readB_fin hn hr (by rw [hf]; decide), hf]
/-! ### What is shipped -/
/-! ### What fits -/
end TL
end Go

/- The walks of batch.Bytes and of the reference's Bytes. Conditions: lengths; the numbers are int's. -/
namespace Go
namespace TL
theorem opB_len {x : Opr} (h1 : x.2.1.length ≤ 1000) (h2 : x.2.2.length ≤ 1000) : (opB x).length ≤ 2021 := by
  unfold opB textL
  have := numL_length_le x.2.1.length (by omega)
  have := numL_length_le x.2.2.length (by omega)
  split <;> simp <;> omega
theorem opsB_len : ∀ {l : List Opr}, (∀ x ∈ l, x.2.1.length ≤ 1000 ∧ x.2.2.length ≤ 1000) → (l.flatMap opB).length ≤ l.length * 2021
  | [], _ => by simp
  | x :: l, h => by
    have h1 := h x List.mem_cons_self
    have := opB_len h1.1 h1.2
    have := opsB_len (l := l) fun y hy => h y (List.mem_cons_of_mem _ hy)
    simp only [List.flatMap_cons, List.length_append, List.length_cons]; omega
theorem flatO_take {l : List Opr} {k : Nat} {x : Opr} (h : l[k]? = some x) : (l.take (k + 1)).flatMap opB = (l.take k).flatMap opB ++ opB x := by
  obtain ⟨hk, rfl⟩ := List.getElem?_eq_some_iff.1 h
  rw [List.take_succ_eq_append_getElem hk, List.flatMap_append, List.flatMap_cons, List.flatMap_nil, List.append_nil]
theorem opB_put {q : UInt8} {a b : List UInt8} (h : q = 1) : opB (q, a, b) = [q] ++ textL a ++ textL b := by unfold opB; rw [if_pos h]; rfl
theorem opB_del {q : UInt8} {a b : List UInt8} (h : q ≠ 1) : opB (q, a, b) = [q] ++ textL a := by unfold opB; rw [if_neg h, List.append_nil]; rfl
theorem bytesB_no {i e : Int} {ops : List Opr} (h : rightB i e ops ≠ 0) : bytesB i e ops = ([], rightB i e ops) := if_neg h
theorem bytesB_ok {i e : Int} {ops : List Opr} (h : rightB i e ops = 0) : bytesB i e ops = (batB i.toNat e.toNat ops, 0) := if_pos h
end TL
end Go
namespace Go.Proofs.Ytepjillcmpmlkaa
open Go.RowKit Go.TL
set_option maxRecDepth 100000 in
set_option maxHeartbeats 8000000 in
theorem bBytes_c (i e : Int) (he : e ≤ 9223372036854775807) (ops : List Opr) (v : Value) (w : World) (S : SeesL w 3 opV v ops) (hl : ops.length ≤ 1000) (hm0 : ∀ x ∈ ops, x.2.1.length ≤ 100000000 ∧ x.2.2.length ≤ 100000000) :
    Calls Try.prog 19 #[.agg #[.int .i64 i, .int .i64 e, v]] w fun r w' => r = .returned (.tuple #[.string (mkS (bytesB i e ops).1), .int .i64 (bytesB i e ops).2]) ∧ Below w.heap.size w w' := by
  have M := Mem.start [] w
  have Y := fun w (S : SeesL w 3 opV v ops) => bRight_c i e ops v w S (by omega) (fun x hx => by have := hm0 x hx; omega)
  have BN := @bytesB_no i e ops
  have BO := @bytesB_ok i e ops
  have RO := @right_ok i e ops
  have hm : rightB i e ops = 0 → ∀ x ∈ ops, x.2.1.length ≤ 1000 ∧ x.2.2.length ≤ 1000 := fun h x hx => by
    obtain ⟨_, k2, k3, _⟩ := right_fit h x hx
    omega
  obtain ⟨A, eA⟩ : ∃ A, A = bytesB i e ops := ⟨_, rfl⟩
  obtain ⟨R, eR⟩ : ∃ R, R = rightB i e ops := ⟨_, rfl⟩
  rw [← eA, ← eR] at BN
  rw [← eA, ← eR] at BO
  rw [← eR] at RO Y hm
  rw [← eA]
  replace Y := Lib.hid Y
  clear eA eR
  obtain ⟨p, cap, rfl, hc⟩ := S.form
  by_cases hR : R = 0
  · subst hR
    obtain ⟨h1, h2, h3, h4, _⟩ := RO rfl
    have e0 := BO rfl
    replace hm := hm rfl
    clear BN BO RO
    obtain ⟨i, rfl⟩ : ∃ n : Nat, i = n := ⟨i.toNat, by omega⟩
    obtain ⟨e, rfl⟩ : ∃ n : Nat, e = n := ⟨e.toNat, by omega⟩
    rw [Int.toNat_natCast, Int.toNat_natCast] at e0
    unfold batB at e0
    subst e0
    have hni := numL_length_le i (by omega)
    have hne := numL_length_le e (by omega)
    have hnn := numL_length_le ops.length (by omega)
    have hz : (i : Int) ≤ 4611686018427387904 := by omega
    have hz' : (e : Int) ≤ 9223372036854775807 := by omega
    have hz2 : 0 ≤ (i : Int) := by omega
    have hz3 : 0 ≤ (e : Int) := by omega
    go_enter Try.func19, Try.ntmps19
    have hmB := fun k => opsB_len (l := ops.take k) (fun x hx => hm x (List.mem_of_mem_take hx))
    go_wp2_with ((first | ((with_reducible refine tBox (some 1) ?_); refine w_box M _ _ rfl rfl _ rfl ([.int .i64 i, .int .i64 e, .slice p ops.length cap]) rfl ?_; clear M; intro gb w1 M) | ((with_reducible refine tBox (some 14) ?_); refine w_box M _ _ rfl rfl _ rfl ([.slice none 0 0]) rfl ?_; clear M; intro go w1 M) | (go_at_call 21; go_must (refine (Y.out _ (S.now M)).mono ?_; rintro e w1 ⟨rfl, hb⟩; replace M := M.call hb; clear hb)) | (go_at_call 44; go_must (first | ((with_reducible refine (Num_c _ _ _ i _ (I64_nat i (by omega)) _ (by omega) (by simp) (M.outNew.ok 0 _ rfl)).mono ?_); rintro e w2 ⟨rfl, v1, U⟩; replace M := M.outNew.upd 0 rfl U; clear U; simp only [List.set_cons_zero, List.nil_append] at M) | ((with_reducible refine (Num_c _ _ _ e _ (I64_nat e (by omega)) _ (by omega) (by omega) (M.ok 0 _ rfl)).mono ?_); rintro e w2 ⟨rfl, v1, U⟩; replace M := M.upd 0 rfl U; clear U; simp only [List.set_cons_zero] at M) | ((with_reducible refine (Num_c _ _ _ ops.length _ (I64_nat ops.length (by omega)) _ (by omega) (by simp; omega) (M.ok 0 _ rfl)).mono ?_); rintro e w2 ⟨rfl, v1, U⟩; replace M := M.upd 0 rfl U; clear U; simp only [List.set_cons_zero] at M))) | ((with_reducible refine tM rfl ?_); refine mS ?_; try (clear M; (first | intro g w1 M | intro w1 M); try simp only [setC] at M))) <;> (try conv => arg 5; simp only [apS, setC]))
    rw [List.append_assoc] at M
    go_loopw [34] (fun iv wr => ∃ (k : Nat) (v : Value), k ≤ ops.length ∧ iv = .int .i64 k ∧ Mem [] w wr [outC go v (numL i ++ (numL e ++ (numL ops.length ++ (ops.take k).flatMap opB))), .row gb [.int .i64 i, .int .i64 e, .slice p ops.length cap]]) (fun iv _ => ops.length - (intOf iv).toNat)
    case atStart => exact ⟨0, _, by omega, rfl, by simpa using M⟩
    case round =>
      clear M
      obtain ⟨k, v0, hk, rfl, M⟩ := hrel
      have hB := hmB k
      have hk2 : (ops.take k).length ≤ k := List.length_take_le _ _
      by_cases hlt : k < ops.length
      · obtain ⟨g, so, rfl⟩ := S.addr (by omega)
        obtain ⟨⟨q, a, b⟩, hx⟩ : ∃ x, ops[k]? = some x := ⟨_, List.getElem?_eq_getElem hlt⟩
        obtain ⟨ha, hb⟩ := hm (q, a, b) (List.mem_of_getElem? hx)
        simp only at ha hb
        have HT := Lib.hid (flatO_take hx)
        obtain ⟨d, ed⟩ : ∃ d, d = numL i ++ (numL e ++ (numL ops.length ++ (ops.take k).flatMap opB)) := ⟨_, rfl⟩
        have hd : d.length ≤ 200000 := by rw [ed]; simp only [List.length_append]; omega
        rw [← ed] at M
        have ED := Lib.hid ed
        have HX := Lib.hid hx
        have hta : (textL a).length ≤ 1010 := by unfold textL; have := numL_length_le a.length (by omega); simp; omega
        clear hx ed hmB hB
        by_cases hq : q = 1
        · have HQ := Lib.hid hq
          have hq1 : (I8 q == 1) = true := by rw [hq]; rfl
          clear hq
          go_wp2_with ((first | ((with_reducible refine tLoad ?_); refine w_at _ _ rfl (by exact ev_tmp rfl) ?_; intro hx; first | (refine w_seeA M S HX.out _ _ rfl hx rfl (by decide +kernel) (by first | (with_reducible rfl) | omega) (by kernel_rfl) ?_; clear hx; (try conv => arg 5; simp only [Act.put, List.setIfInBounds_toArray, setC, opV_eq])) | (refine w_see M S HX.out _ _ rfl hx rfl (by decide +kernel) 0 (by first | (with_reducible rfl) | omega) rfl ?_; clear hx) | (refine w_see M S HX.out _ _ rfl hx rfl (by decide +kernel) 1 (by first | (with_reducible rfl) | omega) rfl ?_; clear hx) | (refine w_see M S HX.out _ _ rfl hx rfl (by decide +kernel) 2 (by first | (with_reducible rfl) | omega) rfl ?_; clear hx)) | ((with_reducible refine tAlloc (some 7) 44 ?_); refine w_alloc M _ rfl rfl (.agg #[.int .u8 0, .string (mkS []), .string (mkS [])]) (opV (0, [], [])) (by kernel_rfl) rfl ?_; clear M; intro gx w1 M) | (go_at_call 45; go_must (refine (Out_Byte_c _ _ _ q _ (by omega) (M.ok 1 _ rfl)).mono ?_; rintro e w2 ⟨rfl, v1, U⟩; replace M := M.upd 1 rfl U; clear U; simp only [List.set_cons_zero, List.set_cons_succ] at M)) | (go_at_call 46; go_must (refine (Out_Text_c _ _ _ _ _ (by omega) (by first | omega | (simp; omega)) (M.ok 1 _ rfl)).mono ?_; rintro e w2 ⟨rfl, v1, U⟩; replace M := M.upd 1 rfl U; clear U; simp only [List.set_cons_zero, List.set_cons_succ] at M)) | ((with_reducible refine tM rfl ?_); refine mS ?_; try (clear M; (first | intro g w1 M | intro w1 M); try simp only [setC] at M))) <;> (try conv => arg 5; simp only [apS, setC]))
          go_roundw
          case rel => exact ⟨k + 1, _, by omega, by go_num, by
            rw [HT.out, opB_put HQ.out]
            have e9 : numL i ++ (numL e ++ (numL ops.length ++ ((ops.take k).flatMap opB ++ ([q] ++ textL a ++ textL b)))) = d ++ [q] ++ textL a ++ textL b := by rw [ED.out]; simp only [List.append_assoc]
            rw [e9]; exact M.tail⟩
          case measure => simp [intOf]; omega
        · have HQ := Lib.hid hq
          obtain ⟨hq1, hq2⟩ := I8_ne (q := q) (c := 1) hq
          rw [show I8 1 = 1 from rfl] at hq1 hq2
          clear hq
          go_wp2_with ((first | ((with_reducible refine tLoad ?_); refine w_at _ _ rfl (by exact ev_tmp rfl) ?_; intro hx; first | (refine w_seeA M S HX.out _ _ rfl hx rfl (by decide +kernel) (by first | (with_reducible rfl) | omega) (by kernel_rfl) ?_; clear hx; (try conv => arg 5; simp only [Act.put, List.setIfInBounds_toArray, setC, opV_eq])) | (refine w_see M S HX.out _ _ rfl hx rfl (by decide +kernel) 0 (by first | (with_reducible rfl) | omega) rfl ?_; clear hx) | (refine w_see M S HX.out _ _ rfl hx rfl (by decide +kernel) 1 (by first | (with_reducible rfl) | omega) rfl ?_; clear hx) | (refine w_see M S HX.out _ _ rfl hx rfl (by decide +kernel) 2 (by first | (with_reducible rfl) | omega) rfl ?_; clear hx)) | ((with_reducible refine tAlloc (some 7) 44 ?_); refine w_alloc M _ rfl rfl (.agg #[.int .u8 0, .string (mkS []), .string (mkS [])]) (opV (0, [], [])) (by kernel_rfl) rfl ?_; clear M; intro gx w1 M) | (go_at_call 45; go_must (refine (Out_Byte_c _ _ _ q _ (by omega) (M.ok 1 _ rfl)).mono ?_; rintro e w2 ⟨rfl, v1, U⟩; replace M := M.upd 1 rfl U; clear U; simp only [List.set_cons_zero, List.set_cons_succ] at M)) | (go_at_call 46; go_must (refine (Out_Text_c _ _ _ _ _ (by omega) (by first | omega | (simp; omega)) (M.ok 1 _ rfl)).mono ?_; rintro e w2 ⟨rfl, v1, U⟩; replace M := M.upd 1 rfl U; clear U; simp only [List.set_cons_zero, List.set_cons_succ] at M)) | ((with_reducible refine tM rfl ?_); refine mS ?_; try (clear M; (first | intro g w1 M | intro w1 M); try simp only [setC] at M))) <;> (try conv => arg 5; simp only [apS, setC]))
          go_roundw
          case rel => exact ⟨k + 1, _, by omega, by go_num, by
            rw [HT.out, opB_del HQ.out]
            have e9 : numL i ++ (numL e ++ (numL ops.length ++ ((ops.take k).flatMap opB ++ ([q] ++ textL a)))) = d ++ [q] ++ textL a := by rw [ED.out]; simp only [List.append_assoc]
            rw [e9]; exact M.tail⟩
          case measure => simp [intOf]; omega
      · obtain rfl : k = ops.length := by omega
        rw [List.take_length] at M
        go_wp2_with (first | (go_at_call 47; go_must (refine (Out_String_c _ _ _ _ (M.ok 0 _ rfl)).mono ?_; rintro e w1 ⟨rfl, rfl⟩)))
        go_ret2
        exact ⟨rfl, M.below⟩
  · have e0 := BN hR
    subst e0
    clear BN BO RO
    have hz : ((R : Int) == 0) = false := by simp; exact hR
    have hz' : ((R : Int) != 0) = true := by simp; exact hR
    clear hR
    go_enter Try.func19, Try.ntmps19
    go_wp2_with ((first | ((with_reducible refine tBox (some 1) ?_); refine w_box M _ _ rfl rfl _ rfl ([.int .i64 i, .int .i64 e, .slice p ops.length cap]) rfl ?_; clear M; intro gb w1 M) | (go_at_call 21; go_must (refine (Y.out _ (S.now M)).mono ?_; rintro e w1 ⟨rfl, hb⟩; replace M := M.call hb; clear hb)) | ((with_reducible refine tM rfl ?_); refine mS ?_; try (clear M; (first | intro g w1 M | intro w1 M); try simp only [setC] at M))) <;> (try conv => arg 5; simp only [apS, setC]))
    go_ret2
    exact ⟨rfl, M.below⟩
end Go.Proofs.Ytepjillcmpmlkaa

/- The walks of batch.Same (with slices.Equal at operations) and of the reference's Same. Conditions: lengths. -/
namespace Go
namespace TL
def sameB (i e j f : Int) (l m : List Opr) : Bool := i == j && (e == f && l == m)
theorem sameB_i {i e j f : Int} {l m : List Opr} (h : i ≠ j) : sameB i e j f l m = false := by unfold sameB; rw [beq_eq_false_iff_ne.2 h]; rfl
theorem sameB_e {i e j f : Int} {l m : List Opr} (h : e ≠ f) : sameB i e j f l m = false := by unfold sameB; rw [beq_eq_false_iff_ne.2 h, Bool.false_and, Bool.and_false]
theorem sameB_l {i e : Int} {l m : List Opr} : sameB i e i e l m = (l == m) := by unfold sameB; rw [beq_self_eq_true, beq_self_eq_true, Bool.true_and, Bool.true_and]
theorem eqO_ne {l m : List Opr} (k : Nat) (x y : Opr) (h1 : l[k]? = some x) (h2 : m[k]? = some y) (h : x ≠ y) : (l == m) = false := by
  rw [beq_eq_false_iff_ne]; rintro rfl; rw [h1] at h2; cases h2; exact h rfl
theorem eqO_eq {l m : List Opr} (h0 : l.length = m.length) (h : ∀ (k : Nat), k < l.length → l[k]? = m[k]?) : (l == m) = true := by
  rw [beq_iff_eq]
  apply List.ext_getElem?
  intro k
  by_cases hk : k < l.length
  · exact h k hk
  · rw [List.getElem?_eq_none (by omega), List.getElem?_eq_none (by omega)]
theorem eqO_len {l m : List Opr} (h : l.length ≠ m.length) : (l == m) = false := by
  rw [beq_eq_false_iff_ne]; rintro rfl; exact h rfl
theorem opV_ne {q q' : UInt8} {a b c d : List UInt8} (h : (q, a, b) ≠ (q', c, d)) : ¬ (I8 q = I8 q' ∧ a = c ∧ b = d) := by
  rintro ⟨h1, rfl, rfl⟩
  rw [I8_eq, I8_eq] at h1
  have : q = q' := UInt8.toNat_inj.1 (by omega)
  subst this; exact h rfl
end TL
end Go
namespace Go.Proofs.Ytepjillcmpmlkaa
open Go.RowKit Go.TL
set_option maxRecDepth 100000 in
set_option maxHeartbeats 4000000 in
theorem EqualO_c (l m : List Opr) (v u : Value) (w : World) (S : SeesL w 3 opV v l) (T : SeesL w 3 opV u m) (hl : l.length ≤ 1000000) (_hm : m.length ≤ 1000000) :
    Calls Try.prog 48 #[v, u] w fun e w' => e = .returned (.bool (l == m)) ∧ Below w.heap.size w w' := by
  obtain ⟨p, cap, rfl, hc⟩ := S.form
  obtain ⟨q, cap', rfl, hc'⟩ := T.form
  have hne := @eqO_ne l m
  have heq := @eqO_eq l m
  have hln := @eqO_len l m
  obtain ⟨R, eR⟩ : ∃ R, R = (l == m) := ⟨_, rfl⟩
  rw [← eR] at hne heq hln ⊢
  replace hne := Lib.hid hne
  replace heq := Lib.hid heq
  replace hln := Lib.hid hln
  clear eR
  have M := Mem.start [] w
  by_cases hn : l.length = m.length
  · have hq : ((l.length : Int) != (m.length : Int)) = false := by simp; omega
    go_enter Try.func48, Try.ntmps48
    replace hn := Lib.hid hn
    go_wp2_with fail
    go_loopw [13] (fun iv wr => ∃ k : Nat, k ≤ l.length ∧ iv = .int .i64 k ∧ Hid (∀ (j : Nat), j < k → l[j]? = m[j]?) ∧ Mem [] w wr []) (fun iv _ => l.length - (intOf iv).toNat)
    case atStart => exact ⟨0, by omega, rfl, Lib.hid (by omega), M⟩
    case round =>
      clear M
      obtain ⟨k, hk, rfl, HK, M⟩ := hrel
      by_cases hlt : k < l.length
      · obtain ⟨g, so, rfl⟩ := S.addr (by omega)
        obtain ⟨g', so', rfl⟩ := T.addr (by have := hn.out; omega)
        have hkm : k < m.length := by have := hn.out; omega
        obtain ⟨⟨qa, a, b⟩, hx⟩ : ∃ x, l[k]? = some x := ⟨_, List.getElem?_eq_getElem hlt⟩
        obtain ⟨⟨qc, c, d⟩, hy⟩ : ∃ x, m[k]? = some x := ⟨_, List.getElem?_eq_getElem hkm⟩
        have HX := Lib.hid hx; clear hx
        have HY := Lib.hid hy; clear hy
        by_cases hab : (qa, a, b) = (qc, c, d)
        · simp only [Prod.mk.injEq] at hab
          obtain ⟨rfl, rfl, rfl⟩ := hab
          go_wp2_with ((first | ((with_reducible refine tLoad ?_); refine w_at _ _ rfl (by exact ev_tmp rfl) ?_; intro hx; first | (refine w_seeA M S HX.out _ _ rfl hx rfl (by decide +kernel) (by first | (with_reducible rfl) | omega) (by kernel_rfl) ?_; clear hx; (try conv => arg 5; simp only [Act.put, List.setIfInBounds_toArray, setC, opV_eq])) | (refine w_see M S HX.out _ _ rfl hx rfl (by decide +kernel) 0 (by first | (with_reducible rfl) | omega) rfl ?_; clear hx) | (refine w_see M S HX.out _ _ rfl hx rfl (by decide +kernel) 1 (by first | (with_reducible rfl) | omega) rfl ?_; clear hx) | (refine w_see M S HX.out _ _ rfl hx rfl (by decide +kernel) 2 (by first | (with_reducible rfl) | omega) rfl ?_; clear hx) | (refine w_seeA M T HY.out _ _ rfl hx rfl (by decide +kernel) (by first | (with_reducible rfl) | omega) (by kernel_rfl) ?_; clear hx; (try conv => arg 5; simp only [Act.put, List.setIfInBounds_toArray, setC, opV_eq])) | (refine w_see M T HY.out _ _ rfl hx rfl (by decide +kernel) 0 (by first | (with_reducible rfl) | omega) rfl ?_; clear hx) | (refine w_see M T HY.out _ _ rfl hx rfl (by decide +kernel) 1 (by first | (with_reducible rfl) | omega) rfl ?_; clear hx) | (refine w_see M T HY.out _ _ rfl hx rfl (by decide +kernel) 2 (by first | (with_reducible rfl) | omega) rfl ?_; clear hx)) | ((with_reducible show Code.wp _ (Code.region 6 _ _) _ _ _); go_must (refine region_det [(0, false), (1, false), (2, false), (4, false), (5, false), (6, false), (3, false), (7, false), (8, false)] [(19, .cells), (23, .cells)] (by kernel_rfl) (by kernel_rfl) rfl (by kernel_rfl) ?_; replace M := M.drew; simp only [reord, opAt, List.map_cons, List.map_nil, List.getElem?_toArray, List.getElem?_cons_zero, List.getElem?_cons_succ, Option.getD_some])) | ((with_reducible refine tM rfl ?_); refine mS ?_; try (clear M; (first | intro g w1 M | intro w1 M); try simp only [setC] at M)) | ((with_reducible first | show Seg _ _ _ _ | show OnlyN _ _ _ _ _); refine rA ?_)) <;> (try conv => arg 5; simp only [apS, setC]))
          go_roundw
          case rel => exact ⟨k + 1, by omega, by go_num, Lib.hid fun j hj => by
            rcases Nat.lt_succ_iff_lt_or_eq.1 hj with hj | rfl
            · exact HK.out j hj
            · exact HX.out.trans HY.out.symm, M⟩
          case measure => simp [intOf]; omega
        · have e0 : R = false := hne.out k _ _ HX.out HY.out hab
          subst e0
          have hab := Lib.hid (opV_ne hab)
          go_wp2_with ((first | ((with_reducible refine tLoad ?_); refine w_at _ _ rfl (by exact ev_tmp rfl) ?_; intro hx; first | (refine w_seeA M S HX.out _ _ rfl hx rfl (by decide +kernel) (by first | (with_reducible rfl) | omega) (by kernel_rfl) ?_; clear hx; (try conv => arg 5; simp only [Act.put, List.setIfInBounds_toArray, setC, opV_eq])) | (refine w_see M S HX.out _ _ rfl hx rfl (by decide +kernel) 0 (by first | (with_reducible rfl) | omega) rfl ?_; clear hx) | (refine w_see M S HX.out _ _ rfl hx rfl (by decide +kernel) 1 (by first | (with_reducible rfl) | omega) rfl ?_; clear hx) | (refine w_see M S HX.out _ _ rfl hx rfl (by decide +kernel) 2 (by first | (with_reducible rfl) | omega) rfl ?_; clear hx) | (refine w_seeA M T HY.out _ _ rfl hx rfl (by decide +kernel) (by first | (with_reducible rfl) | omega) (by kernel_rfl) ?_; clear hx; (try conv => arg 5; simp only [Act.put, List.setIfInBounds_toArray, setC, opV_eq])) | (refine w_see M T HY.out _ _ rfl hx rfl (by decide +kernel) 0 (by first | (with_reducible rfl) | omega) rfl ?_; clear hx) | (refine w_see M T HY.out _ _ rfl hx rfl (by decide +kernel) 1 (by first | (with_reducible rfl) | omega) rfl ?_; clear hx) | (refine w_see M T HY.out _ _ rfl hx rfl (by decide +kernel) 2 (by first | (with_reducible rfl) | omega) rfl ?_; clear hx)) | ((with_reducible show Code.wp _ (Code.region 6 _ _) _ _ _); go_must (refine region_det [(0, false), (1, false), (2, false), (4, false), (5, false), (6, false), (3, false), (7, false), (8, false)] [(19, .cells), (23, .cells)] (by kernel_rfl) (by kernel_rfl) rfl (by kernel_rfl) ?_; replace M := M.drew; simp only [reord, opAt, List.map_cons, List.map_nil, List.getElem?_toArray, List.getElem?_cons_zero, List.getElem?_cons_succ, Option.getD_some])) | ((with_reducible refine tM rfl ?_); refine mS ?_; try (clear M; (first | intro g w1 M | intro w1 M); try simp only [setC] at M)) | ((with_reducible first | show Seg _ _ _ _ | show OnlyN _ _ _ _ _); refine rA ?_)) <;> (try conv => arg 5; simp only [apS, setC]))
          all_goals (first | exact absurd ⟨‹I8 qa = I8 qc›, ‹a = c›, ‹b = d›⟩ hab.out | (go_ret; exact ⟨rfl, M.below⟩))
      · obtain rfl : k = l.length := by omega
        have e0 : R = true := heq.out hn.out HK.out
        subst e0
        have hkm : ¬ l.length < m.length := by have := hn.out; omega
        go_wp2_with ((first | ((with_reducible refine tM rfl ?_); refine mS ?_; try (clear M; (first | intro g w1 M | intro w1 M); try simp only [setC] at M))) <;> (try conv => arg 5; simp only [apS, setC]))
        go_ret
        exact ⟨rfl, M.below⟩
  · have e0 : R = false := hln.out hn
    subst e0
    have hq : ((l.length : Int) != (m.length : Int)) = true := by simp; omega
    go_enter Try.func48, Try.ntmps48
    go_wp2_with fail
    go_ret
    exact ⟨rfl, M.below⟩
set_option maxRecDepth 100000 in
set_option maxHeartbeats 4000000 in
theorem bSame_c (i e j f : Int) (l m : List Opr) (v u : Value) (w : World) (S : SeesL w 3 opV v l) (T : SeesL w 3 opV u m) (hl : l.length ≤ 1000000) (_hm : m.length ≤ 1000000) :
    Calls Try.prog 20 #[.agg #[.int .i64 i, .int .i64 e, v], .agg #[.int .i64 j, .int .i64 f, u]] w fun r w' => r = .returned (.bool (sameB i e j f l m)) ∧ Below w.heap.size w w' := by
  obtain ⟨p, cap, rfl, hc⟩ := S.form
  obtain ⟨q, cap', rfl, hc'⟩ := T.form
  have M := Mem.start [] w
  by_cases hij : i = j
  · subst hij
    by_cases hef : e = f
    · subst hef
      rw [sameB_l]
      have E := fun w S T => EqualO_c l m (.slice p l.length cap) (.slice q m.length cap') w S T hl _hm
      obtain ⟨R, eR⟩ : ∃ R, R = (l == m) := ⟨_, rfl⟩
      rw [← eR] at E ⊢
      replace E := Lib.hid E
      clear eR
      go_enter Try.func20, Try.ntmps20
      go_wp2_with ((first | ((with_reducible refine tBox (some 2) ?_); refine w_box M _ _ rfl rfl _ rfl ([.int .i64 i, .int .i64 e, .slice p l.length cap]) rfl ?_; clear M; intro ga w1 M) | ((with_reducible refine tBox (some 3) ?_); refine w_box M _ _ rfl rfl _ rfl ([.int .i64 i, .int .i64 e, .slice q m.length cap']) rfl ?_; clear M; intro gb w1 M) | ((with_reducible refine tGuard ?_); first | ((with_reducible refine w_stripE ?_ ?_); exact dcd) | ((with_reducible refine w_skip1 ?_ ?_); exact dcd) | ((with_reducible refine w_skip0 ?_ ?_); exact dcd)) | (go_at_call 48; go_must (refine (E.out _ (S.now M) (T.now M)).mono ?_; rintro e w1 ⟨rfl, hb⟩; replace M := M.call hb; clear hb)) | ((with_reducible refine tM rfl ?_); refine mS ?_; try (clear M; (first | intro g w1 M | intro w1 M); try simp only [setC] at M))) <;> (try conv => arg 5; simp only [apS, setC]))
      go_ret
      exact ⟨rfl, M.below⟩
    · rw [sameB_e hef]
      have h1 : (e == f) = false := beq_eq_false_iff_ne.2 hef
      have h2 : (e != f) = true := by simpa using hef
      clear hef
      go_enter Try.func20, Try.ntmps20
      go_wp2_with ((first | ((with_reducible refine tBox (some 2) ?_); refine w_box M _ _ rfl rfl _ rfl ([.int .i64 i, .int .i64 e, .slice p l.length cap]) rfl ?_; clear M; intro ga w1 M) | ((with_reducible refine tBox (some 3) ?_); refine w_box M _ _ rfl rfl _ rfl ([.int .i64 i, .int .i64 f, .slice q m.length cap']) rfl ?_; clear M; intro gb w1 M) | ((with_reducible refine tGuard ?_); first | ((with_reducible refine w_stripE ?_ ?_); exact dcd) | ((with_reducible refine w_skip1 ?_ ?_); exact dcd) | ((with_reducible refine w_skip0 ?_ ?_); exact dcd)) | ((with_reducible refine tM rfl ?_); refine mS ?_; try (clear M; (first | intro g w1 M | intro w1 M); try simp only [setC] at M))) <;> (try conv => arg 5; simp only [apS, setC]))
      go_ret
      exact ⟨rfl, M.below⟩
  · rw [sameB_i hij]
    have h1 : (i == j) = false := beq_eq_false_iff_ne.2 hij
    have h2 : (i != j) = true := by simpa using hij
    clear hij
    go_enter Try.func20, Try.ntmps20
    go_wp2_with ((first | ((with_reducible refine tBox (some 2) ?_); refine w_box M _ _ rfl rfl _ rfl ([.int .i64 i, .int .i64 e, .slice p l.length cap]) rfl ?_; clear M; intro ga w1 M) | ((with_reducible refine tBox (some 3) ?_); refine w_box M _ _ rfl rfl _ rfl ([.int .i64 j, .int .i64 f, .slice q m.length cap']) rfl ?_; clear M; intro gb w1 M) | ((with_reducible refine tGuard ?_); first | ((with_reducible refine w_stripE ?_ ?_); exact dcd) | ((with_reducible refine w_skip1 ?_ ?_); exact dcd) | ((with_reducible refine w_skip0 ?_ ?_); exact dcd)) | ((with_reducible refine tM rfl ?_); refine mS ?_; try (clear M; (first | intro g w1 M | intro w1 M); try simp only [setC] at M))) <;> (try conv => arg 5; simp only [apS, setC]))
    go_ret
    exact ⟨rfl, M.below⟩
end Go.Proofs.Ytepjillcmpmlkaa

/- The walk of layer 12's waking. No conditions. -/
namespace Go
namespace TL
open Go.RowKit
theorem SeesL.row {α : Type} {w w0 : World} {F : List Nat} {L : List Chunk} {size : Nat} {f : α → List Value} {l : List α} (M : Mem F w0 w L) (i : Nat) {g n : Nat} (hi : L[i]? = some (.row g (l.flatMap f))) (hn : n = l.length) (hf : ∀ x, (f x).length = size) (hm : n ≤ 1000000) : SeesL w size f (.slice (some ⟨g, 0, none⟩) n n) l := by
  subst hn
  have hok := M.ok i _ hi
  exact ⟨⟨flat_len hf l, .inr ⟨g, 0, l.length, rfl, hok.1, Nat.le_refl _, by simp only [maxLen]; omega, hok.2.1⟩⟩, hf⟩
theorem w_buildTwo {P : Program} {ops : Array Oper} {rest : List Oper} {o : Oper} {a : Act} {w w0 : World} {Q : Exit → Act → World → Prop} {F : List Nat} {L : List Chunk} (M : Mem F w0 w L) {t e : TypeId} {bytes : Nat} (T : SliceT P t e 2 bytes) (x y : Operand) (ho : o.op = .buildSlice t 2 #[(0, x), (1, y)]) (hw : Region.wanted o (yielded ops a.tmps) = true) {p q r s : Value} (hx : a.eval x = .agg #[p, q]) (hy : a.eval y = .agg #[r, s])
    (h : ∀ (g : Nat) (w' : World), Mem F w0 w' (.row g [p, q, r, s] :: L) → wpList P ops Q rest (a.put o.dst (.slice (some ⟨g, 0, none⟩) 2 2)) w') : wpList P ops Q (o :: rest) a w := by
  have T' := T
  obtain ⟨ht, ⟨i, z', hi, hz', hsize, hby, hzs⟩, hsz⟩ := T'
  refine w_buildSlice M T 2 _ ho hw ⟨by omega, by omega⟩ z' (by simp [hi, hz']) [p, q, r, s] ?_ h
  have r4 : Array.range (2 * 2) = #[0, 1, 2, 3] := by decide
  rw [r4]
  simp only [List.map_toArray, List.map_cons, List.map_nil, hx, hy]
  generalize z'.cells[0 % z'.cells.size]! = c0
  generalize z'.cells[1 % z'.cells.size]! = c1
  generalize z'.cells[2 % z'.cells.size]! = c2
  generalize z'.cells[3 % z'.cells.size]! = c3
  rfl
def appA : List UInt8 := [97, 112, 112, 47, 97]
def wakeO : List Opr := [(1, appA, [49])]
def wakeM : List Mt := [([97, 112, 112], true), ([111, 112, 115], false)]
def wakeT : List UInt8 := [1, 2, 1, 1, 5, 97, 112, 112, 47, 97, 1, 49]
theorem wake_right : rightB 1 2 wakeO = 0 := by decide +kernel
theorem wake_may : mayO wakeM wakeO = 0 := by decide +kernel
theorem wake_bat : batB 1 2 wakeO = wakeT := by
  unfold batB wakeO wakeT opB textL appA
  simp [numL_small]
theorem wake_bytes : bytesB 1 2 wakeO = (wakeT, 0) := by
  rw [bytesB_ok wake_right]
  exact congrArg (·, 0) wake_bat
theorem wake_read : readB wakeT = ((1, 2, wakeO), 0) := by
  have h := read_bat (i := 1) (e := 2) (ops := wakeO) wake_right (by omega) []
  rw [if_pos rfl, List.append_nil, wake_bat] at h
  exact h
def GivesO (w : World) (e : Ending) (w' : World) : Prop := ∃ g, e = .returned (.agg #[.int .i64 1, .int .i64 2, .slice (some ⟨g, 0, none⟩) 1 1]) ∧ Mem [] w w' [.row g (wakeO.flatMap opV)]
def WakeB (w : World) (e : Ending) (w' : World) : Prop := ∃ p c, e = .returned (.tuple #[.agg #[.int .i64 1, .int .i64 2, .slice p 1 c], .int .i64 0]) ∧ Mem [] w w' [.sl 3 (.slice p 1 c) 1 (wakeO.flatMap opV)]
end TL
end Go
namespace Go.Proofs.Ytepjillcmpmlkaa
open Go.RowKit Go.TL
set_option maxRecDepth 1000000 in
theorem mtT : SliceT Try.prog 22 55 2 24 := ⟨Try.underlying22, ⟨_, _, rfl, rfl, rfl, rfl, rfl⟩, by omega⟩
set_option maxRecDepth 100000 in
set_option maxHeartbeats 4000000 in
theorem one12_c (w : World) : Calls Try.prog 28 #[] w (GivesO w) := by
  have M := Mem.start [] w
  go_enter Try.func28, Try.ntmps28
  go_wp2_with ((first | ((with_reducible refine tAlloc (some 0) 31 ?_); refine w_alloc M _ rfl rfl (.agg #[.int .i64 0, .int .i64 0, .slice none 0 0]) ([.int .i64 0, .int .i64 0, .slice none 0 0]) (by kernel_rfl) rfl ?_; clear M; intro gr w1 M) | ((with_reducible show wpList _ _ _ (Oper.mk _ (Op.buildSlice _ 1 _) _ _ _ _ :: _) _ _); go_must (refine w_buildSlice1 M opT (by decide) _ rfl rfl (by first | exact ev_tmp rfl | exact ev_const) _ rfl rfl ?_; clear M; intro g w1 M)) | ((with_reducible refine tM rfl ?_); refine mS ?_; try (clear M; (first | intro g w1 M | intro w1 M); try simp only [setC] at M))) <;> (try conv => arg 5; simp only [apS, setC]))
  refine bodyPost_ret (results_row rfl _ _ gr 0 [.int .i64 1, .int .i64 2, .slice (some ⟨g, 0, none⟩) 1 1] _ rfl (M.ok 1 _ rfl).2.1 Try.underlying31 rfl (by kernel_rfl)) rfl ⟨g, rfl, M.pick [.row g (wakeO.flatMap opV)] id (fun _ _ _ _ h => h) (fun i c h => by cases i with | zero => exact h | succ i => simp at h)⟩
set_option maxRecDepth 100000 in
set_option maxHeartbeats 4000000 in
theorem two12_c (w : World) : Calls Try.prog 27 #[] w fun e w' => ∃ g, e = .returned (.slice (some ⟨g, 0, none⟩) 2 2) ∧ Mem [] w w' [.row g (wakeM.flatMap mtV)] := by
  have M := Mem.start [] w
  go_enter Try.func27, Try.ntmps27
  go_wp2_with ((first | ((with_reducible show wpList _ _ _ (Oper.mk _ (Op.buildSlice _ 2 _) _ _ _ _ :: _) _ _); go_must (refine w_buildTwo M mtT _ _ rfl rfl (by first | exact ev_tmp rfl | exact ev_const) (by first | exact ev_tmp rfl | exact ev_const) ?_; clear M; intro g w1 M)) | ((with_reducible refine tM rfl ?_); refine mS ?_; try (clear M; (first | intro g w1 M | intro w1 M); try simp only [setC] at M))) <;> (try conv => arg 5; simp only [apS, setC]))
  go_ret
  exact ⟨g, rfl, M⟩
set_option maxRecDepth 100000 in
set_option maxHeartbeats 8000000 in
theorem wakes12_c (w : World) : Calls Try.prog 13 #[] w fun e w' => e = .returned (.bool true) ∧ Below w.heap.size w w' := by
  have M := Mem.start [] w
  have hlen : ∀ x ∈ wakeO, x.2.1.length ≤ 1000 ∧ x.2.2.length ≤ 1000 := by decide
  have B := fun v w S => bBytes_c 1 2 (by omega) wakeO v w S (by decide) (fun x hx => by have := hlen x hx; omega)
  rw [wake_bytes] at B
  have R : ∀ w, Calls Try.prog 16 #[.string (mkS wakeT)] w (WakeB w) := fun w => (bRead_c wakeT w (by decide)).mono fun e w' h => by
    rw [wake_read] at h
    obtain ⟨p, c, h1, h2⟩ := h
    exact ⟨p, c, h1, h2⟩
  have E := fun v u w S T => bSame_c 1 2 1 2 wakeO wakeO v u w S T (by decide) (by decide)
  rw [show sameB 1 2 1 2 wakeO wakeO = true by rw [sameB_l]; exact beq_self_eq_true _] at E
  have Y := fun u v w U S => bMay_c wakeM wakeO u v w U S (by decide) (by decide) (fun x hx => by have := hlen x hx; omega)
  rw [wake_may] at Y
  simp only at B
  replace B := Lib.hid B
  replace R := Lib.hid R
  replace E := Lib.hid E
  replace Y := Lib.hid Y
  clear hlen
  go_enter Try.func13, Try.ntmps13
  go_wp2_with ((first | ((with_reducible refine tGuard ?_); first | ((with_reducible refine w_stripE ?_ ?_); exact dcd) | ((with_reducible refine w_skip1 ?_ ?_); exact dcd) | ((with_reducible refine w_skip0 ?_ ?_); exact dcd)) | (go_at_call 28; go_must (refine (one12_c _).mono ?_; rintro e w1 ⟨g1, rfl, MP⟩; replace M := M.join MP; clear MP; simp only [List.cons_append, List.nil_append] at M)) | (go_at_call 27; go_must (refine (two12_c _).mono ?_; rintro e w1 ⟨g2, rfl, MP⟩; replace M := M.join MP; clear MP; simp only [List.cons_append, List.nil_append] at M)) | (go_at_call 19; go_must (refine (B.out _ _ (SeesL.row M 0 rfl rfl opV_len (by decide))).mono ?_; rintro e w1 ⟨rfl, hb⟩; replace M := M.call hb; clear hb)) | (go_at_call 16; go_must (refine (R.out _).mono ?_; rintro e w1 ⟨p1, c1, rfl, MP⟩; replace M := M.join MP; clear MP; simp only [List.cons_append, List.nil_append] at M)) | ((with_reducible refine tAlloc (some 3) 31 ?_); refine w_alloc M _ rfl rfl (.agg #[.int .i64 0, .int .i64 0, .slice none 0 0]) ([.int .i64 0, .int .i64 0, .slice none 0 0]) (by kernel_rfl) rfl ?_; clear M; intro gb w1 M) | ((with_reducible show Code.wp _ (Code.region 3 _ _) _ _ _); go_must (have MR := M; refine region_lowc [(0, false), (1, false), (2, false), (3, false), (4, false), (5, false), (6, false), (7, false), (8, false), (9, false), (10, false), (11, false), (12, true), (13, true), (14, false), (15, false), (17, false), (18, false), (16, true), (19, true), (20, false), (21, false), (22, false)] [(15, .str), (18, .int), (22, .int), (34, .int)] [(11, _), (18, _)] (IxOk MR [0]) 23 (by kernel_rfl) (by kernel_rfl) rfl (by kernel_rfl) (lowA MR 0 0 (lowA MR 0 2 lows_nil)) (ixOk_self MR _) ?_; replace M := M.drew; simp only [planC, opAt, List.getElem?_toArray, List.getElem?_cons_zero, List.getElem?_cons_succ, Option.getD_some])) | (go_at_call 20; go_must (refine (E.out _ _ _ (SeesL.own M 2 rfl rfl opV_len) (SeesL.row M 0 rfl rfl opV_len (by decide))).mono ?_; rintro e w1 ⟨rfl, hb⟩; replace M := M.call hb; clear hb)) | (go_at_call 14; go_must (refine (Y.out _ _ _ (SeesL.row M 0 rfl rfl mtV_len (by decide)) (SeesL.own M 3 rfl rfl opV_len)).mono ?_; rintro e w1 ⟨rfl, hb⟩; replace M := M.call hb; clear hb)) | ((with_reducible refine tM rfl ?_); refine mS ?_; try (clear M; (first | intro g w1 M | intro w1 M); try simp only [setC] at M)) | ((with_reducible first | show Seg _ _ _ _ | show OnlyN _ _ _ _ _); refine rA ?_)) <;> (try conv => arg 5; simp only [apS, setC]))
  go_ret
  exact ⟨rfl, M.below⟩
end Go.Proofs.Ytepjillcmpmlkaa

/- What the statements' frames lean on: an array of bytes that came in; a byte that came in. No conditions but those each lemma names. -/
namespace Go
namespace TL
open Go.RowKit
end TL
end Go

/- A region that draws its order, walked by what holds whichever operation comes next. No conditions but those the law names. -/
namespace Go
namespace TL
open Go.RowKit
section
variable {P : Program} {ops : Array Oper} {Q : Exit → Act → World → Prop}
def unlisted (ops : Array Oper) (listed : Array Bool) : Nat := ((List.range ops.size).filter fun i => !listed.getD i true).length
theorem ready_lt {listed : Array Bool} {i : Nat} (h : i ∈ Region.ready .any ops listed) : i < ops.size ∧ listed.getD i true = false := by
  unfold Region.ready at h
  rw [List.mem_filter] at h
  obtain ⟨h1, h2⟩ := h
  rw [Bool.and_eq_true] at h2
  exact ⟨List.mem_range.1 h1, by simpa using h2.1⟩
theorem unlisted_set {listed : Array Bool} {i : Nat} (h : i < ops.size) (hl : listed.getD i true = false) : unlisted ops (listed.setIfInBounds i true) < unlisted ops listed := by
  unfold unlisted
  have hlt : i < listed.size := by
    by_cases e : i < listed.size
    · exact e
    · rw [Array.getD_eq_getD_getElem?, Array.getElem?_eq_none (by omega)] at hl; cases hl
  have key : ∀ l : List Nat, (l.filter fun j => !(listed.setIfInBounds i true).getD j true).length ≤ (l.filter fun j => !listed.getD j true).length ∧ (i ∈ l → (l.filter fun j => !(listed.setIfInBounds i true).getD j true).length < (l.filter fun j => !listed.getD j true).length) := by
    intro l
    induction l with
    | nil => simp
    | cons x l ih =>
      have hx : (listed.setIfInBounds i true).getD x true = if x = i then true else listed.getD x true := by
        rw [Array.getD_eq_getD_getElem?, Array.getD_eq_getD_getElem?, Array.getElem?_setIfInBounds]
        by_cases e : i = x
        · subst e; simp [hlt]
        · rw [if_neg e, if_neg (fun h => e h.symm)]
      by_cases e : x = i
      · subst e
        rw [List.filter_cons, List.filter_cons, hx, if_pos rfl, hl]
        simp only [Bool.not_true, Bool.false_eq_true, if_false, Bool.not_false, if_true, List.length_cons]
        exact ⟨by omega, fun _ => by omega⟩
      · rw [List.filter_cons, List.filter_cons, hx, if_neg e]
        refine ⟨?_, fun hm => ?_⟩
        · split
          · rw [List.length_cons, List.length_cons]; omega
          · exact ih.1
        · have := ih.2 ((List.mem_cons.1 hm).resolve_left (fun h => e h.symm))
          split
          · rw [List.length_cons, List.length_cons]; omega
          · exact this
  exact (key _).2 (List.mem_range.2 h)
end
end TL
end Go
