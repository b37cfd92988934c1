/- Texts of this seat, put together: AesS, OutNew, SealW, SealA, InT, SealR, RingL, Ref06K, RegF, Ref01T. Each begins with a remark that says what is proved in it, and under which conditions. -/
import Derived.Test.YtidadhbaomieiaaGreatY
import Derived.IntWalk
import Derived.OwnWalk
import Derived.Test.YtidadhbaomieiaaGreatZd
import Derived.Test.YtidadhbaomieiaaGreatZe
import Derived.Test.YtidadhbaomieiaaGreatZf
import Derived.Test.YtidadhbaomieiaaGreatZh
set_option maxRecDepth 100000
set_option maxHeartbeats 16000000
namespace Go
namespace TL
theorem qCf {w : World} {v : Value} {n : Nat} {l : List UInt8} (h : (Chunk.sl 1 v n (bs l)).ok w) (e : n = l.length) : SeesB w v l := by subst e; exact Own.sees h
theorem nonce_in (nonce : List UInt8) (h : nonce.length = 12) : (List.replicate 16 (0 : UInt8)).take 0 ++ ((((nonce.drop 0).take 12)).take 12 ++ (List.replicate 16 0).drop (0 + 12)) = nonce ++ List.replicate 4 0 := by
 have e : (nonce.take 12).take 12 = nonce := by rw [List.take_take, Nat.min_self, List.take_of_length_le yF]
 rw [List.take_zero, List.nil_append, List.drop_zero, e]; rfl
theorem count_in (nonce big : List UInt8) (h : nonce.length = 12) (hb : big.length = 4) : (nonce ++ List.replicate 4 (0 : UInt8)).take 12 ++ (big.take 4 ++ (nonce ++ List.replicate 4 0).drop (12 + 4)) = nonce ++ big := by
 rw [List.take_left' h, List.take_of_length_le yF, List.drop_eq_nil_of_le yC1, List.append_nil]
end TL
end Go
namespace Go.Proofs.YtidadhbaomieiaaGreat
open Go.RowKit Go.TL
theorem Stream_c (key nonce text : List UInt8) (w : World) (hk : key.length = 32) (hn : nonce.length = 12) (ht : text.length ≤ 1000000) :
  Calls Tryz.prog 109 #[.agg (bs key).toArray, .agg (bs nonce).toArray, .string (mkS text)] w fun e w' => e = .returned (.string (mkS (streamL key nonce text))) ∧ Below w.heap.size w w' := by
 have M := Mem.start [] w
 have SC := fun w => schedule_c key w hk
 have hs := qFA
 have hW := schL_len boxL key hk
 have SL : streamL key nonce text = strN boxL (schL boxL key) nonce ((text.length + 15) / 16) text := rfl
 obtain ⟨W, eW⟩ : ∃ W, W = schL boxL key := ⟨_, rfl⟩
 rw [← eW] at SC hW SL
 obtain ⟨s, es⟩ : ∃ s, s = boxL := ⟨_, rfl⟩
 rw [← es] at SC hs SL
 obtain ⟨r, er⟩ : ∃ r, r = streamL key nonce text := ⟨_, rfl⟩
 rw [← er] at SL
 rw [← er]
 replace SL := Lib.hid fun _ : Unit => SL
 replace SC := Lib.hid SC
 clear eW es er
 obtain ⟨N, eN⟩ : ∃ N, N = text.length := ⟨_, rfl⟩
 have hWs : (W ++ s).length = 496 := by rw [List.length_append, hW, hs]
 have SN : ∀ n, (strN s W nonce n text).length = N := fun n => by rw [strN_len]; exact eN.symm
 replace SN := Lib.hid SN
 go_enter Tryz.func109, Tryz.ntmps109
 go_wp2_with ((first | ((with_reducible refine tBox (some 3) ?_); refine w_box M _ _ rfl rfl _ rfl (bs key) rfl ?_; clear M; intro gk w1 M) | ((with_reducible refine tBox (some 4) ?_); refine w_box M _ _ rfl rfl _ rfl (bs nonce) rfl ?_; clear M; intro gn w1 M) | (go_at_call 148; (refine (SC.out _).mono ?_; rintro e w1 ⟨gc, rfl, MP⟩; replace M := M.join MP; clear MP; simp only [List.cons_append, List.nil_append] at M)) | ((with_reducible refine tConv (some 16) 9 70 ?_); (refine w_bytes M _ _ _ _ rfl rfl rfl Tryz.underlying9 Tryz.underlying70 Tryz.underlying5 yW ?_; clear M; intro gb capgb w1 hcapgb M)) | ((with_reducible refine tM rfl ?_); refine mB ?_; try (clear M; (first | intro g w1 M | intro w1 M); try simp only [setC] at M)) | ((with_reducible refine tGuard ?_); refine gdC ?_ ?_ <;> (intro hgd; rw [hgd]; try (exfalso; simp at hgd; omega)))) <;> (try conv => arg 5; simp only [Act.put, List.setIfInBounds_toArray, setC]))
 rw [← eN] at M
 rw [← eN]
 have hc2 : N ≤ capgb := by omega
 have hN : N ≤ 1000000 := by omega
 replace eN := Lib.hid fun _ : Unit => eN
 clear ht
 clear hcapgb
 go_loopw [9] (fun kv wr => ∃ n : Nat, 16 * n < N + 16 ∧ kv = .int .i64 (16 * (n : Int)) ∧ Mem [] w wr [.sl 1 (.slice (some ⟨gb, 0, none⟩) N capgb) N (bs (strN s W nonce n text)), .row gc (bs (W ++ s)), .row gn (bs nonce), .row gk (bs key)]) (fun kv _ => N + 16 - (intOf kv).toNat)
 case atStart => exact ⟨0, by omega, rfl, M⟩
 case round =>
  clear M
  obtain ⟨n, hn16, rfl, M⟩ := hrel
  have hd := SN.out n
  obtain ⟨d, ed⟩ : ∃ d, d = strN s W nonce n text := ⟨_, rfl⟩
  rw [← ed] at M hd
  have ED := Lib.hid fun _ : Unit => ed
  clear ed
  by_cases hlt : 16 * n < N
  ·have hI : (16 * (n : Int)) < (N : Int) := by omega
   have SE : strB s W nonce n d = iterN (xorB (blockL s W (nonce ++ bigB (UInt64.ofNat n) 4)) (16 * n)) (min 16 (d.length - 16 * n)) d := rfl
   have hbig := qAW (UInt64.ofNat n) 4
   have CI := count_in nonce (bigB (UInt64.ofNat n) 4) hn hbig
   have AP := fun (w : World) hok => aesPutc (.slice none 0 0) [] (UInt64.ofNat n) 4 w hok yF yB1
   rw [List.nil_append] at AP
   obtain ⟨big, ebig⟩ : ∃ b, b = bigB (UInt64.ofNat n) 4 := ⟨_, rfl⟩
   rw [← ebig] at SE hbig CI AP
   rw [hbig] at AP
   clear ebig
   have BC := fun (w : World) RR => block_c gc s W (nonce ++ big) w RR hW hs (by rw [List.length_append, hn, hbig])
   have hol := blockL_len s W (nonce ++ big) (by rw [List.length_append, hn, hbig])
   obtain ⟨o, eo⟩ : ∃ o, o = blockL s W (nonce ++ big) := ⟨_, rfl⟩
   rw [← eo] at SE BC hol
   clear eo
   have NI := nonce_in nonce hn
   have hin1 : (nonce ++ List.replicate 4 (0 : UInt8)).length = 16 := by simp [hn]
   have hin2 : (nonce ++ big).length = 16 := by rw [List.length_append, hn, hbig]
   replace SE := Lib.hid fun _ : Unit => SE
   replace CI := Lib.hid fun _ : Unit => CI
   replace NI := Lib.hid fun _ : Unit => NI
   replace AP := Lib.hid AP
   replace BC := Lib.hid BC
   have hz : (List.replicate 16 (0 : UInt8)).length = 16 := List.length_replicate
   have hq : (16 * (n : Int)) / 16 = n := by omega
   go_wp2_with ((first | ((with_reducible refine tAlloc (some 10) 234 ?_); refine wal M _ rfl rfl (bs (List.replicate 16 (0 : UInt8))) yD ?_; clear M; intro gi w1 M) | ((with_reducible show Code.wp _ (Code.region 7 _ _) _ _ _); (refine qAF [(0, false), (1, false), (2, true)] [] yD yD rfl yD ?_; replace M := M.drew; simp only [reord, opAt, List.map_cons, List.map_nil, gE])) | ((with_reducible show Code.wp _ (Code.region 8 _ _) _ _ _); (refine qAF [(0, false), (1, false), (2, false), (3, false), (4, true), (5, true)] [(27, .int), (28, .int)] yD yD rfl yD ?_; replace M := M.drew; simp only [reord, opAt, List.map_cons, List.map_nil, gE])) | ((with_reducible show wpList _ _ _ (Oper.mk _ (Op.call ⟨Callee.builtin Builtin.copy, _, _⟩) _ _ _ _ :: _) _ _); (first | (refine w_copyB M 0 bytesT _ _ _ rfl rfl rfl rfl rfl (qDH (M.ok 3 _ rfl) yF (Nat.le_refl _) yZ) 12 yC1 yF ?_; clear M; intro w1 M; simp only [List.set_cons_zero] at M; rw [NI.out ()] at M) | (refine w_copyB M 1 bytesT _ _ _ rfl rfl rfl rfl rfl (qCf (M.ok 0 _ rfl) hbig.symm) 4 yF yF ?_; clear M; intro w1 M; simp only [List.set_cons_succ, List.set_cons_zero] at M; rw [CI.out ()] at M; replace M := M.tail))) | (go_at_call 149; (replace M := M.nil 1; refine (AP.out _ (M.ok 0 _ rfl)).mono ?_; rintro e w1 ⟨p, c, rfl, U⟩; replace M := M.upd 0 rfl U; clear U; simp only [List.set_cons_zero] at M)) | (go_at_call 150; (refine (BC.out _ (M.ok 2 _ rfl)).mono ?_; rintro e w1 ⟨rfl, hb⟩; replace M := M.call hb; clear hb)) | ((with_reducible refine tAlloc (some 11) 234 ?_); refine wal M _ rfl rfl (bs (List.replicate 16 (0 : UInt8))) yD ?_; clear M; intro go w1 M) | ((with_reducible refine tM rfl ?_); refine mB ?_; try (clear M; (first | intro g w1 M | intro w1 M); try simp only [setC] at M)) | ((with_reducible first | show Seg _ _ _ _ | show OnlyN _ _ _ _ _); refine rA ?_) | ((with_reducible refine tGuard ?_); refine gdC ?_ ?_ <;> (intro hgd; rw [hgd]; try (exfalso; simp at hgd; omega)))) <;> (try conv => arg 5; simp only [Act.put, List.setIfInBounds_toArray, setC]))
   all_goals
    obtain ⟨c', hc1, hc3, hc4, hc5, hc7⟩ : ∃ c' : Nat, c' = min 16 (N - 16 * n) ∧ 16 * n + c' ≤ N ∧ c' ≤ 16 ∧ (16 * (n : Int) + 16 ≤ N → c' = 16) ∧ (N ≤ 16 * n + c' ∨ c' = 16) := ⟨_, rfl, by omega, by omega, by omega, by omega⟩
    replace SE := SE.out ()
    rw [hd, ← hc1] at SE
    replace SE := Lib.hid fun _ : Unit => SE
    clear hc1
    go_loopw [40] (fun kv wr => ∃ k : Nat, k ≤ c' ∧ kv = .int .i64 k ∧ Mem [] w wr [.row go (bs o), .row gi (bs (nonce ++ big)), .sl 1 (.slice (some ⟨gb, 0, none⟩) N capgb) N (bs (iterN (xorB o (16 * n)) k d)), .row gc (bs (W ++ s)), .row gn (bs nonce), .row gk (bs key)]) (fun kv _ => c' - (intOf kv).toNat)
    case atStart => exact ⟨0, by omega, rfl, M⟩
    case round =>
     clear M
     obtain ⟨k, hkc, rfl, M⟩ := hrel
     have hx := qAb _ (xorB_len o (16 * n)) k d
     obtain ⟨x, ex⟩ : ∃ x, x = iterN (xorB o (16 * n)) k d := ⟨_, rfl⟩
     rw [← ex] at M hx
     rw [hd] at hx
     have EX := Lib.hid fun _ : Unit => ex
     clear ex
     by_cases hltk : k < c'
     ·have hb1 : (k : Int) < 16 := by omega
      have hb2 : (k : Int) < N - 16 * n := by omega
      go_wp2_with ((first | ((with_reducible show Code.wp _ (Code.region 13 _ _) _ _ _); (refine qAF [(0, false), (1, false), (2, false), (3, false), (4, false), (6, false), (7, false), (5, false), (8, false), (9, false), (10, false), (11, true)] [(44, .int), (45, .int), (48, .int), (51, .int)] yD yD rfl yD ?_; replace M := M.drew; simp only [reord, opAt, List.map_cons, List.map_nil, gE])) | ((with_reducible show wpList _ _ _ (Oper.mk _ (Op.load _ _) _ _ _ _ :: _) _ _); refine w_at _ _ rfl yE ?_; intro hx; refine w_slB M 2 _ _ rfl rfl hx rfl yB (16 * n + k) yQ yF ?_; clear hx) | ((with_reducible show wpList _ _ _ (Oper.mk _ (Op.store _ _ _) _ _ _ _ :: _) _ _); refine w_at2 _ _ _ rfl yE yE ?_; intro hx hy; refine qCH M 2 _ _ _ rfl rfl hx rfl hy yB (16 * n + k) yQ yF ?_; clear hx hy M; intro w1 M; simp only [List.set_cons_succ, List.set_cons_zero] at M) | ((with_reducible refine tM rfl ?_); refine mB ?_; try (clear M; (first | intro g w1 M | intro w1 M); try simp only [setC] at M)) | ((with_reducible first | show Seg _ _ _ _ | show OnlyN _ _ _ _ _); refine rA ?_) | ((with_reducible refine tGuard ?_); refine gdC ?_ ?_ <;> (intro hgd; rw [hgd]; try (exfalso; simp at hgd; omega)))) <;> (try conv => arg 5; simp only [Act.put, List.setIfInBounds_toArray, setC]))
      rw [qBd x, qBd o] at M
      go_roundw
      case rel => exact ⟨k + 1, by omega, by go_num, by rw [qAY, ← EX.out ()]; exact M⟩
      case measure => simp [intOf]; omega
     ·obtain rfl : k = c' := by omega
      have eB : x = strB s W nonce n d := (EX.out ()).trans (SE.out ()).symm
      have eN1 : strN s W nonce (n + 1) text = x := by rw [eB, ED.out ()]; rfl
      replace eN1 := Lib.hid fun _ : Unit => eN1
      clear eB EX SE
      go_wp2_with ((first | ((with_reducible refine tM rfl ?_); refine mB ?_; try (clear M; (first | intro g w1 M | intro w1 M); try simp only [setC] at M)) | ((with_reducible refine tGuard ?_); refine gdC ?_ ?_ <;> (intro hgd; rw [hgd]; try (exfalso; simp at hgd; omega)))) <;> (try conv => arg 5; simp only [Act.put, List.setIfInBounds_toArray, setC]))
      go_roundw
      case rel => exact ⟨n + 1, by omega, by go_num, by rw [eN1.out ()]; exact M.tail.tail⟩
      case measure => simp [intOf]; omega
  ·have eR : r = d := by
    rw [SL.out (), ED.out (), ← eN.out (), show (N + 15) / 16 = n by omega]
   replace eR := Lib.hid fun _ : Unit => eR
   go_wp2_with ((first | ((with_reducible show wpList _ _ _ (Oper.mk _ (Op.convert _ _ _) _ _ _ _ :: _) _ _); (refine w_string M 0 _ _ _ _ rfl rfl rfl hd.symm rfl Tryz.underlying70 Tryz.underlying5 Tryz.underlying9 ?_)) | ((with_reducible refine tM rfl ?_); refine mB ?_; try (clear M; (first | intro g w1 M | intro w1 M); try simp only [setC] at M)) | ((with_reducible refine tGuard ?_); refine gdC ?_ ?_ <;> (intro hgd; rw [hgd]; try (exfalso; simp at hgd; omega)))) <;> (try conv => arg 5; simp only [Act.put, List.setIfInBounds_toArray, setC]))
   go_ret
   exact ⟨congrArg (fun x => Ending.returned (.string (mkS x))) (eR.out ()).symm, M.below⟩
end Go.Proofs.YtidadhbaomieiaaGreat

namespace Go
namespace TL
open Go.RowKit
theorem Mem.outNew {F : List Nat} {w0 w : World} {g : Nat} {L : List Chunk} (M : Mem F w0 w (.row g [.slice none 0 0] :: L)) : Mem F w0 w (outC g (.slice none 0 0) [] :: L) := by
 have M2 := M.nil 1
 have M3 : Mem F w0 w (.row g [.slice none 0 0] :: .sl 1 (.slice none 0 0) ([] : List UInt8).length (bs []) :: L) := by
  refine M2.pick _ (fun i => if i = 0 then 1 else if i = 1 then 0 else i) ?_ ?_
  ·intro i j hi hj h
   by_cases i0 : i = 0 <;> by_cases i1 : i = 1 <;> by_cases j0 : j = 0 <;> by_cases j1 : j = 1 <;> simp_all <;> omega
  ·intro i c h
   match i with
   | 0 => exact h
   | 1 => exact h
   | i + 2 => simpa using h
 exact M3.outShut
end TL
end Go

namespace Go
namespace TL
open Go.RowKit
def envC (k : Int) (b : UInt32) (n : UInt64) (d t : List UInt8) : List Value := .int .i64 k :: .int .u32 (I32 b) :: .int .u64 (I64 n) :: .string (mkS d) :: bs t
def zeroT : List UInt8 := List.replicate 32 0
theorem qAO : zeroT.length = 32 := List.length_replicate
theorem qBB (k : Int) (b : UInt32) (n : UInt64) (d t : List UInt8) : (envC k b n d t).length = t.length + 4 := by unfold envC; simp only [List.length_cons, qAP]
theorem envC_one (k : Int) (b : UInt32) (n : UInt64) (d t : List UInt8) : ∀ v ∈ envC k b n d t, v.oneCell' = true := by
 intro v hv
 unfold envC at hv
 simp only [List.mem_cons] at hv
 rcases hv with rfl | rfl | rfl | rfl | hv
 ·rfl
 ·rfl
 ·rfl
 ·rfl
 ·exact qEL _ v hv
section
variable {P : Program} {ops : Array Oper} {rest : List Oper} {o : Oper} {a : Act} {w w0 : World} {Q : Exit → Act → World → Prop} {F : List Nat} {L : List Chunk} {g : Nat} {k : Int} {b : UInt32} {n : UInt64} {d tg : List UInt8}
theorem qAu (M : Mem F w0 w L) (i : Nat) (t : TypeId) (x : Operand) (ho : o.op = .load t x) (hi : L[i]? = some (.row g (envC k b n d tg))) (hx : a.eval x = .pointer (some ⟨g, 0, none⟩)) (hw : Region.wanted o (yielded ops a.tmps) = true)
  (ht : rowT P t = true) (hn : (P.info? t).map (·.size) = some 36) (hg : tg.length = 32) (h : wpList P ops Q rest (a.put o.dst (.agg (envC k b n d tg).toArray)) w) : wpList P ops Q (o :: rest) a w :=
 qAm M i t x ho hi hx hw ht (by rw [qBB, hg]; exact hn) h
theorem qAj (M : Mem F w0 w L) (i : Nat) (t : TypeId) (x : Operand) (ho : o.op = .load t x) (hi : L[i]? = some (.row g (envC k b n d tg))) (hx : a.eval x = .pointer (some ⟨g, 4, none⟩)) (hw : Region.wanted o (yielded ops a.tmps) = true)
  (ht : rowT P t = true) (hn : (P.info? t).map (·.size) = some 32) (hg : tg.length = 32) (h : wpList P ops Q rest (a.put o.dst (.agg (bs tg).toArray)) w) : wpList P ops Q (o :: rest) a w :=
 qAR M i t x ho hi hx hw ht [.int .i64 k, .int .u32 (I32 b), .int .u64 (I64 n), .string (mkS d)] (bs tg) [] (by rw [List.append_nil]; rfl) rfl (by rw [qAP, hg]; exact hn) h
theorem qAL (M : Mem F w0 w L) (i : Nat) (t : TypeId) (x y : Operand) (ho : o.op = .store t x y) {k' : Int} {b' : UInt32} {n' : UInt64} {d' tg' : List UInt8} (hi : L[i]? = some (.row g (envC k' b' n' d' tg'))) (hx : a.eval x = .pointer (some ⟨g, 0, none⟩)) (hw : Region.wanted o (yielded ops a.tmps) = true)
  {C : Array Value} (hy : a.eval y = .agg C) (hC : C = (envC k b n d tg).toArray) (hn : (P.info? t).map (·.size) = some 36) (hg : tg.length = 32) (hg' : tg'.length = 32)
  (h : ∀ w' : World, Mem F w0 w' (L.set i (.row g (envC k b n d tg))) → wpList P ops Q rest (a.put o.dst undef) w') : wpList P ops Q (o :: rest) a w :=
 qBK M i t x y ho hi hx hw (envC k b n d tg) hy hC (by rw [qBB, hg]; exact hn) (envC_one _ _ _ _ _) (by rw [qBB, qBB, hg, hg']) h
theorem qAd (M : Mem F w0 w L) (i : Nat) (t : TypeId) (x y : Operand) (ho : o.op = .store t x y) {tg' : List UInt8} (hi : L[i]? = some (.row g (envC k b n d tg'))) (hx : a.eval x = .pointer (some ⟨g, 4, none⟩)) (hw : Region.wanted o (yielded ops a.tmps) = true)
  (hy : a.eval y = .agg (bs tg).toArray) (hn : (P.info? t).map (·.size) = some 32) (hg : tg.length = 32) (hg' : tg'.length = 32)
  (h : ∀ w' : World, Mem F w0 w' (L.set i (.row g (envC k b n d tg))) → wpList P ops Q rest (a.put o.dst undef) w') : wpList P ops Q (o :: rest) a w := by
 refine qDo M i t x y ho hi hx hw (bs tg) hy rfl (by rw [qAP, hg]; exact hn) (qEL _) [.int .i64 k, .int .u32 (I32 b), .int .u64 (I64 n), .string (mkS d)] (bs tg') [] (by rw [List.append_nil]; rfl) rfl (by rw [qAP, qAP, hg, hg']) ?_
 intro w' M'
 rw [List.append_nil] at M'
 exact h w' M'
theorem qAU (M : Mem F w0 w L) (i : Nat) (t : TypeId) (x y : Operand) (ho : o.op = .store t x y) {d' : List UInt8} (hi : L[i]? = some (.row g (envC k b n d' tg))) (hx : a.eval x = .pointer (some ⟨g, 3, none⟩)) (hw : Region.wanted o (yielded ops a.tmps) = true)
  (hy : a.eval y = .string (mkS d)) (hn : (P.info? t).map (·.size) = some 1)
  (h : ∀ w' : World, Mem F w0 w' (L.set i (.row g (envC k b n d tg))) → wpList P ops Q rest (a.put o.dst undef) w') : wpList P ops Q (o :: rest) a w :=
 qBn M i t x y ho hi hx hw hy rfl rfl hn (by rw [qBB]; omega) fun w' M' => h w' M'
theorem qAe (M : Mem F w0 w L) (i : Nat) (t : TypeId) (x y : Operand) (ho : o.op = .store t x y) {n' : UInt64} (hi : L[i]? = some (.row g (envC k b n' d tg))) (hx : a.eval x = .pointer (some ⟨g, 2, none⟩)) (hw : Region.wanted o (yielded ops a.tmps) = true)
  (hy : a.eval y = .int .u64 (I64 n)) (hn : (P.info? t).map (·.size) = some 1)
  (h : ∀ w' : World, Mem F w0 w' (L.set i (.row g (envC k b n d tg))) → wpList P ops Q rest (a.put o.dst undef) w') : wpList P ops Q (o :: rest) a w :=
 qBn M i t x y ho hi hx hw hy rfl rfl hn (by rw [qBB]; omega) fun w' M' => h w' M'
theorem qFE (M : Mem F w0 w L) (i : Nat) (t : TypeId) (x y : Operand) (ho : o.op = .store t x y) (hi : L[i]? = some (.row g (envC k b n d tg))) {off : Nat} (hx : a.eval x = .pointer (some ⟨g, off, none⟩)) (hw : Region.wanted o (yielded ops a.tmps) = true)
  {c : UInt8} (hy : a.eval y = .int .u8 (I8 c)) (hn : (P.info? t).map (·.size) = some 1) (j : Nat) (hoff : off = 4 + j) (hlt : j < tg.length)
  (h : ∀ w' : World, Mem F w0 w' (L.set i (.row g (envC k b n d (tg.set j c)))) → wpList P ops Q rest (a.put o.dst undef) w') : wpList P ops Q (o :: rest) a w := by
 refine qBn M i t x y ho hi hx hw hy rfl rfl hn (by rw [qBB]; omega) fun w' M' => h w' ?_
 have e : (envC k b n d tg).set off (.int .u8 (I8 c)) = envC k b n d (tg.set j c) := by
  rw [hoff, Nat.add_comm]
  show .int .i64 k :: .int .u32 (I32 b) :: .int .u64 (I64 n) :: .string (mkS d) :: (bs tg).set j (vb c) = _
  rw [← bs_set]; rfl
 rw [← e]; exact M'
theorem seesTag {w : World} (h : (Chunk.row g (envC k b n d tg)).ok w) (hg : tg.length = 32) : SeesB w (.slice (some ⟨g, 4, none⟩) 32 32) tg := by
 refine ⟨by simp [hg], .inr ⟨g, 4, 32, by rw [hg], h.1, by omega, by decide, ?_⟩⟩
 have := qBF h.2.1 4
 rw [Nat.zero_add] at this
 exact this
theorem qAT (M : Mem F w0 w L) (i : Nat) (src dst e : TypeId) (x : Operand) (ho : o.op = .convert src dst x) (hw : Region.wanted o (yielded ops a.tmps) = true) (hi : L[i]? = some (.row g (envC k b n d tg))) (hx : a.eval x = .slice (some ⟨g, 4, none⟩) 32 32)
  (hg : tg.length = 32) (hs : P.underlying src = some (.slice e)) (he : P.underlying e = some (.int .u8)) (hd : P.underlying dst = some .string)
  (h : wpList P ops Q rest (a.put o.dst (.string (mkS tg))) w) : wpList P ops Q (o :: rest) a w :=
 wpW hw fun _ hK => by
  have hr := SeesB.run_string (P := P) (seesTag (M.ok i _ hi) hg) src dst e hs he hd w (grownBy_refl _ _)
  unfold Oper.wp execOp
  simp only [ho, hx, Sem.run_bind, hr, Result.andThen_ok]
  exact hK _ _ h
theorem stab_strTag (M : Mem F w0 w L) {is : List Nat} (i : Nat) {src dst e : TypeId} {x : Operand} (ho : o.op = .convert src dst x) (hi : L[i]? = some (.row g (envC k b n d tg))) (hin : i ∈ is) (hg : tg.length = 32) (hs : P.underlying src = some (.slice e)) (he : P.underlying e = some (.int .u8)) (hd : P.underlying dst = some .string) : Stab P (IxOk M is) o (.slice (some ⟨g, 4, none⟩) 32 32) :=
 qDt ho _ tg (fun _ hw => seesTag (hw.2 i hin _ hi) hg) hs he hd
theorem qCd (M : Mem F w0 w L) {is : List Nat} (i : Nat) {t : TypeId} {x : Operand} (ho : o.op = .load t x) (hi : L[i]? = some (.row g (envC k b n d tg))) (hin : i ∈ is) (ht : rowT P t = true) (hn : (P.info? t).map (·.size) = some 36) (hg : tg.length = 32) : Stab P (IxOk M is) o (.pointer (some ⟨g, 0, none⟩)) :=
 qEv M i ho hi hin ht (by rw [qBB, hg]; exact hn)
theorem qEu (M : Mem F w0 w L) {is : List Nat} (i : Nat) {t : TypeId} {x : Operand} (ho : o.op = .load t x) (hi : L[i]? = some (.row g (envC k b n d tg))) (hin : i ∈ is) (ht : rowT P t = true) (hn : (P.info? t).map (·.size) = some 32) (hg : tg.length = 32) : Stab P (IxOk M is) o (.pointer (some ⟨g, 4, none⟩)) :=
 stab_ixA M i 4 ho hi hin ht [.int .i64 k, .int .u32 (I32 b), .int .u64 (I64 n), .string (mkS d)] (bs tg) [] (by rw [List.append_nil]; rfl) rfl (by rw [qAP, hg]; exact hn)
end
theorem qAl {P : Program} {fn : Func} {p q : Tmp} {ty : TypeId} (h : fn.results = #[.cell p ty, .tmp q]) (tmps : Array Value) (w : World) (b o : Nat) (cs : List Value) (d : TypeDesc) (z : Value)
  (hp : tmps.getD p undef = .pointer (some ⟨b, o, none⟩)) (hz : tmps.getD q undef = z) (hc : w.rangeAt b o cs) (hu : P.underlying ty = some d) (hd : d.isRow = true) (hi : (P.info? ty).map (·.size) = some cs.length) :
  (results fn tmps).run P w = .ok (.tuple #[.agg cs.toArray, z]) w := by
 have hp' : tmps[p]?.getD undef = .pointer (some ⟨b, o, none⟩) := by simpa using hp
 have hz' : tmps[q]?.getD undef = z := by simpa using hz
 simp [results, h, hp', hz', asAddr, run_loadVar_mid w b o ty cs d hc hu hd hi]
end TL
end Go

namespace Go
namespace TL
def rightE (k : Int) (d : List UInt8) : Bool := decide (0 ≤ k) && (decide (k ≤ 1048576) && decide ((d.length : Int) ≤ 8192))
def headL (k : Nat) (b : UInt32) (n : UInt64) : List UInt8 := numL k ++ (numL b.toNat ++ numL n.toNat)
def nonceL (b : UInt32) (n : UInt64) : List UInt8 := bigB b.toUInt64 4 ++ bigB n 8
theorem qEZ (b : UInt32) (n : UInt64) : (nonceL b n).length = 12 := by unfold nonceL; rw [List.length_append, qAW, qAW]
def encL : List UInt8 := [101, 110, 99]
def macT : List UInt8 := [109, 97, 99]
def sealL (key : List UInt8) (b : UInt32) (n : UInt64) (text : List UInt8) : List UInt8 := streamL (macL key encL) (nonceL b n) text
def tagL (key : List UInt8) (k : Nat) (b : UInt32) (n : UInt64) (about data : List UInt8) : List UInt8 := macL (macL key macT) (headL k b n ++ (textL about ++ textL data))
theorem qEJ (k : Nat) (b : UInt32) (n : UInt64) (h : k < 18446744073709551616) : (headL k b n).length ≤ 30 := by
 have h1 := qAG k h
 have h2 := qAG b.toNat (by have := b.toNat_lt; omega)
 have h3 := qAG n.toNat (by have := n.toNat_lt; omega)
 unfold headL; simp only [List.length_append]; omega
end TL
end Go
namespace Go.Proofs.YtidadhbaomieiaaGreat
open Go.RowKit Go.TL
theorem qCg (k : Int) (b : UInt32) (n : UInt64) (d t : List UInt8) (w : World) :
  Calls Tryz.prog 74 #[.agg (envC k b n d t).toArray] w fun e w' => e = .returned (.bool (rightE k d)) ∧ Below w.heap.size w w' := by
 have M := Mem.start [] w
 unfold rightE
 by_cases h1 : 0 ≤ k
 ·by_cases h2 : k ≤ 1048576
  ·by_cases h3 : (d.length : Int) ≤ 8192
   ·rw [decide_eq_true h1, decide_eq_true h2, decide_eq_true h3]
    go_enter Tryz.func74, Tryz.ntmps74
    go_wp2_with ((first | ((with_reducible refine tBox (some 1) ?_); refine w_box M _ _ rfl rfl _ rfl (envC k b n d t) rfl ?_; clear M; intro gx w1 M) | ((with_reducible refine tGuard ?_); first | ((with_reducible refine qAC ?_ ?_); exact dcd) | ((with_reducible refine qAH ?_ ?_); exact dcd) | ((with_reducible refine qAI ?_ ?_); exact dcd)) | ((with_reducible refine tM rfl ?_); refine mS ?_; try (clear M; (first | intro g w1 M | intro w1 M); try simp only [setC] at M))) <;> (try conv => arg 5; simp only [Act.put, List.setIfInBounds_toArray, setC]))
    go_ret
    exact ⟨rfl, M.below⟩
   ·rw [decide_eq_true h1, decide_eq_true h2, decide_eq_false h3]
    go_enter Tryz.func74, Tryz.ntmps74
    go_wp2_with ((first | ((with_reducible refine tBox (some 1) ?_); refine w_box M _ _ rfl rfl _ rfl (envC k b n d t) rfl ?_; clear M; intro gx w1 M) | ((with_reducible refine tGuard ?_); first | ((with_reducible refine qAC ?_ ?_); exact dcd) | ((with_reducible refine qAH ?_ ?_); exact dcd) | ((with_reducible refine qAI ?_ ?_); exact dcd)) | ((with_reducible refine tM rfl ?_); refine mS ?_; try (clear M; (first | intro g w1 M | intro w1 M); try simp only [setC] at M))) <;> (try conv => arg 5; simp only [Act.put, List.setIfInBounds_toArray, setC]))
    go_ret
    exact ⟨rfl, M.below⟩
  ·rw [decide_eq_true h1, decide_eq_false h2]
   go_enter Tryz.func74, Tryz.ntmps74
   go_wp2_with ((first | ((with_reducible refine tBox (some 1) ?_); refine w_box M _ _ rfl rfl _ rfl (envC k b n d t) rfl ?_; clear M; intro gx w1 M) | ((with_reducible refine tGuard ?_); first | ((with_reducible refine qAC ?_ ?_); exact dcd) | ((with_reducible refine qAH ?_ ?_); exact dcd) | ((with_reducible refine qAI ?_ ?_); exact dcd)) | ((with_reducible refine tM rfl ?_); refine mS ?_; try (clear M; (first | intro g w1 M | intro w1 M); try simp only [setC] at M))) <;> (try conv => arg 5; simp only [Act.put, List.setIfInBounds_toArray, setC]))
   go_ret
   exact ⟨rfl, M.below⟩
 ·rw [decide_eq_false h1]
  go_enter Tryz.func74, Tryz.ntmps74
  go_wp2_with ((first | ((with_reducible refine tBox (some 1) ?_); refine w_box M _ _ rfl rfl _ rfl (envC k b n d t) rfl ?_; clear M; intro gx w1 M) | ((with_reducible refine tGuard ?_); first | ((with_reducible refine qAC ?_ ?_); exact dcd) | ((with_reducible refine qAH ?_ ?_); exact dcd) | ((with_reducible refine qAI ?_ ?_); exact dcd)) | ((with_reducible refine tM rfl ?_); refine mS ?_; try (clear M; (first | intro g w1 M | intro w1 M); try simp only [setC] at M))) <;> (try conv => arg 5; simp only [Act.put, List.setIfInBounds_toArray, setC]))
  go_ret
  exact ⟨rfl, M.below⟩
theorem numbers_c (g : Nat) (v : Value) (l : List UInt8) (k : Nat) (b : UInt32) (n : UInt64) (d t : List UInt8) (w : World) (hk : k ≤ 1048576) (hl : l.length ≤ 1000000) (ho : (outC g v l).ok w) :
  Calls Tryz.prog 79 #[.pointer (some ⟨g, 0, none⟩), .agg (envC k b n d t).toArray] w fun e w' => e = .returned (.tuple #[]) ∧ ∃ v', Upd w (outC g v l) w' (outC g v' (l ++ headL k b n)) := by
 have M := Mem.start1 ho
 have h1 := qAG k yF
 have h2 := qAG b.toNat (by have := b.toNat_lt; omega)
 have hb := b.toNat_lt
 have hn := n.toNat_lt
 have e1 := qBG k yF
 have e2 : I64 b.toUInt64 = ((b.toNat : Nat) : Int) := by rw [qBU, UInt32.toNat_toUInt64]
 replace e2 := Lib.hid fun _ : Unit => e2
 go_enter Tryz.func79, Tryz.ntmps79
 go_wp2_with ((first | ((with_reducible refine tBox (some 3) ?_); refine w_box M _ _ rfl rfl _ rfl (envC k b n d t) rfl ?_; clear M; intro gx w1 M) | (go_at_call 113; (first | (with_reducible refine (Num_c _ _ _ k (k : Int) rfl _ yF (by first | omega | (simp only [List.length_append]; omega)) (M.ok 1 _ rfl)).mono ?_) | (with_reducible refine (Num_c _ _ _ b.toNat (I64 b.toUInt64) (e2.out ()) _ yF (by first | omega | (simp only [List.length_append]; omega)) (M.ok 1 _ rfl)).mono ?_) | (with_reducible refine (Num_c _ _ _ n.toNat (I64 n) (qBU n) _ yF (by first | omega | (simp only [List.length_append]; omega)) (M.ok 1 _ rfl)).mono ?_)); rintro e w2 ⟨rfl, v1, U⟩; replace M := M.upd 1 rfl U; clear U) | ((with_reducible refine tM rfl ?_); refine mS ?_; try (clear M; (first | intro g w1 M | intro w1 M); try simp only [setC] at M)) | ((with_reducible refine tGuard ?_); refine gdC ?_ ?_ <;> (intro hgd; rw [hgd]; try (exfalso; simp at hgd; omega)))) <;> (try conv => arg 5; simp only [Act.put, List.setIfInBounds_toArray, setC]))
 simp only [List.append_assoc] at M
 exact bodyPost_end (results_none rfl _ _ _) rfl ⟨rfl, _, (M.tail).upd1 0 rfl⟩
theorem qEl (key : List UInt8) (k : Int) (b : UInt32) (n : UInt64) (d t text : List UInt8) (w : World) (hk : key.length = 32) (hx : text.length ≤ 1000000) :
  Calls Tryz.prog 75 #[.agg (bs key).toArray, .agg (envC k b n d t).toArray, .string (mkS text)] w fun e w' => e = .returned (.string (mkS (sealL key b n text))) ∧ Below w.heap.size w w' := by
 have M := Mem.start [] w
 have KC := fun w => Key_c key encL w hk yN
 have SE : sealL key b n text = streamL (macL key encL) (nonceL b n) text := rfl
 have hm := qAq key encL
 have SC := fun w => Stream_c (macL key encL) (nonceL b n) text w hm (qEZ b n) hx
 have A1 := fun (w : World) hok => sealPutc (.slice none 0 0) [] b.toUInt64 4 w hok yF yB1
 have A2 := fun v (w : World) hok => sealPutc v (bigB b.toUInt64 4) n 8 w hok yF (by rw [qAW]; omega)
 have hb1 := qAW b.toUInt64 4
 have hn0 := qEZ b n
 have hno : bigB b.toUInt64 4 ++ bigB n 8 = nonceL b n := rfl
 rw [hno] at A2
 rw [List.nil_append, show ((4 : Nat) : Int) = 4 from rfl] at A1
 rw [show ((8 : Nat) : Int) = 8 from rfl] at A2
 obtain ⟨m, em⟩ : ∃ m, m = macL key encL := ⟨_, rfl⟩
 rw [← em] at KC SE hm SC
 obtain ⟨nn, enn⟩ : ∃ x, x = nonceL b n := ⟨_, rfl⟩
 rw [← enn] at SE SC A2 hn0
 obtain ⟨b4, eb4⟩ : ∃ x, x = bigB b.toUInt64 4 := ⟨_, rfl⟩
 rw [← eb4] at A1 A2 hb1
 rw [hb1] at A1 A2
 rw [hn0] at A2
 obtain ⟨r, er⟩ : ∃ x, x = sealL key b n text := ⟨_, rfl⟩
 rw [SE] at er
 rw [← er] at SC
 have ER := Lib.hid fun _ : Unit => (show sealL key b n text = r from SE.trans er.symm)
 replace KC := Lib.hid KC
 replace SC := Lib.hid SC
 replace A1 := Lib.hid A1
 replace A2 := Lib.hid A2
 clear em enn eb4 er SE hno
 go_enter Tryz.func75, Tryz.ntmps75
 have NI := Lib.hid fun _ : Unit => (show (List.replicate 12 (0 : UInt8)).take 0 ++ (nn.take 12 ++ (List.replicate 12 0).drop (0 + 12)) = nn by rw [List.take_zero, List.nil_append, List.take_of_length_le yF]; simp)
 have hz : (List.replicate 12 (0 : UInt8)).length = 12 := List.length_replicate
 go_wp2_with ((first | ((with_reducible refine tBox (some 3) ?_); refine w_box M _ _ rfl rfl _ rfl (bs key) rfl ?_; clear M; intro gk w1 M) | ((with_reducible refine tBox (some 4) ?_); refine w_box M _ _ rfl rfl _ rfl (envC k b n d t) rfl ?_; clear M; intro gx w1 M) | ((with_reducible refine tAlloc (some 7) 194 ?_); refine wal M _ rfl rfl (bs (List.replicate 12 (0 : UInt8))) yD ?_; clear M; intro gn w1 M) | ((with_reducible show Code.wp _ (Code.region 2 _ _) _ _ _); (have MR := M; refine qAB [(0, false), (1, false), (5, false), (2, false), (3, false), (6, false), (4, true), (7, true), (8, true)] [(10, .int)] [(2, _), (6, _)] (IxOk MR [1]) 9 yD yD rfl yD (lowA MR 1 1 (lowA MR 1 2 qAN)) (qAJ MR _) ?_; replace M := M.drew; simp only [planC, opAt, gE])) | ((with_reducible show Code.wp _ (Code.region 3 _ _) _ _ _); (have MR := M; refine qAB [(3, false), (0, false), (2, false), (1, true), (4, true), (5, false)] [] [(0, _), (2, _)] (IxOk MR [2, 0]) 6 yD yD rfl yD (lowA MR 2 0 (lowA MR 0 0 qAN)) (qAJ MR _) ?_; replace M := M.drew; simp only [planC, opAt, gE])) | (go_at_call 108; (first | (replace M := M.nil 1; with_reducible refine (A1.out _ (M.ok 0 _ rfl)).mono ?_; rintro e w1 ⟨p1, c1, rfl, U⟩; replace M := M.upd 0 rfl U; clear U; simp only [List.set_cons_zero] at M) | (with_reducible refine (A2.out _ _ (M.ok 0 _ rfl)).mono ?_; rintro e w1 ⟨p2, c2, rfl, U⟩; replace M := M.upd 0 rfl U; clear U; simp only [List.set_cons_zero] at M))) | ((with_reducible show wpList _ _ _ (Oper.mk _ (Op.call ⟨Callee.builtin Builtin.copy, _, _⟩) _ _ _ _ :: _) _ _); (refine w_copyB M 1 bytesT _ _ _ rfl rfl rfl rfl rfl (qCf (M.ok 0 _ rfl) hn0.symm) 12 yF yF ?_; clear M; intro w1 M; simp only [List.set_cons_succ, List.set_cons_zero] at M; rw [NI.out ()] at M; replace M := M.tail)) | (go_at_call 110; (refine (KC.out _).mono ?_; rintro e w1 ⟨rfl, hb⟩; replace M := M.call hb; clear hb)) | (go_at_call 109; (refine (SC.out _).mono ?_; rintro e w1 ⟨rfl, hb⟩; replace M := M.call hb; clear hb)) | ((with_reducible refine tM rfl ?_); refine mB ?_; try (clear M; (first | intro g w1 M | intro w1 M); try simp only [setC] at M)) | ((with_reducible first | show Seg _ _ _ _ | show OnlyN _ _ _ _ _); refine rA ?_) | ((with_reducible refine tGuard ?_); refine gdC ?_ ?_ <;> (intro hgd; rw [hgd]; try (exfalso; simp at hgd; omega)))) <;> (try conv => arg 5; simp only [Act.put, List.setIfInBounds_toArray, setC]))
 go_ret
 exact ⟨congrArg (fun x => Ending.returned (.string (mkS x))) (ER.out ()).symm, M.below⟩
theorem qFN (key : List UInt8) (k : Nat) (b : UInt32) (n : UInt64) (d t about : List UInt8) (w : World) (hk : key.length = 32) (ht : t.length = 32) (hkk : k ≤ 1048576) (ha : about.length ≤ 100000) (hd : d.length ≤ 100000) :
  Calls Tryz.prog 76 #[.agg (bs key).toArray, .agg (envC k b n d t).toArray, .string (mkS about)] w fun e w' => e = .returned (.agg (bs (tagL key k b n about d)).toArray) ∧ Below w.heap.size w w' := by
 have M := Mem.start [] w
 have KC := fun w => Key_c key macT w hk yN
 have SE : tagL key k b n about d = macL (macL key macT) (headL k b n ++ (textL about ++ textL d)) := rfl
 have hm := qAq key macT
 have hh := qEJ k b n yF
 have hta : (textL about).length ≤ 100010 := by unfold textL; have := qAG about.length yF; simp; omega
 have htd : (textL d).length ≤ 100010 := by unfold textL; have := qAG d.length yF; simp; omega
 have NC := fun (g : Nat) (v : Value) (w : World) hok => numbers_c g v [] k b n d t w hkk yB1 hok
 have T1 := fun (g : Nat) (v : Value) (w : World) hok => qBJ g v (headL k b n) about w yF yF hok
 have T2 := fun (g : Nat) (v : Value) (w : World) hok => qBJ g v (headL k b n ++ textL about) d w yF yC1 hok
 have TC := fun w => Tag_c (macL key macT) (headL k b n ++ (textL about ++ textL d)) w yF yC1
 rw [List.append_assoc] at T2
 rw [List.nil_append] at NC
 obtain ⟨m, em⟩ : ∃ m, m = macL key macT := ⟨_, rfl⟩
 rw [← em] at KC SE hm TC
 obtain ⟨h0, eh⟩ : ∃ x, x = headL k b n := ⟨_, rfl⟩
 rw [← eh] at SE NC T1 T2 TC hh
 obtain ⟨u2, eu⟩ : ∃ x, x = h0 ++ (textL about ++ textL d) := ⟨_, rfl⟩
 rw [← eu] at SE T2 TC
 obtain ⟨u1, eu1⟩ : ∃ x, x = h0 ++ textL about := ⟨_, rfl⟩
 rw [← eu1] at T1 T2
 obtain ⟨r, er⟩ : ∃ x, x = macL m u2 := ⟨_, rfl⟩
 have hr : r.length = 32 := by rw [er]; exact qAq _ _
 rw [← er] at SE TC
 have ER := Lib.hid fun _ : Unit => SE
 replace KC := Lib.hid KC
 replace NC := Lib.hid NC
 replace T1 := Lib.hid T1
 replace T2 := Lib.hid T2
 replace TC := Lib.hid TC
 clear em eh eu eu1 er SE hta htd hh
 go_enter Tryz.func76, Tryz.ntmps76
 go_wp2_with ((first | ((with_reducible refine tBox (some 3) ?_); refine w_box M _ _ rfl rfl _ rfl (bs key) rfl ?_; clear M; intro gk w1 M) | ((with_reducible refine tBox (some 4) ?_); refine w_box M _ _ rfl rfl _ rfl (envC k b n d t) rfl ?_; clear M; intro gx w1 M) | ((with_reducible refine tAlloc (some 6) 64 ?_); refine wal M _ rfl rfl (bs (List.replicate 32 (0 : UInt8))) yD ?_; clear M; intro gr w1 M) | (((with_reducible refine tAlloc (some 7) 155 ?_); refine wal M _ rfl rfl ([.slice none 0 0]) yD ?_; clear M; intro go w1 M); replace M := M.outNew) | ((with_reducible refine tAlloc (some 8) 50 ?_); refine wal M _ rfl rfl (bs (List.replicate 32 (0 : UInt8))) yD ?_; clear M; intro gm w1 M) | (go_at_call 79; (refine (NC.out _ _ _ (M.ok 0 _ rfl)).mono ?_; rintro e w2 ⟨rfl, v1, U⟩; replace M := M.upd 0 rfl U; clear U; simp only [List.set_cons_zero] at M)) | (go_at_call 80; ((first | (with_reducible refine (T1.out _ _ _ (M.ok 0 _ rfl)).mono ?_) | (with_reducible refine (T2.out _ _ _ (M.ok 0 _ rfl)).mono ?_)); rintro e w2 ⟨rfl, v2, U⟩; replace M := M.upd 0 rfl U; clear U; simp only [List.set_cons_zero] at M)) | (go_at_call 110; (refine (KC.out _).mono ?_; rintro e w1 ⟨rfl, hb⟩; replace M := M.call hb; clear hb)) | (go_at_call 47; (refine (TC.out _).mono ?_; rintro e w1 ⟨rfl, hb⟩; replace M := M.call hb; clear hb)) | (go_at_call 81; (refine (qBT _ _ _ _ (M.ok 1 _ rfl)).mono ?_; rintro e w1 ⟨rfl, rfl⟩)) | ((with_reducible show Code.wp _ (Code.region 6 _ _) _ _ _); (have MR := M; refine qAB [(0, false), (1, false), (2, true), (3, true), (4, true)] [] [(1, _)] (IxOk MR [0]) 4 yD yD rfl yD (lowA MR 0 0 qAN) (qAJ MR _) ?_; replace M := M.drew; simp only [planC, opAt, gE])) | ((with_reducible refine tLoad ?_); refine w_at _ _ rfl yI ?_; intro hx; (first | refine qAu M _ _ _ rfl yX hx rfl yB yB yC ?_ | refine qAj M _ _ _ rfl yX hx rfl yB yB yC ?_); clear hx) | ((with_reducible refine tStore ?_); refine w_at2 _ _ _ rfl yE yE ?_; intro hx hy; (first | refine qAL M _ _ _ _ rfl yX hx rfl hy rfl yB yC yC ?_ | refine qAL (k := 0) (b := 0) (n := 0) (d := []) (tg := zeroT) M _ _ _ _ rfl yX hx rfl hy rfl yB qAO yC ?_ | refine qAL (tg := zeroT) M _ _ _ _ rfl yX hx rfl hy rfl yB qAO yC ?_ | refine qAd M _ _ _ _ rfl yX hx rfl hy yB yC yC ?_ | refine qAU M _ _ _ _ rfl yX hx rfl hy yB ?_ | refine qAe M _ _ _ _ rfl yX hx rfl hy yB ?_); clear hx hy M; intro w1 M; (try simp only [setC] at M)) | ((with_reducible refine tConv _ 70 9 ?_); (first | refine qAT M _ _ _ _ _ rfl rfl yX rfl yC Tryz.underlying70 Tryz.underlying5 Tryz.underlying9 ?_)) | ((with_reducible refine tM rfl ?_); refine mB ?_; try (clear M; (first | intro g w1 M | intro w1 M); try simp only [setC] at M)) | ((with_reducible first | show Seg _ _ _ _ | show OnlyN _ _ _ _ _); refine rA ?_) | ((with_reducible refine tGuard ?_); refine gdC ?_ ?_ <;> (intro hgd; rw [hgd]; try (exfalso; simp at hgd; omega)))) <;> (try conv => arg 5; simp only [Act.put, List.setIfInBounds_toArray, setC]))
 exact bodyPost_ret (qAS rfl _ _ gr 0 (bs r) _ rfl (M.ok 2 _ rfl).2.1 Tryz.underlying64 rfl yF1) rfl ⟨congrArg (fun x => Ending.returned (.agg (bs x).toArray)) (ER.out ()).symm, M.below⟩
end Go.Proofs.YtidadhbaomieiaaGreat

namespace Go
namespace TL
/-! ### Numbers and texts, read back and cut -/
theorem qCL {m n k : Nat} {r : List UInt8} (h : n ≤ m) (h64 : n < 18446744073709551616) : InS.most ⟨numL n ++ r, k, 0⟩ m = (n, ⟨r, k + (numL n).length, 0⟩) := by
 unfold InS.most InS.take
 simp only [if_true]
 rw [read_num n m r h64, if_neg yF]
 simp
theorem qBy {m k : Nat} {t r : List UInt8} (h : t.length ≤ m) (h64 : t.length < 18446744073709551616) : InS.text ⟨textL t ++ r, k, 0⟩ m = (t, ⟨r, k + (textL t).length, 0⟩) := by
 unfold InS.text InS.take textL
 have e := read_num t.length m (t ++ r) h64
 rw [if_neg yF] at e
 simp only [if_true, List.append_assoc]
 rw [e]
 simp only [if_true]
 rw [if_pos yB1]
 simp [List.drop_append]
theorem qEb {x : InS} {m n : Nat} {y : InS} (h : x.most m = (n, y)) (hx : x.err = 0) (hy : y.err = 0) : x.rest = numL n ++ y.rest ∧ n ≤ m := by
 unfold InS.most InS.take at h
 rw [if_pos hx] at h
 obtain ⟨⟨a, b, c⟩, e⟩ : ∃ R, R = readN x.rest m := ⟨_, rfl⟩
 rw [← e] at h
 simp only [Prod.mk.injEq] at h
 obtain ⟨rfl, rfl⟩ := h
 by_cases hc : c = 0
 ·subst hc
  obtain ⟨h1, h2, h3, _⟩ := qFX e.symm
  simp only [if_true]
  exact ⟨h1, h3⟩
 ·rw [if_neg hc] at hy; exact absurd hy hc
theorem text_ok {x : InS} {m : Nat} {t : List UInt8} {y : InS} (h : x.text m = (t, y)) (hx : x.err = 0) (hy : y.err = 0) : x.rest = textL t ++ y.rest ∧ t.length ≤ m := by
 have hlen := InS.text_len x m
 rw [h] at hlen
 refine ⟨?_, hlen⟩
 unfold InS.text InS.take at h
 rw [if_pos hx] at h
 obtain ⟨⟨a, b, c⟩, e⟩ : ∃ R, R = readN x.rest m := ⟨_, rfl⟩
 rw [← e] at h
 by_cases hc : c = 0
 ·subst hc
  obtain ⟨h1, h2, h3, _⟩ := qFX e.symm
  simp only [if_true] at h
  split at h
  ·rename_i hl
   simp only [Prod.mk.injEq] at h
   obtain ⟨rfl, rfl⟩ := h
   have e2 : ((x.rest.drop b).take a).length = a := by simp; omega
   unfold textL
   rw [e2, List.append_assoc]
   simp only
   rw [← List.drop_drop, List.take_append_drop]
   exact h1
  ·simp only [Prod.mk.injEq] at h
   obtain ⟨_, rfl⟩ := h
   simp at hy
 ·simp only [if_neg hc, Prod.mk.injEq] at h
  obtain ⟨_, rfl⟩ := h
  exact absurd hy hc
theorem qDC {x : InS} {m : Nat} (h : (x.most m).2.err = 0) : x.err = 0 := by
 by_cases hx : x.err = 0
 ·exact hx
 ·rw [InS.most_err hx] at h; exact h
theorem qFI {x : InS} {m : Nat} (h : (x.text m).2.err = 0) : x.err = 0 := by
 by_cases hx : x.err = 0
 ·exact hx
 ·rw [InS.text_err hx] at h; exact h
end TL
end Go

namespace Go
namespace TL
structure Env where
 k : Nat
 b : UInt32
 n : UInt64
 d : List UInt8
 t : List UInt8
def zeroE : Env := ⟨0, 0, 0, [], List.replicate 32 0⟩
def envB (x : Env) : List UInt8 := numL x.k ++ (numL x.b.toNat ++ (numL x.n.toNat ++ (textL x.d ++ x.t)))
def rightEnv (x : Env) : Prop := x.k ≤ 1048576 ∧ x.d.length ≤ 8192 ∧ x.t.length = 32
def tagS (x0 : InS) : Nat → InS × List UInt8
 | 0 => (x0, List.replicate 32 0)
 | n + 1 => ((tagS x0 n).1.byte.2, (tagS x0 n).2.set n (UInt8.ofNat (tagS x0 n).1.byte.1))
theorem qBl (x0 : InS) (n : Nat) : tagS x0 (n + 1) = ((tagS x0 n).1.byte.2, (tagS x0 n).2.set n (UInt8.ofNat (tagS x0 n).1.byte.1)) := rfl
theorem qCc (x0 : InS) : ∀ n, (tagS x0 n).2.length = 32
 | 0 => List.length_replicate
 | n + 1 => by rw [qBl, List.length_set]; exact qCc x0 n
theorem tagS_fit {x0 : InS} (h : x0.fit) : ∀ n, (tagS x0 n).1.fit
 | 0 => h
 | n + 1 => InS.byte_fit (tagS_fit h n)
structure Nums where
 k : Nat
 b : Nat
 n : Nat
 d : List UInt8
 x : InS
def numsS (s : List UInt8) : Nums :=
 let a := (InS.mk s 0 0).most 1048576
 let b := a.2.most 4294967295
 let c := b.2.most maxU
 let d := c.2.text 8192
 ⟨a.1, b.1, c.1, d.1, d.2⟩
def readS (s : List UInt8) : Env × Nat :=
 let a := numsS s
 let e := tagS a.x 32
 if e.1.fin = 0 then (⟨a.k, UInt32.ofNat a.b, UInt64.ofNat a.n, a.d, e.2⟩, 0) else (zeroE, e.1.fin)
theorem qGK {s : List UInt8} (h : (readS s).2 ≠ 0) : readS s = (zeroE, (readS s).2) := by
 unfold readS at h ⊢
 simp only at h ⊢
 by_cases e : (tagS (numsS s).x 32).1.fin = 0
 ·rw [if_pos e] at h; exact absurd rfl h
 ·rw [if_neg e]
theorem byte_has (x : InS) : ∃ q : UInt8, x.byte.1 = q.toNat := by
 unfold InS.byte
 split
 ·split
  ·exact ⟨0, rfl⟩
  ·rename_i b _ _; exact ⟨b, rfl⟩
 ·exact ⟨0, rfl⟩
theorem qFu (b : UInt8) (r : List UInt8) (k : Nat) : (InS.mk (b :: r) k 0).byte = (b.toNat, ⟨r, k + 1, 0⟩) := rfl
theorem byte_nil (k : Nat) : (InS.mk [] k 0).byte = (0, ⟨[], k, 7⟩) := rfl
theorem byte_bad {x : InS} (h : x.err ≠ 0) : x.byte = (0, x) := by unfold InS.byte; rw [if_neg h]
theorem byte_ok {x : InS} (h : x.byte.2.err = 0) : x.err = 0 ∧ x.rest = UInt8.ofNat x.byte.1 :: x.byte.2.rest := by
 obtain ⟨rest, read, err⟩ := x
 by_cases e : err = 0
 ·subst e
  cases rest with
  | nil => cases h
  | cons b r => rw [qFu]; exact ⟨rfl, by rw [UInt8.ofNat_toNat]⟩
 ·rw [byte_bad e] at h; exact absurd h e
theorem qCe (l : List UInt8) (j : Nat) (v : UInt8) (h : j < l.length) : (l.set j v).take (j + 1) = l.take j ++ [v] := by
 rw [List.take_succ_eq_append_getElem yE1, List.getElem_set_self, List.take_set_of_le (Nat.le_refl j)]
theorem qFK (t r : List UInt8) (k : Nat) (ht : t.length = 32) : ∀ n, n ≤ 32 → (tagS ⟨t ++ r, k, 0⟩ n).1 = ⟨t.drop n ++ r, k + n, 0⟩ ∧ (tagS ⟨t ++ r, k, 0⟩ n).2.take n = t.take n
 | 0, _ => ⟨rfl, rfl⟩
 | n + 1, h => by
  obtain ⟨h1, h2⟩ := qFK t r k ht n yF
  have hd : t.drop n = t[n] :: t.drop (n + 1) := List.drop_eq_getElem_cons yF
  have hl := qCc ⟨t ++ r, k, 0⟩ n
  rw [qBl, h1, hd, List.cons_append, qFu]
  refine ⟨rfl, ?_⟩
  rw [qCe _ _ _ yF, h2, UInt8.ofNat_toNat, List.take_succ_eq_append_getElem yF]
theorem tagS_bad {x : InS} (h : x.err ≠ 0) : ∀ n, (tagS x n).1 = x
 | 0 => rfl
 | n + 1 => by rw [qBl, tagS_bad h n, byte_bad h]
theorem tagS_only {x : InS} : ∀ n, n ≤ 32 → (tagS x n).1.err = 0 → x.err = 0 ∧ x.rest = (tagS x n).2.take n ++ (tagS x n).1.rest
 | 0, _, h => ⟨h, rfl⟩
 | n + 1, hn, h => by
  rw [qBl] at h ⊢
  obtain ⟨e1, e2⟩ := byte_ok h
  obtain ⟨h1, h2⟩ := tagS_only n yF e1
  have hl := qCc x n
  refine ⟨h1, ?_⟩
  rw [qCe _ _ _ yF, h2, e2]
  simp
theorem nums_back (x : Env) (h : rightEnv x) (r : List UInt8) : ∃ k, numsS (numL x.k ++ (numL x.b.toNat ++ (numL x.n.toNat ++ (textL x.d ++ r)))) = ⟨x.k, x.b.toNat, x.n.toNat, x.d, ⟨r, k, 0⟩⟩ := by
 obtain ⟨h1, h2, _⟩ := h
 have hb := x.b.toNat_lt
 have hn := x.n.toNat_lt
 unfold numsS
 simp only
 rw [qCL h1 yF]
 simp only
 rw [qCL yF yF]
 simp only
 rw [qCL (by unfold maxU; omega) yF]
 simp only
 rw [qBy h2 yF]
 exact ⟨_, rfl⟩
theorem read_env (x : Env) (h : rightEnv x) (r : List UInt8) : readS (envB x ++ r) = if r = [] then (x, 0) else (zeroE, 8) := by
 have e : envB x ++ r = numL x.k ++ (numL x.b.toNat ++ (numL x.n.toNat ++ (textL x.d ++ (x.t ++ r)))) := by unfold envB; simp only [List.append_assoc]
 obtain ⟨k, hk⟩ := nums_back x h (x.t ++ r)
 obtain ⟨t1, t2⟩ := qFK x.t r k h.2.2 32 (Nat.le_refl _)
 have hl := qCc ⟨x.t ++ r, k, 0⟩ 32
 rw [List.take_of_length_le yF, List.take_of_length_le (by have := h.2.2; omega)] at t2
 rw [List.drop_eq_nil_of_le (by have := h.2.2; omega), List.nil_append] at t1
 unfold readS
 rw [e, hk]
 simp only
 rw [t1, t2]
 by_cases hr : r = []
 ·subst hr
  have hf : (InS.mk [] (k + 32) 0).fin = 0 := rfl
  rw [if_pos rfl, if_pos hf, UInt32.ofNat_toNat, UInt64.ofNat_toNat]
 ·have hf : (InS.mk r (k + 32) 0).fin = 8 := by unfold InS.fin; rw [if_pos rfl, if_neg (by simpa using hr)]
  rw [if_neg hr, hf, if_neg yN]
theorem qCy {s : List UInt8} (h : (readS s).2 = 0) : s = envB (readS s).1 ∧ rightEnv (readS s).1 := by
 obtain ⟨⟨a, x1⟩, e1⟩ : ∃ R, R = (InS.mk s 0 0).most 1048576 := ⟨_, rfl⟩
 obtain ⟨⟨b, x2⟩, e2⟩ : ∃ R, R = x1.most 4294967295 := ⟨_, rfl⟩
 obtain ⟨⟨c, x3⟩, e3⟩ : ∃ R, R = x2.most maxU := ⟨_, rfl⟩
 obtain ⟨⟨d, x4⟩, e4⟩ : ∃ R, R = x3.text 8192 := ⟨_, rfl⟩
 have en : numsS s = ⟨a, b, c, d, x4⟩ := by unfold numsS; simp only [← e1, ← e2, ← e3, ← e4]
 have g := fun h => tagS_only (x := x4) 32 (Nat.le_refl _) h
 have hl := qCc x4 32
 obtain ⟨⟨x5, t⟩, e5⟩ : ∃ R, R = tagS x4 32 := ⟨_, rfl⟩
 rw [← e5] at g hl
 simp only at g hl
 have er : readS s = if x5.fin = 0 then (⟨a, UInt32.ofNat b, UInt64.ofNat c, d, t⟩, 0) else (zeroE, x5.fin) := by unfold readS; simp only [en, ← e5]
 rw [er] at h ⊢
 by_cases e : x5.fin = 0
 ·rw [if_pos e]
  simp only
  have he : x5.err = 0 ∧ x5.rest = [] := by
   unfold InS.fin at e
   by_cases q1 : x5.err = 0
   ·rw [if_pos q1] at e
    refine ⟨q1, ?_⟩
    by_cases q2 : x5.rest.length = 0
    ·simpa using q2
    ·rw [if_neg q2] at e; cases e
   ·rw [if_neg q1] at e; exact absurd e q1
  obtain ⟨g1, g2⟩ := g he.1
  rw [he.2, List.append_nil, List.take_of_length_le yF] at g2
  have f3 : x3.err = 0 := qFI (m := 8192) (by rw [← e4]; exact g1)
  have f2 : x2.err = 0 := qDC (m := maxU) (by rw [← e3]; exact f3)
  have f1 : x1.err = 0 := qDC (m := 4294967295) (by rw [← e2]; exact f2)
  obtain ⟨a1, a2⟩ := qEb e1.symm rfl f1
  obtain ⟨b1, b2⟩ := qEb e2.symm f1 f2
  obtain ⟨c1, c2⟩ := qEb e3.symm f2 f3
  obtain ⟨d1, d2⟩ := text_ok e4.symm f3 g1
  rw [qDj] at c2
  refine ⟨?_, a2, d2, hl⟩
  unfold envB
  simp only
  rw [UInt32.toNat_ofNat', UInt64.toNat_ofNat', Nat.mod_eq_of_lt yF, Nat.mod_eq_of_lt yF, ← g2, ← d1, ← c1, ← b1]
  exact a1
 ·rw [if_neg e] at h; exact absurd h e
end TL
end Go

namespace Go
namespace TL
def ringT : List UInt8 := [114, 105, 110, 103]
def ringU (m : List UInt8) (u : UInt64) : List UInt8 := macL m (ringT ++ bigB u 8)
def ringK (m : List UInt8) (k : Nat) : List UInt8 := ringU m (w64 (k : Int))
theorem qFV (m : List UInt8) (k : Nat) : (ringK m k).length = 32 := qCj _ _
structure RingS where
 m : List UInt8
 c : Nat
 b : UInt32
 n : UInt64
def RingS.env (R : RingS) (about text : List UInt8) : Env :=
 ⟨R.c, R.b, R.n, sealL (ringK R.m R.c) R.b R.n text, tagL (ringK R.m R.c) R.c R.b R.n about (sealL (ringK R.m R.c) R.b R.n text)⟩
def openL (m : List UInt8) (c : Nat) (s about : List UInt8) : List UInt8 × Nat :=
 if (readS s).2 ≠ 0 then ([], (readS s).2) else if c < (readS s).1.k then ([], 20) else
  if (readS s).1.t = tagL (ringK m (readS s).1.k) (readS s).1.k (readS s).1.b (readS s).1.n about (readS s).1.d then (sealL (ringK m (readS s).1.k) (readS s).1.b (readS s).1.n (readS s).1.d, 0) else ([], 13)
theorem RingS.env_right {R : RingS} (about text : List UInt8) (hc : R.c ≤ 1048576) (ht : text.length ≤ 8192) : rightEnv (R.env about text) :=
 ⟨hc, by show (sealL _ _ _ _).length ≤ 8192; unfold sealL; rw [qAy]; exact ht, qCj _ _⟩
theorem RingS.env_bytes (R : RingS) (about text : List UInt8) :
  headL R.c R.b R.n ++ (textL (sealL (ringK R.m R.c) R.b R.n text) ++ tagL (ringK R.m R.c) R.c R.b R.n about (sealL (ringK R.m R.c) R.b R.n text)) = envB (R.env about text) := by
 unfold headL envB RingS.env; simp only [List.append_assoc]
theorem envB_length {x : Env} (h : rightEnv x) : (envB x).length ≤ 8600 := by
 obtain ⟨k, b, n, d, t⟩ := x
 obtain ⟨h1, h2, h3⟩ := h
 simp only at h1 h2 h3
 have e : envB ⟨k, b, n, d, t⟩ = headL k b n ++ (textL d ++ t) := by unfold headL envB; simp only [List.append_assoc]
 rw [e]
 have a1 := qEJ k b n yF
 have a2 : (textL d).length ≤ 8210 := by unfold textL; have := qAG d.length yF; simp; omega
 simp only [List.length_append]; omega
theorem RingS.read {R : RingS} (about text : List UInt8) (hc : R.c ≤ 1048576) (ht : text.length ≤ 8192) : readS (envB (R.env about text)) = (R.env about text, 0) := by
 have h := read_env (R.env about text) (RingS.env_right about text hc ht) []
 rw [List.append_nil, if_pos rfl] at h
 exact h
theorem openL_ok {R : RingS} (about text : List UInt8) (hc : R.c ≤ 1048576) (ht : text.length ≤ 8192) {c : Nat} (h : R.c ≤ c) : openL R.m c (envB (R.env about text)) about = (text, 0) := by
 unfold openL
 rw [RingS.read about text hc ht]
 simp only
 rw [if_neg yB1, if_neg (by show ¬ c < R.c; omega)]
 have e : sealL (ringK R.m R.c) R.b R.n (sealL (ringK R.m R.c) R.b R.n text) = text := streamL_twice _ _ _
 show (if tagL (ringK R.m R.c) R.c R.b R.n about (sealL (ringK R.m R.c) R.b R.n text) = tagL (ringK R.m R.c) R.c R.b R.n about (sealL (ringK R.m R.c) R.b R.n text) then (sealL (ringK R.m R.c) R.b R.n (sealL (ringK R.m R.c) R.b R.n text), 0) else ([], 13)) = (text, 0)
 rw [if_pos rfl, e]
theorem openL_bad {m : List UInt8} {c : Nat} {s about : List UInt8} (h : (readS s).2 ≠ 0) : openL m c s about = ([], (readS s).2) := by
 unfold openL; rw [if_pos h]
theorem openL_far {m : List UInt8} {c : Nat} {s about : List UInt8} (h : (readS s).2 = 0) (hk : c < (readS s).1.k) : openL m c s about = ([], 20) := by
 unfold openL; rw [if_neg yE1, if_pos hk]
theorem qFZ (m : List UInt8) (c : Nat) (s about : List UInt8) : (openL m c s about).1.length ≤ 8192 := by
 unfold openL
 split
 ·simp
 split
 ·simp
 split
 ·rename_i h _ _
  have hr := (qCy (s := s) yE1).2.2.1
  show (sealL _ _ _ _).length ≤ 8192
  unfold sealL; rw [qAy]; exact hr
 ·simp
end TL
end Go

namespace Go.Proofs.YtidadhbaomieiaaGreat
open Go.RowKit Go.TL
theorem rKey06_c (m : List UInt8) (i : Int) (w : World) (hm : m.length ≤ 1000000) :
  Calls Tryz.prog 22 #[.string (mkS m), .int .i64 i] w fun e w' => e = .returned (.agg (bs (ringU m (w64 i))).toArray) ∧ Below w.heap.size w w' := by
 have M := Mem.start [] w
 have TC := fun w => qEy m (ringT ++ bigB (w64 i) 8) w yF (by rw [List.length_append, qAW]; decide)
 have SE : ringU m (w64 i) = macL m (ringT ++ bigB (w64 i) 8) := rfl
 have hr : (macL m (ringT ++ bigB (w64 i) 8)).length = 32 := qAq _ _
 obtain ⟨r, er⟩ : ∃ r, r = macL m (ringT ++ bigB (w64 i) 8) := ⟨_, rfl⟩
 rw [← er] at SE TC hr
 rw [SE]
 obtain ⟨x, ex⟩ : ∃ x, x = w64 i := ⟨_, rfl⟩
 rw [← ex] at TC
 replace TC := Lib.hid TC
 have EX := Lib.hid fun _ : Unit => ex
 clear er SE ex
 go_enter Tryz.func22, Tryz.ntmps22
 go_wp2_with ((first | ((with_reducible refine tAlloc (some 4) 49 ?_); refine wal M _ rfl rfl (bs (List.replicate 32 (0 : UInt8))) yD ?_; clear M; intro gr w1 M) | ((with_reducible refine tM rfl ?_); refine mB ?_; try (clear M; (first | intro g w1 M | intro w1 M); try simp only [setC] at M)) | ((with_reducible refine tGuard ?_); refine gdC ?_ ?_ <;> (intro hgd; rw [hgd]; try (exfalso; simp at hgd; omega)))) <;> (try conv => arg 5; simp only [apS, setC]))
 go_loopw [5, 6] (fun sv iv wr => ∃ (j : Nat) (done : List UInt8), j ≤ 8 ∧ iv = .int .i64 ((j : Int) - 1) ∧ sv = .string (mkS (ringT ++ done)) ∧ done ++ bigB x j = bigB x 8 ∧ Mem [] w wr [.row gr (bs (List.replicate 32 0))]) (fun _ iv _ => (intOf iv + 1).toNat)
 case atStart => exact ⟨8, [], by omega, rfl, rfl, rfl, M⟩
 case round =>
  clear M
  obtain ⟨j, done, hj, rfl, rfl, H, M⟩ := hrel
  have H' := Lib.hid H; clear H
  cases j with
  | zero =>
   have hx : done = bigB x 8 := by have := H'.out; simpa [bigB] using this
   subst hx
   go_wp2_with ((first | (go_at_call 48; (refine (TC.out _).mono ?_; rintro e w1 ⟨rfl, hb⟩; replace M := M.call hb; clear hb)) | ((with_reducible refine tM rfl ?_); refine mB ?_; try (clear M; (first | intro g w1 M | intro w1 M); try simp only [setC] at M)) | ((with_reducible refine tGuard ?_); refine gdC ?_ ?_ <;> (intro hgd; rw [hgd]; try (exfalso; simp at hgd; omega)))) <;> (try conv => arg 5; simp only [apS, setC]))
   exact bodyPost_ret (qAS rfl _ _ gr 0 (bs r) _ rfl (M.ok 0 _ rfl).2.1 Tryz.underlying49 rfl yF1) rfl ⟨rfl, M.below⟩
  | succ k =>
   have e : ((k + 1 : Nat) : Int) - 1 = k := by omega
   rw [e]; clear e
   have b1 : 8 * (k : Int) ≤ 63 := by omega
   have b0 : 0 ≤ 8 * (k : Int) := by omega
   have q3 : I64 (w64 (8 * (k : Int))) = 8 * (k : Int) := by rw [show 8 * (k : Int) = ((8 * k : Nat) : Int) by omega]; exact qBG _ yF
   have q4 : (8 * (k : Int)).toNat = 8 * k := by omega
   have hd : done.length ≤ 8 := by have := congrArg List.length H'.out; rw [List.length_append, qAW, qAW] at this; omega
   have hrt : ringT.length = 4 := rfl
   go_wp2_with ((first | ((with_reducible refine tU 70 ?_); refine mU ?_; clear M; intro g w1 M) | ((with_reducible refine tM rfl ?_); refine mB ?_; try (clear M; (first | intro g w1 M | intro w1 M); try simp only [setC] at M)) | ((with_reducible refine tGuard ?_); refine gdC ?_ ?_ <;> (intro hgd; rw [hgd]; try (exfalso; simp at hgd; omega)))) <;> (try conv => arg 5; simp only [apS, setC]))
   go_roundw
   case rel => exact ⟨k, done ++ [(x >>> (8 * UInt64.ofNat k)).toUInt8], by omega, by go_num, by rw [EX.out ()], by rw [← H'.out]; simp [bigB], M.tail⟩
   case measure => simp [intOf]
end Go.Proofs.YtidadhbaomieiaaGreat

namespace Go
namespace TL
open Go.RowKit
inductive PT where
 | nil
 | rd (i : Nat) (r : PT)
 | wr (i : Nat) (r : PT)
 | alt (i : Nat) (r s : PT)
def PT.flat : PT → Plan
 | .nil => []
 | .rd i r => (i, false) :: r.flat
 | .wr i r => (i, true) :: r.flat
 | .alt i r _ => (i, true) :: r.flat
def PT.heads : PT → List Nat
 | .wr i _ => [i]
 | .alt i _ s => i :: s.heads
 | _ => []
def planT (P : Program) (ops : Array Oper) (fin : Act → World → Prop) (I : World → Prop) (c : Nat) : PT → List Oper × (Act → World → Prop)
 | .nil => ([], fin)
 | .rd i r => (opAt ops i :: (planT P ops fin I c r).1, (planT P ops fin I c r).2)
 | .wr i r => ([opAt ops i], fun a w => (i ≠ c → I w) ∧ wpList P ops (Seg (planT P ops fin I c r).2) (planT P ops fin I c r).1 a w)
 | .alt i r s => ([], fun a w => wpList P ops (Seg fun a w => (i ≠ c → I w) ∧ wpList P ops (Seg (planT P ops fin I c r).2) (planT P ops fin I c r).1 a w) [opAt ops i] a w ∧
   wpList P ops (Seg (planT P ops fin I c s).2) (planT P ops fin I c s).1 a w)
def detT (P : Program) (ops : Array Oper) (need : Needs) (idx : List Nat) (c : Nat) : Bool → Array Bool → PT → Bool
 | chk, listed, .nil => chk && (Region.ready .any ops listed).isEmpty
 | chk, listed, .rd i r =>
  chk && ((Region.ready .any ops listed).contains i && Region.free .any ops listed i &&
   ((stays ops need (opAt ops i) ((i, false) :: r.flat) && pureOp P (needOf need (opAt ops i)) (opAt ops i)) || (idx.contains i && staysLow ops (opAt ops i) ((i, false) :: r.flat))) &&
   (waitsC ops c i && detT P ops need idx c true (listed.setIfInBounds i true) r))
 | chk, listed, .wr i r => (!chk || Region.ready .any ops listed == [i]) && ((i != c || r.flat.isEmpty) && detT P ops need idx c true (listed.setIfInBounds i true) r)
 | chk, listed, .alt i r s => (!chk || Region.ready .any ops listed == i :: s.heads) && (((i != c || r.flat.isEmpty) && detT P ops need idx c true (listed.setIfInBounds i true) r) && ((r.flat.length + 1 == s.flat.length) && detT P ops need idx c false listed s))
section
variable {P : Program} {ops : Array Oper} {I : World → Prop} {fin : Act → World → Prop} {c : Nat}
theorem Seg.alt {Q1 Q2 : Exit → Act → World → Prop} {l1 l2 : List Oper} {a : Act} {w : World} (h : wpList P ops Q1 l1 a w) (h' : wpList P ops Q2 l2 a w) : Seg (fun a w => wpList P ops Q1 l1 a w ∧ wpList P ops Q2 l2 a w) .normal a w := ⟨h, h'⟩
theorem endsT : ∀ (t : PT) (a : Act) (w : World), wpList P ops (Seg (planT P ops fin I c t).2) (planT P ops fin I c t).1 a w →
  ∃ af wf, fin af wf ∧ ∀ p, (∀ x ∈ t.flat, (opAt ops x.1).dst ≠ some p) → af.tmps.getD p undef = a.tmps.getD p undef
 | .nil, a, w, h => ⟨a, w, h, fun _ _ => rfl⟩
 | .rd i r, a, w, h => by
  obtain ⟨a', w', h1, h2⟩ := stepS h
  obtain ⟨af, wf, h3, h4⟩ := endsT r a' w' h1
  exact ⟨af, wf, h3, fun t ht => (h4 t fun x hx => ht x (List.mem_cons_of_mem _ hx)).trans (h2 t (ht (i, false) List.mem_cons_self))⟩
 | .wr i r, a, w, h => by
  obtain ⟨a', w', h1, h2⟩ := stepS h
  obtain ⟨af, wf, h3, h4⟩ := endsT r a' w' h1.2
  exact ⟨af, wf, h3, fun t ht => (h4 t fun x hx => ht x (List.mem_cons_of_mem _ hx)).trans (h2 t (ht (i, true) List.mem_cons_self))⟩
 | .alt i r s, a, w, h => by
  obtain ⟨a', w', h1, h2⟩ := stepS h.1
  obtain ⟨af, wf, h3, h4⟩ := endsT r a' w' h1.2
  exact ⟨af, wf, h3, fun t ht => (h4 t fun x hx => ht x (List.mem_cons_of_mem _ hx)).trans (h2 t (ht (i, true) List.mem_cons_self))⟩
theorem writeT {F G K : Act → World → Prop} {i : Nat} {listed : Array Bool} {a : Act} {w : World} (hr : i ∈ Region.ready .any ops listed) (h : wpList P ops (Seg G) [opAt ops i] a w) (cont : ∀ a' w', G a' w' → K a' w') : wpOp P ops (Seg F) i K a w := by
 obtain ⟨_, oi, hoi, _⟩ := mem_ready.1 hr
 have hat : opAt ops i = oi := by simp [opAt, hoi]
 rw [hat] at h
 unfold wpOp
 rw [hoi]
 unfold wpList at h
 dsimp only
 split
 ·rename_i hw
  rw [if_pos hw] at h
  rcases h with h | h
  ·exact .inl (Oper.wp_seg cont h)
  ·exact (Seg.letsOut h.2).elim
 ·rename_i hw
  rw [if_neg hw] at h
  exact cont _ _ h
theorem flat_nil {t : PT} (h : t.flat.isEmpty = true) : t = .nil := by cases t <;> simp [PT.flat] at h ⊢
theorem mainT {need : Needs} {low : List (Nat × Value)} {Q : Exit → Act → World → Prop} (hs : Region.noSelect ops = true) (hlow : ∀ x ∈ low, Stab P I (opAt ops x.1) x.2) : ∀ t : PT,
  (∀ (listed : Array Bool) (a : Act) (w : World), detT P ops need (low.map (·.1)) c true listed t = true → I w →
   wpList P ops (Seg (planT P ops (finI ops need low Q) I c t).2) (planT P ops (finI ops need low Q) I c t).1 a w →
   wpAnyC P .any ops (Seg (finI ops need low Q)) I c t.flat.length listed a w) ∧
  (∀ (listed : Array Bool) (a : Act) (w : World) (m : Nat), t.flat.length = m + 1 → detT P ops need (low.map (·.1)) c false listed t = true → I w →
   wpList P ops (Seg (planT P ops (finI ops need low Q) I c t).2) (planT P ops (finI ops need low Q) I c t).1 a w →
   ∀ j ∈ t.heads, j ∈ Region.ready .any ops listed → wpOp P ops (Seg (finI ops need low Q)) j (fun a' w' => (j ≠ c → I w') ∧ wpAnyC P .any ops (Seg (finI ops need low Q)) I c m (listed.setIfInBounds j true) a' w') a w) := by
 intro t
 induction t with
 | nil =>
  refine ⟨fun listed a w hd _ h => ?_, fun _ _ _ _ _ _ _ _ j hj => by simp [PT.heads] at hj⟩
  have : Region.ready .any ops listed = [] := by simpa [detT] using hd
  exact ⟨this, h⟩
 | rd i r ih =>
  refine ⟨fun listed a w hd hIw h => ?_, fun _ _ _ _ _ _ _ _ j hj => by simp [PT.heads] at hj⟩
  simp only [detT, Bool.true_and, Bool.and_eq_true] at hd
  obtain ⟨⟨⟨hr, hf⟩, hk⟩, hwt, hrest⟩ := hd
  have hwait := qFD hwt
  have hr' : i ∈ Region.ready .any ops listed := by simpa using hr
  obtain ⟨_, oi, hoi, _⟩ := mem_ready.1 hr'
  have hat : opAt ops i = oi := by simp [opAt, hoi]
  have hends := endsT (.rd i r) a w h
  have h' : wpList P ops (Seg (planT P ops (finI ops need low Q) I c r).2) (oi :: (planT P ops (finI ops need low Q) I c r).1) a w := by
   rw [← hat]; exact h
  have hQ : ∀ v c a w, Seg (finI ops need low Q) (.panic c) (a.put oi.dst v) w → Seg (finI ops need low Q) (.panic c) a w := fun _ _ _ _ h => h.elim
  have hsel := fun j o cs b ho => Region.noSelect_spec hs j o cs b ho
  have key : ∀ (s : Sem Value), execOp a.eval oi = (do Pure.pure (Next.value (← s))) → (∀ v w1, s.run P w = .ok v w1 → w1 = w ∧ ∀ w', I w' → s.run P w' = .ok v w') →
    wpAnyC P .any ops (Seg (finI ops need low Q)) I c (r.flat.length + 1) listed a w := fun s hex hl => by
   cases hw : Region.wanted oi (yielded ops a.tmps) with
   | true =>
    unfold wpList at h'
    rw [if_pos hw] at h'
    rcases h' with h' | h'
    ·unfold Oper.wp at h'
     rw [hex, Sem.run_bind] at h'
     cases hrun : s.run P w with
     | ok v w1 =>
      obtain ⟨rfl, hall⟩ := hl _ _ hrun
      rw [hrun] at h'
      have hy : YieldsIf P ops I oi v a := .inl ⟨hw, fun w' hw' => by rw [hex, Sem.run_bind, hall w' hw']; rfl⟩
      exact C_first hoi hsel (hQ v) hwait r.flat.length listed a w1 (Region.free_spec hoi hf) hr' hy hIw (ih.1 _ _ w1 hrest hIw h')
     | halt x w1 =>
      rw [hrun] at h'
      cases x <;> exact h'.elim
    ·exact (Seg.letsOut h'.2).elim
   | false =>
    unfold wpList at h'
    rw [if_neg (by rw [hw]; decide)] at h'
    exact C_first hoi hsel (hQ undef) hwait r.flat.length listed a w (Region.free_spec hoi hf) hr' (.inr ⟨hw, rfl⟩) hIw (ih.1 _ _ w hrest hIw h')
  obtain ⟨af, wf, ⟨hneed, hlowf, _⟩, hsame⟩ := hends
  rcases (Bool.or_eq_true _ _).mp hk with hp | hp
  ·obtain ⟨hst, hp⟩ := (Bool.and_eq_true _ _).mp hp
   have hne : needOk (needOf need (opAt ops i)) a = true := by
    unfold needOk at hneed ⊢
    rw [List.all_eq_true] at hneed ⊢
    intro p hpm
    have hp0 := hpm
    simp only [needOf, List.mem_filter] at hpm
    have h3 := hneed p hpm.1
    rw [hsame p.1 (fun x hx hd => by
     have h5 := List.all_eq_true.1 hst x hx
     simp only [hd] at h5
     have h6 := List.all_eq_true.1 h5 p hp0
     simp at h6)] at h3
    exact h3
   rw [hat] at hp hne
   obtain ⟨s, hex, hloc⟩ := qBm hp hne
   exact key s hex fun v w1 hrun => ⟨(hloc _ _ _ hrun).1, fun w' _ => (hloc _ _ _ hrun).2 w'⟩
  ·obtain ⟨hix, hst⟩ := (Bool.and_eq_true _ _).mp hp
   simp only [List.contains_iff_mem, List.mem_map] at hix
   obtain ⟨⟨i', p⟩, hxm, hxi⟩ := hix
   have hxi' : i' = i := hxi
   subst hxi'
   have hev : a.eval (lowOpnd oi) = p := by
    have e := hlowf _ hxm
    simp only [hat] at e
    rw [← e]
    refine (qFt fun t ht => ?_).symm
    refine hsame t fun x hx hd => ?_
    have h5 := List.all_eq_true.1 hst x hx
    simp only [hd, hat] at h5
    have h6 := qEc oi ht
    simp [h6] at h5
   have hstab := hlow _ hxm
   simp only [hat] at hstab
   unfold Stab at hstab
   cases hop : oi.op <;> simp only [hop] at hstab
   case load t x =>
    have hev' : a.eval x = p := by simpa only [lowOpnd, hop] using hev
    obtain ⟨v, hv⟩ := hstab
    refine key (Instr.loadAt t p) (by simp only [execOp, hop, hev']) fun u w1 hrun => ?_
    rw [hv w hIw] at hrun
    cases hrun
    exact ⟨rfl, hv⟩
   case convert src d x =>
    have hev' : a.eval x = p := by simpa only [lowOpnd, hop] using hev
    obtain ⟨v, hv⟩ := hstab
    refine key (Go.convert src d p) (by simp only [execOp, hop, hev']) fun u w1 hrun => ?_
    rw [hv w hIw] at hrun
    cases hrun
    exact ⟨rfl, hv⟩
 | wr i r ih =>
  have B : ∀ (listed : Array Bool) (a : Act) (w : World), ((i != c || r.flat.isEmpty) && detT P ops need (low.map (·.1)) c true (listed.setIfInBounds i true) r) = true →
    wpList P ops (Seg (planT P ops (finI ops need low Q) I c (.wr i r)).2) (planT P ops (finI ops need low Q) I c (.wr i r)).1 a w → i ∈ Region.ready .any ops listed →
    wpOp P ops (Seg (finI ops need low Q)) i (fun a' w' => (i ≠ c → I w') ∧ wpAnyC P .any ops (Seg (finI ops need low Q)) I c r.flat.length (listed.setIfInBounds i true) a' w') a w := fun listed a w hd h hr => by
   simp only [Bool.and_eq_true] at hd
   refine writeT hr h fun a' w' ⟨h2, h3⟩ => ⟨h2, ?_⟩
   by_cases e : i = c
   ·have hre := hd.1
    simp only [e, bne_self_eq_false, Bool.false_or] at hre
    have hn := flat_nil hre
    subst hn
    have : Region.ready .any ops (listed.setIfInBounds i true) = [] := by simpa [detT] using hd.2
    exact ⟨this, h3⟩
   ·exact ih.1 _ a' w' hd.2 (h2 e) h3
  refine ⟨fun listed a w hd hIw h => ?_, fun listed a w m hm hd hIw h j hj hr => ?_⟩
  ·unfold detT at hd
   rw [Bool.not_true, Bool.false_or, Bool.and_eq_true] at hd
   have hr : Region.ready .any ops listed = [i] := by simpa using hd.1
   refine ⟨fun h0 => (by rw [hr] at h0; cases h0), fun j hj => ?_⟩
   have hj' := hj
   rw [hr] at hj'
   obtain rfl : j = i := by simpa using hj'
   exact B listed a w hd.2 h hj
  ·unfold detT at hd
   rw [Bool.not_false, Bool.true_or, Bool.true_and] at hd
   obtain rfl : j = i := by simpa [PT.heads] using hj
   obtain rfl : m = r.flat.length := by simp [PT.flat] at hm; omega
   exact B listed a w hd h hr
 | alt i r s ihr ihs =>
  have B : ∀ (listed : Array Bool) (a : Act) (w : World), (((i != c || r.flat.isEmpty) && detT P ops need (low.map (·.1)) c true (listed.setIfInBounds i true) r) && ((r.flat.length + 1 == s.flat.length) && detT P ops need (low.map (·.1)) c false listed s)) = true → I w →
    wpList P ops (Seg (planT P ops (finI ops need low Q) I c (.alt i r s)).2) (planT P ops (finI ops need low Q) I c (.alt i r s)).1 a w → ∀ j ∈ i :: s.heads, j ∈ Region.ready .any ops listed →
    wpOp P ops (Seg (finI ops need low Q)) j (fun a' w' => (j ≠ c → I w') ∧ wpAnyC P .any ops (Seg (finI ops need low Q)) I c r.flat.length (listed.setIfInBounds j true) a' w') a w := fun listed a w hd hIw h j hj hr => by
   rw [Bool.and_eq_true, Bool.and_eq_true, Bool.and_eq_true] at hd
   obtain ⟨⟨hd1, hd2⟩, hd3, hd4⟩ := hd
   rcases List.mem_cons.1 hj with rfl | hj
   ·refine writeT hr h.1 fun a' w' ⟨h2, h3⟩ => ⟨h2, ?_⟩
    by_cases e : j = c
    ·simp only [e, bne_self_eq_false, Bool.false_or] at hd1
     have hn := flat_nil hd1
     subst hn
     have : Region.ready .any ops (listed.setIfInBounds j true) = [] := by simpa [detT] using hd2
     exact ⟨this, h3⟩
    ·exact ihr.1 _ a' w' hd2 (h2 e) h3
   ·exact ihs.2 listed a w r.flat.length (by have := beq_iff_eq.1 hd3; omega) hd4 hIw h.2 j hj hr
  refine ⟨fun listed a w hd hIw h => ?_, fun listed a w m hm hd hIw h j hj hr => ?_⟩
  ·unfold detT at hd
   rw [Bool.not_true, Bool.false_or, Bool.and_eq_true] at hd
   have hr : Region.ready .any ops listed = i :: s.heads := by simpa using hd.1
   refine ⟨fun h0 => (by rw [hr] at h0; cases h0), fun j hj => ?_⟩
   have hj' := hj
   rw [hr] at hj'
   exact B listed a w hd.2 hIw h j hj' hj
  ·unfold detT at hd
   rw [Bool.not_false, Bool.true_or, Bool.true_and] at hd
   obtain rfl : m = r.flat.length := by simp [PT.flat] at hm; omega
   exact B listed a w hd hIw h j hj hr
theorem qDf {Q : Exit → Act → World → Prop} {id : Nat} {l : List Oper} {a : Act} {w : World} (t : PT) (need : Needs) (low : List (Nat × Value)) (I : World → Prop) (c : Nat) (hm : P.follows .mixedOrders = true)
  (hs : Region.noSelect l.toArray = true) (hn : t.flat.length = l.length) (hd : detT P l.toArray need (low.map (·.1)) c true (Array.replicate l.length false) t = true)
  (hlow : ∀ x ∈ low, Stab P I (opAt l.toArray x.1) x.2) (hI : I w.drew)
  (h : wpList P l.toArray (Seg (planT P l.toArray (finI l.toArray need low Q) I c t).2) (planT P l.toArray (finI l.toArray need low Q) I c t).1 a w.drew) : (Code.region id l.toArray true).wp P Q a w := by
 refine Code.wp_mono (Q := Seg (finI l.toArray need low Q)) (fun e a w h => ?_) ?_
 ·cases e <;> first | exact h.2.2 | exact h.elim
 ·refine wp_region_any hm (qES (I := I) (c := c) _ _ _ _ (?_ : wpAnyC P .any l.toArray (Seg (finI l.toArray need low Q)) I c l.toArray.size (Array.replicate l.toArray.size false) a w.drew))
  have := (mainT (Q := Q) (c := c) hs hlow t).1 (Array.replicate l.length false) a w.drew hd hI h
  rw [hn] at this
  exact this
end
end TL
end Go

namespace Go
namespace TL
theorem byte128' (m : Nat) : 128 + (w64 ((m : Int) % 128)).toUInt8 = UInt8.ofNat (m % 128 + 128) := by
 rw [show ((m : Int) % 128) = ((m % 128 : Nat) : Int) by omega, qBM]
 apply UInt8.toNat_inj.1
 simp
 omega
end TL
end Go
namespace Go.Proofs.YtidadhbaomieiaaGreat
open Go.RowKit Go.TL
theorem qFx (n : Nat) (a : Int) (ha : a = (n : Int)) (w : World) (h : n < 18446744073709551616) :
  Calls Tryz.prog 107 #[.int .u64 a] w fun e w' => e = .returned (.string (mkS (numL n))) ∧ Below w.heap.size w w' := by
 subst ha
 have M := Mem.start [] w
 have hn10 := qAG n h
 go_enter Tryz.func107, Tryz.ntmps107
 go_wp2_with fail
 (try conv => arg 4; dsimp only [mkS_fold])
 go_loopw [0, 3] (fun nv sv wr => ∃ (m : Nat) (d : List UInt8), m < 18446744073709551616 ∧ nv = .int .u64 m ∧ sv = .string (mkS d) ∧ Hid (d ++ numL m = numL n) ∧ Mem [] w wr []) (fun nv _ _ => (intOf nv).toNat)
 case atStart => exact ⟨n, [], h, rfl, rfl, Lib.hid rfl, M⟩
 case round =>
  clear M
  obtain ⟨m, d, hm, rfl, rfl, HD, M⟩ := hrel
  have hdl : d.length ≤ 10 := by have := congrArg List.length HD.out; simp at this; omega
  by_cases h128 : m < 128
  ·have h127 : (m : Int) ≤ 127 := by omega
   go_wp2_with ((first | ((with_reducible refine tU 70 ?_); refine mU ?_; clear M; intro g w1 M) | ((with_reducible refine tM rfl ?_); refine mB ?_; try (clear M; (first | intro g w1 M | intro w1 M); try simp only [setC] at M)) | ((with_reducible refine tGuard ?_); refine gdC ?_ ?_ <;> (intro hgd; rw [hgd]; try (exfalso; simp at hgd; omega)))) <;> (try conv => arg 5; simp only [apS, setC]))
   go_ret
   refine ⟨?_, M.below⟩
   have e := HD.out
   rw [qBE h128] at e
   rw [← e, ← qEj]; rfl
  ·have h127 : (127 : Int) < m := by omega
   go_wp2_with ((first | ((with_reducible refine tU 70 ?_); refine mU ?_; clear M; intro g w1 M) | ((with_reducible refine tM rfl ?_); refine mB ?_; try (clear M; (first | intro g w1 M | intro w1 M); try simp only [setC] at M)) | ((with_reducible refine tGuard ?_); refine gdC ?_ ?_ <;> (intro hgd; rw [hgd]; try (exfalso; simp at hgd; omega)))) <;> (try conv => arg 5; simp only [apS, setC]))
   go_roundw
   case rel => exact ⟨m / 128, d ++ [UInt8.ofNat (m % 128 + 128)], by omega, by rw [show ((m : Int) / 128) = ((m / 128 : Nat) : Int) by omega, qBG _ yF], by rw [byte128'], Lib.hid (by rw [← HD.out, qBY (n := m) yF]; simp), M.tail⟩
   case measure =>
    rw [show ((m : Int) / 128) = ((m / 128 : Nat) : Int) by omega, qBG _ yF]
    simp only [intOf]; omega
theorem Text01_c (t : List UInt8) (w : World) (ht : t.length ≤ 1000000000) :
  Calls Tryz.prog 72 #[.string (mkS t)] w fun e w' => e = .returned (.string (mkS (textL t))) ∧ Below w.heap.size w w' := by
 have M := Mem.start [] w
 have hn := qAG t.length yF
 go_enter Tryz.func72, Tryz.ntmps72
 go_wp2_with ((go_at_call 107; (refine (qFx t.length _ (qBG _ yF) _ yF).mono ?_; rintro e w1 ⟨rfl, hb⟩; replace M := M.call hb; clear hb)))
 go_ret
 exact ⟨rfl, M.below⟩
end Go.Proofs.YtidadhbaomieiaaGreat
