/- Texts of this seat, put together: MsgA0, MsgG0, LinkL, LinkB, LinkC, LinkD, Own, Ref18O, Ref01B, Ref18N, BatO, InN. Each begins with a remark that says what is proved in it, and under which conditions. -/
import Derived.Test.YtidadhbaomieiaaGreatY
import Derived.Test.YtidadhbaomieiaaGreatZd
import Derived.Test.YtidadhbaomieiaaGreatZe
import Derived.Test.YtidadhbaomieiaaGreatZf
import Derived.Test.YtidadhbaomieiaaGreatZl
import Derived.Test.YtidadhbaomieiaaGreatZo
import Derived.Test.YtidadhbaomieiaaGreatZq
set_option maxRecDepth 100000
set_option maxHeartbeats 16000000
namespace Go
namespace TL
open Go.RowKit
end TL
end Go
namespace Go.Proofs.YtidadhbaomieiaaGreat
open Go.RowKit Go.TL
end Go.Proofs.YtidadhbaomieiaaGreat

namespace Go
namespace TL
end TL
end Go

namespace Go
namespace TL
theorem qDd {l : List UInt8} {k : Nat} (h : l.length ≤ k) (hk : k ≤ 100000) : (textL l).length ≤ k + 10 := by
 unfold textL
 have := qAG l.length yF
 rw [List.length_append]; omega
theorem prB_short : ∀ {l : List (List UInt8 × List UInt8)}, l.all okP = true → (l.flatMap prBm).length ≤ l.length * 85
 | [], _ => by simp
 | x :: l, h => by
  rw [List.all_cons, Bool.and_eq_true] at h
  have h1 := prB_short h.2
  have h2 : x.1.length ≤ 33 ∧ x.2.length ≤ 32 := by have := h.1; unfold okP at this; simpa using this
  have a1 := qDd h2.1 yF
  have a2 := qDd h2.2 yF
  simp only [List.flatMap_cons, List.length_append, List.length_cons, prBm]; omega
def Fld.cap : Fld → Nat
 | .num _ => 10
 | .hash _ => 32
 | .bat => 522
 | .prs => 4090
theorem put_short {L : Lm} (hL : L.fit) (hr : L.rng) (f : Fld) (h : f.ok L = true) : (f.put L).length ≤ f.cap := by
 cases f with
 | num q =>
  have := hr.num q
  have hx : (q.gl L).toNat < 18446744073709551616 := by omega
  have := qAG _ hx
  show (numL (q.gl L).toNat).length ≤ 10
  omega
 | hash q =>
  have := q.gl_len hL
  show (q.gl L).length ≤ 32
  omega
 | bat =>
  simp only [Fld.ok, Bool.and_eq_true, decide_eq_true_eq] at h
  have := qDd h.2 yF
  show (textL _).length ≤ 522
  omega
 | prs =>
  simp only [Fld.ok, Bool.and_eq_true, decide_eq_true_eq] at h
  have h1 := prB_short h.2
  have h2 := qAG L.prs.length yF
  have h3 := h.1
  show (numL L.prs.length ++ L.prs.flatMap prBm).length ≤ 4090
  rw [List.length_append]; omega
theorem qGO {L : Lm} (hL : L.fit) (hr : L.rng) : ∀ l : List Fld, (∀ f ∈ l, f.ok L = true) → (l.flatMap (fun f => f.put L)).length ≤ (l.map Fld.cap).sum
 | [], _ => by simp
 | f :: l, h => by
  have h1 := put_short hL hr f (h f yB1)
  have h2 := qGO hL hr l fun g hg => h g (by simp [hg])
  simp only [List.flatMap_cons, List.length_append, List.map_cons, List.sum_cons]; omega
theorem qEp {L : Lm} (hL : L.fit) (hr : L.rng) (hk : isK L.k = true) (ho : okL L = true) : (bytesL L).length ≤ 8192 := by
 have h := qGO hL hr (fdsL L.k) (okL_of ho)
 have hs : ((fdsL L.k).map Fld.cap).sum ≤ 8000 := by
  rcases kinds hk with e | e | e | e | e | e | e <;> (rw [e]; decide)
 unfold bytesL
 rw [List.length_cons]; omega
end TL
end Go

namespace Go
namespace TL
open Go.RowKit
end TL
end Go
namespace Go.Proofs.YtidadhbaomieiaaGreat
open Go.RowKit Go.TL
section
variable {g : Nat} {K : LinkS} {c : Chunk} {w : World}
theorem Send_ok (L : Lm) (ov pv : Value) (a b : UInt8) (h : c.ok w) (I : IsLink g K c) (he : EndOf K.me K.o a b) (hm : K.out.m.length ≤ 1000000) (hc : K.out.c ≤ 1048576) (hn : K.out.n.toNat < 9223372036854775808) (hL : L.fit) (hr : L.rng) (S : SeesL w 3 opV ov L.ops) (T : SeesL w 2 prV pv L.prs) (nS : 0 < L.ops.length → ∀ k, ov.ownBlock = some k → k ∉ c.fp) (nT : 0 < L.prs.length → ∀ k, pv.ownBlock = some k → k ∉ c.fp) (hk : isK L.k = true) (ho : okL L = true) (hb : bytesM L = (bytesL L, 0)) :
  Calls Tryz.prog 24 #[.pointer (some ⟨g, 0, none⟩), .agg (msgC (L.ms ov pv)).toArray] w fun r w' => r = .returned (.tuple #[.agg #[.int .i64 K.me, .int .i64 K.o, .string (mkS (envB (K.out.env (aboutK a b) (bytesL L))))], .int .i64 0]) ∧ ∃ c', IsLink g { K with out := { K.out with n := K.out.n + 1 } } c' ∧ Upd w c w' c' := by
 have hsh := qEp hL hr hk ho
 obtain ⟨go, gi, Co, Ci, JO, II, rfl⟩ := I
 have ia : I8 a = K.me ∧ I8 b = K.o := by rcases he with ⟨h1, h2, rfl, rfl⟩ | ⟨h1, h2, rfl, rfl⟩ <;> (rw [h1, h2]; decide)
 have AC := fun w => about_c a b w
 rw [ia.1, ia.2] at AC
 have M : Mem (grp [.row g (linkRow K.me K.o go gi), Co, Ci]).fp w w [.row g (linkRow K.me K.o go gi), Co, Ci] := Mem.startG h
 have N0 : ∀ w' Co' x y, IsRing go { K.out with n := K.out.n + 1 } Co' → Mem (grp [.row g (linkRow K.me K.o go gi), Co, Ci]).fp w w' [x, y, .row g (linkRow K.me K.o go gi), Co', Ci] → ∃ c', IsLink g { K with out := { K.out with n := K.out.n + 1 } } c' ∧ Upd w (grp [.row g (linkRow K.me K.o go gi), Co, Ci]) w' c' := fun w' Co' x y JO' M => ⟨_, ⟨go, gi, Co', Ci, JO', II, rfl⟩, M.tail.tail.updG [] rfl⟩
 obtain ⟨F, eF⟩ : ∃ F, F = (grp [.row g (linkRow K.me K.o go gi), Co, Ci]).fp := ⟨_, rfl⟩
 rw [← eF] at M N0 nS nT
 have hmf : (L.ms ov pv).fit := by
  obtain ⟨op, oc, rfl, _⟩ := S.form
  obtain ⟨pp, pc, rfl, _⟩ := T.form
  exact Lm.ms_fit hL rfl rfl
 have BC := fun w S T => Bytes_c L ov pv w hL hr S T
 rw [hb] at BC
 have WC := fun (w : World) (h : Co.ok w) => Wrap_ok (aboutK a b) (bytesL L) h JO hm hc hn hsh (by rw [qBf]; omega)
 obtain ⟨B, eB⟩ : ∃ B, B = envB (K.out.env (aboutK a b) (bytesL L)) := ⟨_, rfl⟩
 rw [← eB] at WC ⊢
 obtain ⟨t, et⟩ : ∃ t, t = bytesL L := ⟨_, rfl⟩
 rw [← et] at WC BC
 obtain ⟨ab, eab⟩ : ∃ x, x = aboutK a b := ⟨_, rfl⟩
 rw [← eab] at WC AC
 simp only [show ((0 : Nat) : Int) = 0 from rfl] at BC
 replace BC := Lib.hid BC
 replace WC := Lib.hid WC
 replace AC := Lib.hid AC
 replace N0 := Lib.hid N0
 clear eF eB et eab ia hb hk ho hn hc hsh he h
 go_enter Tryz.func24, Tryz.ntmps24
 go_wp2_with ((first | ((with_reducible refine tBox (some 3) ?_); refine w_box M _ _ rfl rfl _ rfl (msgC (L.ms ov pv)) rfl ?_; clear M; intro gm w1 M) | ((with_reducible refine tAlloc (some 4) 58 ?_); refine wal M _ rfl rfl ([.int .i64 0, .int .i64 0, .string (mkS [])]) yD ?_; clear M; intro gp w1 M) | (go_at_call 50; (refine (qCF (M.ok 2 _ at2)).mono ?_; rintro e w1 ⟨rfl, rfl⟩)) | ((with_reducible show Code.wp _ (Code.region 6 _ _) _ _ _); (have MR := M; refine qAB [(0, false), (1, false), (2, false), (4, false), (5, false), (6, false), (8, false), (9, false), (10, false), (13, false), (3, false), (7, false), (11, false), (12, true), (14, true), (15, false), (16, false), (17, false), (18, false), (19, false)] [(22, .ptr), (26, .ptr), (30, .ptr)] [(3, _), (7, _), (11, _)] (IxOk MR [2]) 20 yD yD rfl yD (lowA MR 2 2 (lowA MR 2 0 (lowA MR 2 1 qAN))) (qAJ MR _) ?_; replace M := M.drew; simp only [planC, opAt, gE])) | ((with_reducible show Code.wp _ (Code.region 9 _ _) _ _ _); (have MR := M; refine qAB [(0, false), (1, false), (2, false), (4, false), (5, false), (6, false), (8, false), (3, false), (7, false), (9, true), (10, true), (11, false)] [(43, .ptr), (47, .ptr)] [(3, _), (7, _)] (IxOk MR [2]) 12 yD yD rfl yD (lowA MR 2 0 (lowA MR 2 1 qAN)) (qAJ MR _) ?_; replace M := M.drew; simp only [planC, opAt, gE])) | ((with_reducible show wpList _ _ _ (Oper.mk _ (Op.load 67 _) _ _ _ _ :: _) _ _); refine w_at _ _ rfl yI ?_; intro hx; refine qAQ M 1 _ _ rfl rfl hx rfl yB yD hmf ?_; clear hx) | (go_at_call 51; (refine (BC.out _ (S.kept0 M.kept nS) (T.kept0 M.kept nT)).mono ?_; rintro e w1 ⟨rfl, hb⟩; replace M := M.call hb; clear hb)) | (go_at_call 52; (refine (AC.out _).mono ?_; rintro e w1 ⟨rfl, hb⟩; replace M := M.call hb; clear hb)) | (go_at_call 14; (refine (WC.out _ (M.ok 3 _ at3)).mono ?_; rintro e w1 ⟨rfl, Co1, IO1, U⟩; replace M := M.upd 3 at3 U; clear U; simp only [setC] at M)) | ((with_reducible refine tM rfl ?_); refine mS ?_; try (clear M; (first | intro g w1 M | intro w1 M); try simp only [setC] at M)) | ((with_reducible first | show Seg _ _ _ _ | show OnlyN _ _ _ _ _); refine rA ?_)) <;> (try conv => arg 5; simp only [apS, setC]))
 exact bodyPost_ret (qAl rfl _ _ gp 0 [.int .i64 K.me, .int .i64 K.o, .string (mkS B)] _ (.int .i64 0) rfl rfl (M.ok 0 _ at0).2.1 Tryz.underlying58 rfl yD) rfl ⟨rfl, N0.out _ _ _ _ IO1 M⟩
end
end Go.Proofs.YtidadhbaomieiaaGreat

namespace Go.Proofs.YtidadhbaomieiaaGreat
open Go.RowKit Go.TL
theorem link_out {F : List Nat} {w0 w : World} {a b x y r p q : Chunk} (M : Mem F w0 w [a, b, x, y, r, p, q]) : Mem F w0 w [a, b, grp [r, p, q]] := by
 have M1 : Mem F w0 w [r, p, q, a, b] := M.sel [4, 5, 6, 0, 1] _ yN rfl
 exact (M1.shut [r, p, q] [a, b] rfl).sel [1, 2, 0] _ yN rfl
section
variable {g : Nat} {K : LinkS} {c : Chunk} {w : World}
theorem Come_arg (fr to : Int) (data : List UInt8) (h : c.ok w) (I : IsLink g K c) (hne : to ≠ K.me ∨ fr ≠ K.o) :
  Calls Tryz.prog 25 #[.pointer (some ⟨g, 0, none⟩), .agg #[.int .i64 fr, .int .i64 to, .string (mkS data)]] w fun e w' => e = .returned (.tuple #[.agg (msgC zeroM).toArray, .int .i64 1]) ∧ Below w.heap.size w w' := by
 obtain ⟨go, gi, Co, Ci, JO, II, rfl⟩ := I
 obtain ⟨me, o, out, inn⟩ := K
 simp only at hne
 have RR : (Chunk.row g (linkRow me o go gi)).ok w := h.2.1.1 0 _ rfl
 have M := Mem.start [] w
 have nR : g ∉ ([] : List Nat) := by simp
 clear h JO II
 have hcs : (¬ to = me) ∨ (to = me ∧ ¬ fr = o) := by
  by_cases e : to = me
  ·exact .inr ⟨e, fun e2 => by rcases hne with h | h <;> exact h yN1⟩
  ·exact .inl e
 clear hne
 rcases hcs with h1 | ⟨rfl, h2⟩
 ·have h1' : (to == me) = false := by simpa using h1
  go_enter Tryz.func25, Tryz.ntmps25
  go_wp2_with ((first | ((with_reducible refine tGuard ?_); first | ((with_reducible refine qAC ?_ ?_); exact dcd) | ((with_reducible refine qAH ?_ ?_); exact dcd) | ((with_reducible refine qAI ?_ ?_); exact dcd)) | ((with_reducible refine tBox (some 3) ?_); refine w_box M _ _ rfl rfl _ rfl ([.int .i64 fr, .int .i64 to, .string (mkS data)]) rfl ?_; clear M; intro gp w1 M) | ((with_reducible refine tAlloc (some 4) 67 ?_); refine wal M _ rfl rfl (msgC zeroM) yD ?_; clear M; intro gm w1 M) | ((with_reducible show Code.wp _ (Code.region 3 _ _) _ _ _); (refine qAF [(0, false), (2, false), (3, false), (4, false), (1, false), (5, false), (6, false), (7, false), (8, false), (10, false), (11, false), (12, false), (9, false), (13, false), (14, false), (15, false), (16, false)] [(15, .ptr), (14, .int), (18, .int), (23, .ptr), (22, .int), (26, .int)] yD yD rfl yD ?_; replace M := M.drew; simp only [reord, opAt, List.map_cons, List.map_nil, gE])) | (go_at_call 50; (refine (qCF (M.staysF RR yB1)).mono ?_; rintro e w1 ⟨rfl, rfl⟩)) | ((with_reducible show wpList _ _ _ (Oper.mk _ (Op.store 67 _ _) _ _ _ _ :: _) _ _); refine w_at2 _ _ _ rfl yI yE ?_; intro hx hy; refine qAD (m := zeroM) M 0 _ _ _ rfl rfl hx rfl hy rfl yD qAA qAA ?_; clear hx hy M; intro w1 M; (try simp only [setC] at M)) | ((with_reducible refine tLoad ?_); refine w_at _ _ rfl yI ?_; intro hx; (first | refine qBk M RR nR _ _ rfl hx rfl yB (by exact rfl) ?_); clear hx) | ((with_reducible refine tM rfl ?_); refine mS ?_; try (clear M; (first | intro g w1 M | intro w1 M); try simp only [setC] at M)) | ((with_reducible first | show Seg _ _ _ _ | show OnlyN _ _ _ _ _); refine rA ?_) | ((with_reducible refine tGuard ?_); refine gdC ?_ ?_ <;> (intro hgd; rw [hgd]; try (exfalso; simp at hgd; omega)))) <;> (try conv => arg 5; simp only [apS, setC]))
  exact bodyPost_ret (qAl rfl _ _ gm 0 (msgC zeroM) _ (.int .i64 1) rfl rfl (M.ok 0 _ at0).2.1 Tryz.underlying67 rfl yT) rfl ⟨rfl, M.below⟩
 ·have h2' : (fr == o) = false := by simpa using h2
  go_enter Tryz.func25, Tryz.ntmps25
  go_wp2_with ((first | ((with_reducible refine tGuard ?_); first | ((with_reducible refine qAC ?_ ?_); exact dcd) | ((with_reducible refine qAH ?_ ?_); exact dcd) | ((with_reducible refine qAI ?_ ?_); exact dcd)) | ((with_reducible refine tBox (some 3) ?_); refine w_box M _ _ rfl rfl _ rfl ([.int .i64 fr, .int .i64 to, .string (mkS data)]) rfl ?_; clear M; intro gp w1 M) | ((with_reducible refine tAlloc (some 4) 67 ?_); refine wal M _ rfl rfl (msgC zeroM) yD ?_; clear M; intro gm w1 M) | ((with_reducible show Code.wp _ (Code.region 3 _ _) _ _ _); (refine qAF [(0, false), (2, false), (3, false), (4, false), (1, false), (5, false), (6, false), (7, false), (8, false), (10, false), (11, false), (12, false), (9, false), (13, false), (14, false), (15, false), (16, false)] [(15, .ptr), (14, .int), (18, .int), (23, .ptr), (22, .int), (26, .int)] yD yD rfl yD ?_; replace M := M.drew; simp only [reord, opAt, List.map_cons, List.map_nil, gE])) | (go_at_call 50; (refine (qCF (M.staysF RR yB1)).mono ?_; rintro e w1 ⟨rfl, rfl⟩)) | ((with_reducible show wpList _ _ _ (Oper.mk _ (Op.store 67 _ _) _ _ _ _ :: _) _ _); refine w_at2 _ _ _ rfl yI yE ?_; intro hx hy; refine qAD (m := zeroM) M 0 _ _ _ rfl rfl hx rfl hy rfl yD qAA qAA ?_; clear hx hy M; intro w1 M; (try simp only [setC] at M)) | ((with_reducible refine tLoad ?_); refine w_at _ _ rfl yI ?_; intro hx; (first | refine qBk M RR nR _ _ rfl hx rfl yB (by exact rfl) ?_); clear hx) | ((with_reducible refine tM rfl ?_); refine mS ?_; try (clear M; (first | intro g w1 M | intro w1 M); try simp only [setC] at M)) | ((with_reducible first | show Seg _ _ _ _ | show OnlyN _ _ _ _ _); refine rA ?_) | ((with_reducible refine tGuard ?_); refine gdC ?_ ?_ <;> (intro hgd; rw [hgd]; try (exfalso; simp at hgd; omega)))) <;> (try conv => arg 5; simp only [apS, setC]))
  exact bodyPost_ret (qAl rfl _ _ gm 0 (msgC zeroM) _ (.int .i64 1) rfl rfl (M.ok 0 _ at0).2.1 Tryz.underlying67 rfl yT) rfl ⟨rfl, M.below⟩
theorem Come_bad (data : List UInt8) (a b : UInt8) (h : c.ok w) (I : IsLink g K c) (he : EndOf K.me K.o a b) (hm : K.inn.m.length ≤ 1000000) (hd : data.length ≤ 1000000) (hz : (openL K.inn.m K.inn.c data (aboutK b a)).2 ≠ 0) :
  Calls Tryz.prog 25 #[.pointer (some ⟨g, 0, none⟩), .agg #[.int .i64 K.o, .int .i64 K.me, .string (mkS data)]] w fun e w' => e = .returned (.tuple #[.agg (msgC zeroM).toArray, .int .i64 (openL K.inn.m K.inn.c data (aboutK b a)).2]) ∧ ∃ c', IsLink g K c' ∧ Upd w c w' c' := by
 obtain ⟨go, gi, Co, Ci, JO, II, rfl⟩ := I
 obtain ⟨me, o, out, inn⟩ := K
 simp only at he hm hz JO II ⊢
 have ia : I8 a = me ∧ I8 b = o := by rcases he with ⟨h1, h2, rfl, rfl⟩ | ⟨h1, h2, rfl, rfl⟩ <;> (rw [h1, h2]; decide)
 have AC := fun w => about_c b a w
 rw [ia.1, ia.2] at AC
 have M : Mem (grp [.row g (linkRow me o go gi), Co, Ci]).fp w w [.row g (linkRow me o go gi), Co, Ci] := Mem.startG h
 have OC := fun (w : World) (h : Ci.ok w) => qGV data (aboutK b a) h II hm hd (by rw [qBf]; omega)
 have N0 : ∀ w' Ci' x y, IsRing gi inn Ci' → Mem (grp [.row g (linkRow me o go gi), Co, Ci]).fp w w' [x, y, .row g (linkRow me o go gi), Co, Ci'] → ∃ c', IsLink g ⟨me, o, out, inn⟩ c' ∧ Upd w (grp [.row g (linkRow me o go gi), Co, Ci]) w' c' := fun w' Ci' x y II' M => ⟨_, ⟨go, gi, Co, Ci', JO, II', rfl⟩, M.tail.tail.updG [] rfl⟩
 obtain ⟨F, eF⟩ : ∃ F, F = (grp [.row g (linkRow me o go gi), Co, Ci]).fp := ⟨_, rfl⟩
 rw [← eF] at M N0
 obtain ⟨⟨t, e⟩, eo⟩ : ∃ x, x = openL inn.m inn.c data (aboutK b a) := ⟨_, rfl⟩
 rw [← eo] at OC hz ⊢
 simp only at OC hz ⊢
 obtain ⟨ab, eab⟩ : ∃ x, x = aboutK b a := ⟨_, rfl⟩
 rw [← eab] at OC AC
 have hz1 : ((e : Int) != 0) = true := by simp; exact hz
 have hz2 : ((e : Int) == 0) = false := by simp; exact hz
 replace OC := Lib.hid OC
 replace AC := Lib.hid AC
 replace N0 := Lib.hid N0
 clear eF eo eab ia hz he h
 go_enter Tryz.func25, Tryz.ntmps25
 go_wp2_with ((first | ((with_reducible refine tGuard ?_); first | ((with_reducible refine qAC ?_ ?_); exact dcd) | ((with_reducible refine qAH ?_ ?_); exact dcd) | ((with_reducible refine qAI ?_ ?_); exact dcd)) | ((with_reducible refine tBox (some 3) ?_); refine w_box M _ _ rfl rfl _ rfl ([.int .i64 o, .int .i64 me, .string (mkS data)]) rfl ?_; clear M; intro gp w1 M) | ((with_reducible refine tAlloc (some 4) 67 ?_); refine wal M _ rfl rfl (msgC zeroM) yD ?_; clear M; intro gm w1 M) | ((with_reducible show Code.wp _ (Code.region 3 _ _) _ _ _); (refine qAF [(0, false), (2, false), (3, false), (4, false), (1, false), (5, false), (6, false), (7, false), (8, false), (10, false), (11, false), (12, false), (9, false), (13, false), (14, false), (15, false), (16, false)] [(15, .ptr), (14, .int), (18, .int), (23, .ptr), (22, .int), (26, .int)] yD yD rfl yD ?_; replace M := M.drew; simp only [reord, opAt, List.map_cons, List.map_nil, gE])) | ((with_reducible show Code.wp _ (Code.region 5 _ _) _ _ _); (have MR := M; refine qAB [(0, false), (1, false), (2, false), (4, false), (6, false), (7, false), (8, false), (10, false), (11, false), (12, false), (3, false), (5, false), (9, false), (13, false), (14, true), (15, true), (16, false), (17, false), (18, false), (19, false), (20, false)] [(31, .ptr), (37, .ptr), (41, .ptr)] [(3, _), (5, _), (9, _), (13, _)] (IxOk MR [2, 1]) 21 yD yD rfl yD (lowA MR 2 3 (lowA MR 1 2 (lowA MR 2 1 (lowA MR 2 0 qAN)))) (qAJ MR _) ?_; replace M := M.drew; simp only [planC, opAt, gE])) | (go_at_call 50; (refine (qCF (M.ok 2 _ at2)).mono ?_; rintro e w1 ⟨rfl, rfl⟩)) | (go_at_call 52; (refine (AC.out _).mono ?_; rintro e w1 ⟨rfl, hb⟩; replace M := M.call hb; clear hb)) | (go_at_call 15; (refine (OC.out _ (M.ok 4 _ at4)).mono ?_; rintro e w1 ⟨rfl, Ci1, II1, U⟩; replace M := M.upd 4 at4 U; clear U; simp only [setC] at M)) | ((with_reducible show wpList _ _ _ (Oper.mk _ (Op.store 67 _ _) _ _ _ _ :: _) _ _); refine w_at2 _ _ _ rfl yI yE ?_; intro hx hy; refine qAD (m := zeroM) M 0 _ _ _ rfl rfl hx rfl hy rfl yD qAA qAA ?_; clear hx hy M; intro w1 M; (try simp only [setC] at M)) | ((with_reducible refine tM rfl ?_); refine mS ?_; try (clear M; (first | intro g w1 M | intro w1 M); try simp only [setC] at M)) | ((with_reducible first | show Seg _ _ _ _ | show OnlyN _ _ _ _ _); refine rA ?_) | ((with_reducible refine tGuard ?_); refine gdC ?_ ?_ <;> (intro hgd; rw [hgd]; try (exfalso; simp at hgd; omega)))) <;> (try conv => arg 5; simp only [apS, setC]))
 exact bodyPost_ret (qAl rfl _ _ gm 0 (msgC zeroM) _ (.int .i64 e) rfl rfl (M.ok 0 _ at0).2.1 Tryz.underlying67 rfl yT) rfl ⟨rfl, N0.out _ _ _ _ II1 M⟩
theorem Come_ok (data : List UInt8) (a b : UInt8) (h : c.ok w) (I : IsLink g K c) (he : EndOf K.me K.o a b) (hm : K.inn.m.length ≤ 1000000) (hd : data.length ≤ 1000000) (hz : (openL K.inn.m K.inn.c data (aboutK b a)).2 = 0) :
  Calls Tryz.prog 25 #[.pointer (some ⟨g, 0, none⟩), .agg #[.int .i64 K.o, .int .i64 K.me, .string (mkS data)]] w fun e w' => ∃ ov pv c', e = .returned (.tuple #[.agg (msgC ((readM (openL K.inn.m K.inn.c data (aboutK b a)).1).1.ms ov pv)).toArray, .int .i64 (readM (openL K.inn.m K.inn.c data (aboutK b a)).1).2]) ∧ IsLink g K c' ∧ Mem c.fp w w' [.sl 3 ov (readM (openL K.inn.m K.inn.c data (aboutK b a)).1).1.ops.length ((readM (openL K.inn.m K.inn.c data (aboutK b a)).1).1.ops.flatMap opV), .sl 2 pv (readM (openL K.inn.m K.inn.c data (aboutK b a)).1).1.prs.length ((readM (openL K.inn.m K.inn.c data (aboutK b a)).1).1.prs.flatMap prV), c'] := by
 obtain ⟨go, gi, Co, Ci, JO, II, rfl⟩ := I
 obtain ⟨me, o, out, inn⟩ := K
 simp only at he hm hz JO II ⊢
 have ia : I8 a = me ∧ I8 b = o := by rcases he with ⟨h1, h2, rfl, rfl⟩ | ⟨h1, h2, rfl, rfl⟩ <;> (rw [h1, h2]; decide)
 have AC := fun w => about_c b a w
 rw [ia.1, ia.2] at AC
 have M : Mem (grp [.row g (linkRow me o go gi), Co, Ci]).fp w w [.row g (linkRow me o go gi), Co, Ci] := Mem.startG h
 have OC := fun (w : World) (h : Ci.ok w) => qGV data (aboutK b a) h II hm hd (by rw [qBf]; omega)
 have hl := qFZ inn.m inn.c data (aboutK b a)
 obtain ⟨F, eF⟩ : ∃ F, F = (grp [.row g (linkRow me o go gi), Co, Ci]).fp := ⟨_, rfl⟩
 rw [← eF] at M ⊢
 obtain ⟨⟨t, e⟩, eo⟩ : ∃ x, x = openL inn.m inn.c data (aboutK b a) := ⟨_, rfl⟩
 rw [← eo] at OC hz hl ⊢
 simp only at OC hz hl ⊢
 rw [hz, show ((0 : Nat) : Int) = 0 from rfl] at OC
 have RC := fun w => Read_c t w yF
 have hrf := (qDK t yF).1
 obtain ⟨ab, eab⟩ : ∃ x, x = aboutK b a := ⟨_, rfl⟩
 rw [← eab] at OC AC
 unfold GivesM at RC
 obtain ⟨⟨R, re⟩, er⟩ : ∃ x, x = readM t := ⟨_, rfl⟩
 rw [← er] at RC hrf ⊢
 simp only at RC hrf ⊢
 replace OC := Lib.hid OC
 replace AC := Lib.hid AC
 replace RC := Lib.hid RC
 clear eF eo eab ia hz he h er
 go_enter Tryz.func25, Tryz.ntmps25
 go_wp2_with ((first | ((with_reducible refine tGuard ?_); first | ((with_reducible refine qAC ?_ ?_); exact dcd) | ((with_reducible refine qAH ?_ ?_); exact dcd) | ((with_reducible refine qAI ?_ ?_); exact dcd)) | ((with_reducible refine tBox (some 3) ?_); refine w_box M _ _ rfl rfl _ rfl ([.int .i64 o, .int .i64 me, .string (mkS data)]) rfl ?_; clear M; intro gp w1 M) | ((with_reducible refine tAlloc (some 4) 67 ?_); refine wal M _ rfl rfl (msgC zeroM) yD ?_; clear M; intro gm w1 M) | ((with_reducible show Code.wp _ (Code.region 3 _ _) _ _ _); (refine qAF [(0, false), (2, false), (3, false), (4, false), (1, false), (5, false), (6, false), (7, false), (8, false), (10, false), (11, false), (12, false), (9, false), (13, false), (14, false), (15, false), (16, false)] [(15, .ptr), (14, .int), (18, .int), (23, .ptr), (22, .int), (26, .int)] yD yD rfl yD ?_; replace M := M.drew; simp only [reord, opAt, List.map_cons, List.map_nil, gE])) | ((with_reducible show Code.wp _ (Code.region 5 _ _) _ _ _); (have MR := M; refine qAB [(0, false), (1, false), (2, false), (4, false), (6, false), (7, false), (8, false), (10, false), (11, false), (12, false), (3, false), (5, false), (9, false), (13, false), (14, true), (15, true), (16, false), (17, false), (18, false), (19, false), (20, false)] [(31, .ptr), (37, .ptr), (41, .ptr)] [(3, _), (5, _), (9, _), (13, _)] (IxOk MR [2, 1]) 21 yD yD rfl yD (lowA MR 2 3 (lowA MR 1 2 (lowA MR 2 1 (lowA MR 2 0 qAN)))) (qAJ MR _) ?_; replace M := M.drew; simp only [planC, opAt, gE])) | (go_at_call 50; (refine (qCF (M.ok 2 _ at2)).mono ?_; rintro e w1 ⟨rfl, rfl⟩)) | (go_at_call 52; (refine (AC.out _).mono ?_; rintro e w1 ⟨rfl, hb⟩; replace M := M.call hb; clear hb)) | (go_at_call 15; (refine (OC.out _ (M.ok 4 _ at4)).mono ?_; rintro e w1 ⟨rfl, Ci1, II1, U⟩; replace M := M.upd 4 at4 U; clear U; simp only [setC] at M)) | (go_at_call 53; (refine (RC.out _).mono ?_; rintro e w7 ⟨rov, rpv, rfl, N⟩; replace M := M.join N; clear N; simp only [List.cons_append, List.nil_append] at M; have hmf := qDB hrf M)) | ((with_reducible show wpList _ _ _ (Oper.mk _ (Op.store 67 _ _) _ _ _ _ :: _) _ _); refine w_at2 _ _ _ rfl yI yE ?_; intro hx hy; refine qAD (m := R.ms rov rpv) M 2 _ _ _ rfl rfl hx rfl hy rfl yD hmf qAA ?_; clear hx hy M; intro w1 M; (try simp only [setC] at M)) | ((with_reducible refine tM rfl ?_); refine mS ?_; try (clear M; (first | intro g w1 M | intro w1 M); try simp only [setC] at M)) | ((with_reducible first | show Seg _ _ _ _ | show OnlyN _ _ _ _ _); refine rA ?_) | ((with_reducible refine tGuard ?_); refine gdC ?_ ?_ <;> (intro hgd; rw [hgd]; try (exfalso; simp at hgd; omega)))) <;> (try conv => arg 5; simp only [apS, setC]))
 exact bodyPost_ret (qAl rfl _ _ gm 0 (msgC (R.ms rov rpv)) _ (.int .i64 re) rfl rfl (M.ok 2 _ at2).2.1 Tryz.underlying67 rfl (by rw [qAs hmf]; kernel_rfl)) rfl ⟨_, _, _, rfl, ⟨go, gi, Co, Ci1, JO, II1, rfl⟩, link_out M⟩
end
end Go.Proofs.YtidadhbaomieiaaGreat

namespace Go
namespace TL
open Go.RowKit
def helloM : Lm := ⟨1, 3, 0, 0, 0, 0, [], 0, zeroH, 0, 0, zeroH, zeroH, []⟩
theorem qCU : helloM.fit := ⟨qAi, qAi, qAi⟩
theorem qDP : helloM.rng := ⟨fun q => by cases q <;> decide, by decide, by simp [helloM], by simp [helloM], by simp [helloM], by simp [helloM], by simp [helloM]⟩
theorem qFn : onlyL helloM = helloM := rfl
theorem qEI : okL helloM = true := by decide +kernel
theorem helloM_b : bytesM helloM = (bytesL helloM, 0) := by rw [bytesM_eq qCU qDP, if_pos yN, if_pos ⟨qEI, qFn⟩]
theorem read_right {L : Lm} (hL : L.fit) (hr : L.rng) (hk : isK L.k = true) (ho : okL L = true) (hn : onlyL L = L) : readM (bytesL L) = (L, 0) := by
 have := qGN hL hr hk ho []
 rwa [List.append_nil, if_pos rfl, hn] at this
theorem link_open (seed : List UInt8) (a b : UInt8) (boot : UInt32) (n : UInt64) (text : List UInt8) (ht : text.length ≤ 8192) : openL (masterK seed a b) 0 (envB (RingS.env ⟨masterK seed a b, 0, boot, n⟩ (aboutK a b) text)) (aboutK a b) = (text, 0) :=
 openL_ok (R := ⟨masterK seed a b, 0, boot, n⟩) (aboutK a b) text (Nat.zero_le _) ht (Nat.le_refl _)
theorem link_len (seed : List UInt8) (a b : UInt8) (boot : UInt32) (n : UInt64) (text : List UInt8) (ht : text.length ≤ 8192) : (envB (RingS.env ⟨masterK seed a b, 0, boot, n⟩ (aboutK a b) text)).length ≤ 8600 :=
 envB_length (RingS.env_right (R := ⟨masterK seed a b, 0, boot, n⟩) (aboutK a b) text (Nat.zero_le _) ht)
theorem swapH {F : List Nat} {w0 w : World} {c d : Chunk} {L : List Chunk} (M : Mem F w0 w (c :: d :: L)) : Mem F w0 w (d :: c :: L) :=
 M.pick _ (fun i => if i = 0 then 1 else if i = 1 then 0 else i) (fun i j _ _ h => by (try dsimp only at h); split at h <;> split at h <;> (try split at h) <;> (try split at h) <;> omega) (fun i c' h => by
  match i, h with
  | 0, h => simpa using h
  | 1, h => simpa using h
  | i + 2, h => simpa using h)
theorem turn1 {F : List Nat} {w0 w w' : World} {c : Chunk} {K' L : List Chunk} (M : Mem F w0 w (c :: L)) (U : Mem c.fp w w' K') : Mem F w0 w' (K' ++ L) := Mem.turn (K := [c]) M (by simpa using U)
end TL
end Go
namespace Go.Proofs.YtidadhbaomieiaaGreat
open Go.RowKit Go.TL
theorem qFv (w : World) : Calls Tryz.prog 27 #[] w fun e w' => e = .returned (.bool true) ∧ Below w.heap.size w w' := by
 have M := Mem.start [] w
 have NA : ∀ w, Calls Tryz.prog 23 #[.int .i64 0, .string (mkS [115]), .int .u32 1] w fun e w' => ∃ g C, e = .returned (.tuple #[.pointer (some ⟨g, 0, none⟩), .int .i64 0]) ∧ IsLink g (linkOf [115] 0 1 0 1 1 0) C ∧ Mem [] w w' [C] := fun w => qDV [115] 0 1 0 1 1 w yN (by unfold EndOf; decide)
 have NB : ∀ w, Calls Tryz.prog 23 #[.int .i64 1, .string (mkS [115]), .int .u32 1] w fun e w' => ∃ g C, e = .returned (.tuple #[.pointer (some ⟨g, 0, none⟩), .int .i64 0]) ∧ IsLink g (linkOf [115] 1 0 1 0 1 0) C ∧ Mem [] w w' [C] := fun w => qDV [115] 1 0 1 0 1 w yN (by unfold EndOf; decide)
 have hsh := qEp qCU qDP yN qEI
 have SC : ∀ (C : Array Value) (g : Nat) (c : Chunk) (w : World) (h : c.ok w) (I : IsLink g (linkOf [115] 0 1 0 1 1 0) c), C = (msgC (helloM.ms (.slice none 0 0) (.slice none 0 0))).toArray → Calls Tryz.prog 24 #[.pointer (some ⟨g, 0, none⟩), .agg C] w fun r w' => r = .returned (.tuple #[.agg #[.int .i64 0, .int .i64 1, .string (mkS (envB (RingS.env ⟨masterK [115] 0 1, 0, 1, 0⟩ (aboutK 0 1) (bytesL helloM))))], .int .i64 0]) ∧ ∃ c', True ∧ Upd w c w' c' := fun C g c w h I hC => by
  rw [hC]
  refine (Send_ok helloM (.slice none 0 0) (.slice none 0 0) 0 1 h I (.inl ⟨rfl, rfl, rfl, rfl⟩) (by show (masterK [115] 0 1).length ≤ _; rw [qCE]; decide) (by show 0 ≤ 1048576; decide) (by show (0 : UInt64).toNat < _; decide) qCU qDP (qBz _ _ qCD _) (qBz _ _ qDh _) (by simp [Value.ownBlock]) (by simp [Value.ownBlock]) yN qEI helloM_b).mono ?_
  rintro e w' ⟨rfl, c', _, U⟩
  exact ⟨rfl, c', trivial, U⟩
 have hop := link_open [115] 0 1 1 0 (bytesL helloM) hsh
 have hln := link_len [115] 0 1 1 0 (bytesL helloM) hsh
 have CC := fun (g : Nat) (c : Chunk) (w : World) (h : c.ok w) (I : IsLink g (linkOf [115] 1 0 1 0 1 0) c) => Come_ok (envB (RingS.env ⟨masterK [115] 0 1, 0, 1, 0⟩ (aboutK 0 1) (bytesL helloM))) 1 0 h I (.inr ⟨rfl, rfl, rfl, rfl⟩) (by show (masterK [115] 0 1).length ≤ _; rw [qCE]; decide) yF (by show (openL (masterK [115] 0 1) 0 _ (aboutK 0 1)).2 = 0; rw [hop])
 have hop2 : openL (linkOf [115] 1 0 1 0 1 0).inn.m (linkOf [115] 1 0 1 0 1 0).inn.c (envB (RingS.env ⟨masterK [115] 0 1, 0, 1, 0⟩ (aboutK 0 1) (bytesL helloM))) (aboutK 0 1) = (bytesL helloM, 0) := hop
 rw [hop2, read_right qCU qDP yN qEI qFn] at CC
 simp only at CC
 obtain ⟨D, eD⟩ : ∃ D, D = envB (RingS.env ⟨masterK [115] 0 1, 0, 1, 0⟩ (aboutK 0 1) (bytesL helloM)) := ⟨_, rfl⟩
 rw [← eD] at SC CC
 have CC' : ∀ (g : Nat) (c : Chunk) (w : World), c.ok w → IsLink g (linkOf [115] 1 0 1 0 1 0) c → Calls Tryz.prog 25 #[.pointer (some ⟨g, 0, none⟩), .agg #[.int .i64 0, .int .i64 1, .string (mkS D)]] w fun e w' => ∃ ov pv c', e = .returned (.tuple #[.agg (msgC (helloM.ms ov pv)).toArray, .int .i64 0]) ∧ IsLink g (linkOf [115] 1 0 1 0 1 0) c' ∧ Mem c.fp w w' [.sl 3 ov helloM.ops.length (helloM.ops.flatMap opV), .sl 2 pv helloM.prs.length (helloM.prs.flatMap prV), c'] := CC
 have hwf := qCU
 have hwk : helloM.k = 1 := rfl
 have hwe : helloM.e = 3 := rfl
 obtain ⟨W, eW⟩ : ∃ W, W = helloM := ⟨_, rfl⟩
 rw [← eW] at CC' hwf hwk hwe
 obtain ⟨KA, eA⟩ : ∃ K, K = linkOf [115] 0 1 0 1 1 0 := ⟨_, rfl⟩
 obtain ⟨KB, eB⟩ : ∃ K, K = linkOf [115] 1 0 1 0 1 0 := ⟨_, rfl⟩
 rw [← eA] at NA SC
 rw [← eB] at NB CC'
 have H0 : ∀ ov pv, (msgC (W.ms ov pv))[0]? = some (.int .u8 1) := fun ov pv => by show some (Value.int .u8 (I8 W.k)) = _; rw [hwk]; rfl
 have H1 : ∀ ov pv, (msgC (W.ms ov pv))[1]? = some (.int .i64 3) := fun ov pv => by show some (Value.int .i64 W.e) = _; rw [hwe]
 replace NA := Lib.hid NA
 replace NB := Lib.hid NB
 replace SC := Lib.hid SC
 replace CC' := Lib.hid CC'
 replace H0 := Lib.hid H0
 replace H1 := Lib.hid H1
 clear CC eW hwk hwe eD hop hop2 hln hsh eA eB
 go_enter Tryz.func27, Tryz.ntmps27
 go_wp2_with ((first | ((with_reducible refine tGuard ?_); first | ((with_reducible refine qAC ?_ ?_); exact dcd) | ((with_reducible refine qAH ?_ ?_); exact dcd) | ((with_reducible refine qAI ?_ ?_); exact dcd)) | (go_at_call 23; (first | (with_reducible refine (NA.out _).mono ?_; rintro e w1 ⟨ga, ca, rfl, IA, MJ⟩) | (with_reducible refine (NB.out _).mono ?_; rintro e w1 ⟨gb, cb, rfl, IB, MJ⟩)); replace M := M.join MJ; clear MJ; simp only [List.cons_append, List.nil_append] at M) | (go_at_call 24; (refine (SC.out _ _ _ _ (M.ok 1 _ at1) IA rfl).mono ?_; rintro e w1 ⟨rfl, ca1, _, U⟩; replace M := M.upd 1 at1 U; clear U; simp only [setC] at M)) | ((with_reducible refine tAlloc (some 5) 58 ?_); refine wal M _ rfl rfl ([.int .i64 0, .int .i64 0, .string (mkS [])]) yD ?_; clear M; intro gp w1 M) | (go_at_call 25; (replace M := swapH M; refine (CC'.out _ _ _ (M.ok 0 _ at0) IB).mono ?_; rintro e w1 ⟨rov, rpv, cb1, rfl, IB1, U⟩; replace M := turn1 M U; clear U; simp only [List.cons_append, List.nil_append] at M; have hrf := qDB hwf M)) | ((with_reducible refine tAlloc (some 7) 67 ?_); refine wal M _ rfl rfl (msgC zeroM) yD ?_; clear M; intro gm w1 M) | ((with_reducible show wpList _ _ _ (Oper.mk _ (Op.store 67 _ _) _ _ _ _ :: _) _ _); refine w_at2 _ _ _ rfl yI yE ?_; intro hx hy; refine qAD (m := W.ms rov rpv) M 0 _ _ _ rfl rfl hx rfl hy rfl yD hrf qAA ?_; clear hx hy M; intro w1 M; (try simp only [setC] at M)) | ((with_reducible refine tLoad ?_); refine w_at _ _ rfl yI ?_; intro hx; (first | refine qAM M 0 _ _ rfl rfl hx rfl yB (by with_reducible first | exact H0.out _ _ | exact H1.out _ _) ?_); clear hx) | ((with_reducible refine tM rfl ?_); refine mS ?_; try (clear M; (first | intro g w1 M | intro w1 M); try simp only [setC] at M)) | ((with_reducible refine tGuard ?_); refine gdC ?_ ?_ <;> (intro hgd; rw [hgd]; try (exfalso; simp at hgd; omega)))) <;> (try conv => arg 5; simp only [apS, setC]))
 go_ret
 exact ⟨by first | rfl | simp, M.below⟩
end Go.Proofs.YtidadhbaomieiaaGreat

namespace Go
namespace TL
open Go.RowKit
section
variable {α : Type} {P : Program} {ops : Array Oper} {rest : List Oper} {o : Oper} {a : Act} {w w0 : World} {Q : Exit → Act → World → Prop} {F : List Nat} {L : List Chunk} {size : Nat} {f : α → List Value} {l : List α}
end
end TL
end Go

namespace Go
namespace TL
open Go.RowKit
theorem Ms.fit_bt {m : Ms} (h : m.fit) (bi be : Int) {ov : Value} (ho : ov.oneCell' = true) : Ms.fit { m with bi := bi, be := be, ov := ov } := ⟨h.1, h.2.1, h.2.2.1, ho, h.2.2.2.2⟩
theorem Ms.fit_pv {m : Ms} (h : m.fit) {pv : Value} (hp : pv.oneCell' = true) : Ms.fit { m with pv := pv } := ⟨h.1, h.2.1, h.2.2.1, h.2.2.2.1, hp⟩
end TL
end Go
namespace Go.Proofs.YtidadhbaomieiaaGreat
open Go.RowKit Go.TL
end Go.Proofs.YtidadhbaomieiaaGreat

namespace Go
namespace TL
theorem InS.byte_err01 {r : List UInt8} {k e : Nat} (h : e ≠ 0) : InS.byte ⟨r, k, e⟩ = (0, ⟨r, k, e⟩) := by unfold InS.byte; rw [if_neg h]
theorem OnS.hash {s : List UInt8} (h0 : List UInt8) {x : InS} (h : OnS s x) : ∀ n, OnS s (hashS h0 x n).1
 | 0 => h
 | n + 1 => (OnS.hash h0 h n).byte
end TL
end Go
namespace Go.Proofs.YtidadhbaomieiaaGreat
open Go.RowKit Go.TL
section
variable (g : Nat) (s : List UInt8) (x : InS) (w : World) (h : (Chunk.row g (irB s x)).ok w) (hx : OnS s x) (hs : s.length ≤ 1000000000)
include h hx hs
theorem qBO : Calls Tryz.prog 99 #[.pointer (some ⟨g, 0, none⟩)] w fun e w' =>
  e = .returned (.int .u8 x.byte.1) ∧ Upd w (.row g (irB s x)) w' (.row g (irB s x.byte.2)) := by
 obtain ⟨rest, r, er⟩ := x
 obtain ⟨hr, hle⟩ := hx
 simp only at hr hle
 subst hr
 have M := Mem.start1 (c := .row g [.string (mkS s), .int .i64 r, .int .i64 er]) h
 by_cases h0 : er = 0
 ·subst h0
  by_cases hlt : r < s.length
  ·have hb : InS.byte ⟨s.drop r, r, 0⟩ = ((s.getD r 0).toNat, ⟨s.drop (r + 1), r + 1, 0⟩) := by
    unfold InS.byte InS.take
    simp only [if_true]
    rw [List.drop_eq_getElem_cons hlt]
    simp only [List.drop_succ_cons, List.drop_zero, List.getD_eq_getElem?_getD, List.getElem?_eq_getElem hlt, Option.getD_some]
   rw [hb, ← I8_eq]
   simp only
   have hlt' : (r : Int) < (s.length : Int) := by omega
   have hix : ((r : Int) + 1 - 1) = (r : Int) := by omega
   clear hb
   go_enter Tryz.func99, Tryz.ntmps99
   go_wp2_with ((first | ((with_reducible refine tGuard ?_); first | ((with_reducible refine qAC ?_ ?_); exact dcd) | ((with_reducible refine qAH ?_ ?_); exact dcd) | ((with_reducible refine qAI ?_ ?_); exact dcd)) | ((with_reducible show Code.wp _ (Code.region 1 _ _) _ _ _); (refine qAF [(0, false), (1, false), (2, false), (3, false), (4, false), (5, false), (6, false), (7, false), (8, false), (10, false), (11, false), (12, false), (9, false), (13, false), (14, false), (15, false), (16, false)] [(3, .ptr), (6, .int), (9, .ptr), (13, .ptr), (12, .int), (17, .int)] yD yD rfl yD ?_; replace M := M.drew; simp only [reord, opAt, List.map_cons, List.map_nil, gE])) | ((with_reducible show Code.wp _ (Code.region 6 _ _) _ _ _); (refine qAF [(0, false), (1, false), (2, false), (4, false), (5, false), (6, false), (3, false), (7, false), (8, false), (9, false), (10, false)] [(36, .ptr), (40, .ptr), (43, .int)] yD yD rfl yD ?_; replace M := M.drew; simp only [reord, opAt, List.map_cons, List.map_nil, gE])) | ((with_reducible refine tM rfl ?_); refine mB ?_; try (clear M; (first | intro g w1 M | intro w1 M); try simp only [setC] at M)) | ((with_reducible first | show Seg _ _ _ _ | show OnlyN _ _ _ _ _); refine rA ?_) | ((with_reducible refine tGuard ?_); refine gdC ?_ ?_ <;> (intro hgd; rw [hgd]; try (exfalso; simp at hgd; omega)))) <;> (try conv => arg 5; simp only [apS, setC]))
   go_ret
   exact ⟨rfl, M.upd1 0 rfl⟩
  ·have hb : InS.byte ⟨s.drop r, r, 0⟩ = (0, ⟨s.drop r, r, 7⟩) := by
    unfold InS.byte InS.take
    simp only [if_true]
    rw [List.drop_of_length_le yF]
    rfl
   rw [hb]
   simp only
   have hlt' : ¬ (r : Int) < (s.length : Int) := by omega
   have hge : (s.length : Int) ≤ (r : Int) := by omega
   clear hb
   go_enter Tryz.func99, Tryz.ntmps99
   go_wp2_with ((first | ((with_reducible refine tGuard ?_); first | ((with_reducible refine qAC ?_ ?_); exact dcd) | ((with_reducible refine qAH ?_ ?_); exact dcd) | ((with_reducible refine qAI ?_ ?_); exact dcd)) | ((with_reducible show Code.wp _ (Code.region 1 _ _) _ _ _); (refine qAF [(0, false), (1, false), (2, false), (3, false), (4, false), (5, false), (6, false), (7, false), (8, false), (10, false), (11, false), (12, false), (9, false), (13, false), (14, false), (15, false), (16, false)] [(3, .ptr), (6, .int), (9, .ptr), (13, .ptr), (12, .int), (17, .int)] yD yD rfl yD ?_; replace M := M.drew; simp only [reord, opAt, List.map_cons, List.map_nil, gE])) | ((with_reducible show Code.wp _ (Code.region 6 _ _) _ _ _); (refine qAF [(0, false), (1, false), (2, false), (4, false), (5, false), (6, false), (3, false), (7, false), (8, false), (9, false), (10, false)] [(36, .ptr), (40, .ptr), (43, .int)] yD yD rfl yD ?_; replace M := M.drew; simp only [reord, opAt, List.map_cons, List.map_nil, gE])) | ((with_reducible refine tM rfl ?_); refine mB ?_; try (clear M; (first | intro g w1 M | intro w1 M); try simp only [setC] at M)) | ((with_reducible first | show Seg _ _ _ _ | show OnlyN _ _ _ _ _); refine rA ?_) | ((with_reducible refine tGuard ?_); refine gdC ?_ ?_ <;> (intro hgd; rw [hgd]; try (exfalso; simp at hgd; omega)))) <;> (try conv => arg 5; simp only [apS, setC]))
   go_ret
   exact ⟨rfl, M.upd1 0 rfl⟩
 ·rw [InS.byte_err01 h0]
  simp only
  have hz : ((er : Int) == 0) = false := by simp; exact h0
  have hz' : ((er : Int) != 0) = true := by simp; exact h0
  go_enter Tryz.func99, Tryz.ntmps99
  go_wp2_with ((first | ((with_reducible refine tGuard ?_); first | ((with_reducible refine qAC ?_ ?_); exact dcd) | ((with_reducible refine qAH ?_ ?_); exact dcd) | ((with_reducible refine qAI ?_ ?_); exact dcd)) | ((with_reducible show Code.wp _ (Code.region 1 _ _) _ _ _); (refine qAF [(0, false), (1, false), (2, false), (3, false), (4, false), (5, false), (6, false), (7, false), (8, false), (10, false), (11, false), (12, false), (9, false), (13, false), (14, false), (15, false), (16, false)] [(3, .ptr), (6, .int), (9, .ptr), (13, .ptr), (12, .int), (17, .int)] yD yD rfl yD ?_; replace M := M.drew; simp only [reord, opAt, List.map_cons, List.map_nil, gE])) | ((with_reducible show Code.wp _ (Code.region 6 _ _) _ _ _); (refine qAF [(0, false), (1, false), (2, false), (4, false), (5, false), (6, false), (3, false), (7, false), (8, false), (9, false), (10, false)] [(36, .ptr), (40, .ptr), (43, .int)] yD yD rfl yD ?_; replace M := M.drew; simp only [reord, opAt, List.map_cons, List.map_nil, gE])) | ((with_reducible refine tM rfl ?_); refine mB ?_; try (clear M; (first | intro g w1 M | intro w1 M); try simp only [setC] at M)) | ((with_reducible first | show Seg _ _ _ _ | show OnlyN _ _ _ _ _); refine rA ?_) | ((with_reducible refine tGuard ?_); refine gdC ?_ ?_ <;> (intro hgd; rw [hgd]; try (exfalso; simp at hgd; omega)))) <;> (try conv => arg 5; simp only [apS, setC]))
  go_ret
  exact ⟨rfl, M.upd1 0 rfl⟩
end
end Go.Proofs.YtidadhbaomieiaaGreat

namespace Go.Proofs.YtidadhbaomieiaaGreat
open Go.RowKit Go.TL
section
variable (g : Nat) (s : List UInt8) (x : InS) (w : World) (h : (Chunk.row g (irB s x)).ok w) (hx : OnS s x) (hs : s.length ≤ 1000000000)
include h hx hs
theorem hash18_c : Calls Tryz.prog 101 #[.pointer (some ⟨g, 0, none⟩)] w fun e w' => e = .returned (.agg (bs (hashS zeroH x 32).2).toArray) ∧ Upd w (.row g (irB s x)) w' (.row g (irB s (hashS zeroH x 32).1)) := by
 have M := Mem.start1 h
 obtain ⟨S, eS⟩ : ∃ S, S = hashS zeroH x := ⟨_, rfl⟩
 have s0 : (S 0).1 = x := by rw [eS]; rfl
 have s1 : (S 0).2 = zeroH := by rw [eS]; rfl
 have son : ∀ n, OnS s (S n).1 := fun n => by rw [eS]; exact OnS.hash _ hx n
 have sl : ∀ n, (S n).2.length = 32 := fun n => by rw [eS]; exact qCG qAi x n
 have sn : ∀ n, (S (n + 1)).1 = (S n).1.byte.2 := fun n => by rw [eS]; rfl
 have sb : ∀ n (b : UInt8), (S n).1.byte.1 = b.toNat → (S n).2.set n b = (S (n + 1)).2 := fun n b hb => by rw [eS, qCV, ← eS, hb, UInt8.ofNat_toNat]
 rw [← eS]
 rw [← s0] at M
 replace sl := Lib.hid sl
 replace sn := Lib.hid sn
 replace sb := Lib.hid sb
 replace son := Lib.hid son
 have s1 := Lib.hid s1
 have S0X := Lib.hid s0
 clear eS
 have hfp : (Chunk.row g (irB s (S 0).1)).fp = [g] := rfl
 clear hfp
 go_enter Tryz.func101, Tryz.ntmps101
 go_wp2_with ((first | ((with_reducible refine tAlloc (some 2) 64 ?_); refine wal M _ rfl rfl (bs zeroH) yD ?_; clear M; intro gr w1 M) | ((with_reducible refine tAlloc (some 3) 64 ?_); refine wal M _ rfl rfl (bs zeroH) yD ?_; clear M; intro gh w1 M) | ((with_reducible refine tM rfl ?_); refine mB ?_; try (clear M; (first | intro g w1 M | intro w1 M); try simp only [setC] at M))) <;> (try conv => arg 5; simp only [apS, setC]))
 rw [← s1.out] at M
 go_loopw [4] (fun iv wr => ∃ j : Nat, j ≤ 32 ∧ iv = .int .i64 j ∧ Mem (Chunk.row g (irB s (S 0).1)).fp w wr [.row gh (bs (S j).2), .row gr (bs (S 0).2), .row g (irB s (S j).1)]) (fun iv _ => 32 - (intOf iv).toNat)
 case atStart => exact ⟨0, by omega, rfl, M⟩
 case round =>
  clear M
  obtain ⟨j, hj, rfl, M⟩ := hrel
  by_cases hlt : j < 32
  ·obtain ⟨b, hb⟩ := qDF (S j).1
   have SB := sb.out j b hb
   have SL := sl.out j
   have YC := fun (w : World) h => qBO g s (S j).1 w h (son.out j) hs
   rw [hb, ← I8_eq, ← sn.out j] at YC
   obtain ⟨y, ey⟩ : ∃ y, y = (S j).1 := ⟨_, rfl⟩
   obtain ⟨z, ez⟩ : ∃ z, z = (S (j + 1)).1 := ⟨_, rfl⟩
   obtain ⟨q, eq⟩ : ∃ q, q = (S j).2 := ⟨_, rfl⟩
   rw [← ey, ← eq] at M
   rw [← ey, ← ez] at YC
   rw [← eq] at SB SL
   have EZ := Lib.hid fun _ : Unit => ez
   replace SB := Lib.hid fun _ : Unit => SB
   replace YC := Lib.hid YC
   clear ey ez eq hb
   go_wp2_with ((first | (go_at_call 99; (refine (YC.out _ (M.ok 2 _ rfl)).mono ?_; rintro r w2 ⟨rfl, U⟩; replace M := M.upd 2 rfl U; clear U; simp only [setC] at M)) | ((with_reducible refine tM rfl ?_); refine mB ?_; try (clear M; (first | intro g w1 M | intro w1 M); try simp only [setC] at M))) <;> (try conv => arg 5; simp only [apS, setC]))
   go_roundw
   case rel => exact ⟨j + 1, by omega, by go_num, by rw [← EZ.out (), ← SB.out ()]; exact M⟩
   case measure => simp [intOf]; omega
  ·obtain rfl : j = 32 := by omega
   have SL := sl.out 32
   have SL0 := sl.out 0
   obtain ⟨q, eq⟩ : ∃ q, q = (S 32).2 := ⟨_, rfl⟩
   obtain ⟨q0, eq0⟩ : ∃ q, q = (S 0).2 := ⟨_, rfl⟩
   rw [← eq, ← eq0] at M
   rw [← eq] at SL
   have EQ := Lib.hid fun _ : Unit => eq
   rw [← eq0] at SL0
   clear eq eq0
   go_wp2_with ((first | ((with_reducible refine tM rfl ?_); refine mB ?_; try (clear M; (first | intro g w1 M | intro w1 M); try simp only [setC] at M))) <;> (try conv => arg 5; simp only [apS, setC]))
   exact bodyPost_ret (qAS rfl _ _ gr 0 (bs q) _ rfl (M.ok 1 _ rfl).2.1 Tryz.underlying64 rfl (by rw [qAP, SL]; kernel_rfl)) rfl ⟨by rw [EQ.out ()], by rw [S0X.out] at M; exact M.upd1 2 rfl⟩
end
end Go.Proofs.YtidadhbaomieiaaGreat

namespace Go.Proofs.YtidadhbaomieiaaGreat
open Go.RowKit Go.TL
theorem rRight_c (i e : Int) (ops : List Opr) (v : Value) (w : World) (S : SeesL w 3 opV v ops) (hl : ops.length ≤ 1000000) (hm : ∀ x ∈ ops, x.2.1.length ≤ 100000000 ∧ x.2.2.length ≤ 100000000) :
  Calls Tryz.prog 141 #[.agg #[.int .i64 i, .int .i64 e, v]] w fun e' w' => e' = .returned (.int .i64 (rightB i e ops)) ∧ Below w.heap.size w w' := by
 have M := Mem.start [] w
 obtain ⟨q, cap, rfl, hc⟩ := S.form
 by_cases h : i < 1 ∨ 4611686018427387904 < i ∨ e < 1
 ·rw [right_n h]
  by_cases h1 : i < 1
  ·clear h
   go_enter Tryz.func141, Tryz.ntmps141
   go_wp2_with ((first | ((with_reducible refine tBox (some 1) ?_); refine w_box M _ _ rfl rfl _ rfl ([.int .i64 i, .int .i64 e, .slice q ops.length cap]) rfl ?_; clear M; intro gb w1 M) | ((with_reducible refine tGuard ?_); first | ((with_reducible refine qAC ?_ ?_); exact dcd) | ((with_reducible refine qAH ?_ ?_); exact dcd) | ((with_reducible refine qAI ?_ ?_); exact dcd)) | ((with_reducible refine tM rfl ?_); refine mS ?_; try (clear M; (first | intro g w1 M | intro w1 M); try simp only [setC] at M)) | ((with_reducible refine tGuard ?_); refine gdC ?_ ?_ <;> (intro hgd; rw [hgd]; try (exfalso; simp at hgd; omega)))) <;> (try conv => arg 5; simp only [apS, setC]))
   go_ret
   exact ⟨rfl, M.below⟩
  ·have h1' : 1 ≤ i := by omega
   by_cases h2 : 4611686018427387904 < i
   ·clear h
    go_enter Tryz.func141, Tryz.ntmps141
    go_wp2_with ((first | ((with_reducible refine tBox (some 1) ?_); refine w_box M _ _ rfl rfl _ rfl ([.int .i64 i, .int .i64 e, .slice q ops.length cap]) rfl ?_; clear M; intro gb w1 M) | ((with_reducible refine tGuard ?_); first | ((with_reducible refine qAC ?_ ?_); exact dcd) | ((with_reducible refine qAH ?_ ?_); exact dcd) | ((with_reducible refine qAI ?_ ?_); exact dcd)) | ((with_reducible refine tM rfl ?_); refine mS ?_; try (clear M; (first | intro g w1 M | intro w1 M); try simp only [setC] at M)) | ((with_reducible refine tGuard ?_); refine gdC ?_ ?_ <;> (intro hgd; rw [hgd]; try (exfalso; simp at hgd; omega)))) <;> (try conv => arg 5; simp only [apS, setC]))
    go_ret
    exact ⟨rfl, M.below⟩
   ·have h2' : i ≤ 4611686018427387904 := by omega
    have h3' : e < 1 := by omega
    clear h
    go_enter Tryz.func141, Tryz.ntmps141
    go_wp2_with ((first | ((with_reducible refine tBox (some 1) ?_); refine w_box M _ _ rfl rfl _ rfl ([.int .i64 i, .int .i64 e, .slice q ops.length cap]) rfl ?_; clear M; intro gb w1 M) | ((with_reducible refine tGuard ?_); first | ((with_reducible refine qAC ?_ ?_); exact dcd) | ((with_reducible refine qAH ?_ ?_); exact dcd) | ((with_reducible refine qAI ?_ ?_); exact dcd)) | ((with_reducible refine tM rfl ?_); refine mS ?_; try (clear M; (first | intro g w1 M | intro w1 M); try simp only [setC] at M)) | ((with_reducible refine tGuard ?_); refine gdC ?_ ?_ <;> (intro hgd; rw [hgd]; try (exfalso; simp at hgd; omega)))) <;> (try conv => arg 5; simp only [apS, setC]))
    go_ret
    exact ⟨rfl, M.below⟩
 obtain ⟨h1, h2, h3⟩ : 1 ≤ i ∧ i ≤ 4611686018427387904 ∧ 1 ≤ e := by omega
 by_cases h4 : 4 < ops.length
 ·rw [right_4 h h4]
  have h4' : (4 : Int) < (ops.length : Int) := by omega
  clear h
  go_enter Tryz.func141, Tryz.ntmps141
  go_wp2_with ((first | ((with_reducible refine tBox (some 1) ?_); refine w_box M _ _ rfl rfl _ rfl ([.int .i64 i, .int .i64 e, .slice q ops.length cap]) rfl ?_; clear M; intro gb w1 M) | ((with_reducible refine tGuard ?_); first | ((with_reducible refine qAC ?_ ?_); exact dcd) | ((with_reducible refine qAH ?_ ?_); exact dcd) | ((with_reducible refine qAI ?_ ?_); exact dcd)) | ((with_reducible refine tM rfl ?_); refine mS ?_; try (clear M; (first | intro g w1 M | intro w1 M); try simp only [setC] at M)) | ((with_reducible refine tGuard ?_); refine gdC ?_ ?_ <;> (intro hgd; rw [hgd]; try (exfalso; simp at hgd; omega)))) <;> (try conv => arg 5; simp only [apS, setC]))
  go_ret
  exact ⟨rfl, M.below⟩
 rw [right_e h yF]
 have h4' : (ops.length : Int) ≤ 4 := by omega
 have HB := fun k x r => @each_bad cutE ops k x r
 have HG := @each_all cutE ops
 obtain ⟨R, eR⟩ : ∃ R, R = eachE cutE ops := ⟨_, rfl⟩
 rw [← eR] at HB HG ⊢
 replace HB := Lib.hid HB
 replace HG := Lib.hid HG
 clear eR h
 go_enter Tryz.func141, Tryz.ntmps141
 go_wp2_with ((first | ((with_reducible refine tBox (some 1) ?_); refine w_box M _ _ rfl rfl _ rfl ([.int .i64 i, .int .i64 e, .slice q ops.length cap]) rfl ?_; clear M; intro gb w1 M) | ((with_reducible refine tGuard ?_); first | ((with_reducible refine qAC ?_ ?_); exact dcd) | ((with_reducible refine qAH ?_ ?_); exact dcd) | ((with_reducible refine qAI ?_ ?_); exact dcd)) | ((with_reducible refine tM rfl ?_); refine mS ?_; try (clear M; (first | intro g w1 M | intro w1 M); try simp only [setC] at M)) | ((with_reducible refine tGuard ?_); refine gdC ?_ ?_ <;> (intro hgd; rw [hgd]; try (exfalso; simp at hgd; omega)))) <;> (try conv => arg 5; simp only [apS, setC]))
 go_loopw [3] (fun iv wr => ∃ k : Nat, k ≤ ops.length ∧ iv = .int .i64 k ∧ Hid (∀ (j : Nat) (y : Opr), j < k → ops[j]? = some y → opE cutE y = 0) ∧ Mem [] w wr [.row gb [.int .i64 i, .int .i64 e, .slice q ops.length cap]]) (fun iv _ => ops.length - (intOf iv).toNat)
 case atStart => exact ⟨0, by omega, rfl, Lib.hid yF, M⟩
 case round =>
  clear M
  obtain ⟨k, hk, rfl, HK, M⟩ := hrel
  by_cases hlt : k < ops.length
  ·obtain ⟨g, so, rfl⟩ := S.addr yF
   obtain ⟨⟨q, a, b⟩, hx⟩ : ∃ x, ops[k]? = some x := ⟨_, List.getElem?_eq_getElem hlt⟩
   obtain ⟨ha, hb⟩ := hm (q, a, b) (List.mem_of_getElem? hx)
   simp only at ha hb
   have HX := Lib.hid hx
   clear hx
   by_cases hq : q = 1 ∨ q = 2
   ·have HQ := Lib.hid hq
    have HI : I8 q = 1 ∨ I8 q = 2 := by rcases hq with rfl | rfl; exact .inl rfl; exact .inr rfl
    have C := fun w => Cut11_c a w yF
    obtain ⟨⟨c, d, ok⟩, en⟩ : ∃ R, R = cutL a := ⟨_, rfl⟩
    rw [← en] at C
    simp only at C
    replace C := Lib.hid C
    clear hq
    cases ok with
    | true =>
     have EN : Hid (cutE a = 0) := Lib.hid (by unfold cutE; rw [← en]; rfl)
     have V := fun w => value12_c q a b w hb
     have ho := op_val (f := cutE) (b := b) HQ.out EN.out
     obtain ⟨n, en⟩ : ∃ n, n = valE q b := ⟨_, rfl⟩
     rw [← en] at V ho
     have HO := Lib.hid ho
     replace V := Lib.hid V
     clear en ho
     rename_i en0
     clear en0
     by_cases hn : n = 0
     ·subst hn
      rcases HI with HI | HI
      all_goals
       have V2 := V.out
       rw [HI] at V2
       replace V2 := Lib.hid V2
       go_wp2_with ((first | ((with_reducible refine tGuard ?_); first | ((with_reducible refine qAC ?_ ?_); exact dcd) | ((with_reducible refine qAH ?_ ?_); exact dcd) | ((with_reducible refine qAI ?_ ?_); exact dcd)) | ((with_reducible refine tLoad ?_); refine w_at _ _ rfl yI ?_; intro hx; first | (refine qBD M S HX.out _ _ rfl hx rfl yB yG yD ?_; clear hx; (try conv => arg 5; simp only [Act.put, List.setIfInBounds_toArray, setC, qBR])) | (refine w_see M S HX.out _ _ rfl hx rfl yB 0 yG rfl ?_; clear hx) | (refine w_see M S HX.out _ _ rfl hx rfl yB 1 yG rfl ?_; clear hx) | (refine w_see M S HX.out _ _ rfl hx rfl yB 2 yG rfl ?_; clear hx)) | (go_at_call 171; (refine (C.out _).mono ?_; rintro e w1 ⟨rfl, hb⟩; replace M := M.call hb; clear hb)) | (go_at_call 172; (refine (V2.out _).mono ?_; rintro e w1 ⟨rfl, hb⟩; replace M := M.call hb; clear hb)) | ((with_reducible refine tM rfl ?_); refine mS ?_; try (clear M; (first | intro g w1 M | intro w1 M); try simp only [setC] at M))) <;> (try conv => arg 5; simp only [apS, setC]))
       go_roundw
       case rel => exact ⟨k + 1, by omega, by go_num, Lib.hid fun j y hj hy => by
        rcases Nat.lt_succ_iff_lt_or_eq.1 hj with hj | rfl
        ·exact HK.out j y hj hy
        ·have := HX.out; rw [hy] at this; cases this; exact HO.out, M⟩
       case measure => simp [intOf]; omega
     ·have e : R = n := HB.out k _ _ HX.out HK.out HO.out hn
      subst e
      have hz : ((R : Int) == 0) = false := by simp; exact hn
      have hz' : ((R : Int) != 0) = true := by simp; exact hn
      clear hn
      rcases HI with HI | HI
      all_goals
       have V2 := V.out
       rw [HI] at V2
       replace V2 := Lib.hid V2
       go_wp2_with ((first | ((with_reducible refine tGuard ?_); first | ((with_reducible refine qAC ?_ ?_); exact dcd) | ((with_reducible refine qAH ?_ ?_); exact dcd) | ((with_reducible refine qAI ?_ ?_); exact dcd)) | ((with_reducible refine tLoad ?_); refine w_at _ _ rfl yI ?_; intro hx; first | (refine qBD M S HX.out _ _ rfl hx rfl yB yG yD ?_; clear hx; (try conv => arg 5; simp only [Act.put, List.setIfInBounds_toArray, setC, qBR])) | (refine w_see M S HX.out _ _ rfl hx rfl yB 0 yG rfl ?_; clear hx) | (refine w_see M S HX.out _ _ rfl hx rfl yB 1 yG rfl ?_; clear hx) | (refine w_see M S HX.out _ _ rfl hx rfl yB 2 yG rfl ?_; clear hx)) | (go_at_call 171; (refine (C.out _).mono ?_; rintro e w1 ⟨rfl, hb⟩; replace M := M.call hb; clear hb)) | (go_at_call 172; (refine (V2.out _).mono ?_; rintro e w1 ⟨rfl, hb⟩; replace M := M.call hb; clear hb)) | ((with_reducible refine tM rfl ?_); refine mS ?_; try (clear M; (first | intro g w1 M | intro w1 M); try simp only [setC] at M))) <;> (try conv => arg 5; simp only [apS, setC]))
       go_ret
       exact ⟨rfl, M.below⟩
    | false =>
     have e : R = 20 := HB.out k _ _ HX.out HK.out ((op_path HQ.out (by simp only; unfold cutE; rw [← en]; simp)).trans (by simp only; unfold cutE; rw [← en]; rfl)) yN
     subst e
     clear en
     rcases HI with HI | HI
     all_goals
      go_wp2_with ((first | ((with_reducible refine tGuard ?_); first | ((with_reducible refine qAC ?_ ?_); exact dcd) | ((with_reducible refine qAH ?_ ?_); exact dcd) | ((with_reducible refine qAI ?_ ?_); exact dcd)) | ((with_reducible refine tLoad ?_); refine w_at _ _ rfl yI ?_; intro hx; first | (refine qBD M S HX.out _ _ rfl hx rfl yB yG yD ?_; clear hx; (try conv => arg 5; simp only [Act.put, List.setIfInBounds_toArray, setC, qBR])) | (refine w_see M S HX.out _ _ rfl hx rfl yB 0 yG rfl ?_; clear hx) | (refine w_see M S HX.out _ _ rfl hx rfl yB 1 yG rfl ?_; clear hx) | (refine w_see M S HX.out _ _ rfl hx rfl yB 2 yG rfl ?_; clear hx)) | (go_at_call 171; (refine (C.out _).mono ?_; rintro e w1 ⟨rfl, hb⟩; replace M := M.call hb; clear hb)) | ((with_reducible refine tM rfl ?_); refine mS ?_; try (clear M; (first | intro g w1 M | intro w1 M); try simp only [setC] at M))) <;> (try conv => arg 5; simp only [apS, setC]))
      go_ret
      exact ⟨rfl, M.below⟩
   ·have e : R = 10 := HB.out k _ _ HX.out HK.out (op_kind hq) yN
    subst e
    obtain ⟨h1, h1'⟩ := I8_ne (q := q) (c := 1) (fun h => hq (.inl h))
    obtain ⟨h2, h2'⟩ := I8_ne (q := q) (c := 2) (fun h => hq (.inr h))
    rw [show I8 1 = 1 from rfl] at h1 h1'
    rw [show I8 2 = 2 from rfl] at h2 h2'
    clear hq
    go_wp2_with ((first | ((with_reducible refine tGuard ?_); first | ((with_reducible refine qAC ?_ ?_); exact dcd) | ((with_reducible refine qAH ?_ ?_); exact dcd) | ((with_reducible refine qAI ?_ ?_); exact dcd)) | ((with_reducible refine tLoad ?_); refine w_at _ _ rfl yI ?_; intro hx; first | (refine qBD M S HX.out _ _ rfl hx rfl yB yG yD ?_; clear hx; (try conv => arg 5; simp only [Act.put, List.setIfInBounds_toArray, setC, qBR])) | (refine w_see M S HX.out _ _ rfl hx rfl yB 0 yG rfl ?_; clear hx) | (refine w_see M S HX.out _ _ rfl hx rfl yB 1 yG rfl ?_; clear hx) | (refine w_see M S HX.out _ _ rfl hx rfl yB 2 yG rfl ?_; clear hx)) | ((with_reducible refine tM rfl ?_); refine mS ?_; try (clear M; (first | intro g w1 M | intro w1 M); try simp only [setC] at M))) <;> (try conv => arg 5; simp only [apS, setC]))
    go_ret
    exact ⟨rfl, M.below⟩
  ·obtain rfl : k = ops.length := by omega
   obtain rfl : R = 0 := HG.out fun j x hx => HK.out j x (List.getElem?_eq_some_iff.1 hx).1 hx
   go_wp2_with ((first | ((with_reducible refine tM rfl ?_); refine mS ?_; try (clear M; (first | intro g w1 M | intro w1 M); try simp only [setC] at M))) <;> (try conv => arg 5; simp only [apS, setC]))
   go_ret
   exact ⟨rfl, M.below⟩
end Go.Proofs.YtidadhbaomieiaaGreat

namespace Go
namespace TL
theorem qFB (k : Nat) (h : k < 9223372036854775808) : I64 (w64 (k : Int) + 1) = ((k + 1 : Nat) : Int) := by
 have e : w64 (k : Int) + 1 = w64 ((k + 1 : Nat) : Int) := by
  rw [qBM, qBM]
  apply UInt64.toNat_inj.1
  simp
 rw [e, qBG _ yF]
theorem RS.text_len (x : RS) (m : Nat) : (x.text m).2.rest.length ≤ x.rest.length := by
 have := RS.num_len x m
 unfold RS.text
 split
 ·split
  ·simp; omega
  ·simpa using this
 ·exact this
end TL
end Go
