/- Texts of this seat, put together: MsgF, TurnK, MsgG, InM, MsgH, MsgL, MsgE, PathN, Path, Ref11N, Ref11, BatP0, BatE0, BatM0. Each begins with a remark that says what is proved in it, and under which conditions. -/
import Derived.Test.YtidadhbaomieiaaGreatY
import Derived.OwnWalk
import Derived.Test.YtidadhbaomieiaaGreatZd
import Derived.Test.YtidadhbaomieiaaGreatZe
set_option maxRecDepth 100000
set_option maxHeartbeats 16000000
namespace Go.Proofs.YtidadhbaomieiaaGreat
open Go.RowKit Go.TL
def numF (g1 g2 : Nat) : Value := .agg #[.func (.func 164) #[] #[.pointer (some ⟨g2, 0, none⟩), .pointer (some ⟨g1, 0, none⟩)], .func (.func 165) #[] #[.pointer (some ⟨g1, 0, none⟩), .pointer (some ⟨g2, 0, none⟩)]]
def hashF (g : Nat) : Value := .agg #[.func (.func 166) #[] #[.pointer (some ⟨g, 0, none⟩)], .func (.func 167) #[] #[.pointer (some ⟨g, 0, none⟩)]]
theorem qAt (most : Int) (f : Nat) (w : World) : Calls Tryz.prog 122 #[.int .i64 most, .func (.func f) #[] #[]] w fun r w' => ∃ g1 g2, r = .returned (numF g1 g2) ∧ Mem [] w w' [.row g2 [.func (.func f) #[] #[]], .row g1 [.int .i64 most]] := by
 have M := Mem.start [] w
 have hmf : ∀ (fn : Fn) (first cap : Array Value) (w : World), (Instr.makeFunc fn first cap).run Tryz.prog w = .ok (.func fn first cap) w := fun _ _ _ _ => rfl
 go_enter Tryz.func122, Tryz.ntmps122
 go_wp2_with ((first | ((with_reducible refine tBox (some 2) ?_); refine w_box M _ _ rfl rfl _ rfl ([.int .i64 most]) rfl ?_; clear M; intro g1 w1 M) | ((with_reducible refine tBox (some 3) ?_); refine w_box M _ _ rfl rfl _ rfl ([.func (.func f) #[] #[]]) rfl ?_; clear M; intro g2 w1 M) | ((with_reducible refine tAlloc (some 4) 175 ?_); refine wal M _ rfl rfl ([.nilFunc, .nilFunc]) yD ?_; clear M; intro gr w1 M) | ((with_reducible refine tM rfl ?_); refine mB ?_; try (clear M; (first | intro g w1 M | intro w1 M); try simp only [setC] at M)) | ((with_reducible refine tGuard ?_); refine gdC ?_ ?_ <;> (intro hgd; rw [hgd]; try (exfalso; simp at hgd; omega)))) <;> (try conv => arg 5; simp only [apS, setC]))
 exact bodyPost_ret (qAS rfl _ _ gr 0 [.func (.func 164) #[] #[.pointer (some ⟨g2, 0, none⟩), .pointer (some ⟨g1, 0, none⟩)], .func (.func 165) #[] #[.pointer (some ⟨g1, 0, none⟩), .pointer (some ⟨g2, 0, none⟩)]] _ rfl (M.ok 0 _ rfl).2.1 Tryz.underlying175 rfl yD) rfl ⟨g1, g2, rfl, M.tail⟩
theorem qCS (f : Nat) (w : World) : Calls Tryz.prog 129 #[.func (.func f) #[] #[]] w fun r w' => ∃ g, r = .returned (hashF g) ∧ Mem [] w w' [.row g [.func (.func f) #[] #[]]] := by
 have M := Mem.start [] w
 have hmf : ∀ (fn : Fn) (first cap : Array Value) (w : World), (Instr.makeFunc fn first cap).run Tryz.prog w = .ok (.func fn first cap) w := fun _ _ _ _ => rfl
 go_enter Tryz.func129, Tryz.ntmps129
 go_wp2_with ((first | ((with_reducible refine tBox (some 1) ?_); refine w_box M _ _ rfl rfl _ rfl ([.func (.func f) #[] #[]]) rfl ?_; clear M; intro g1 w1 M) | ((with_reducible refine tAlloc (some 2) 175 ?_); refine wal M _ rfl rfl ([.nilFunc, .nilFunc]) yD ?_; clear M; intro gr w1 M) | ((with_reducible refine tM rfl ?_); refine mB ?_; try (clear M; (first | intro g w1 M | intro w1 M); try simp only [setC] at M)) | ((with_reducible refine tGuard ?_); refine gdC ?_ ?_ <;> (intro hgd; rw [hgd]; try (exfalso; simp at hgd; omega)))) <;> (try conv => arg 5; simp only [apS, setC]))
 exact bodyPost_ret (qAS rfl _ _ gr 0 [.func (.func 166) #[] #[.pointer (some ⟨g1, 0, none⟩)], .func (.func 167) #[] #[.pointer (some ⟨g1, 0, none⟩)]] _ rfl (M.ok 0 _ rfl).2.1 Tryz.underlying175 rfl yD) rfl ⟨g1, rfl, M.tail⟩
theorem at1F_c (g : Nat) (w : World) : Calls Tryz.prog 123 #[.pointer (some ⟨g, 0, none⟩)] w fun e w' => e = .returned (.pointer (some ⟨g, 1, none⟩)) ∧ w = w' := by
 go_enter Tryz.func123, Tryz.ntmps123
 go_wp2_with fail
 go_ret
 exact ⟨rfl, rfl⟩
theorem at2F_c (g : Nat) (w : World) : Calls Tryz.prog 124 #[.pointer (some ⟨g, 0, none⟩)] w fun e w' => e = .returned (.pointer (some ⟨g, 2, none⟩)) ∧ w = w' := by
 go_enter Tryz.func124, Tryz.ntmps124
 go_wp2_with fail
 go_ret
 exact ⟨rfl, rfl⟩
theorem at3F_c (g : Nat) (w : World) : Calls Tryz.prog 125 #[.pointer (some ⟨g, 0, none⟩)] w fun e w' => e = .returned (.pointer (some ⟨g, 3, none⟩)) ∧ w = w' := by
 go_enter Tryz.func125, Tryz.ntmps125
 go_wp2_with fail
 go_ret
 exact ⟨rfl, rfl⟩
theorem at4F_c (g : Nat) (w : World) : Calls Tryz.prog 126 #[.pointer (some ⟨g, 0, none⟩)] w fun e w' => e = .returned (.pointer (some ⟨g, 7, none⟩)) ∧ w = w' := by
 go_enter Tryz.func126, Tryz.ntmps126
 go_wp2_with fail
 go_ret
 exact ⟨rfl, rfl⟩
theorem at5F_c (g : Nat) (w : World) : Calls Tryz.prog 127 #[.pointer (some ⟨g, 0, none⟩)] w fun e w' => e = .returned (.pointer (some ⟨g, 40, none⟩)) ∧ w = w' := by
 go_enter Tryz.func127, Tryz.ntmps127
 go_wp2_with fail
 go_ret
 exact ⟨rfl, rfl⟩
theorem at6F_c (g : Nat) (w : World) : Calls Tryz.prog 128 #[.pointer (some ⟨g, 0, none⟩)] w fun e w' => e = .returned (.pointer (some ⟨g, 41, none⟩)) ∧ w = w' := by
 go_enter Tryz.func128, Tryz.ntmps128
 go_wp2_with fail
 go_ret
 exact ⟨rfl, rfl⟩
theorem at7F_c (g : Nat) (w : World) : Calls Tryz.prog 130 #[.pointer (some ⟨g, 0, none⟩)] w fun e w' => e = .returned (.pointer (some ⟨g, 8, none⟩)) ∧ w = w' := by
 go_enter Tryz.func130, Tryz.ntmps130
 go_wp2_with fail
 go_ret
 exact ⟨rfl, rfl⟩
theorem at8F_c (g : Nat) (w : World) : Calls Tryz.prog 131 #[.pointer (some ⟨g, 0, none⟩)] w fun e w' => e = .returned (.pointer (some ⟨g, 42, none⟩)) ∧ w = w' := by
 go_enter Tryz.func131, Tryz.ntmps131
 go_wp2_with fail
 go_ret
 exact ⟨rfl, rfl⟩
theorem at9F_c (g : Nat) (w : World) : Calls Tryz.prog 132 #[.pointer (some ⟨g, 0, none⟩)] w fun e w' => e = .returned (.pointer (some ⟨g, 74, none⟩)) ∧ w = w' := by
 go_enter Tryz.func132, Tryz.ntmps132
 go_wp2_with fail
 go_ret
 exact ⟨rfl, rfl⟩
def mfFn : Mf → Nat
 | .e => 123 | .a => 124 | .o => 125 | .p => 126 | .v => 127 | .i => 128
theorem numPut_c (q : Mf) (most : Int) (gm g1 g2 go : Nat) (m : Ms) (v : Value) (l : List UInt8) (w : World) (hm : m.fit) (hn : 0 ≤ q.get m ∧ q.get m ≤ 9223372036854775807) (hl : l.length ≤ 1000000) (ho : (outC go v l).ok w)
  (R : (Chunk.row gm (msgC m)).ok w) (B1 : (Chunk.row g1 [.int .i64 most]).ok w) (B2 : (Chunk.row g2 [.func (.func (mfFn q)) #[] #[]]).ok w) (n0 : gm ∉ (outC go v l).fp) (n1 : g1 ∉ (outC go v l).fp) (n2 : g2 ∉ (outC go v l).fp) :
  Calls Tryz.prog 164 #[.pointer (some ⟨go, 0, none⟩), .pointer (some ⟨gm, 0, none⟩), .pointer (some ⟨g2, 0, none⟩), .pointer (some ⟨g1, 0, none⟩)] w fun e w' => e = .returned (.bool (decide (q.get m ≤ most))) ∧ ∃ v', Upd w (outC go v l) w' (outC go v' (l ++ numL (q.get m).toNat)) := by
 have M := Mem.start1 ho
 have HQ := msgC_num hm q
 obtain ⟨z, ez⟩ : ∃ z, z = q.get m := ⟨_, rfl⟩
 rw [← ez] at HQ hn ⊢
 clear ez
 obtain ⟨z, rfl⟩ : ∃ n : Nat, z = n := ⟨z.toNat, by omega⟩
 have e1 := qBG z yF
 replace HQ := Lib.hid HQ
 cases q
 all_goals
  simp only [mfFn] at B2
  go_enter Tryz.func164, Tryz.ntmps164
  go_wp2_with ((first | ((with_reducible refine tLoad ?_); (refine w_at _ _ rfl yI ?_; intro hx; (first | refine qBk M B2 n2 _ _ rfl hx rfl yB rfl ?_ | refine qBk M B1 n1 _ _ rfl hx rfl yB rfl ?_ | refine qBk M R n0 _ _ rfl hx rfl yB HQ.out ?_); clear hx)) | ((first | (go_at_call 123; refine (at1F_c _ _).mono ?_) | (go_at_call 124; refine (at2F_c _ _).mono ?_) | (go_at_call 125; refine (at3F_c _ _).mono ?_) | (go_at_call 126; refine (at4F_c _ _).mono ?_) | (go_at_call 127; refine (at5F_c _ _).mono ?_) | (go_at_call 128; refine (at6F_c _ _).mono ?_)); rintro e w1 ⟨rfl, rfl⟩) | (go_at_call 113; (refine (Num_c _ _ l z (z : Int) rfl _ yF yF (M.ok 0 _ rfl)).mono ?_; rintro r w2 ⟨rfl, v1, U⟩; replace M := M.upd 0 rfl U; clear U; simp only [setC] at M)) | ((with_reducible refine tM rfl ?_); refine mS ?_; try (clear M; (first | intro g w1 M | intro w1 M); try simp only [setC] at M))) <;> (try conv => arg 5; simp only [apS, setC]))
  go_ret
  exact ⟨rfl, _, M.upd1 0 rfl⟩
end Go.Proofs.YtidadhbaomieiaaGreat

namespace Go
namespace TL
open Go.RowKit
theorem mem_fps {K : List Chunk} {i : Nat} {c : Chunk} (h : K[i]? = some c) {k : Nat} (hk : k ∈ c.fp) : k ∈ K.flatMap Chunk.fp := List.mem_flatMap.2 ⟨c, List.mem_of_getElem? h, hk⟩
theorem Mem.again {F : List Nat} {w0 w : World} {K L : List Chunk} (M : Mem F w0 w (K ++ L)) : Mem (K.flatMap Chunk.fp) w w K := by
 have e : ∀ {i : Nat} {c : Chunk}, K[i]? = some c → (K ++ L)[i]? = some c := fun {i c} h => by rw [List.getElem?_append_left (List.getElem?_eq_some_iff.1 h).1]; exact h
 exact ⟨Kept.refl _ _, fun i c h => M.ok i c (e h), fun i c h k hk => .inl (mem_fps h hk), fun i j c d hij hi hj => M.nd i j c d hij (e hi) (e hj)⟩
theorem Mem.turn {F : List Nat} {w0 w w' : World} {K K' L : List Chunk} (M : Mem F w0 w (K ++ L)) (U : Mem (K.flatMap Chunk.fp) w w' K') : Mem F w0 w' (K' ++ L) := by
 have el : ∀ {i : Nat} {c : Chunk}, K[i]? = some c → (K ++ L)[i]? = some c := fun {i c} h => by rw [List.getElem?_append_left (List.getElem?_eq_some_iff.1 h).1]; exact h
 have er : ∀ {i : Nat} {c : Chunk}, L[i]? = some c → (K ++ L)[K.length + i]? = some c := fun {i c} h => by rw [List.getElem?_append_right yF, Nat.add_sub_cancel_left]; exact h
 have fpK : ∀ k, k ∈ K.flatMap Chunk.fp → ∃ (i : Nat) (c : Chunk), K[i]? = some c ∧ k ∈ c.fp := fun k hk => by
  obtain ⟨c, hc, hk⟩ := List.mem_flatMap.1 hk
  obtain ⟨i, hi⟩ := List.mem_iff_getElem?.1 hc
  exact ⟨i, c, hi, hk⟩
 have apart : ∀ {i : Nat} {d : Chunk}, L[i]? = some d → ∀ k ∈ d.fp, k ∉ K.flatMap Chunk.fp := fun {i d} hd k hk hK => by
  obtain ⟨j, c, hj, hk'⟩ := fpK k hK
  have hjl := (List.getElem?_eq_some_iff.1 hj).1
  exact M.nd (K.length + i) j d c yF (er hd) (el hj) k hk hk'
 have okL : ∀ {i : Nat} {d : Chunk}, L[i]? = some d → d.ok w' := fun {i d} hd => (M.ok _ d (er hd)).stay U.kept.size fun k hk => U.kept.block k ((M.ok _ d (er hd)).lt k hk) (apart hd k hk)
 have split : ∀ {i : Nat} {c : Chunk}, (K' ++ L)[i]? = some c → K'[i]? = some c ∨ (K'.length ≤ i ∧ L[i - K'.length]? = some c) := fun {i c} h => by
  by_cases hi : i < K'.length
  ·rw [List.getElem?_append_left hi] at h; exact .inl h
  ·rw [List.getElem?_append_right yF] at h; exact .inr ⟨by omega, h⟩
 have ownK : ∀ {i : Nat} {c : Chunk}, K'[i]? = some c → ∀ k ∈ c.fp, k ∈ K.flatMap Chunk.fp ∨ w.heap.size ≤ k := fun {i c} h => U.own i c h
 have xap : ∀ {i j : Nat} {c d : Chunk}, K'[i]? = some c → L[j]? = some d → ∀ k ∈ c.fp, k ∉ d.fp := fun {i j c d} hi hj k hk hk2 => by
  rcases ownK hi k hk with h | h
  ·exact apart hj k hk2 h
  ·have := (M.ok _ d (er hj)).lt k hk2; omega
 refine ⟨M.kept.trans U.kept fun x hx => ?_, ?_, ?_, ?_⟩
 ·obtain ⟨i, c, hi, hk⟩ := fpK x hx
  exact M.own i c (el hi) x hk
 ·intro i c h
  rcases split h with h | ⟨_, h⟩
  ·exact U.ok i c h
  ·exact okL h
 ·intro i c h k hk
  rcases split h with h | ⟨_, h⟩
  ·rcases ownK h k hk with h' | h'
   ·obtain ⟨j, d, hj, hkd⟩ := fpK k h'
    exact M.own j d (el hj) k hkd
   ·exact .inr (Nat.le_trans M.kept.size h')
  ·exact M.own _ c (er h) k hk
 ·intro i j c d hij hi hj k hk hk2
  rcases split hi with hi | ⟨li, hi⟩ <;> rcases split hj with hj | ⟨lj, hj⟩
  ·exact U.nd i j c d hij hi hj k hk hk2
  ·exact xap hi hj k hk hk2
  ·exact xap hj hi k hk2 hk
  ·exact M.nd _ _ c d yF (er hi) (er hj) k hk hk2
end TL
end Go

namespace Go.Proofs.YtidadhbaomieiaaGreat
open Go.RowKit Go.TL
theorem numGet_c (q : Mf) (N : Nat) (gm g1 g2 gi : Nat) (m : Ms) (x : InS) (F : List Nat) (w : World) (hm : m.fit) (hf : x.fit) (hN : N < 9223372036854775808) (M : Mem F w w [.row gi (inV x), .row gm (msgC m)])
  (B1 : (Chunk.row g1 [.int .i64 (N : Int)]).ok w) (B2 : (Chunk.row g2 [.func (.func (mfFn q)) #[] #[]]).ok w) (n1 : g1 ∉ F) (n2 : g2 ∉ F) :
  Calls Tryz.prog 165 #[.pointer (some ⟨gi, 0, none⟩), .pointer (some ⟨gm, 0, none⟩), .pointer (some ⟨g1, 0, none⟩), .pointer (some ⟨g2, 0, none⟩)] w fun e w' => e = .returned (.int .i64 0) ∧ Mem F w w' [.row gi (inV (x.most N).2), .row gm (msgC (q.set m ((x.most N).1 : Int)))] := by
 have TC := fun g (w : World) h => qFy g x w h hf N (N : Int) rfl yF
 replace TC := Lib.hid TC
 cases q
 all_goals
  simp only [mfFn] at B2
  go_enter Tryz.func165, Tryz.ntmps165
  go_wp2_with ((first | ((with_reducible show Code.wp _ (Code.region 1 _ _) _ _ _); (have MR := M; refine qAB [(1, false), (3, false), (0, false), (4, false), (2, true), (5, true), (6, false), (7, true)] [(9, .ptr)] [(0, _), (4, _)] (IxOk MR []) 7 yD yD rfl yD (qAa (qCO MR B2 n2 0 rfl yB rfl) (qAa (qCO MR B1 n1 0 rfl yB rfl) qAN)) (qAJ MR _) ?_; replace M := M.drew; simp only [planC, opAt, gE])) | ((with_reducible refine tLoad ?_); (refine w_at _ _ rfl yI ?_; intro hx; (first | refine qBk M B2 n2 _ _ rfl hx rfl yB rfl ?_ | refine qBk M B1 n1 _ _ rfl hx rfl yB rfl ?_); clear hx)) | ((first | (go_at_call 123; refine (at1F_c _ _).mono ?_) | (go_at_call 124; refine (at2F_c _ _).mono ?_) | (go_at_call 125; refine (at3F_c _ _).mono ?_) | (go_at_call 126; refine (at4F_c _ _).mono ?_) | (go_at_call 127; refine (at5F_c _ _).mono ?_) | (go_at_call 128; refine (at6F_c _ _).mono ?_)); rintro e w1 ⟨rfl, rfl⟩) | (go_at_call 58; (refine (TC.out _ _ (M.ok 0 _ rfl)).mono ?_; rintro r w2 ⟨rfl, U⟩; replace M := M.upd 0 rfl U; clear U; simp only [setC] at M)) | ((with_reducible refine tStore ?_); (refine w_at2 _ _ _ rfl yI yE ?_; intro hx hy; (first | refine qAE M 1 _ _ _ rfl rfl hx rfl hy yB hm .e rfl ?_ | refine qAE M 1 _ _ _ rfl rfl hx rfl hy yB hm .a rfl ?_ | refine qAE M 1 _ _ _ rfl rfl hx rfl hy yB hm .o rfl ?_ | refine qAE M 1 _ _ _ rfl rfl hx rfl hy yB hm .p rfl ?_ | refine qAE M 1 _ _ _ rfl rfl hx rfl hy yB hm .v rfl ?_ | refine qAE M 1 _ _ _ rfl rfl hx rfl hy yB hm .i rfl ?_); clear hx hy M; intro w1 M; (try simp only [setC] at M))) | ((with_reducible refine tM rfl ?_); refine mS ?_; try (clear M; (first | intro g w1 M | intro w1 M); try simp only [setC] at M)) | ((with_reducible first | show Seg _ _ _ _ | show OnlyN _ _ _ _ _); refine rA ?_)) <;> (try conv => arg 5; simp only [apS, setC]))
  go_ret
  exact ⟨rfl, M⟩
end Go.Proofs.YtidadhbaomieiaaGreat

namespace Go
namespace TL
theorem qEA (s : List UInt8) (m : Nat) : (readN s m).2.1 ≤ s.length ∧ (readN s m).2.1 ≤ 10 ∧ (readN s m).1 ≤ m := qCh (s := s) (most := m) rfl
def inStart (s : List UInt8) : InS := ⟨s, 0, 0⟩
/-! ### The reader stays within its bounds -/
theorem InS.take_fit {x : InS} {k e : Nat} (h : x.fit) (hk : k ≤ x.rest.length) : (x.take k e).fit := by
 unfold InS.take InS.fit at *
 split
 ·simp only [List.length_drop]; omega
 ·exact h
theorem InS.most_fit {x : InS} (h : x.fit) (m : Nat) : (x.most m).2.fit := by
 unfold InS.most
 split
 ·exact InS.take_fit h (qCh (s := x.rest) (most := m) rfl).1
 ·exact h
theorem InS.text_fit {x : InS} (h : x.fit) (m : Nat) : (x.text m).2.fit := by
 unfold InS.text
 split
 ·split
  ·split
   ·have := (qEA x.rest m).1
    exact InS.take_fit h yF
   ·exact InS.take_fit h (Nat.zero_le _)
  ·exact InS.take_fit h (Nat.zero_le _)
 ·exact h
theorem InS.byte_fit {x : InS} (h : x.fit) : x.byte.2.fit := by
 unfold InS.byte
 split
 ·split
  ·exact InS.take_fit h (Nat.zero_le _)
  ·rename_i b l e; exact InS.take_fit h (by rw [e]; simp)
 ·exact h
theorem InS.most_le (x : InS) (m : Nat) : (x.most m).1 ≤ m := by
 unfold InS.most
 split
 ·exact (qCh (s := x.rest) (most := m) rfl).2.2
 ·exact Nat.zero_le _
theorem InS.text_len (x : InS) (m : Nat) : (x.text m).1.length ≤ m := by
 unfold InS.text
 split
 ·split
  ·split
   ·have := (qEA x.rest m).2.2
    simp; omega
   ·simp
  ·simp
 ·simp
theorem InS.text_err {x : InS} (h : x.err ≠ 0) (m : Nat) : x.text m = ([], x) := by unfold InS.text; rw [if_neg h]
theorem InS.most_err {x : InS} (h : x.err ≠ 0) (m : Nat) : x.most m = (0, x) := by unfold InS.most; rw [if_neg h]
theorem fin_err {x : InS} (h : x.err ≠ 0) : x.fin = x.err := by unfold InS.fin; rw [if_neg h]
end TL
end Go

namespace Go
namespace TL
def hashS (h0 : List UInt8) (x0 : InS) : Nat → InS × List UInt8
 | 0 => (x0, h0)
 | n + 1 => ((hashS h0 x0 n).1.byte.2, (hashS h0 x0 n).2.set n (UInt8.ofNat (hashS h0 x0 n).1.byte.1))
theorem qCV (h0 : List UInt8) (x0 : InS) (n : Nat) : hashS h0 x0 (n + 1) = ((hashS h0 x0 n).1.byte.2, (hashS h0 x0 n).2.set n (UInt8.ofNat (hashS h0 x0 n).1.byte.1)) := rfl
theorem qCG {h0 : List UInt8} (h : h0.length = 32) (x0 : InS) : ∀ n, (hashS h0 x0 n).2.length = 32
 | 0 => h
 | n + 1 => by rw [qCV, List.length_set]; exact qCG h x0 n
theorem qFo (h0 : List UInt8) {x0 : InS} (h : x0.fit) : ∀ n, (hashS h0 x0 n).1.fit
 | 0 => h
 | n + 1 => InS.byte_fit (qFo h0 h n)
theorem Hf.get_set {m : Ms} (x : List UInt8) (f : Hf) : f.get (f.set m x) = x := by cases f <;> rfl
theorem Hf.set_set {m : Ms} (x y : List UInt8) (f : Hf) : f.set (f.set m x) y = f.set m y := by cases f <;> rfl
theorem qDF (x : InS) : ∃ q : UInt8, x.byte.1 = q.toNat := by
 unfold InS.byte
 split
 ·split
  ·exact ⟨0, rfl⟩
  ·rename_i b _ _; exact ⟨b, rfl⟩
 ·exact ⟨0, rfl⟩
end TL
end Go
namespace Go.Proofs.YtidadhbaomieiaaGreat
open Go.RowKit Go.TL
def hfFn : Hf → Nat
 | .r => 130 | .lf => 131 | .rt => 132
theorem hashPut_c (q : Hf) (gm g1 go : Nat) (m : Ms) (v : Value) (l : List UInt8) (w : World) (hm : m.fit) (hl : l.length ≤ 900000) (ho : (outC go v l).ok w)
  (R : (Chunk.row gm (msgC m)).ok w) (B1 : (Chunk.row g1 [.func (.func (hfFn q)) #[] #[]]).ok w) (n0 : gm ∉ (outC go v l).fp) (n1 : g1 ∉ (outC go v l).fp) :
  Calls Tryz.prog 166 #[.pointer (some ⟨go, 0, none⟩), .pointer (some ⟨gm, 0, none⟩), .pointer (some ⟨g1, 0, none⟩)] w fun e w' => e = .returned (.bool true) ∧ ∃ v', Upd w (outC go v l) w' (outC go v' (l ++ q.get m)) := by
 have M := Mem.start1 ho
 have HG := qDO m q
 have HP := q.pre_len hm
 have hlen := q.len hm
 obtain ⟨x, ex⟩ : ∃ x, x = q.get m := ⟨_, rfl⟩
 rw [← ex] at HG hlen ⊢
 clear ex
 replace HG := Lib.hid HG
 replace HP := Lib.hid HP
 cases q
 all_goals
  simp only [hfFn] at B1
  go_enter Tryz.func166, Tryz.ntmps166
  go_wp2_with ((first | ((with_reducible refine tLoad ?_); (refine w_at _ _ rfl yI ?_; intro hx; (first | refine qBk M B1 n1 _ _ rfl hx rfl yB rfl ?_ | refine w_rowFA M R n0 _ _ rfl hx rfl yB _ _ _ HG.out HP.out (by rw [qAP, hlen]; kernel_rfl) ?_); clear hx)) | ((first | (go_at_call 130; refine (at7F_c _ _).mono ?_) | (go_at_call 131; refine (at8F_c _ _).mono ?_) | (go_at_call 132; refine (at9F_c _ _).mono ?_)); rintro e w1 ⟨rfl, rfl⟩) | ((with_reducible refine tM rfl ?_); refine mS ?_; try (clear M; (first | intro g w1 M | intro w1 M); try simp only [setC] at M))) <;> (try conv => arg 5; simp only [apS, setC]))
  go_loopw [13] (fun iv wr => ∃ (j : Nat) (v1 : Value), j ≤ 32 ∧ iv = .int .i64 j ∧ Mem (outC go v l).fp w wr [outC go v1 (l ++ x.take j)]) (fun iv _ => 32 - (intOf iv).toNat)
  case atStart => exact ⟨0, v, by omega, rfl, by simpa using M⟩
  case round =>
   clear M
   obtain ⟨j, v1, hj, rfl, M⟩ := hrel
   by_cases hlt : j < 32
   ·have hix : ∀ w'', (Instr.index 64 (.agg (bs x).toArray) (.int .i64 j)).run Tryz.prog w'' = .ok (.int .u8 (I8 (x.getD j 0))) w'' := fun w'' => qDu _ _ 32 _ Tryz.underlying64 _ Tryz.underlying5 rfl yD j hlt _ (by rw [List.getElem?_toArray]; exact getD_some yF) w''
    have EJ : l ++ x.take (j + 1) = l ++ x.take j ++ [x.getD j 0] := by
     rw [List.append_assoc, List.take_succ_eq_append_getElem yF, List.getD_eq_getElem?_getD, List.getElem?_eq_getElem yF]; rfl
    have hq : (l ++ x.take j).length ≤ 1000000 := by rw [List.length_append, List.length_take]; omega
    obtain ⟨b, eb⟩ : ∃ b, b = x.getD j 0 := ⟨_, rfl⟩
    rw [← eb] at hix EJ
    obtain ⟨y, ey⟩ : ∃ y, y = l ++ x.take j := ⟨_, rfl⟩
    rw [← ey] at M EJ hq
    replace EJ := Lib.hid EJ
    clear eb ey
    go_wp2_with ((first | (go_at_call 91; (refine (qDU _ _ y b _ yF (M.ok 0 _ rfl)).mono ?_; rintro r w2 ⟨rfl, v2, U⟩; replace M := M.upd 0 rfl U; clear U; simp only [setC] at M)) | ((with_reducible refine tM rfl ?_); refine mS ?_; try (clear M; (first | intro g w1 M | intro w1 M); try simp only [setC] at M))) <;> (try conv => arg 5; simp only [apS, setC]))
    go_roundw
    case rel => exact ⟨j + 1, _, by omega, by go_num, by rw [EJ.out]; exact M⟩
    case measure => simp [intOf]; omega
   ·obtain rfl : j = 32 := by omega
    rw [List.take_of_length_le yF] at M
    go_wp2_with fail
    go_ret
    exact ⟨rfl, _, M.upd1 0 rfl⟩
theorem hashGet_c (q : Hf) (gm g1 gi : Nat) (m : Ms) (x : InS) (F : List Nat) (w : World) (hm : m.fit) (hf : x.fit) (M : Mem F w w [.row gi (inV x), .row gm (msgC m)])
  (B1 : (Chunk.row g1 [.func (.func (hfFn q)) #[] #[]]).ok w) (n1 : g1 ∉ F) :
  Calls Tryz.prog 167 #[.pointer (some ⟨gi, 0, none⟩), .pointer (some ⟨gm, 0, none⟩), .pointer (some ⟨g1, 0, none⟩)] w fun e w' => e = .returned (.int .i64 0) ∧ Mem F w w' [.row gi (inV (hashS (q.get m) x 32).1), .row gm (msgC (q.set m (hashS (q.get m) x 32).2))] := by
 have h0 := q.len hm
 obtain ⟨S, eS⟩ : ∃ S, S = hashS (q.get m) x := ⟨_, rfl⟩
 have s0 : (S 0).1 = x := by rw [eS]; rfl
 have sf : ∀ n, (S n).1.fit := fun n => by rw [eS]; exact qFo _ hf n
 have sn : ∀ n, (S (n + 1)).1 = (S n).1.byte.2 := fun n => by rw [eS]; rfl
 obtain ⟨T, eT⟩ : ∃ T : Nat → Ms, T = fun n => q.set m (S n).2 := ⟨_, rfl⟩
 have t0 : T 0 = m := by rw [eT, eS]; exact q.set_get
 have tf : ∀ n, (T n).fit := fun n => by rw [eT, eS]; exact q.set_fit hm (qCG h0 x n)
 have tn : ∀ n (b : UInt8), (S n).1.byte.1 = b.toNat → q.set (T n) ((q.get (T n)).set n b) = T (n + 1) := fun n b hb => by
  rw [eT]
  simp only
  rw [Hf.get_set, Hf.set_set, eS, qCV, ← eS, hb, UInt8.ofNat_toNat]
 have EX : q.set m (S 32).2 = T 32 := by rw [eT]
 rw [← eS, EX]
 rw [← s0, ← t0] at M
 clear eS eT EX s0 t0 hf hm h0
 replace sf := Lib.hid sf
 replace sn := Lib.hid sn
 replace tf := Lib.hid tf
 replace tn := Lib.hid tn
 cases q
 all_goals
  simp only [hfFn] at B1
  go_enter Tryz.func167, Tryz.ntmps167
  go_wp2_with ((first | ((with_reducible refine tLoad ?_); (refine w_at _ _ rfl yI ?_; intro hx; (first | refine qBk M B1 n1 _ _ rfl hx rfl yB rfl ?_); clear hx)) | ((first | (go_at_call 130; refine (at7F_c _ _).mono ?_) | (go_at_call 131; refine (at8F_c _ _).mono ?_) | (go_at_call 132; refine (at9F_c _ _).mono ?_)); rintro e w1 ⟨rfl, rfl⟩) | ((with_reducible refine tM rfl ?_); refine mS ?_; try (clear M; (first | intro g w1 M | intro w1 M); try simp only [setC] at M))) <;> (try conv => arg 5; simp only [apS, setC]))
  go_loopw [11] (fun iv wr => ∃ j : Nat, j ≤ 32 ∧ iv = .int .i64 j ∧ Mem F w wr [.row gi (inV (S j).1), .row gm (msgC (T j))]) (fun iv _ => 32 - (intOf iv).toNat)
  case atStart => exact ⟨0, by omega, rfl, M⟩
  case round =>
   clear M
   obtain ⟨j, hj, rfl, M⟩ := hrel
   by_cases hlt : j < 32
   ·obtain ⟨b, hb⟩ := qDF (S j).1
    have TN := tn.out j b hb
    have hfit := tf.out j
    have YC := fun g (w : World) h => qEO g (S j).1 w h (sf.out j)
    rw [hb, ← I8_eq, ← sn.out j] at YC
    obtain ⟨y, ey⟩ : ∃ y, y = (S j).1 := ⟨_, rfl⟩
    obtain ⟨z, ez⟩ : ∃ z, z = (S (j + 1)).1 := ⟨_, rfl⟩
    obtain ⟨mj, emj⟩ : ∃ mj, mj = T j := ⟨_, rfl⟩
    rw [← ey] at M YC
    rw [← ez] at YC
    rw [← emj] at M hfit TN
    have EZ := Lib.hid fun _ : Unit => ez
    replace TN := Lib.hid TN
    replace YC := Lib.hid YC
    clear ey ez emj hb
    go_wp2_with ((first | ((with_reducible show Code.wp _ (Code.region 5 _ _) _ _ _); (refine qAF [(0, false), (1, false), (2, false), (4, false), (3, true), (5, false), (6, true)] [(14, .ptr)] yD yD rfl yD ?_; replace M := M.drew; simp only [reord, opAt, List.map_cons, List.map_nil, gE])) | (go_at_call 61; (refine (YC.out _ _ (M.ok 0 _ rfl)).mono ?_; rintro r w2 ⟨rfl, U⟩; replace M := M.upd 0 rfl U; clear U; simp only [setC] at M)) | ((with_reducible refine tStore ?_); (refine w_at2 _ _ _ rfl yI yE ?_; intro hx hy; (first | refine qFF M 1 _ _ _ rfl rfl hx rfl hy yB hfit .r j rfl hlt ?_ | refine qFF M 1 _ _ _ rfl rfl hx rfl hy yB hfit .lf j rfl hlt ?_ | refine qFF M 1 _ _ _ rfl rfl hx rfl hy yB hfit .rt j rfl hlt ?_); clear hx hy M; intro w1 M; (try simp only [setC] at M))) | ((with_reducible refine tM rfl ?_); refine mS ?_; try (clear M; (first | intro g w1 M | intro w1 M); try simp only [setC] at M)) | ((with_reducible first | show Seg _ _ _ _ | show OnlyN _ _ _ _ _); refine rA ?_)) <;> (try conv => arg 5; simp only [apS, setC]))
    go_roundw
    case rel => exact ⟨j + 1, by omega, by go_num, by rw [← EZ.out (), ← TN.out]; exact M⟩
    case measure => simp [intOf]; omega
   ·obtain rfl : j = 32 := by omega
    go_wp2_with fail
    go_ret
    exact ⟨rfl, M⟩
end Go.Proofs.YtidadhbaomieiaaGreat

namespace Go
namespace TL
open Go.RowKit
structure Lm where
 k : UInt8
 e : Int
 a : Int
 o : Int
 bi : Int
 be : Int
 ops : List Opr
 p : Int
 r : List UInt8
 v : Int
 i : Int
 lf : List UInt8
 rt : List UInt8
 prs : List (List UInt8 × List UInt8)
 deriving DecidableEq
def Lm.ms (L : Lm) (ov pv : Value) : Ms := ⟨L.k, L.e, L.a, L.o, L.bi, L.be, ov, L.p, L.r, L.v, L.i, L.lf, L.rt, pv⟩
def Lm.fit (L : Lm) : Prop := L.r.length = 32 ∧ L.lf.length = 32 ∧ L.rt.length = 32
def zeroL : Lm := ⟨0, 0, 0, 0, 0, 0, [], 0, zeroH, 0, 0, zeroH, zeroH, []⟩
theorem zeroL_fit : zeroL.fit := ⟨qAi, qAi, qAi⟩
def kindL (k : UInt8) : Lm := ⟨k, 0, 0, 0, 0, 0, [], 0, zeroH, 0, 0, zeroH, zeroH, []⟩
theorem qFl (k : UInt8) : (kindL k).fit := ⟨qAi, qAi, qAi⟩
def kindM (k : UInt8) : Ms := ⟨k, 0, 0, 0, 0, 0, .slice none 0 0, 0, zeroH, 0, 0, zeroH, zeroH, .slice none 0 0⟩
theorem qFk (k : UInt8) : (kindM k).fit := ⟨qAi, qAi, qAi, rfl, rfl⟩
theorem Lm.ms_fit {L : Lm} (h : L.fit) {ov pv : Value} (ho : ov.oneCell' = true) (hp : pv.oneCell' = true) : (L.ms ov pv).fit := ⟨h.1, h.2.1, h.2.2, ho, hp⟩
def Mf.gl (L : Lm) : Mf → Int
 | .e => L.e | .a => L.a | .o => L.o | .p => L.p | .v => L.v | .i => L.i
def Mf.sl (L : Lm) (x : Int) : Mf → Lm
 | .e => { L with e := x } | .a => { L with a := x } | .o => { L with o := x } | .p => { L with p := x } | .v => { L with v := x } | .i => { L with i := x }
def Hf.gl (L : Lm) : Hf → List UInt8
 | .r => L.r | .lf => L.lf | .rt => L.rt
def Hf.sl (L : Lm) (x : List UInt8) : Hf → Lm
 | .r => { L with r := x } | .lf => { L with lf := x } | .rt => { L with rt := x }
theorem Mf.get_ms (L : Lm) (ov pv : Value) (q : Mf) : q.get (L.ms ov pv) = q.gl L := by cases q <;> rfl
theorem Mf.set_ms (L : Lm) (ov pv : Value) (x : Int) (q : Mf) : q.set (L.ms ov pv) x = (q.sl L x).ms ov pv := by cases q <;> rfl
theorem Hf.get_ms (L : Lm) (ov pv : Value) (q : Hf) : q.get (L.ms ov pv) = q.gl L := by cases q <;> rfl
theorem Hf.set_ms (L : Lm) (ov pv : Value) (x : List UInt8) (q : Hf) : q.set (L.ms ov pv) x = (q.sl L x).ms ov pv := by cases q <;> rfl
theorem Mf.sl_fit {L : Lm} (h : L.fit) (x : Int) (q : Mf) : (q.sl L x).fit := by cases q <;> exact h
theorem Hf.sl_fit {L : Lm} (h : L.fit) {x : List UInt8} (hx : x.length = 32) (q : Hf) : (q.sl L x).fit := by
 obtain ⟨h1, h2, h3⟩ := h
 cases q
 ·exact ⟨hx, h2, h3⟩
 ·exact ⟨h1, hx, h3⟩
 ·exact ⟨h1, h2, hx⟩
theorem Hf.gl_len {L : Lm} (h : L.fit) (q : Hf) : (q.gl L).length = 32 := by
 obtain ⟨h1, h2, h3⟩ := h
 cases q <;> assumption
def Mf.most : Mf → Nat
 | .e => 9223372036854775807 | .a => 9223372036854775807 | .o => 9223372036854775807 | .p => 9223372036854775807 | .v => 4 | .i => 15
theorem Mf.most_le (q : Mf) : q.most ≤ 9223372036854775807 := by cases q <;> decide
inductive Fld where
 | num (q : Mf)
 | hash (q : Hf)
 | bat
 | prs
def fdsL (k : UInt8) : List Fld :=
 if k = 1 then [.num .e] else if k = 2 then [.num .e, .num .p, .bat] else if k = 3 then [.num .e, .num .a, .num .o]
 else if k = 4 then [.num .e, .num .a, .num .o, .hash .r] else if k = 5 then [.num .e, .num .a, .num .v, .num .i]
 else if k = 6 then [.num .e, .num .a, .num .v, .num .i, .hash .lf, .hash .rt] else if k = 7 then [.num .e, .num .a, .num .i, .prs] else []
def isK (k : UInt8) : Bool := decide (1 ≤ k.toNat ∧ k.toNat ≤ 7)
theorem kinds {k : UInt8} (h : isK k = true) : k = 1 ∨ k = 2 ∨ k = 3 ∨ k = 4 ∨ k = 5 ∨ k = 6 ∨ k = 7 := by
 unfold isK at h
 have h := of_decide_eq_true h
 have hk : k = UInt8.ofNat k.toNat := UInt8.ofNat_toNat.symm
 have : k.toNat = 1 ∨ k.toNat = 2 ∨ k.toNat = 3 ∨ k.toNat = 4 ∨ k.toNat = 5 ∨ k.toNat = 6 ∨ k.toNat = 7 := by omega
 rcases this with e | e | e | e | e | e | e <;> (rw [e] at hk; subst hk; decide)
theorem fds_len (k : UInt8) : (fdsL k).length ≤ 6 := by
 unfold fdsL
 repeat' split
 all_goals decide
/-! ### Fields that are written -/
def prBm (x : List UInt8 × List UInt8) : List UInt8 := textL x.1 ++ textL x.2
def okP (x : List UInt8 × List UInt8) : Bool := decide (x.1.length ≤ 33) && decide (x.2.length ≤ 32)
def Fld.ok (L : Lm) : Fld → Bool
 | .num q => decide (0 ≤ q.gl L ∧ q.gl L ≤ q.most)
 | .hash _ => true
 | .bat => ((bytesB L.bi L.be L.ops).2 == 0) && decide ((bytesB L.bi L.be L.ops).1.length ≤ 512)
 | .prs => decide (L.prs.length ≤ 48) && L.prs.all okP
def Fld.put (L : Lm) : Fld → List UInt8
 | .num q => numL (q.gl L).toNat
 | .hash q => q.gl L
 | .bat => textL (bytesB L.bi L.be L.ops).1
 | .prs => numL L.prs.length ++ L.prs.flatMap prBm
/-! ### Fields that are read -/
def prS (x0 : InS) : Nat → List (List UInt8 × List UInt8) × InS
 | 0 => ([], x0)
 | n + 1 => ((prS x0 n).1 ++ [(((prS x0 n).2.text 33).1, (((prS x0 n).2.text 33).2.text 32).1)], (((prS x0 n).2.text 33).2.text 32).2)
theorem prS_zero (x0 : InS) : prS x0 0 = ([], x0) := rfl
theorem qDM (x0 : InS) (n : Nat) : prS x0 (n + 1) = ((prS x0 n).1 ++ [(((prS x0 n).2.text 33).1, (((prS x0 n).2.text 33).2.text 32).1)], (((prS x0 n).2.text 33).2.text 32).2) := rfl
theorem prS_len (x0 : InS) : ∀ n, (prS x0 n).1.length = n
 | 0 => rfl
 | n + 1 => by rw [qDM, List.length_append, prS_len x0 n]; rfl
theorem prS_fit {x0 : InS} (h : x0.fit) : ∀ n, (prS x0 n).2.fit
 | 0 => h
 | n + 1 => InS.text_fit (InS.text_fit (prS_fit h n) 33) 32
def Fld.get (L : Lm) (x : InS) : Fld → Nat × Lm × InS
 | .num q => (0, q.sl L ((x.most q.most).1 : Int), (x.most q.most).2)
 | .hash q => (0, q.sl L (hashS (q.gl L) x 32).2, (hashS (q.gl L) x 32).1)
 | .bat => if (x.text 512).2.err = 0 then ((readB (x.text 512).1).2, { L with bi := (readB (x.text 512).1).1.1, be := (readB (x.text 512).1).1.2.1, ops := (readB (x.text 512).1).1.2.2 }, (x.text 512).2)
  else ((x.text 512).2.err, L, (x.text 512).2)
 | .prs => (0, { L with prs := L.prs ++ (prS (x.most 48).2 (x.most 48).1).1 }, (prS (x.most 48).2 (x.most 48).1).2)
theorem Lm.fit_bat {L : Lm} (h : L.fit) (a b : Int) (c : List Opr) : Lm.fit { L with bi := a, be := b, ops := c } := h
theorem Lm.fit_prs {L : Lm} (h : L.fit) (c : List (List UInt8 × List UInt8)) : Lm.fit { L with prs := c } := h
theorem Fld.get_fit {L : Lm} {x : InS} (h : L.fit) (hx : x.fit) (f : Fld) : (f.get L x).2.1.fit ∧ (f.get L x).2.2.fit := by
 cases f with
 | num q => exact ⟨q.sl_fit h _, InS.most_fit hx _⟩
 | hash q =>
  have h1 := qCG (q.gl_len h) x 32
  have h2 := qFo (q.gl L) hx 32
  simp only [Fld.get]
  generalize hashS (q.gl L) x 32 = z at h1 h2 ⊢
  exact ⟨q.sl_fit h h1, h2⟩
 | bat =>
  have h1 := InS.text_fit hx 512
  simp only [Fld.get]
  generalize x.text 512 = z at h1 ⊢
  generalize readB z.1 = y
  split
  ·exact ⟨Lm.fit_bat h _ _ _, h1⟩
  ·exact ⟨h, h1⟩
 | prs =>
  have h1 := InS.most_fit hx 48
  simp only [Fld.get]
  generalize x.most 48 = z at h1 ⊢
  have h2 := prS_fit h1 z.1
  generalize prS z.2 z.1 = y at h2 ⊢
  exact ⟨Lm.fit_prs h _, h2⟩
def Fld.say (t : Nat × Lm × InS) : Nat := if t.2.2.err = 0 then t.1 else t.2.2.err
def runF : List Fld → Lm → InS → Nat × Lm × InS
 | [], L, x => (0, L, x)
 | f :: l, L, x => if Fld.say (f.get L x) = 0 then runF l (f.get L x).2.1 (f.get L x).2.2 else (Fld.say (f.get L x), f.get L x |>.2)
def readM (s : List UInt8) : Lm × Nat :=
 let y := (inStart s).byte
 if y.2.err = 0 then
  if isK (UInt8.ofNat y.1) = true then
   let t := runF (fdsL (UInt8.ofNat y.1)) (kindL (UInt8.ofNat y.1)) y.2
   if t.1 = 0 then (if t.2.2.fin = 0 then (t.2.1, 0) else (zeroL, t.2.2.fin)) else (zeroL, t.1)
  else (zeroL, 10)
 else (zeroL, y.2.err)
def bytesM (L : Lm) : List UInt8 × Nat :=
 if isK L.k = true then
  if (fdsL L.k).all (fun f => f.ok L) = true ∧ readM (L.k :: (fdsL L.k).flatMap (fun f => f.put L)) = (L, 0) then (L.k :: (fdsL L.k).flatMap (fun f => f.put L), 0)
  else ([], 1)
 else ([], 10)
end TL
end Go

namespace Go
namespace TL
theorem eqP_ne {l m : List (List UInt8 × List UInt8)} (k : Nat) (x y : List UInt8 × List UInt8) (h1 : l[k]? = some x) (h2 : m[k]? = some y) (h : x ≠ y) : (l == m) = false := by
 rw [beq_eq_false_iff_ne]; rintro rfl; rw [h1] at h2; cases h2; exact h rfl
theorem eqP_eq {l m : List (List UInt8 × List UInt8)} (h0 : l.length = m.length) (h : ∀ (k : Nat), k < l.length → l[k]? = m[k]?) : (l == m) = true := by
 rw [beq_iff_eq]
 apply List.ext_getElem?
 intro k
 by_cases hk : k < l.length
 ·exact h k hk
 ·rw [List.getElem?_eq_none yF, List.getElem?_eq_none yF]
theorem eqP_len {l m : List (List UInt8 × List UInt8)} (h : l.length ≠ m.length) : (l == m) = false := by
 rw [beq_eq_false_iff_ne]; rintro rfl; exact h rfl
theorem prV_ne {a b c d : List UInt8} (h : (a, b) ≠ (c, d)) : ¬ (a = c ∧ b = d) := by
 rintro ⟨rfl, rfl⟩; exact h rfl
end TL
end Go
namespace Go.Proofs.YtidadhbaomieiaaGreat
open Go.RowKit Go.TL
theorem EqualP_c (l m : List (List UInt8 × List UInt8)) (v u : Value) (w : World) (S : SeesL w 2 prV v l) (T : SeesL w 2 prV u m) (hl : l.length ≤ 1000000) (_hm : m.length ≤ 1000000) :
  Calls Tryz.prog 55 #[v, u] w fun e w' => e = .returned (.bool (l == m)) ∧ Below w.heap.size w w' := by
 obtain ⟨p, cap, rfl, hc⟩ := S.form
 obtain ⟨q, cap', rfl, hc'⟩ := T.form
 have hne := @eqP_ne l m
 have heq := @eqP_eq l m
 have hln := @eqP_len l m
 obtain ⟨R, eR⟩ : ∃ R, R = (l == m) := ⟨_, rfl⟩
 rw [← eR] at hne heq hln ⊢
 replace hne := Lib.hid hne
 replace heq := Lib.hid heq
 replace hln := Lib.hid hln
 clear eR
 have M := Mem.start [] w
 by_cases hn : l.length = m.length
 ·have hq : ((l.length : Int) != (m.length : Int)) = false := by simp; omega
  go_enter Tryz.func55, Tryz.ntmps55
  replace hn := Lib.hid hn
  go_wp2_with fail
  go_loopw [13] (fun iv wr => ∃ k : Nat, k ≤ l.length ∧ iv = .int .i64 k ∧ Hid (∀ (j : Nat), j < k → l[j]? = m[j]?) ∧ Mem [] w wr []) (fun iv _ => l.length - (intOf iv).toNat)
  case atStart => exact ⟨0, by omega, rfl, Lib.hid yF, M⟩
  case round =>
   clear M
   obtain ⟨k, hk, rfl, HK, M⟩ := hrel
   by_cases hlt : k < l.length
   ·obtain ⟨g, so, rfl⟩ := S.addr yF
    obtain ⟨g', so', rfl⟩ := T.addr (by have := hn.out; omega)
    have hkm : k < m.length := by have := hn.out; omega
    obtain ⟨⟨a, b⟩, hx⟩ : ∃ x, l[k]? = some x := ⟨_, List.getElem?_eq_getElem hlt⟩
    obtain ⟨⟨c, d⟩, hy⟩ : ∃ x, m[k]? = some x := ⟨_, List.getElem?_eq_getElem hkm⟩
    have HX := Lib.hid hx; clear hx
    have HY := Lib.hid hy; clear hy
    by_cases hab : (a, b) = (c, d)
    ·simp only [Prod.mk.injEq] at hab
     obtain ⟨rfl, rfl⟩ := hab
     go_wp2_with ((first | ((with_reducible refine tLoad ?_); refine w_at _ _ rfl yI ?_; intro hx; first | (refine qBD M S HX.out _ _ rfl hx rfl yB yG yD ?_; clear hx; (try conv => arg 5; simp only [Act.put, List.setIfInBounds_toArray, setC, qEB])) | (refine w_see M S HX.out _ _ rfl hx rfl yB 0 yG rfl ?_; clear hx) | (refine w_see M S HX.out _ _ rfl hx rfl yB 1 yG rfl ?_; clear hx) | (refine w_see M S HX.out _ _ rfl hx rfl yB 2 yG rfl ?_; clear hx) | (refine qBD M T HY.out _ _ rfl hx rfl yB yG yD ?_; clear hx; (try conv => arg 5; simp only [Act.put, List.setIfInBounds_toArray, setC, qEB])) | (refine w_see M T HY.out _ _ rfl hx rfl yB 0 yG rfl ?_; clear hx) | (refine w_see M T HY.out _ _ rfl hx rfl yB 1 yG rfl ?_; clear hx) | (refine w_see M T HY.out _ _ rfl hx rfl yB 2 yG rfl ?_; clear hx)) | ((with_reducible show Code.wp _ (Code.region 6 _ _) _ _ _); (refine qAF [(0, false), (1, false), (2, false), (4, false), (5, false), (6, false), (3, false), (7, false), (8, false)] [(19, .cells), (23, .cells)] yD yD rfl yD ?_; replace M := M.drew; simp only [reord, opAt, List.map_cons, List.map_nil, gE])) | ((with_reducible refine tM rfl ?_); refine mS ?_; try (clear M; (first | intro g w1 M | intro w1 M); try simp only [setC] at M)) | ((with_reducible first | show Seg _ _ _ _ | show OnlyN _ _ _ _ _); refine rA ?_)) <;> (try conv => arg 5; simp only [apS, setC]))
     go_roundw
     case rel => exact ⟨k + 1, by omega, by go_num, Lib.hid fun j hj => by
      rcases Nat.lt_succ_iff_lt_or_eq.1 hj with hj | rfl
      ·exact HK.out j hj
      ·exact HX.out.trans HY.out.symm, M⟩
     case measure => simp [intOf]; omega
    ·have e0 : R = false := hne.out k _ _ HX.out HY.out hab
     subst e0
     have hab := Lib.hid (prV_ne hab)
     go_wp2_with ((first | ((with_reducible refine tLoad ?_); refine w_at _ _ rfl yI ?_; intro hx; first | (refine qBD M S HX.out _ _ rfl hx rfl yB yG yD ?_; clear hx; (try conv => arg 5; simp only [Act.put, List.setIfInBounds_toArray, setC, qEB])) | (refine w_see M S HX.out _ _ rfl hx rfl yB 0 yG rfl ?_; clear hx) | (refine w_see M S HX.out _ _ rfl hx rfl yB 1 yG rfl ?_; clear hx) | (refine w_see M S HX.out _ _ rfl hx rfl yB 2 yG rfl ?_; clear hx) | (refine qBD M T HY.out _ _ rfl hx rfl yB yG yD ?_; clear hx; (try conv => arg 5; simp only [Act.put, List.setIfInBounds_toArray, setC, qEB])) | (refine w_see M T HY.out _ _ rfl hx rfl yB 0 yG rfl ?_; clear hx) | (refine w_see M T HY.out _ _ rfl hx rfl yB 1 yG rfl ?_; clear hx) | (refine w_see M T HY.out _ _ rfl hx rfl yB 2 yG rfl ?_; clear hx)) | ((with_reducible show Code.wp _ (Code.region 6 _ _) _ _ _); (refine qAF [(0, false), (1, false), (2, false), (4, false), (5, false), (6, false), (3, false), (7, false), (8, false)] [(19, .cells), (23, .cells)] yD yD rfl yD ?_; replace M := M.drew; simp only [reord, opAt, List.map_cons, List.map_nil, gE])) | ((with_reducible refine tM rfl ?_); refine mS ?_; try (clear M; (first | intro g w1 M | intro w1 M); try simp only [setC] at M)) | ((with_reducible first | show Seg _ _ _ _ | show OnlyN _ _ _ _ _); refine rA ?_)) <;> (try conv => arg 5; simp only [apS, setC]))
     all_goals (first | exact absurd ⟨‹a = c›, ‹b = d›⟩ hab.out | (go_ret; exact ⟨rfl, M.below⟩))
   ·obtain rfl : k = l.length := by omega
    have e0 : R = true := heq.out hn.out HK.out
    subst e0
    have hkm : ¬ l.length < m.length := by have := hn.out; omega
    go_wp2_with ((first | ((with_reducible refine tM rfl ?_); refine mS ?_; try (clear M; (first | intro g w1 M | intro w1 M); try simp only [setC] at M))) <;> (try conv => arg 5; simp only [apS, setC]))
    go_ret
    exact ⟨rfl, M.below⟩
 ·have e0 : R = false := hln.out hn
  subst e0
  have hq : ((l.length : Int) != (m.length : Int)) = true := by simp; omega
  go_enter Tryz.func55, Tryz.ntmps55
  go_wp2_with fail
  go_ret
  exact ⟨rfl, M.below⟩
end Go.Proofs.YtidadhbaomieiaaGreat

namespace Go
namespace TL
theorem goodN_of {b : UInt8} (h1 : ¬ I8 b < 97) (h2 : ¬ 122 < I8 b) : goodN b = true := by rw [I8_eq] at h1 h2; simp [goodN]; omega
theorem badN_lo {b : UInt8} (h1 : I8 b < 97) : goodN b = false := by rw [I8_eq] at h1; simp [goodN]; omega
theorem badN_hi {b : UInt8} (h1 : 122 < I8 b) : goodN b = false := by rw [I8_eq] at h1; simp [goodN]; omega
theorem goodK_of {b : UInt8} (h1 : ¬ I8 b = 0) (h2 : ¬ I8 b = 47) : goodK b = true := by rw [I8_eq] at h1 h2; simp [goodK]; omega
theorem badK_0 {b : UInt8} (h1 : I8 b = 0) : goodK b = false := by rw [I8_eq] at h1; simp [goodK]; omega
theorem badK_47 {b : UInt8} (h1 : I8 b = 47) : goodK b = false := by rw [I8_eq] at h1; simp [goodK]; omega
end TL
end Go
namespace Go.Proofs.YtidadhbaomieiaaGreat
open Go.RowKit Go.TL
theorem named_c (s : List UInt8) (w : World) (hs : s.length ≤ 1000000000) :
  Calls Tryz.prog 212 #[.string (mkS s)] w fun e w' => e = .returned (.bool (namedL s)) ∧ w = w' := by
 have hbad : ∀ k, k < s.length → goodN (s.getD k 0) = false → namedL s = false := fun k h hb => named_bad h hb
 have hgood : (∀ k, k < s.length → goodN (s.getD k 0) = true) → namedL s = decide (1 ≤ s.length ∧ s.length ≤ 8) := qGR
 obtain ⟨N, eN⟩ : ∃ N, N = namedL s := ⟨_, rfl⟩
 rw [← eN] at hbad hgood ⊢
 have HB := Lib.hid hbad
 have HG := Lib.hid hgood
 clear eN hbad hgood
 go_enter Tryz.func212, Tryz.ntmps212
 go_wp2_with fail
 go_loop [6] (fun iv => ∃ k : Nat, k ≤ s.length ∧ iv = .int .i64 k ∧ Hid (∀ j, j < k → goodN (s.getD j 0) = true)) (fun iv => s.length - (intOf iv).toNat)
 case atStart => exact ⟨0, by omega, rfl, Lib.hid yF⟩
 case round =>
  obtain ⟨k, hk, rfl, HK⟩ := hrel
  by_cases hlt : k < s.length
  ·by_cases h1 : I8 (bt s k) < 97
   ·have e : N = false := HB.out k hlt (badN_lo h1)
    subst e
    go_wp2_with fail
    go_ret
    exact ⟨rfl, rfl⟩
   ·by_cases h2 : 122 < I8 (bt s k)
    ·have e : N = false := HB.out k hlt (badN_hi h2)
     subst e
     replace h1 : 97 ≤ I8 (bt s k) := by omega
     go_wp2_with fail
     go_ret
     exact ⟨rfl, rfl⟩
    ·have hg := Lib.hid (goodN_of h1 h2)
     replace h1 : 97 ≤ I8 (bt s k) := by omega
     replace h2 : I8 (bt s k) ≤ 122 := by omega
     go_wp2_with fail
     go_round
     case rel => exact ⟨k + 1, by omega, by go_num, Lib.hid fun j hj => by
      rcases Nat.lt_succ_iff_lt_or_eq.1 hj with hj | rfl
      ·exact HK.out j hj
      ·exact hg.out⟩
     case measure => simp [intOf]; omega
  ·obtain rfl : k = s.length := by omega
   have e : N = decide (1 ≤ s.length ∧ s.length ≤ 8) := HG.out HK.out
   by_cases hl : 1 ≤ s.length ∧ s.length ≤ 8
   ·rw [decide_eq_true hl] at e
    subst e
    obtain ⟨hl1, hl2⟩ := hl
    go_wp2_with fail
    go_ret
    exact ⟨by first | rfl | (simp <;> omega), rfl⟩
   ·rw [decide_eq_false hl] at e
    subst e
    go_wp2_with fail
    all_goals
     go_ret
     exact ⟨by first | rfl | (simp <;> omega), rfl⟩
end Go.Proofs.YtidadhbaomieiaaGreat

namespace Go.Proofs.YtidadhbaomieiaaGreat
open Go.RowKit Go.TL
theorem key_c (s : List UInt8) (w : World) (hs : s.length ≤ 1000000000) :
  Calls Tryz.prog 213 #[.string (mkS s)] w fun e w' => e = .returned (.bool (pkeyL s)) ∧ w = w' := by
 have C : ∀ c : UInt8, Calls Tryz.prog 215 #[.string (mkS s), .int .u8 (c.toNat : Int)] w fun e w' => e = .returned (.int .i64 (Lib.indexByte s c)) ∧ w = w' := fun c =>
  (Go.Proofs.Tryz.strings_IndexByte (mkS s) c.toNat w).mono fun _ _ ⟨a, b⟩ => ⟨by rw [a, mkS_data]; simp, b.symm⟩
 have C0 := Lib.hid (C 0)
 have C47 := Lib.hid (C 47)
 clear C
 by_cases hl : 1 ≤ s.length ∧ s.length ≤ 24
 ·rw [pkey_index s hl]
  obtain ⟨i0, e0⟩ : ∃ i, i = Lib.indexByte s 0 := ⟨_, rfl⟩
  obtain ⟨i4, e4⟩ : ∃ i, i = Lib.indexByte s 47 := ⟨_, rfl⟩
  rw [← e0] at C0 ⊢
  rw [← e4] at C47 ⊢
  clear e0 e4
  obtain ⟨hl1, hl2⟩ := hl
  by_cases h0 : i0 < 0
  all_goals
   go_enter Tryz.func213, Tryz.ntmps213
   go_wp2_with ((go_at_call 215; ((first | refine (C0.out).mono ?_ | refine (C47.out).mono ?_); rintro e w1 ⟨rfl, rfl⟩)))
   go_ret
   exact ⟨by first | rfl | (simp [h0]; done) | (simp <;> omega), rfl⟩
 ·rw [pkey_len hl]
  go_enter Tryz.func213, Tryz.ntmps213
  go_wp2_with fail
  all_goals
   go_ret
   exact ⟨rfl, rfl⟩
theorem sliteCut_c (p : List UInt8) (w : World) (hp : p.length ≤ 1000000000) :
  Calls Tryz.prog 214 #[.string (mkS p), .string (mkS [47])] w fun e w' => e = .returned (.tuple #[.string (mkS (scutL p).1), .string (mkS (scutL p).2.1), .bool (scutL p).2.2]) ∧ Below w.heap.size w w' := by
 have I : Calls Tryz.prog 216 #[.string (mkS p), .string (mkS [47])] w fun e w' => e = .returned (.int .i64 (if slash p < p.length then (slash p : Int) else -1)) ∧ w = w' :=
  (Go.Proofs.Tryz.stringslite_Index_one (mkS p) 47 w).mono fun _ _ ⟨a, b⟩ => ⟨by rw [a, mkS_data, qDE], b.symm⟩
 have M := Mem.start [] w
 have hsl := qEw p
 obtain ⟨C, eC⟩ : ∃ C, C = scutL p := ⟨_, rfl⟩
 rw [← eC]
 by_cases h : slash p < p.length
 ·rw [if_pos h] at I
  rw [scut_yes h] at eC
  have I := Lib.hid I
  subst eC
  go_enter Tryz.func214, Tryz.ntmps214
  go_wp2_with ((first | (go_at_call 216; (refine (I.out).mono ?_; rintro e w1 ⟨rfl, rfl⟩)) | ((with_reducible show Code.wp _ (Code.region 3 _ _) _ _ _); (refine qAF [(0, false), (1, false), (2, false), (3, false), (4, false), (5, false), (6, false), (7, false), (8, false), (9, false), (10, false), (11, false)] [(17, .int), (19, .int)] yD yD rfl yD ?_; replace M := M.drew; simp only [reord, opAt, List.map_cons, List.map_nil, gE])) | ((with_reducible refine tM rfl ?_); refine mB ?_; try (clear M; (first | intro g w1 M | intro w1 M); try simp only [setC] at M)) | ((with_reducible first | show Seg _ _ _ _ | show OnlyN _ _ _ _ _); refine rA ?_) | ((with_reducible refine tGuard ?_); refine gdC ?_ ?_ <;> (intro hgd; rw [hgd]; try (exfalso; simp at hgd; omega)))) <;> (try conv => arg 5; simp only [apS, setC]))
  go_ret3
  exact ⟨rfl, M.below⟩
 ·rw [if_neg h] at I
  rw [scut_no h] at eC
  have I := Lib.hid I
  subst eC
  go_enter Tryz.func214, Tryz.ntmps214
  go_wp2_with (first | (go_at_call 216; (refine (I.out).mono ?_; rintro e w1 ⟨rfl, rfl⟩)))
  go_ret3
  exact ⟨rfl, M.below⟩
theorem strCut_c (p : List UInt8) (w : World) (hp : p.length ≤ 1000000000) :
  Calls Tryz.prog 211 #[.string (mkS p), .string (mkS [47])] w fun e w' => e = .returned (.tuple #[.string (mkS (scutL p).1), .string (mkS (scutL p).2.1), .bool (scutL p).2.2]) ∧ Below w.heap.size w w' := by
 have M := Mem.start [] w
 go_enter Tryz.func211, Tryz.ntmps211
 go_wp2_with ((go_at_call 214; (refine (sliteCut_c p _ hp).mono ?_; rintro e w1 ⟨rfl, hb⟩; replace M := M.call hb; clear hb)))
 go_ret3
 exact ⟨rfl, M.below⟩
theorem Cut_c (p : List UInt8) (w : World) (hp : p.length ≤ 1000000000) :
  Calls Tryz.prog 203 #[.string (mkS p)] w fun e w' => e = .returned (.tuple #[.string (mkS (cutL p).1), .string (mkS (cutL p).2.1), .bool (cutL p).2.2]) ∧ Below w.heap.size w w' := by
 have M := Mem.start [] w
 have hsl := qEw p
 obtain ⟨C, eC⟩ : ∃ C, C = cutL p := ⟨_, rfl⟩
 rw [← eC]
 unfold cutL at eC
 have S : Calls Tryz.prog 211 #[.string (mkS p), .string (mkS [47])] w fun e w' => e = .returned (.tuple #[.string (mkS (scutL p).1), .string (mkS (scutL p).2.1), .bool (scutL p).2.2]) ∧ Below w.heap.size w w' := strCut_c p w hp
 by_cases h : slash p < p.length
 ·rw [scut_yes h] at S
  have S := Lib.hid S
  obtain ⟨a, ea⟩ : ∃ a, a = p.take (slash p) := ⟨_, rfl⟩
  obtain ⟨b, eb⟩ : ∃ b, b = p.drop (slash p + 1) := ⟨_, rfl⟩
  have la : a.length ≤ 1000000000 := by rw [ea]; simp; omega
  have lb : b.length ≤ 1000000000 := by rw [eb]; simp; omega
  rw [← ea, ← eb] at S eC
  clear ea eb
  have N : ∀ w, Calls Tryz.prog 212 #[.string (mkS a)] w fun e w' => e = .returned (.bool (namedL a)) ∧ w = w' := fun w => named_c a w la
  have K : ∀ w, Calls Tryz.prog 213 #[.string (mkS b)] w fun e w' => e = .returned (.bool (pkeyL b)) ∧ w = w' := fun w => key_c b w lb
  by_cases hn : namedL a = true
  ·by_cases hk : pkeyL b = true
   ·rw [if_pos ⟨h, hn, hk⟩] at eC
    rw [hn] at N; rw [hk] at K
    have N := Lib.hid N; have K := Lib.hid K
    subst eC
    go_enter Tryz.func203, Tryz.ntmps203
    go_wp2_with (first | (go_at_call 211; (refine (S.out).mono ?_; rintro e w1 ⟨rfl, hb⟩; replace M := M.call hb; clear hb)) | (go_at_call 212; (refine (N.out _).mono ?_; rintro e w1 ⟨rfl, rfl⟩)) | (go_at_call 213; (refine (K.out _).mono ?_; rintro e w1 ⟨rfl, rfl⟩)))
    go_ret3
    exact ⟨rfl, M.below⟩
   ·rw [if_neg (fun x => hk x.2.2)] at eC
    rw [hn] at N; rw [Bool.not_eq_true] at hk; rw [hk] at K
    have N := Lib.hid N; have K := Lib.hid K
    subst eC
    go_enter Tryz.func203, Tryz.ntmps203
    go_wp2_with (first | (go_at_call 211; (refine (S.out).mono ?_; rintro e w1 ⟨rfl, hb⟩; replace M := M.call hb; clear hb)) | (go_at_call 212; (refine (N.out _).mono ?_; rintro e w1 ⟨rfl, rfl⟩)) | (go_at_call 213; (refine (K.out _).mono ?_; rintro e w1 ⟨rfl, rfl⟩)))
    go_ret3
    exact ⟨rfl, M.below⟩
  ·rw [if_neg (fun x => hn x.2.1)] at eC
   rw [Bool.not_eq_true] at hn; rw [hn] at N
   have N := Lib.hid N
   subst eC
   go_enter Tryz.func203, Tryz.ntmps203
   go_wp2_with (first | (go_at_call 211; (refine (S.out).mono ?_; rintro e w1 ⟨rfl, hb⟩; replace M := M.call hb; clear hb)) | (go_at_call 212; (refine (N.out _).mono ?_; rintro e w1 ⟨rfl, rfl⟩)))
   go_ret3
   exact ⟨rfl, M.below⟩
 ·rw [scut_no h] at S
  have S := Lib.hid S
  rw [if_neg (fun x => h x.1)] at eC
  subst eC
  go_enter Tryz.func203, Tryz.ntmps203
  go_wp2_with (first | (go_at_call 211; (refine (S.out).mono ?_; rintro e w1 ⟨rfl, hb⟩; replace M := M.call hb; clear hb)))
  go_ret3
  exact ⟨rfl, M.below⟩
end Go.Proofs.YtidadhbaomieiaaGreat

namespace Go.Proofs.YtidadhbaomieiaaGreat
open Go.RowKit Go.TL
theorem Named_c (s : List UInt8) (w : World) (hs : s.length ≤ 1000000000) :
  Calls Tryz.prog 188 #[.string (mkS s)] w fun e w' => e = .returned (.bool (namedL s)) ∧ w = w' := by
 by_cases hl : 1 ≤ s.length ∧ s.length ≤ 8
 ·have hbad : ∀ k, k < s.length → goodN (s.getD k 0) = false → namedL s = false := fun k h hb => named_bad h hb
  have hgood : (∀ k, k < s.length → goodN (s.getD k 0) = true) → namedL s = true := fun h => by rw [qGR h, decide_eq_true hl]
  obtain ⟨N, eN⟩ : ∃ N, N = namedL s := ⟨_, rfl⟩
  rw [← eN] at hbad hgood ⊢
  have HB := Lib.hid hbad
  have HG := Lib.hid hgood
  clear eN hbad hgood
  obtain ⟨hl1, hl2⟩ := hl
  go_enter Tryz.func188, Tryz.ntmps188
  go_wp2_with fail
  go_loop [3] (fun iv => ∃ k : Nat, k ≤ s.length ∧ iv = .int .i64 k ∧ Hid (∀ j, j < k → goodN (s.getD j 0) = true)) (fun iv => s.length - (intOf iv).toNat)
  case atStart => exact ⟨0, by omega, rfl, Lib.hid yF⟩
  case round =>
   obtain ⟨k, hk, rfl, HK⟩ := hrel
   by_cases hlt : k < s.length
   ·by_cases h1 : I8 (bt s k) < 97
    ·have e : N = false := HB.out k hlt (badN_lo h1)
     subst e
     go_wp2_with fail
     go_ret
     exact ⟨rfl, rfl⟩
    ·by_cases h2 : 122 < I8 (bt s k)
     ·have e : N = false := HB.out k hlt (badN_hi h2)
      subst e
      replace h1 : 97 ≤ I8 (bt s k) := by omega
      go_wp2_with fail
      go_ret
      exact ⟨rfl, rfl⟩
     ·have hg := Lib.hid (goodN_of h1 h2)
      replace h1 : 97 ≤ I8 (bt s k) := by omega
      replace h2 : I8 (bt s k) ≤ 122 := by omega
      go_wp2_with fail
      go_round
      case rel => exact ⟨k + 1, by omega, by go_num, Lib.hid fun j hj => by
       rcases Nat.lt_succ_iff_lt_or_eq.1 hj with hj | rfl
       ·exact HK.out j hj
       ·exact hg.out⟩
      case measure => simp [intOf]; omega
   ·obtain rfl : k = s.length := by omega
    have e : N = true := HG.out HK.out
    subst e
    go_wp2_with fail
    go_ret
    exact ⟨rfl, rfl⟩
 ·rw [named_len hl]
  go_enter Tryz.func188, Tryz.ntmps188
  go_wp2_with fail
  all_goals
   go_ret
   exact ⟨rfl, rfl⟩
end Go.Proofs.YtidadhbaomieiaaGreat

namespace Go.Proofs.YtidadhbaomieiaaGreat
open Go.RowKit Go.TL
theorem Key11_c (s : List UInt8) (w : World) (hs : s.length ≤ 1000000000) :
  Calls Tryz.prog 189 #[.string (mkS s)] w fun e w' => e = .returned (.bool (pkeyL s)) ∧ w = w' := by
 by_cases hl : 1 ≤ s.length ∧ s.length ≤ 24
 ·have hbad : ∀ k, k < s.length → goodK (s.getD k 0) = false → pkeyL s = false := fun k h hb => pkey_bad h hb
  have hgood : (∀ k, k < s.length → goodK (s.getD k 0) = true) → pkeyL s = true := fun h => by rw [pkey_good h, decide_eq_true hl]
  obtain ⟨N, eN⟩ : ∃ N, N = pkeyL s := ⟨_, rfl⟩
  rw [← eN] at hbad hgood ⊢
  have HB := Lib.hid hbad
  have HG := Lib.hid hgood
  clear eN hbad hgood
  obtain ⟨hl1, hl2⟩ := hl
  go_enter Tryz.func189, Tryz.ntmps189
  go_wp2_with fail
  go_loop [3] (fun iv => ∃ k : Nat, k ≤ s.length ∧ iv = .int .i64 k ∧ Hid (∀ j, j < k → goodK (s.getD j 0) = true)) (fun iv => s.length - (intOf iv).toNat)
  case atStart => exact ⟨0, by omega, rfl, Lib.hid yF⟩
  case round =>
   obtain ⟨k, hk, rfl, HK⟩ := hrel
   by_cases hlt : k < s.length
   ·by_cases h1 : I8 (bt s k) = 0
    ·have e : N = false := HB.out k hlt (badK_0 h1)
     subst e
     go_wp2_with fail
     go_ret
     exact ⟨rfl, rfl⟩
    ·by_cases h2 : I8 (bt s k) = 47
     ·have e : N = false := HB.out k hlt (badK_47 h2)
      subst e
      go_wp2_with fail
      go_ret
      exact ⟨rfl, rfl⟩
     ·have hg := Lib.hid (goodK_of h1 h2)
      replace h1 : (I8 (bt s k) == 0) = false := by simp; exact h1
      replace h2 : (I8 (bt s k) == 47) = false := by simp; exact h2
      go_wp2_with fail
      go_round
      case rel => exact ⟨k + 1, by omega, by go_num, Lib.hid fun j hj => by
       rcases Nat.lt_succ_iff_lt_or_eq.1 hj with hj | rfl
       ·exact HK.out j hj
       ·exact hg.out⟩
      case measure => simp [intOf]; omega
   ·obtain rfl : k = s.length := by omega
    have e : N = true := HG.out HK.out
    subst e
    go_wp2_with fail
    go_ret
    exact ⟨rfl, rfl⟩
 ·rw [pkey_len hl]
  go_enter Tryz.func189, Tryz.ntmps189
  go_wp2_with fail
  all_goals
   go_ret
   exact ⟨rfl, rfl⟩
theorem Cut11_c (p : List UInt8) (w : World) (hp : p.length ≤ 1000000000) :
  Calls Tryz.prog 171 #[.string (mkS p)] w fun e w' => e = .returned (.tuple #[.string (mkS (cutL p).1), .string (mkS (cutL p).2.1), .bool (cutL p).2.2]) ∧ Below w.heap.size w w' := by
 have M := Mem.start [] w
 have hsl := qEw p
 have hno := qEk p
 have hat := slash_at p
 obtain ⟨C, eC⟩ : ∃ C, C = cutL p := ⟨_, rfl⟩
 rw [← eC]
 unfold cutL at eC
 obtain ⟨S, eS⟩ : ∃ S, S = slash p := ⟨_, rfl⟩
 rw [← eS] at hsl hno hat eC
 have HN := Lib.hid hno
 have HT := Lib.hid hat
 have EC := Lib.hid eC
 clear eS hno hat eC
 go_enter Tryz.func171, Tryz.ntmps171
 go_wp2_with fail
 go_loopw [5] (fun iv wr => ∃ k : Nat, k ≤ S ∧ iv = .int .i64 k ∧ Mem [] w wr []) (fun iv _ => p.length - (intOf iv).toNat)
 case atStart => exact ⟨0, by omega, rfl, M⟩
 case round =>
  clear M
  obtain ⟨k, hk, rfl, M⟩ := hrel
  by_cases hlt : k < S
  ·have hb : (I8 (bt p k) == 47) = false := by
    have := HN.out k hlt
    rw [beq_eq_false_iff_ne, I8_bt]; omega
   have hkl : k < p.length := by omega
   go_wp2_with fail
   go_roundw
   case rel => exact ⟨k + 1, by omega, by go_num, M⟩
   case measure => simp [intOf]; omega
  ·obtain rfl : k = S := by omega
   by_cases hl : k < p.length
   ·have hb : (I8 (bt p k) == 47) = true := by
     have := HT.out hl
     rw [I8_bt, this]; rfl
    have hb' : I8 (bt p k) = 47 := by simpa using hb
    have HB' := Lib.hid hb'
    clear hb'
    obtain ⟨a, ea⟩ : ∃ a, a = p.take k := ⟨_, rfl⟩
    obtain ⟨b, eb⟩ : ∃ b, b = p.drop (k + 1) := ⟨_, rfl⟩
    have la : a.length ≤ 1000000000 := by rw [ea]; simp; omega
    have lb : b.length ≤ 1000000000 := by rw [eb]; simp; omega
    have eC := EC.out
    rw [← ea, ← eb] at eC
    have N : ∀ w, Calls Tryz.prog 188 #[.string (mkS a)] w fun e w' => e = .returned (.bool (namedL a)) ∧ w = w' := fun w => Named_c a w la
    have K : ∀ w, Calls Tryz.prog 189 #[.string (mkS b)] w fun e w' => e = .returned (.bool (pkeyL b)) ∧ w = w' := fun w => Key11_c b w lb
    have EA := Lib.hid ea; have EB := Lib.hid eb
    clear ea eb
    by_cases hn : namedL a = true
    ·by_cases hkk : pkeyL b = true
     ·rw [if_pos ⟨hl, hn, hkk⟩] at eC
      rw [hn] at N; rw [hkk] at K
      rw [EA.out] at N eC; rw [EB.out] at K eC
      have N := Lib.hid N; have K := Lib.hid K
      subst eC
      go_wp2_with ((first | (go_at_call 188; (refine (N.out _).mono ?_; rintro e w1 ⟨rfl, rfl⟩)) | (go_at_call 189; (refine (K.out _).mono ?_; rintro e w1 ⟨rfl, rfl⟩)) | ((with_reducible show Code.wp _ (Code.region 6 _ _) _ _ _); (refine qAF [(0, false), (1, false), (2, false), (3, false), (4, false), (5, false), (6, false), (7, false), (8, false), (9, false)] [(31, .int)] yD yD rfl yD ?_; replace M := M.drew; simp only [reord, opAt, List.map_cons, List.map_nil, gE])) | ((with_reducible refine tM rfl ?_); refine mB ?_; try (clear M; (first | intro g w1 M | intro w1 M); try simp only [setC] at M)) | ((with_reducible first | show Seg _ _ _ _ | show OnlyN _ _ _ _ _); refine rA ?_) | ((with_reducible refine tGuard ?_); refine gdC ?_ ?_ <;> (intro hgd; rw [hgd]; try (exfalso; simp at hgd; omega)))) <;> (try conv => arg 5; simp only [apS, setC]))
      go_ret3
      exact ⟨rfl, M.below⟩
     ·rw [if_neg (fun x => hkk x.2.2)] at eC
      rw [hn] at N; rw [Bool.not_eq_true] at hkk; rw [hkk] at K
      rw [EA.out] at N; rw [EB.out] at K
      have N := Lib.hid N; have K := Lib.hid K
      subst eC
      go_wp2_with (first | (go_at_call 188; (refine (N.out _).mono ?_; rintro e w1 ⟨rfl, rfl⟩)) | (go_at_call 189; (refine (K.out _).mono ?_; rintro e w1 ⟨rfl, rfl⟩)))
      go_ret3
      exact ⟨rfl, M.below⟩
    ·rw [if_neg (fun x => hn x.2.1)] at eC
     rw [Bool.not_eq_true] at hn; rw [hn] at N
     rw [EA.out] at N
     have N := Lib.hid N
     subst eC
     go_wp2_with (first | (go_at_call 188; (refine (N.out _).mono ?_; rintro e w1 ⟨rfl, rfl⟩)))
     go_ret3
     exact ⟨rfl, M.below⟩
   ·have eC := EC.out
    rw [if_neg (fun x => hl x.1)] at eC
    subst eC
    go_wp2_with fail
    go_ret3
    exact ⟨rfl, M.below⟩
end Go.Proofs.YtidadhbaomieiaaGreat

namespace Go
namespace TL
open Go.RowKit
theorem qAK {P : Program} {fn : Func} {p q : Tmp} {ty : TypeId} (h : fn.results = #[.cell p ty, .tmp q]) (tmps : Array Value) (w : World) (b o : Nat) (cs : List Value) (d : TypeDesc) (z : Value)
  (hp : tmps.getD p undef = .pointer (some ⟨b, o, none⟩)) (hz : tmps.getD q undef = z) (hc : w.rangeAt b o cs) (hu : P.underlying ty = some d) (hd : d.isRow = true) (hi : (P.info? ty).map (·.size) = some cs.length) :
  (results fn tmps).run P w = .ok (.tuple #[.agg cs.toArray, z]) w := by
 have hp' : tmps[p]?.getD undef = .pointer (some ⟨b, o, none⟩) := by simpa using hp
 have hz' : tmps[q]?.getD undef = z := by simpa using hz
 simp [results, h, hp', hz', asAddr, run_loadVar_mid w b o ty cs d hc hu hd hi]
end TL
end Go

namespace Go
namespace TL
theorem I8_ne {q c : UInt8} (h : q ≠ c) : (I8 q == I8 c) = false ∧ (I8 q != I8 c) = true := by
 have : I8 q ≠ I8 c := fun e => h (by rw [I8_eq, I8_eq] at e; exact UInt8.toNat_inj.1 yF)
 exact ⟨by simpa using this, by simpa using this⟩
theorem each_bad {f : List UInt8 → Nat} {l : List Opr} {k : Nat} {x : Opr} {r : Nat} (h : l[k]? = some x) (hb : ∀ (j : Nat) (y : Opr), j < k → l[j]? = some y → opE f y = 0) (hx : opE f x = r) (hr : r ≠ 0) : eachE f l = r := by
 rw [each_at h hb (by rw [hx]; exact hr), hx]
end TL
end Go
namespace Go.Proofs.YtidadhbaomieiaaGreat
open Go.RowKit Go.TL
theorem Right1_c (p : List UInt8) (w : World) (hp : p.length ≤ 1000000000) :
  Calls Tryz.prog 202 #[.string (mkS p)] w fun e w' => e = .returned (.int .i64 (cutE p)) ∧ Below w.heap.size w w' := by
 have M := Mem.start [] w
 have C := fun w => Cut_c p w hp
 unfold cutE
 obtain ⟨⟨m, k, ok⟩, ec⟩ : ∃ c, c = cutL p := ⟨_, rfl⟩
 rw [← ec] at C ⊢
 clear ec
 simp only at C ⊢
 replace C := Lib.hid C
 cases ok with
 | true =>
  simp only [if_true]
  go_enter Tryz.func202, Tryz.ntmps202
  go_wp2_with (first | (go_at_call 203; (refine (C.out _).mono ?_; rintro e w1 ⟨rfl, hb⟩; replace M := M.call hb; clear hb)))
  go_ret
  exact ⟨rfl, M.below⟩
 | false =>
  go_enter Tryz.func202, Tryz.ntmps202
  go_wp2_with (first | (go_at_call 203; (refine (C.out _).mono ?_; rintro e w1 ⟨rfl, hb⟩; replace M := M.call hb; clear hb)))
  go_ret
  exact ⟨rfl, M.below⟩
theorem EachR_c (ops : List Opr) (v : Value) (w : World) (S : SeesL w 3 opV v ops) (hl : ops.length ≤ 1000000) (hm : ∀ x ∈ ops, x.2.1.length ≤ 100000000 ∧ x.2.2.length ≤ 100000000) :
  Calls Tryz.prog 201 #[v, .func (.func 202) #[] #[]] w fun e w' => e = .returned (.int .i64 (eachE cutE ops)) ∧ Below w.heap.size w w' := by
 obtain ⟨q, cap, rfl, hc⟩ := S.form
 have M := Mem.start [] w
 have HB := fun k x r => @each_bad cutE ops k x r
 have HG := @each_all cutE ops
 obtain ⟨R, eR⟩ : ∃ R, R = eachE cutE ops := ⟨_, rfl⟩
 rw [← eR] at HB HG ⊢
 replace HB := Lib.hid HB
 replace HG := Lib.hid HG
 clear eR
 go_enter Tryz.func201, Tryz.ntmps201
 go_wp2_with fail
 go_loopw [10] (fun iv wr => ∃ k : Nat, k ≤ ops.length ∧ iv = .int .i64 k ∧ Hid (∀ (j : Nat) (y : Opr), j < k → ops[j]? = some y → opE cutE y = 0) ∧ Mem [] w wr []) (fun iv _ => ops.length - (intOf iv).toNat)
 case atStart => exact ⟨0, by omega, rfl, Lib.hid yF, M⟩
 case round =>
  clear M
  obtain ⟨k, hk, rfl, HK, M⟩ := hrel
  by_cases hlt : k < ops.length
  ·obtain ⟨g, so, rfl⟩ := S.addr yF
   obtain ⟨⟨q, a, b⟩, hx⟩ : ∃ x, ops[k]? = some x := ⟨_, List.getElem?_eq_getElem hlt⟩
   obtain ⟨ha, hb⟩ := hm (q, a, b) (List.mem_of_getElem? hx)
   simp only at ha hb
   have C := fun w => Right1_c a w yF
   have HX := Lib.hid hx
   clear hx
   by_cases hq : q = 1 ∨ q = 2
   ·have HQ := Lib.hid hq
    have HI : I8 q = 1 ∨ I8 q = 2 := by rcases hq with rfl | rfl; exact .inl rfl; exact .inr rfl
    obtain ⟨n, en⟩ : ∃ n, n = cutE a := ⟨_, rfl⟩
    have EN := Lib.hid en
    try simp only at en
    rw [← en] at C
    replace C := Lib.hid C
    clear en hq
    by_cases hn : n = 0
    ·subst hn
     by_cases hb32 : 32 < b.length
     ·have e : R = 3 := HB.out k _ _ HX.out HK.out (op_long HQ.out EN.out.symm hb32) yN
      subst e
      have hb33 : (32 : Int) < (b.length : Int) := by omega
      rcases HI with HI | HI
      all_goals
       go_wp2_with ((first | ((with_reducible refine tLoad ?_); refine w_at _ _ rfl yI ?_; intro hx; first | (refine qBD M S HX.out _ _ rfl hx rfl yB yG yD ?_; clear hx; (try conv => arg 5; simp only [Act.put, List.setIfInBounds_toArray, setC, qBR])) | (refine w_see M S HX.out _ _ rfl hx rfl yB 0 yG rfl ?_; clear hx) | (refine w_see M S HX.out _ _ rfl hx rfl yB 1 yG rfl ?_; clear hx) | (refine w_see M S HX.out _ _ rfl hx rfl yB 2 yG rfl ?_; clear hx)) | ((with_reducible refine tAlloc (some 6) 181 ?_); refine wal M _ rfl rfl (opV (0, [], [])) yD ?_; clear M; intro gx w1 M) | (go_at_call 202; (refine (C.out _).mono ?_; rintro e w1 ⟨rfl, hb⟩; replace M := M.call hb; clear hb)) | ((with_reducible refine tM rfl ?_); refine mS ?_; try (clear M; (first | intro g w1 M | intro w1 M); try simp only [setC] at M))) <;> (try conv => arg 5; simp only [apS, setC]))
       go_ret
       exact ⟨rfl, M.below⟩
     ·have hb33 : (b.length : Int) ≤ 32 := by omega
      rcases HI with HI | HI
      ·have hq1 : q = 1 := by
        rcases HQ.out with h | h
        ·exact h
        ·subst h; exact absurd HI yN
       have HZ := Lib.hid (op_good (f := cutE) (x := (q, a, b)) HQ.out EN.out.symm (by simp only; omega) (fun h => by simp only at h; rw [hq1] at h; exact absurd h yN))
       clear hq1
       go_wp2_with ((first | ((with_reducible refine tLoad ?_); refine w_at _ _ rfl yI ?_; intro hx; first | (refine qBD M S HX.out _ _ rfl hx rfl yB yG yD ?_; clear hx; (try conv => arg 5; simp only [Act.put, List.setIfInBounds_toArray, setC, qBR])) | (refine w_see M S HX.out _ _ rfl hx rfl yB 0 yG rfl ?_; clear hx) | (refine w_see M S HX.out _ _ rfl hx rfl yB 1 yG rfl ?_; clear hx) | (refine w_see M S HX.out _ _ rfl hx rfl yB 2 yG rfl ?_; clear hx)) | ((with_reducible refine tAlloc (some 6) 181 ?_); refine wal M _ rfl rfl (opV (0, [], [])) yD ?_; clear M; intro gx w1 M) | (go_at_call 202; (refine (C.out _).mono ?_; rintro e w1 ⟨rfl, hb⟩; replace M := M.call hb; clear hb)) | ((with_reducible refine tM rfl ?_); refine mS ?_; try (clear M; (first | intro g w1 M | intro w1 M); try simp only [setC] at M))) <;> (try conv => arg 5; simp only [apS, setC]))
       go_roundw
       case rel => exact ⟨k + 1, by omega, by go_num, Lib.hid fun j y hj hy => by
        rcases Nat.lt_succ_iff_lt_or_eq.1 hj with hj | rfl
        ·exact HK.out j y hj hy
        ·have := HX.out; rw [hy] at this; cases this; exact HZ.out, M.tail⟩
       case measure => simp [intOf]; omega
      ·have hq2 : q = 2 := by
        rcases HQ.out with h | h
        ·subst h; exact absurd HI yN
        ·exact h
       by_cases hbe : b = []
       ·subst hbe
        have HZ := Lib.hid (op_good (f := cutE) (x := (q, a, [])) HQ.out EN.out.symm yB1 (fun h => rfl))
        clear hq2
        go_wp2_with ((first | ((with_reducible refine tLoad ?_); refine w_at _ _ rfl yI ?_; intro hx; first | (refine qBD M S HX.out _ _ rfl hx rfl yB yG yD ?_; clear hx; (try conv => arg 5; simp only [Act.put, List.setIfInBounds_toArray, setC, qBR])) | (refine w_see M S HX.out _ _ rfl hx rfl yB 0 yG rfl ?_; clear hx) | (refine w_see M S HX.out _ _ rfl hx rfl yB 1 yG rfl ?_; clear hx) | (refine w_see M S HX.out _ _ rfl hx rfl yB 2 yG rfl ?_; clear hx)) | ((with_reducible refine tAlloc (some 6) 181 ?_); refine wal M _ rfl rfl (opV (0, [], [])) yD ?_; clear M; intro gx w1 M) | (go_at_call 202; (refine (C.out _).mono ?_; rintro e w1 ⟨rfl, hb⟩; replace M := M.call hb; clear hb)) | ((with_reducible refine tM rfl ?_); refine mS ?_; try (clear M; (first | intro g w1 M | intro w1 M); try simp only [setC] at M))) <;> (try conv => arg 5; simp only [apS, setC]))
        go_roundw
        case rel => exact ⟨k + 1, by omega, by go_num, Lib.hid fun j y hj hy => by
         rcases Nat.lt_succ_iff_lt_or_eq.1 hj with hj | rfl
         ·exact HK.out j y hj hy
         ·have := HX.out; rw [hy] at this; cases this; exact HZ.out, M.tail⟩
        case measure => simp [intOf]; omega
       ·have e : R = 1 := HB.out k _ _ HX.out HK.out (op_arg hq2 EN.out.symm (by simp only; omega) hbe) yN
        subst e
        have hbe' : b.isEmpty = false := by simpa using hbe
        clear hq2 hbe
        go_wp2_with ((first | ((with_reducible refine tLoad ?_); refine w_at _ _ rfl yI ?_; intro hx; first | (refine qBD M S HX.out _ _ rfl hx rfl yB yG yD ?_; clear hx; (try conv => arg 5; simp only [Act.put, List.setIfInBounds_toArray, setC, qBR])) | (refine w_see M S HX.out _ _ rfl hx rfl yB 0 yG rfl ?_; clear hx) | (refine w_see M S HX.out _ _ rfl hx rfl yB 1 yG rfl ?_; clear hx) | (refine w_see M S HX.out _ _ rfl hx rfl yB 2 yG rfl ?_; clear hx)) | ((with_reducible refine tAlloc (some 6) 181 ?_); refine wal M _ rfl rfl (opV (0, [], [])) yD ?_; clear M; intro gx w1 M) | (go_at_call 202; (refine (C.out _).mono ?_; rintro e w1 ⟨rfl, hb⟩; replace M := M.call hb; clear hb)) | ((with_reducible refine tM rfl ?_); refine mS ?_; try (clear M; (first | intro g w1 M | intro w1 M); try simp only [setC] at M))) <;> (try conv => arg 5; simp only [apS, setC]))
        go_ret
        exact ⟨rfl, M.below⟩
    ·have e : R = n := HB.out k _ _ HX.out HK.out ((op_path HQ.out (fun h0 => hn (EN.out.trans h0))).trans EN.out.symm) hn
     subst e
     have hz : ((R : Int) == 0) = false := by simp; exact hn
     have hz' : ((R : Int) != 0) = true := by simp; exact hn
     clear hn
     rcases HI with HI | HI
     all_goals
      go_wp2_with ((first | ((with_reducible refine tLoad ?_); refine w_at _ _ rfl yI ?_; intro hx; first | (refine qBD M S HX.out _ _ rfl hx rfl yB yG yD ?_; clear hx; (try conv => arg 5; simp only [Act.put, List.setIfInBounds_toArray, setC, qBR])) | (refine w_see M S HX.out _ _ rfl hx rfl yB 0 yG rfl ?_; clear hx) | (refine w_see M S HX.out _ _ rfl hx rfl yB 1 yG rfl ?_; clear hx) | (refine w_see M S HX.out _ _ rfl hx rfl yB 2 yG rfl ?_; clear hx)) | ((with_reducible refine tAlloc (some 6) 181 ?_); refine wal M _ rfl rfl (opV (0, [], [])) yD ?_; clear M; intro gx w1 M) | (go_at_call 202; (refine (C.out _).mono ?_; rintro e w1 ⟨rfl, hb⟩; replace M := M.call hb; clear hb)) | ((with_reducible refine tM rfl ?_); refine mS ?_; try (clear M; (first | intro g w1 M | intro w1 M); try simp only [setC] at M))) <;> (try conv => arg 5; simp only [apS, setC]))
      go_ret
      exact ⟨rfl, M.below⟩
   ·have e : R = 10 := HB.out k _ _ HX.out HK.out (op_kind hq) yN
    subst e
    obtain ⟨h1, h1'⟩ := I8_ne (q := q) (c := 1) (fun h => hq (.inl h))
    obtain ⟨h2, h2'⟩ := I8_ne (q := q) (c := 2) (fun h => hq (.inr h))
    rw [show I8 1 = 1 from rfl] at h1 h1'
    rw [show I8 2 = 2 from rfl] at h2 h2'
    clear hq C
    go_wp2_with ((first | ((with_reducible refine tLoad ?_); refine w_at _ _ rfl yI ?_; intro hx; first | (refine qBD M S HX.out _ _ rfl hx rfl yB yG yD ?_; clear hx; (try conv => arg 5; simp only [Act.put, List.setIfInBounds_toArray, setC, qBR])) | (refine w_see M S HX.out _ _ rfl hx rfl yB 0 yG rfl ?_; clear hx) | (refine w_see M S HX.out _ _ rfl hx rfl yB 1 yG rfl ?_; clear hx) | (refine w_see M S HX.out _ _ rfl hx rfl yB 2 yG rfl ?_; clear hx)) | ((with_reducible refine tAlloc (some 6) 181 ?_); refine wal M _ rfl rfl (opV (0, [], [])) yD ?_; clear M; intro gx w1 M) | ((with_reducible refine tM rfl ?_); refine mS ?_; try (clear M; (first | intro g w1 M | intro w1 M); try simp only [setC] at M))) <;> (try conv => arg 5; simp only [apS, setC]))
    go_ret
    exact ⟨rfl, M.below⟩
  ·obtain rfl : k = ops.length := by omega
   obtain rfl : R = 0 := HG.out fun j x hx => HK.out j x (List.getElem?_eq_some_iff.1 hx).1 hx
   go_wp2_with fail
   go_ret
   exact ⟨rfl, M.below⟩
end Go.Proofs.YtidadhbaomieiaaGreat

namespace Go
namespace TL
open Go.RowKit
def valE (q : UInt8) (b : List UInt8) : Nat := if 32 < b.length then 3 else if q = 2 ∧ b ≠ [] then 1 else 0
theorem op_val {f : List UInt8 → Nat} {q : UInt8} {a b : List UInt8} (h : q = 1 ∨ q = 2) (h2 : f a = 0) : opE f (q, a, b) = valE q b := by
 unfold opE valE
 rw [if_pos h, if_pos h2]
 by_cases h3 : 32 < b.length
 ·rw [if_pos h3, if_neg (by simp only; omega)]
 ·rw [if_neg h3, if_pos (by simp only; omega)]
theorem right_n {i e : Int} {ops : List Opr} (h : i < 1 ∨ 4611686018427387904 < i ∨ e < 1) : rightB i e ops = 1 := if_pos h
theorem right_4 {i e : Int} {ops : List Opr} (h : ¬ (i < 1 ∨ 4611686018427387904 < i ∨ e < 1)) (h4 : 4 < ops.length) : rightB i e ops = 3 := by unfold rightB; rw [if_neg h, if_pos h4]
theorem right_e {i e : Int} {ops : List Opr} (h : ¬ (i < 1 ∨ 4611686018427387904 < i ∨ e < 1)) (h4 : ops.length ≤ 4) : rightB i e ops = eachE cutE ops := by unfold rightB; rw [if_neg h, if_neg yF]
end TL
end Go
namespace Go.Proofs.YtidadhbaomieiaaGreat
open Go.RowKit Go.TL
theorem value12_c (q : UInt8) (a b : List UInt8) (w : World) (hb : b.length ≤ 100000000) :
  Calls Tryz.prog 172 #[.agg #[.int .u8 (I8 q), .string (mkS a), .string (mkS b)]] w fun e w' => e = .returned (.int .i64 (valE q b)) ∧ Below w.heap.size w w' := by
 have M := Mem.start [] w
 unfold valE
 by_cases h1 : 32 < b.length
 ·rw [if_pos h1]
  have h2 : (32 : Int) < (b.length : Int) := by omega
  go_enter Tryz.func172, Tryz.ntmps172
  go_wp2_with ((first | ((with_reducible refine tBox (some 1) ?_); refine w_box M _ _ rfl rfl _ rfl ([.int .u8 (I8 q), .string (mkS a), .string (mkS b)]) rfl ?_; clear M; intro gx w1 M) | ((with_reducible refine tM rfl ?_); refine mS ?_; try (clear M; (first | intro g w1 M | intro w1 M); try simp only [setC] at M))) <;> (try conv => arg 5; simp only [apS, setC]))
  go_ret
  exact ⟨rfl, M.below⟩
 ·rw [if_neg h1]
  have h2 : (b.length : Int) ≤ 32 := by omega
  by_cases hq : q = 2
  ·have HI : I8 q = 2 := by rw [hq]; rfl
   by_cases hbe : b = []
   ·subst hbe
    rw [if_neg yB1]
    clear hq
    go_enter Tryz.func172, Tryz.ntmps172
    go_wp2_with ((first | ((with_reducible refine tBox (some 1) ?_); refine w_box M _ _ rfl rfl _ rfl ([.int .u8 (I8 q), .string (mkS []), .string (mkS [])]) rfl ?_; clear M; intro gx w1 M) | ((with_reducible refine tM rfl ?_); refine mS ?_; try (clear M; (first | intro g w1 M | intro w1 M); try simp only [setC] at M))) <;> (try conv => arg 5; simp only [apS, setC]))
    go_ret
    exact ⟨rfl, M.below⟩
   ·rw [if_pos ⟨hq, hbe⟩]
    have hbe' : b.isEmpty = false := by simpa using hbe
    clear hq hbe
    go_enter Tryz.func172, Tryz.ntmps172
    go_wp2_with ((first | ((with_reducible refine tBox (some 1) ?_); refine w_box M _ _ rfl rfl _ rfl ([.int .u8 (I8 q), .string (mkS a), .string (mkS b)]) rfl ?_; clear M; intro gx w1 M) | ((with_reducible refine tM rfl ?_); refine mS ?_; try (clear M; (first | intro g w1 M | intro w1 M); try simp only [setC] at M))) <;> (try conv => arg 5; simp only [apS, setC]))
    go_ret
    exact ⟨rfl, M.below⟩
  ·rw [if_neg (fun h => hq h.1)]
   obtain ⟨h3, h3'⟩ := I8_ne (q := q) (c := 2) hq
   rw [show I8 2 = 2 from rfl] at h3 h3'
   clear hq
   go_enter Tryz.func172, Tryz.ntmps172
   go_wp2_with ((first | ((with_reducible refine tBox (some 1) ?_); refine w_box M _ _ rfl rfl _ rfl ([.int .u8 (I8 q), .string (mkS a), .string (mkS b)]) rfl ?_; clear M; intro gx w1 M) | ((with_reducible refine tM rfl ?_); refine mS ?_; try (clear M; (first | intro g w1 M | intro w1 M); try simp only [setC] at M))) <;> (try conv => arg 5; simp only [apS, setC]))
   go_ret
   exact ⟨rfl, M.below⟩
theorem bRight_c (i e : Int) (ops : List Opr) (v : Value) (w : World) (S : SeesL w 3 opV v ops) (hl : ops.length ≤ 1000000) (hm : ∀ x ∈ ops, x.2.1.length ≤ 100000000 ∧ x.2.2.length ≤ 100000000) :
  Calls Tryz.prog 187 #[.agg #[.int .i64 i, .int .i64 e, v]] w fun e' w' => e' = .returned (.int .i64 (rightB i e ops)) ∧ Below w.heap.size w w' := by
 have M := Mem.start [] w
 have E := fun w S => EachR_c ops v w S hl hm
 obtain ⟨q, cap, rfl, hc⟩ := S.form
 by_cases h : i < 1 ∨ 4611686018427387904 < i ∨ e < 1
 ·rw [right_n h]
  replace E := Lib.hid E
  rcases h with h | h
  ·go_enter Tryz.func187, Tryz.ntmps187
   go_wp2_with ((first | ((with_reducible refine tBox (some 1) ?_); refine w_box M _ _ rfl rfl _ rfl ([.int .i64 i, .int .i64 e, .slice q ops.length cap]) rfl ?_; clear M; intro gx w1 M) | ((with_reducible refine tGuard ?_); first | ((with_reducible refine qAC ?_ ?_); exact dcd) | ((with_reducible refine qAH ?_ ?_); exact dcd) | ((with_reducible refine qAI ?_ ?_); exact dcd)) | ((with_reducible refine tM rfl ?_); refine mS ?_; try (clear M; (first | intro g w1 M | intro w1 M); try simp only [setC] at M)) | ((with_reducible refine tGuard ?_); refine gdC ?_ ?_ <;> (intro hgd; rw [hgd]; try (exfalso; simp at hgd; omega)))) <;> (try conv => arg 5; simp only [apS, setC]))
   go_ret
   exact ⟨rfl, M.below⟩
  ·by_cases h1 : i < 1
   ·clear h
    go_enter Tryz.func187, Tryz.ntmps187
    go_wp2_with ((first | ((with_reducible refine tBox (some 1) ?_); refine w_box M _ _ rfl rfl _ rfl ([.int .i64 i, .int .i64 e, .slice q ops.length cap]) rfl ?_; clear M; intro gx w1 M) | ((with_reducible refine tGuard ?_); first | ((with_reducible refine qAC ?_ ?_); exact dcd) | ((with_reducible refine qAH ?_ ?_); exact dcd) | ((with_reducible refine qAI ?_ ?_); exact dcd)) | ((with_reducible refine tM rfl ?_); refine mS ?_; try (clear M; (first | intro g w1 M | intro w1 M); try simp only [setC] at M)) | ((with_reducible refine tGuard ?_); refine gdC ?_ ?_ <;> (intro hgd; rw [hgd]; try (exfalso; simp at hgd; omega)))) <;> (try conv => arg 5; simp only [apS, setC]))
    go_ret
    exact ⟨rfl, M.below⟩
   ·have h1' : 1 ≤ i := by omega
    rcases h with h | h
    ·go_enter Tryz.func187, Tryz.ntmps187
     go_wp2_with ((first | ((with_reducible refine tBox (some 1) ?_); refine w_box M _ _ rfl rfl _ rfl ([.int .i64 i, .int .i64 e, .slice q ops.length cap]) rfl ?_; clear M; intro gx w1 M) | ((with_reducible refine tGuard ?_); first | ((with_reducible refine qAC ?_ ?_); exact dcd) | ((with_reducible refine qAH ?_ ?_); exact dcd) | ((with_reducible refine qAI ?_ ?_); exact dcd)) | ((with_reducible refine tM rfl ?_); refine mS ?_; try (clear M; (first | intro g w1 M | intro w1 M); try simp only [setC] at M)) | ((with_reducible refine tGuard ?_); refine gdC ?_ ?_ <;> (intro hgd; rw [hgd]; try (exfalso; simp at hgd; omega)))) <;> (try conv => arg 5; simp only [apS, setC]))
     go_ret
     exact ⟨rfl, M.below⟩
    ·by_cases h2 : 4611686018427387904 < i
     ·clear h
      go_enter Tryz.func187, Tryz.ntmps187
      go_wp2_with ((first | ((with_reducible refine tBox (some 1) ?_); refine w_box M _ _ rfl rfl _ rfl ([.int .i64 i, .int .i64 e, .slice q ops.length cap]) rfl ?_; clear M; intro gx w1 M) | ((with_reducible refine tGuard ?_); first | ((with_reducible refine qAC ?_ ?_); exact dcd) | ((with_reducible refine qAH ?_ ?_); exact dcd) | ((with_reducible refine qAI ?_ ?_); exact dcd)) | ((with_reducible refine tM rfl ?_); refine mS ?_; try (clear M; (first | intro g w1 M | intro w1 M); try simp only [setC] at M)) | ((with_reducible refine tGuard ?_); refine gdC ?_ ?_ <;> (intro hgd; rw [hgd]; try (exfalso; simp at hgd; omega)))) <;> (try conv => arg 5; simp only [apS, setC]))
      go_ret
      exact ⟨rfl, M.below⟩
     ·have h2' : i ≤ 4611686018427387904 := by omega
      go_enter Tryz.func187, Tryz.ntmps187
      go_wp2_with ((first | ((with_reducible refine tBox (some 1) ?_); refine w_box M _ _ rfl rfl _ rfl ([.int .i64 i, .int .i64 e, .slice q ops.length cap]) rfl ?_; clear M; intro gx w1 M) | ((with_reducible refine tGuard ?_); first | ((with_reducible refine qAC ?_ ?_); exact dcd) | ((with_reducible refine qAH ?_ ?_); exact dcd) | ((with_reducible refine qAI ?_ ?_); exact dcd)) | ((with_reducible refine tM rfl ?_); refine mS ?_; try (clear M; (first | intro g w1 M | intro w1 M); try simp only [setC] at M)) | ((with_reducible refine tGuard ?_); refine gdC ?_ ?_ <;> (intro hgd; rw [hgd]; try (exfalso; simp at hgd; omega)))) <;> (try conv => arg 5; simp only [apS, setC]))
      go_ret
      exact ⟨rfl, M.below⟩
 ·obtain ⟨h1, h2, h3⟩ : 1 ≤ i ∧ i ≤ 4611686018427387904 ∧ 1 ≤ e := by omega
  by_cases h4 : 4 < ops.length
  ·rw [right_4 h h4]
   have h4' : (4 : Int) < (ops.length : Int) := by omega
   replace E := Lib.hid E
   clear h
   go_enter Tryz.func187, Tryz.ntmps187
   go_wp2_with ((first | ((with_reducible refine tBox (some 1) ?_); refine w_box M _ _ rfl rfl _ rfl ([.int .i64 i, .int .i64 e, .slice q ops.length cap]) rfl ?_; clear M; intro gx w1 M) | ((with_reducible refine tGuard ?_); first | ((with_reducible refine qAC ?_ ?_); exact dcd) | ((with_reducible refine qAH ?_ ?_); exact dcd) | ((with_reducible refine qAI ?_ ?_); exact dcd)) | ((with_reducible refine tM rfl ?_); refine mS ?_; try (clear M; (first | intro g w1 M | intro w1 M); try simp only [setC] at M)) | ((with_reducible refine tGuard ?_); refine gdC ?_ ?_ <;> (intro hgd; rw [hgd]; try (exfalso; simp at hgd; omega)))) <;> (try conv => arg 5; simp only [apS, setC]))
   go_ret
   exact ⟨rfl, M.below⟩
  ·rw [right_e h yF]
   have h4' : (ops.length : Int) ≤ 4 := by omega
   obtain ⟨R, eR⟩ : ∃ R, R = eachE cutE ops := ⟨_, rfl⟩
   rw [← eR] at E ⊢
   replace E := Lib.hid E
   clear h eR
   go_enter Tryz.func187, Tryz.ntmps187
   go_wp2_with ((first | ((with_reducible refine tBox (some 1) ?_); refine w_box M _ _ rfl rfl _ rfl ([.int .i64 i, .int .i64 e, .slice q ops.length cap]) rfl ?_; clear M; intro gx w1 M) | ((with_reducible refine tGuard ?_); first | ((with_reducible refine qAC ?_ ?_); exact dcd) | ((with_reducible refine qAH ?_ ?_); exact dcd) | ((with_reducible refine qAI ?_ ?_); exact dcd)) | (go_at_call 201; (refine (E.out _ (S.now M)).mono ?_; rintro e w1 ⟨rfl, hb⟩; replace M := M.call hb; clear hb)) | ((with_reducible refine tM rfl ?_); refine mS ?_; try (clear M; (first | intro g w1 M | intro w1 M); try simp only [setC] at M)) | ((with_reducible refine tGuard ?_); refine gdC ?_ ?_ <;> (intro hgd; rw [hgd]; try (exfalso; simp at hgd; omega)))) <;> (try conv => arg 5; simp only [apS, setC]))
   go_ret
   exact ⟨rfl, M.below⟩
end Go.Proofs.YtidadhbaomieiaaGreat
