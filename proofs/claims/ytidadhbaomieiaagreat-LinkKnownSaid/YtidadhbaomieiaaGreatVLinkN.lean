/- Plain: the examples of layer 19's law LinkKnown: another seed's tag is another one; a tag with one bit turned is another one. No program in this text. No conditions. -/
import Derived.Test.YtidadhbaomieiaaGreatZe
import Derived.Test.YtidadhbaomieiaaGreatZd
namespace Go
namespace TL
def seedB : List UInt8 := [97, 110, 111, 116, 104, 101, 114, 32, 115, 101, 101, 100]
theorem link_far : (tagL (ringK (masterK [115] 0 1) 0) 0 1 0 (aboutK 0 1) (sealL (ringK (masterK [115] 0 1) 0) 1 0 [1, 3]) == tagL (ringK (masterK seedB 0 1) 0) 0 1 0 (aboutK 0 1) (sealL (ringK (masterK [115] 0 1) 0) 1 0 [1, 3])) = false := by decide +kernel
theorem link_seed : openL (masterK seedB 0 1) 0 (envB (RingS.env ⟨masterK [115] 0 1, 0, 1, 0⟩ (aboutK 0 1) [1, 3])) (aboutK 0 1) = ([], 13) := by
  have hr := RingS.read (R := ⟨masterK [115] 0 1, 0, 1, 0⟩) (aboutK 0 1) [1, 3] (by decide) (by decide)
  refine openL_mac (by rw [hr]) (by rw [hr]; exact Nat.lt_irrefl 0) ?_
  rw [hr]
  intro h
  have e := link_far
  unfold RingS.env at h
  simp only at h
  rw [h] at e
  simp at e
/-- A tag whose last byte is turned is not the right one. -/
theorem openL_turned {R : RingS} (about text : List UInt8) (hc : R.c ≤ 1048576) (ht : text.length ≤ 8192) {c : Nat} (h : R.c ≤ c) {D : List UInt8} {x : UInt8} (hD : D ++ [x] = envB (R.env about text)) {y : UInt8} (hy : y ≠ x) : openL R.m c (D ++ [y]) about = ([], 13) := by
  obtain ⟨h1, h2, h3⟩ := RingS.env_right (R := R) about text hc ht
  obtain ⟨⟨k, b, n, d, t⟩, ex⟩ : ∃ X, X = R.env about text := ⟨_, rfl⟩
  rw [← ex] at hD h1 h2 h3
  simp only at h1 h2 h3
  have et : t = tagL (ringK R.m R.c) R.c R.b R.n about (sealL (ringK R.m R.c) R.b R.n text) := by have := congrArg Env.t ex; exact this
  have ek : k = R.c := by have := congrArg Env.k ex; exact this
  have eb : b = R.b := by have := congrArg Env.b ex; exact this
  have en : n = R.n := by have := congrArg Env.n ex; exact this
  have ed : d = sealL (ringK R.m R.c) R.b R.n text := by have := congrArg Env.d ex; exact this
  have e0 : ∀ t', envB ⟨k, b, n, d, t'⟩ = (headL k b n ++ textL d) ++ t' := fun t' => by unfold envB headL; simp only [List.append_assoc]
  obtain ⟨t0, hx⟩ : ∃ t0, t = t0 ++ [x] := by
    rcases List.eq_nil_or_concat t with h0 | ⟨t0, z, h0⟩
    · rw [h0] at h3; simp at h3
    · rw [e0, h0] at hD
      rw [List.concat_eq_append, ← List.append_assoc] at hD
      have := List.append_inj_right' hD rfl
      injection this with hz
      exact ⟨t0, by rw [h0, hz, List.concat_eq_append]⟩
  have hD2 : D = (headL k b n ++ textL d) ++ t0 := by
    rw [e0, hx, ← List.append_assoc] at hD
    exact List.append_inj_left' hD rfl
  have hs : D ++ [y] = envB ⟨k, b, n, d, t0 ++ [y]⟩ := by rw [e0, hD2, List.append_assoc]
  have hr : readS (D ++ [y]) = (⟨k, b, n, d, t0 ++ [y]⟩, 0) := by
    have hR : rightEnv ⟨k, b, n, d, t0 ++ [y]⟩ := ⟨h1, h2, by rw [hx] at h3; simpa using h3⟩
    have := read_env _ hR []
    rw [List.append_nil, if_pos rfl] at this
    rw [hs]; exact this
  refine openL_mac (by rw [hr]) (by rw [hr]; simp only; omega) ?_
  rw [hr]
  simp only
  intro hh
  rw [ek, eb, en, ed] at hh
  rw [← et, hx] at hh
  have := List.append_inj_right' hh rfl
  injection this with hz
  exact hy hz
end TL
end Go
