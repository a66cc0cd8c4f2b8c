/- A slice that is nothing serves as an empty row with a name. -/
import Derived.Test.YtedampaecopkhaaAbsV
namespace Go.Proofs.Ytedampaecopkhaa
open Go Go.RowKit

theorem Sub.nilN {k0 : Nat} {l : Tm} {H : List (Nat × List V)} {nx : Nat} (i sz : Nat) (hi : tget l i = .nil) : Sub k0 l (H, nx) ((i, .sl nx sz 0 0) :: l) ((nx, []) :: H, nx + 1) := by
  intro C hC a w hst
  obtain ⟨N, T, hr⟩ := hst
  have hN : N nx = none := hr.nx nx (Nat.le_refl _)
  have hk : ∀ U : Nat → Prop, Kept N (fun n => if n = nx then some none else N n) U U w w := fun U => ⟨fun b hb => ⟨rfl, hb⟩, fun n l h => by
    by_cases e : n = nx
    · subst e; rw [hN] at h; simp at h
    · simpa [e] using h, fun _ _ _ _ => SameAt.shape rfl⟩
  refine ⟨fun n => if n = nx then some none else N n, T, hr.tsz, hr.dfr, ?_, .consE nx H T (by simp) (hr.hp.kept (hk _) (fun _ _ => rfl)), hr.nd, hr.own, hr.fr, fun n h => ?_, fun n h => ?_, Nat.le_succ_of_le hr.kn, hr.lh⟩
  · intro j
    simp only [tget]
    split
    · rename_i e
      subst e
      have := hr.sl i
      rw [hi] at this
      generalize a.tmps.getD i Go.undef = c at this
      cases this
      exact .slE nx sz (by simp)
    · exact (hr.sl j).kept (hk _) (by simp)
  · have h2 : n ≠ nx := fun e => by rw [e] at h; exact absurd h (by show ¬ (nx + 1 ≤ nx); omega)
    simp only [h2, if_false]
    exact hr.nx n (Nat.le_of_succ_le h)
  · have h2 : n ≠ nx := fun e => by
      have := hr.kn
      simp only at this
      subst hC
      omega
    simp only [h2, if_false]
    exact hr.nl n h
theorem SubI.nilN {k0 : Nat} {l l' : Tm} {H : List (Nat × List V)} {s' : Hp} {nx : Nat} (i sz : Nat) (hi : tget l i = .nil) (h : SubI k0 ((i, .sl nx sz 0 0) :: l) ((nx, []) :: H, nx + 1) l' s') : SubI k0 l (H, nx) l' s' :=
  ⟨(Sub.nilN i sz hi).trans h.h⟩
end Go.Proofs.Ytedampaecopkhaa
