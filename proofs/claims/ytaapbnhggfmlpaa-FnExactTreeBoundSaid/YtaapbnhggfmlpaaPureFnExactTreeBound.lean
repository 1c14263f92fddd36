/- Of every bundle the program's TreeBound tells what the reference's tells, and the bundle stays as it was: the pure statement of the law. -/
import Derived.Test.YtaapbnhggfmlpaaPxf4
import Derived.Test.YtaapbnhggfmlpaaB2
namespace Go.Proofs.Ytaapbnhggfmlpaa.Pure
open Go.RowKit Go.Proofs.Ytaapbnhggfmlpaa.P Go.Proofs.YtaapbnhggfmlpaaW.PrintWords Go.Proofs.YtaapbnhggfmlpaaW.PrintLast Go.Proofs.Ytaapbnhggfmlpaa.B
theorem FnExactTreeBound (l : List (List Int)) (hl : l.length ≤ 9223372036854775807) (_hw : ∀ r ∈ l, ∀ n ∈ r, (Lit.int .i64 n).wf = true) (hm : ∀ r ∈ l, r.length ≤ 9223372036854775807) : ∃ k, laws_FnExactTreeBound.f k l = some true := by
  obtain ⟨r, ⟨K, hr⟩, hi, _⟩ := spec_TB l
  refine ⟨K + 2097157, ?_⟩
  unfold laws_FnExactTreeBound.f
  obtain ⟨z, hz, hz'⟩ := szBundle l hl hm (K + 2097157) (by omega)
  rw [hz]
  simp only [Option.bind_some]
  by_cases c : z < 0
  · rw [if_pos c]
  · obtain ⟨h1, h2⟩ := hz' (by omega)
    rw [if_neg c, toBundle l h1 h2 _ (by omega)]
    simp only [Option.bind_some]
    rw [show spec_TreeBound.f (K + 2097157) l = some r from hr _ (by omega), hi]
    simp only [Option.bind_some, if_true]
    obtain ⟨k, hk⟩ : ∃ m, K + 2097157 = m + 1 := ⟨K + 2097156, rfl⟩
    rw [hk]
    simp only [laws_FnExactTreeBound.j0]
    rw [if_neg (by simp), toBundle l h1 h2 _ (by omega)]
    simp only [Option.bind_some]
    rw [eqBundle l h1 h2 _ (by omega)]
    simp
end Go.Proofs.Ytaapbnhggfmlpaa.Pure
