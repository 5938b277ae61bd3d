/- WorldHolds: the law's walk. -/
import Derived.OwnWalk
import Derived.BigRegion
import Derived.Deep.RegionHeld3
import Derived.Test.YtlfnnalepdjagaaDoorBh
import Derived.Test.YtlfnnalepdjagaaDoorBe
namespace Go.Proofs.YtlfnnalepdjagaaDoor.C
open Go.RowKit Go.Shelf Go.Maps Go.Proofs.YtlfnnalepdjagaaDoorW.PrintWords Go.Proofs.YtlfnnalepdjagaaDoorW.PrintLast Go.Proofs.YtlfnnalepdjagaaDoorW.PrintMore
set_option linter.unusedVariables false
set_option linter.unusedSimpArgs false
theorem big_false {chs : List T3} {cks : List Ck} (h : bigF chs cks = false) : chs.length ≤ 40 ∧ cks.length ≤ 40 ∧ ∀ x ∈ cks, x.es.length ≤ 40 := by
  unfold bigF at h
  simp only [Bool.or_eq_false_iff, decide_eq_false_iff_not, List.any_eq_false, decide_eq_true_eq] at h
  exact ⟨by omega, by omega, fun x hx => by have := h.2.2 x hx; omega⟩
end Go.Proofs.YtlfnnalepdjagaaDoor.C
