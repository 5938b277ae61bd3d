/- Lists of states, compared. -/
import Derived.Test.YtcaekmalkbaldaaM7
import Derived.Test.YtcaekmalkbaldaaPm
namespace Go.Proofs.Ytcaekmalkbaldaa.M
open Go.RowKit Go.Shelf Go.Proofs.YtcaekmalkbaldaaW.PrintWords Go.Proofs.YtcaekmalkbaldaaW.PrintLast Go.Proofs.YtcaekmalkbaldaaW.PrintMore
set_option linter.unusedVariables false
set_option linter.unusedSimpArgs false
/-- Both programs' states. -/
def cv (x : S59) : S84 := ⟨x.f0, x.f1⟩
theorem entries_l0 (a : List S59) (ha : a.length ≤ 100000) : ∀ (n i k : Nat), i + n = a.length → n < k → meridianlaw06_entries.l0 k a (a.map cv) (i : Int) = some true
  | 0, i, k, hi, hk => by
    obtain ⟨k, rfl⟩ : ∃ j, k = j + 1 := ⟨k - 1, by omega⟩
    unfold meridianlaw06_entries.l0
    rw [if_neg (by omega)]
  | n + 1, i, k, hi, hk => by
    obtain ⟨k, rfl⟩ : ∃ j, k = j + 1 := ⟨k - 1, by omega⟩
    have hil : i < a.length := by omega
    have h1 : rd_T59 a (i : Int) = a[i] := by simp [rd_T59, List.getD_eq_getElem?_getD, hil]
    have h2 : rd_T84 (a.map cv) (i : Int) = cv a[i] := by simp [rd_T84, List.getD_eq_getElem?_getD, hil]
    unfold meridianlaw06_entries.l0
    rw [if_pos (by omega), if_pos (by omega), if_pos (by rw [List.length_map]; omega), h1, h2, if_neg (by simp [cv]), wrap_small _ (by omega) (by omega), show ((i : Int) + 1) = ((i + 1 : Nat) : Int) by omega]
    exact entries_l0 a ha n (i + 1) k (by omega) (by omega)
theorem entries_f (a : List S59) (ha : a.length ≤ 100000) (k : Nat) (hk : a.length < k) : meridianlaw06_entries.f k a (a.map cv) = some true := by
  unfold meridianlaw06_entries.f
  rw [if_pos (by simp)]
  exact entries_l0 a ha a.length 0 k (by omega) hk
end Go.Proofs.Ytcaekmalkbaldaa.M
