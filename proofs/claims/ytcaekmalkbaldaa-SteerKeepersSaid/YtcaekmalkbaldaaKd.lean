/- The contract of a keeper's Log, by hand. -/
import Derived.Test.YtcaekmalkbaldaaKb
namespace Go.Proofs.Ytcaekmalkbaldaa.M
open Go.RowKit Go.Proofs.YtcaekmalkbaldaaW.PrintWords Go.Proofs.YtcaekmalkbaldaaW.PrintLast Go.Proofs.YtcaekmalkbaldaaW.PrintMore
set_option linter.unusedVariables false
set_option linter.unusedSimpArgs false
section
open Go.Shelf
set_option maxRecDepth 100000 in
set_option maxHeartbeats 4000000 in
theorem log_calls (V W : World) (kb pb : Nat) (L R S N u now : Int) (ad : Addr) (cc : Nat) (ch : List Int) (lg : List S59) (hK : KeepAt V W kb pb L R S N u now ad cc ch lg) (hl : lg.length ≤ 10000) :
    Calls Try.prog 34 #[.pointer (some ⟨kb, 0, none⟩)] W fun e W' => ∃ v', e = .returned (.tuple #[v', .int .i64 0]) ∧ W'.ownsRow W.heap.size 59 2 v' lg.length (entc lg) ∧ Below W.heap.size W W' := by
  obtain ⟨⟨h1, h2, h3, h4⟩, vl, h5, h6⟩ := hK
  have a56 := fun W' (hB : Below W.heap.size W W') => none_calls kb ⟨pb, 0, none⟩ _ W' ((hB.block _ (Array.getElem?_eq_some_iff.1 h5).1).trans h5) rfl
  have k4 : W.cell? ⟨kb, 4, none⟩ = some vl := blk_cell h5 4
  have H6 := Aside0.mk h6
  obtain ⟨Al, cl, rfl, _, _⟩ := Kd.R_reads (R_entc h6)
  clear h1 h2 h3 h4 h5 h6
  go_enter Try.func34, Try.ntmps34
  go_wp2_with fail
  refine (a56 _ (Below.refl _ _)).mono ?_
  rintro en w1 ⟨rfl, hB⟩
  replace k4 := cell_on hB k4
  go_wp2_with fail
  refine (clone_calls _ (kb + 1) lg hl w1 (own_move H6.out (fun q hq => hB.block q (own_lt H6.out q hq)))).mono ?_
  rintro en w2 ⟨v', rfl, ho, hB2⟩
  go_wp2
  go_ret2
  refine ⟨v', rfl, ⟨ho.1, ?_⟩, hB.trans (hB2.mono hB.size)⟩
  rcases ho.2 with h | ⟨g, cap, cur, e1, e2, e3⟩
  · exact .inl h
  · exact .inr ⟨g, cap, cur, e1, Nat.le_trans hB.size e2, e3⟩
end
end Go.Proofs.Ytcaekmalkbaldaa.M
