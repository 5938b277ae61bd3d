/- 'Force': its contract at any state, beside what the reference answers. -/
import Derived.Test.YtcaekmalkbaldaaFc
import Derived.Test.YtcaekmalkbaldaaHa
import Derived.Test.YtcaekmalkbaldaaCq
namespace Go.Proofs.Ytcaekmalkbaldaa.M
open Go.RowKit Go.Shelf Go.Proofs.YtcaekmalkbaldaaW.PrintWords Go.Proofs.YtcaekmalkbaldaaW.PrintLast Go.Proofs.YtcaekmalkbaldaaW.PrintMore
set_option linter.unusedVariables false
set_option linter.unusedSimpArgs false
theorem forceL_len (L R S N : Int) (ch : List Int) : ∀ (rs : List Int) (e r : Int) (out : List Int), (forceL L R S N ch rs e r out).1.length ≤ out.length + rs.length
  | [], e, r, out => by simp [forceL]
  | q :: rs, e, r, out => by
    unfold forceL
    split
    · split
      · refine Nat.le_trans (forceL_len L R S N ch rs _ _ _) ?_
        simp; omega
      · simp
    · simp
set_option maxRecDepth 100000 in
set_option maxHeartbeats 2000000 in
theorem force_bad (L R S N e r x : Int) (A : Option Addr) (n c : Nat) (hi : steer_Index.f L R S N e r = some (0, x)) (hx : x ≠ 0) (w : World) :
    Calls Try.prog 28 #[pl L R S N, .int .i64 e, .int .i64 r, .slice A n c] w fun en w' => en = .returned (.tuple #[.slice none 0 0, .int .i64 x]) ∧ Below w.heap.size w w' := by
  have i15 := fun W => steer_Index.calls L R S N e r 0 x W hi
  have hx1 : (x != 0) = true := bne_iff_ne.mpr hx
  have hx2 : (x == 0) = false := beq_eq_false_iff_ne.mpr hx
  clear hi hx
  go_enter Try.func28, Try.ntmps28
  go_wp2_with fail
  refine (i15 _).mono ?_
  rintro en w1 ⟨rfl, hB⟩
  go_wp2
  go_ret2
  exact ⟨rfl, ((Below.refl _ w).alloc (Nat.le_refl _) _).trans (hB.mono (by simp))⟩
theorem force_pair (L R S N e r : Int) (rs : List Int) (hrs : rs.length ≤ 60) (hbig : (decide (rightB L R S N = true) && decide (600 < (2 * L + 1) * (2 * R + 1))) = false) :
    ∃ (o : List Int) (x : Int) (K : Nat), o.length ≤ 60 ∧ (∀ (A : Option Addr) (c : Nat) (W : World), Kd.C (Kd.int .i64) W A rs.length rs → rs.length ≤ c → Calls Try.prog 28 #[pl L R S N, .int .i64 e, .int .i64 r, .slice A rs.length c] W fun en w' => ∃ (A' : Option Addr) (c' : Nat), en = .returned (.tuple #[.slice A' o.length c', .int .i64 x]) ∧ (o.length ≤ c' ∧ Kd.C (Kd.int .i64) w' A' o.length o) ∧ Below W.heap.size W w') ∧
      ∀ k, K ≤ k → meridianref06_Force.f k L R S N e r rs = some (o, x) := by
  rcases index_cases L R S N e r with ⟨hp, hb, h1, h2⟩ | ⟨x, hx, h1, h2⟩
  · have h' := rightB_iff.1 hp
    obtain ⟨ch, hch⟩ := chart_some hp
    obtain ⟨m, hB⟩ := best_of hch
    have hsm := small_siz hp hbig
    have hm : m ≤ 1500 := by have := hB.small; omega
    obtain ⟨j, hj, hji⟩ := idx_lt (show 1 ≤ L by omega) (show 0 ≤ R by omega) hb
    obtain ⟨K, hK⟩ := rforce_f hB hm hp hch hb (j := j) (by rw [hB.says.1]; exact hj) hji h2 rs (by omega)
    obtain ⟨o, x, hox⟩ : ∃ o x, (if rd ch (j : Int) < 1000 then (([], 9) : List Int × Int) else forceL L R S N ch rs e r []) = (o, x) := ⟨_, _, rfl⟩
    refine ⟨o, x, K, ?_, fun A c W hC hc => force_calls L R S N e r A c rs j ch W (by rw [h1]; rw [show ix L R e r = (j : Int) from hji]) hj hji hB.says.1 hch hC hc (by omega) hb o x hox, fun k hk => by rw [hK k hk, hox]⟩
    by_cases hlt : rd ch (j : Int) < 1000
    · rw [if_pos hlt] at hox
      obtain ⟨rfl, _⟩ := Prod.mk.inj hox
      simp
    · rw [if_neg hlt] at hox
      have := forceL_len L R S N ch rs e r []
      rw [hox] at this
      simp only [List.length_nil] at this
      omega
  · refine ⟨[], x, 0, by simp, fun A c W hC hc => ?_, fun k _ => ?_⟩
    · refine (force_bad L R S N e r x A rs.length c h1 hx W).mono ?_
      rintro en w' ⟨rfl, hB⟩
      exact ⟨none, 0, rfl, ⟨Nat.le_refl _, (Kd.R_reads' (Kd.R_nil (Kd.int .i64) 3 w' 0 (fun _ => True))).2.2⟩, hB⟩
    · unfold meridianref06_Force.f
      rw [h2, Option.bind_some]
      simp only
      rw [if_neg hx]
end Go.Proofs.Ytcaekmalkbaldaa.M
