/- Contracts of calendar.Announced, by hand. -/
import Derived.OwnWalk
import Derived.Test.YtleipbanadnchaaDe
namespace Go.Proofs.Ytleipbanadnchaa.C
open Go.RowKit Go.Shelf Go.Maps Go.Proofs.YtleipbanadnchaaW.PrintWords Go.Proofs.YtleipbanadnchaaW.PrintLast Go.Proofs.YtleipbanadnchaaW.PrintMore
set_option linter.unusedVariables false
set_option linter.unusedSimpArgs false
/-- The last day of a day's month. -/
def endF (D : Int) : Int := dayN (cY D) (cM D) (mlen (cY D) (cM D))
set_option maxHeartbeats 2000000 in
set_option maxRecDepth 100000 in
theorem Announced_ok (b u : Int) (A : Option Addr) (c : Nat) (l : List (Int × Int)) (s D : Int) (w : World) (hr : Kd.C kl w A l.length l) (hk : askE b l u s = 0) (hD : IsDay l u s D) :
    Calls Try.prog 29 #[tabV b A l.length c u, .int .i64 s] w fun e w' => e = .returned (.tuple #[.int .i64 (stepF l (endF D)), .int .i64 0]) ∧ Below w.heap.size w w' := by
  have HR := Aside0.mk hr
  have hz := askE_zero hk
  have a65 := fun w h => ask_calls b u A c l s w h
  have a84 := fun kb w hc => split_calls kb b u A c l s D w hc hz.1 hD
  obtain ⟨h1, h2, h3, h4, h5, h6⟩ := checkF_right hz.1
  have a85 := fun w => civil_calls D hD.d0 (by have := hD.d1; omega) w
  have hc := civ_is hD.d0 (by have := hD.d1; omega)
  have hy0 := hc.y0
  have hy1 := hc.y1 (by have := hD.d1; omega)
  have hm0 := hc.m0
  have hm1 := hc.m1
  have hml := mlen_bound (cY D) (cM D)
  have hE : endF D = dayN (cY D) (cM D) (mlen (cY D) (cM D)) := rfl
  have hEb : 0 ≤ endF D ∧ endF D ≤ 900000 := by
    have := cum_bound (cY D) (cM D - 1).toNat
    rw [hE]; unfold dayN ny; omega
  have a80 := fun w => number_calls (cY D) (cM D) (mlen (cY D) (cM D)) (by omega) (by omega) (by omega) (by omega) (by omega) (by omega) w
  have a86 := fun w => months_calls (cY D) (by omega) (by omega) w
  have hix := fun w => index_mths (cY D) (cM D - 1) (by omega) (by omega) w
  rw [show cM D - 1 + 1 = cM D by omega] at hix
  rw [← hE] at a80
  have hkey : keyOf Try.prog 3 (.int .i64 (endF D)) = some (.int .i64 (endF D)) := keyOf_int_mk Try.underlying3 (wf_64 (by omega) (by omega))
  have HL := Aside0.mk (show ∀ (kb mb : Nat) (w : World), w.ownsMap Try.prog 3 (plainElem Try.prog 3) mb l.length (dmOf l) → (Instr.lookup 117 (.map (some mb)) (.int .i64 (endF D)) false).run Try.prog w = .ok (.int .i64 (stepF l (endF D))) w from fun kb mb w hm => by
    obtain ⟨cc, hrun, hat, _⟩ := hm.lookup_int law3 Try.underlying117 Try.underlying3 (zero3 _) hkey
    rw [lit_inj (hat.symm.trans (dmOf_at h6 _))] at hrun
    exact hrun)
  clear hr hD hc hE hz h6 hkey
  generalize endF D = E at *
  generalize stepF l E = q at *
  generalize s - beginF l D = n at *
  generalize cY D = Y at *
  generalize cM D = M at *
  generalize cD D = K at *
  rw [hk] at a65
  clear hk
  have hwM : IntKind.i64.wrap (M - 1) = M - 1 := iw _ (by omega) (by omega)
  go_enter Try.func29, Try.ntmps29
  go_wp2_with fail
  refine (a65 _ (Kd.C_below HR.out ((Below.refl _ w).alloc (Nat.le_refl _) _))).mono ?_
  rintro en w1 ⟨⟨p, rfl, h2⟩, hB⟩
  obtain ⟨kb, rfl, hct⟩ := (by first | exact h2 rfl | exact h2 trivial | exact h2)
  have hv : Below w.heap.size w w1 := ((Below.refl _ w).alloc (Nat.le_refl _) _).trans (hB.mono (by simp))
  have HC := Aside0.mk hct
  clear hB a65 h2 hct
  go_wp2_with fail
  refine (a84 kb _ HC.out).mono ?_
  rintro en w2 ⟨rfl, hB⟩
  have hv2 := hv.trans (hB.mono hv.size)
  have HC2 := Aside0.mk (HC.out.below hB)
  clear hB hv HC a84
  go_wp2_with fail
  refine (a85 _).mono ?_
  rintro en w3 ⟨rfl, hB⟩
  have hv3 := hv2.trans (hB.mono hv2.size)
  have HC3 := Aside0.mk (HC2.out.below hB)
  clear hB hv2 HC2 a85
  go_wp2_with fail
  obtain ⟨_, mb, hkx, hm⟩ := HC3.out
  have k3 : w3.cell? ⟨kb, 3, none⟩ = some (.map (some mb)) := blk_cell hkx 3
  have hlk : ∀ w', Below w3.heap.size w3 w' → (Instr.lookup 117 (.map (some mb)) (.int .i64 E) false).run Try.prog w' = .ok (.int .i64 q) w' := fun w' hB => HL.out kb mb w' (ownsMap_below hm hB)
  have hS : ∀ w', Below w3.heap.size w3 w' → ((w'.cell? ⟨kb, 3, none⟩ = some (.map (some mb)) ∧ (Instr.lookup 117 (.map (some mb)) (.int .i64 E) false).run Try.prog w' = .ok (.int .i64 q) w') ∧ Below w3.heap.size w3 w') := fun w' hB => ⟨⟨cell_on hB k3, hlk w' hB⟩, hB⟩
  clear hkx hm
  go_region_held3 (fun w' => (w'.cell? ⟨kb, 3, none⟩ = some (.map (some mb)) ∧ (Instr.lookup 117 (.map (some mb)) (.int .i64 E) false).run Try.prog w' = .ok (.int .i64 q) w') ∧ Below w3.heap.size w3 w') (first | exact hS _ (Below.refl _ _).drew | assumption | (have hh := ‹(_ ∧ _) ∧ Below w3.heap.size w3 _›; exact hS _ (hh.2.trans (hB.mono hh.2.size))))
    (first | (go_at_call 86; refine (a86 _).mono ?_; rintro e w' ⟨rfl, hB⟩) | (go_at_call 80; refine (a80 _).mono ?_; rintro e w' ⟨rfl, hB⟩))
  rename_i hHeld
  have hV := hHeld.2
  clear hHeld hS hlk hwM
  go_wp2
  go_ret2
  exact ⟨rfl, hv3.trans (hV.mono hv3.size)⟩
end Go.Proofs.Ytleipbanadnchaa.C
