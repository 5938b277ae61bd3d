/- Contracts of calendar.monthEnd and calendar.Check, by hand. -/
import Derived.OwnWalk
import Derived.Test.YtleipbanadnchaaCf
namespace Go.Proofs.Ytleipbanadnchaa.C
open Go.RowKit Go.Shelf Go.Proofs.YtleipbanadnchaaW.PrintWords Go.Proofs.YtleipbanadnchaaW.PrintLast Go.Proofs.YtleipbanadnchaaW.PrintMore
set_option linter.unusedVariables false
set_option linter.unusedSimpArgs false
/-- A row of leaps. -/
def kl : Kd (Int × Int) := Kd.pair (Kd.int .i64) (Kd.int .i64)
theorem kl_open {w : World} {x : Int × Int} {cs : List Value} (h : kl.K w x cs) : cs = [.int .i64 x.1, .int .i64 x.2] := by
  obtain ⟨c1, c2, rfl, h1, h2⟩ := h
  rw [show c1 = [.int .i64 x.1] from h1, show c2 = [.int .i64 x.2] from h2]
  rfl
theorem C_leap {w : World} {A : Option Addr} {n : Nat} {l : List (Int × Int)} (h : Kd.C kl w A n l) (k : Nat) (hk : k < l.length) (hn : k < n) :
    ∃ ad, A = some ad ∧ w.cell? (ad.add (k * 2)) = some (.int .i64 l[k].1) ∧ w.cell? ⟨(ad.add (k * 2)).block, (ad.add (k * 2)).off + 1, none⟩ = some (.int .i64 l[k].2) := by
  obtain ⟨ad, c, e, hs, hr, hc⟩ := ReadsRow.get_ h (0, 0) k (by omega) (by omega)
  have hx : l.getD (Int.toNat (k : Int)) (0, 0) = l[k] := by simp [List.getD_eq_getElem?_getD, hk]
  rw [hx] at hr
  obtain rfl := kl_open hr
  have e1 : ad.add (k * 2 + 1) = ⟨(ad.add (k * 2)).block, (ad.add (k * 2)).off + 1, none⟩ := by
    unfold Addr.add
    rw [if_neg (show ¬ k * 2 + 1 = 0 by omega)]
    split
    · rename_i h0; simp [h0]
    · simp [Nat.add_assoc]
  have c0 := hc 0 _ rfl
  have c1 := hc 1 _ rfl
  rw [show kl.sz = 2 from rfl, show Int.toNat (k : Int) = k by simp] at c0 c1
  exact ⟨ad, e, c0, by rw [← e1]; exact c1⟩
/-- A table, as a value. -/
abbrev tabV (b : Int) (A : Option Addr) (n c : Nat) (u : Int) : Value := .agg #[.int .i64 b, .slice A n c, .int .i64 u]
theorem monthEnd_calls (n : Int) (w : World) :
    Calls Try.prog 108 #[.int .i64 n] w fun e w' => e = .returned (.bool (meF n)) ∧ Below w.heap.size w w' := by
  have a87 := fun w => known_calls n w
  change ∀ w, Calls _ _ _ _ (fun e w' => e = .returned (.bool (knownB n)) ∧ _) at a87
  cases h : knownB n
  · rw [h] at a87
    have hr : meF n = true := by unfold meF; rw [show (decide (41317 ≤ n) && decide (n ≤ 88068)) = false from h]; rfl
    rw [hr]
    go_enter Try.func108, Try.ntmps108
    go_wp2_with fail
    refine (a87 _).mono ?_
    rintro en w1 ⟨rfl, hB⟩
    go_wp2
    go_ret
    exact ⟨rfl, hB⟩
  · rw [h] at a87
    have h' := knownB_iff.1 h
    have hc := civ_is h'.1 (by omega)
    have hr : meF n = decide (cD n = mlen (cY n) (cM n)) := by unfold meF; rw [show (decide (41317 ≤ n) && decide (n ≤ 88068)) = true from h]; rfl
    rw [hr]
    have y0 := hc.y0
    have y1 := hc.y1 (by omega)
    have m0 := hc.m0
    have m1 := hc.m1
    have hcc := civil_calls n h'.1 (by omega)
    have HQ := Aside0.mk (show ∀ (d : Int), ((d == mlen (cY n) (cM n)) : Bool) = decide (d = mlen (cY n) (cM n)) from fun d => by by_cases h : d = mlen (cY n) (cM n) <;> simp [h])
    generalize cD n = d at *
    generalize hM : cM n = m at *
    generalize cY n = y at *
    clear hc
    have hix := fun w => index_mths y (m - 1) (by omega) (by omega) w
    rw [show m - 1 + 1 = m by omega] at hix
    go_enter Try.func108, Try.ntmps108
    go_wp2_with fail
    refine (a87 _).mono ?_
    rintro en w1 ⟨rfl, hB⟩
    go_wp2_with fail
    refine (hcc _).mono ?_
    rintro en w2 ⟨rfl, hB2⟩
    go_wp2_with fail
    refine (months_calls y (by omega) (by omega) _).mono ?_
    rintro en w3 ⟨rfl, hB3⟩
    go_wp2
    go_ret
    exact ⟨by first | rfl | (rw [← HQ.out]; rfl), (hB.trans (hB2.mono hB.size)).trans (hB3.mono (by have := hB.size; have := hB2.size; omega))⟩
/-- The day of the leap before number i. -/
def prevF (l : List (Int × Int)) (i : Nat) : Option Int := if i = 0 then none else (l[i - 1]?).map (·.1)
theorem prevF_succ {l : List (Int × Int)} {i : Nat} (h : i < l.length) : prevF l (i + 1) = some l[i].1 := by
  unfold prevF; rw [if_neg (by omega)]; simp [h]
end Go.Proofs.Ytleipbanadnchaa.C
