/- Contracts of calendar.Unix, by hand; the leap of a day's month. -/
import Derived.OwnWalk
import Derived.Test.YtleipbanadnchaaDf
namespace Go.Proofs.Ytleipbanadnchaa.C
open Go.RowKit Go.Shelf Go.Maps Go.Proofs.YtleipbanadnchaaW.PrintWords Go.Proofs.YtleipbanadnchaaW.PrintLast Go.Proofs.YtleipbanadnchaaW.PrintMore
set_option linter.unusedVariables false
set_option linter.unusedSimpArgs false
/-- The Unix seconds of a second of day D. -/
def unixF (l : List (Int × Int)) (s D : Int) : Int := 86400 * (D - 40587) + (s - beginF l D)
set_option maxRecDepth 100000 in
theorem unix_calls (kb : Nat) (b u : Int) (A : Option Addr) (c : Nat) (l : List (Int × Int)) (s D : Int) (w : World) (hc : CtAt w kb b A c u l) (hk : checkF b l u = 0) (hD : IsDay l u s D) :
    Calls Try.prog 83 #[.pointer (some ⟨kb, 0, none⟩), .int .i64 s] w fun e w' => e = .returned (.int .i64 (unixF l s D)) ∧ Below w.heap.size w w' := by
  obtain ⟨h1, h2, h3, h4, h5, h6⟩ := checkF_right hk
  have a84 := split_calls kb b u A c l s D w hc hk hD
  have hn := h6.next D
  have hlo := hD.lo
  have hhi := hD.hi
  have hd0 := hD.d0
  have hd1 := hD.d1
  have hnb : 0 ≤ s - beginF l D ∧ s - beginF l D ≤ 86400 := by omega
  unfold unixF
  clear hc hk hD hn hlo hhi h6
  generalize s - beginF l D = n at *
  go_enter Try.func83, Try.ntmps83
  go_wp2_with fail
  refine a84.mono ?_
  rintro en w1 ⟨rfl, hB⟩
  go_wp2
  go_ret
  exact ⟨rfl, hB⟩
set_option maxHeartbeats 1000000 in
set_option maxRecDepth 100000 in
theorem Unix_err (b u : Int) (A : Option Addr) (c : Nat) (l : List (Int × Int)) (s : Int) (w : World) (hr : Kd.C kl w A l.length l) (hk : askE b l u s ≠ 0) :
    Calls Try.prog 28 #[tabV b A l.length c u, .int .i64 s] w fun e w' => e = .returned (.tuple #[.int .i64 0, .int .i64 (askE b l u s)]) ∧ Below w.heap.size w w' := by
  have HR := Aside0.mk hr
  have a65 := fun w h => ask_calls b u A c l s w h
  clear hr
  have q1 : (askE b l u s == 0) = false := beq_eq_false_iff_ne.2 hk
  have q2 : (askE b l u s != 0) = true := bne_iff_ne.2 hk
  generalize askE b l u s = q at *
  go_enter Try.func28, Try.ntmps28
  go_wp2_with fail
  refine (a65 _ (Kd.C_below HR.out ((Below.refl _ w).alloc (Nat.le_refl _) _))).mono ?_
  rintro en w1 ⟨⟨p, rfl, _⟩, hB⟩
  have hv : Below w.heap.size w w1 := ((Below.refl _ w).alloc (Nat.le_refl _) _).trans (hB.mono (by simp))
  clear hB a65
  go_wp2
  go_ret2
  exact ⟨rfl, hv⟩
set_option maxHeartbeats 1000000 in
set_option maxRecDepth 100000 in
theorem Unix_ok (b u : Int) (A : Option Addr) (c : Nat) (l : List (Int × Int)) (s D : Int) (w : World) (hr : Kd.C kl w A l.length l) (hk : askE b l u s = 0) (hD : IsDay l u s D) :
    Calls Try.prog 28 #[tabV b A l.length c u, .int .i64 s] w fun e w' => e = .returned (.tuple #[.int .i64 (unixF l s D), .int .i64 0]) ∧ Below w.heap.size w w' := by
  have HR := Aside0.mk hr
  have a65 := fun w h => ask_calls b u A c l s w h
  have a83 := fun kb w hc => unix_calls kb b u A c l s D w hc (askE_zero hk).1 hD
  clear hr hD
  generalize unixF l s D = n at *
  rw [hk] at a65
  clear hk
  go_enter Try.func28, Try.ntmps28
  go_wp2_with fail
  refine (a65 _ (Kd.C_below HR.out ((Below.refl _ w).alloc (Nat.le_refl _) _))).mono ?_
  rintro en w1 ⟨⟨p, rfl, h2⟩, hB⟩
  obtain ⟨kb, rfl, hct⟩ := (by first | exact h2 rfl | exact h2 trivial | exact h2)
  have hv : Below w.heap.size w w1 := ((Below.refl _ w).alloc (Nat.le_refl _) _).trans (hB.mono (by simp))
  have HC := Aside0.mk hct
  clear hB a65 h2 hct
  go_wp2_with fail
  refine (a83 kb _ HC.out).mono ?_
  rintro en w2 ⟨rfl, hB⟩
  go_wp2
  go_ret2
  exact ⟨rfl, hv.trans (hB.mono hv.size)⟩
/-- The last leap of which P holds: its step. -/
def lastP (P : Int × Int → Bool) (l : List (Int × Int)) : Int := l.foldl (fun a x => if P x = true then x.2 else a) 0
theorem lastP_take (P : Int × Int → Bool) {l : List (Int × Int)} {i : Nat} (h : i < l.length) : lastP P (l.take (i + 1)) = if P l[i] = true then l[i].2 else lastP P (l.take i) := by
  unfold lastP
  rw [List.take_add_one, List.getElem?_eq_getElem h, List.foldl_append]
  rfl
theorem lastP_fold (d : Int) : ∀ (l : List (Int × Int)) (a : Int), l.Pairwise (fun x y => x.1 < y.1) → l.foldl (fun a x => if decide (x.1 = d) = true then x.2 else a) a = if ∃ x ∈ l, x.1 = d then stepF l d else a
  | [], a, _ => by simp
  | x :: l, a, hp => by
    obtain ⟨h1, h2⟩ := List.pairwise_cons.1 hp
    rw [List.foldl_cons, lastP_fold d l _ h2]
    by_cases hx : x.1 = d
    · have hno : ¬ ∃ y ∈ l, y.1 = d := fun ⟨y, hy, e⟩ => by have := h1 y hy; omega
      rw [if_neg hno, if_pos (decide_eq_true hx), if_pos ⟨x, List.mem_cons_self .., hx⟩]
      unfold stepF
      rw [if_pos hx]
    · have e : (∃ y ∈ x :: l, y.1 = d) ↔ ∃ y ∈ l, y.1 = d := ⟨fun ⟨y, hy, e⟩ => by
        rcases List.mem_cons.1 hy with rfl | hy
        · exact absurd e hx
        · exact ⟨y, hy, e⟩, fun ⟨y, hy, e⟩ => ⟨y, List.mem_cons_of_mem _ hy, e⟩⟩
      show _ = if ∃ y ∈ x :: l, y.1 = d then (if x.1 = d then x.2 else stepF l d) else a
      have hdx : ¬ decide (x.1 = d) = true := by simpa using hx
      by_cases he : ∃ y ∈ l, y.1 = d
      · rw [if_pos he, if_pos (e.2 he), if_neg hx]
      · rw [if_neg he, if_neg (fun h => he (e.1 h)), if_neg hdx]
theorem lastP_day {l : List (Int × Int)} (hp : l.Pairwise (fun x y => x.1 < y.1)) (d : Int) : lastP (fun x => decide (x.1 = d)) l = stepF l d := by
  unfold lastP
  rw [lastP_fold d l 0 hp]
  split
  · rfl
  · rename_i h
    exact (stepF_none (fun x hx e => h ⟨x, hx, e⟩)).symm
theorem meF_end {n : Int} (h0 : 41317 ≤ n) (h1 : n ≤ 88068) (h : meF n = true) : endF n = n := by
  have c := civ_is h0 (by omega)
  unfold meF at h
  rw [decide_eq_true h0, decide_eq_true h1] at h
  simp at h
  unfold endF
  rw [← h]
  exact c.eq
theorem end_month {n d : Int} (h0 : 41317 ≤ n) (h1 : n ≤ 88068) (h : meF n = true) (hd0 : 41317 ≤ d) (hd1 : d ≤ 88068) : (cY n = cY d ∧ cM n = cM d) ↔ n = endF d := by
  have c := civ_is hd0 (by omega)
  have e := meF_end h0 h1 h
  have hm := mlen_bound (cY d) (cM d)
  constructor
  · rintro ⟨a, b⟩
    rw [← e]; unfold endF; rw [a, b]
  · intro hn
    have i : IsCiv n (cY d) (cM d) (mlen (cY d) (cM d)) := ⟨c.y0, c.m0, c.m1, by omega, by omega, hn.symm⟩
    have := i.unique (civ_is h0 (by omega))
    exact ⟨this.1, this.2.1⟩
/-- The leap of a day's month. -/
theorem lastP_month {b u d : Int} {l : List (Int × Int)} (hk : checkF b l u = 0) (hm : ∀ x ∈ l, meF x.1 = true) (hd0 : 41317 ≤ d) (hd1 : d ≤ 88068) : lastP (fun x => decide (cY x.1 = cY d) && decide (cM x.1 = cM d)) l = stepF l (endF d) := by
  obtain ⟨_, _, _, h4, _, hR⟩ := checkF_right hk
  rw [← lastP_day hR.rising]
  have : ∀ (m : List (Int × Int)) (a : Int), (∀ x ∈ m, x ∈ l) → m.foldl (fun a x => if (decide (cY x.1 = cY d) && decide (cM x.1 = cM d)) = true then x.2 else a) a = m.foldl (fun a x => if decide (x.1 = endF d) = true then x.2 else a) a := by
    intro m
    induction m with
    | nil => intro a _; rfl
    | cons x m ih =>
      intro a hx
      have hs := hR.steps x (hx x (List.mem_cons_self ..))
      have e := end_month hs.2.1 (by omega) (hm x (hx x (List.mem_cons_self ..))) hd0 hd1
      have e2 : (decide (cY x.1 = cY d) && decide (cM x.1 = cM d)) = decide (x.1 = endF d) := by
        rw [Bool.eq_iff_iff]
        simp only [Bool.and_eq_true, decide_eq_true_iff]
        exact e
      rw [List.foldl_cons, List.foldl_cons, ih _ (fun z hz => hx z (List.mem_cons_of_mem _ hz)), e2]
  exact this l 0 (fun x hx => hx)
theorem leapsE_me {u : Int} : ∀ (l : List (Int × Int)) (p : Option Int), leapsE u p l = 0 → ∀ x ∈ l, meF x.1 = true
  | [], _, _ => by simp
  | x :: l, p, h => by
    unfold leapsE at h
    split at h
    · rename_i h1
      intro z hz
      rcases List.mem_cons.1 hz with rfl | hz
      · exact (leapE_zero h1).2.1
      · exact leapsE_me l _ h z hz
    · rename_i h1; exact absurd h h1
theorem check_me {b u : Int} {l : List (Int × Int)} (h : checkF b l u = 0) : ∀ x ∈ l, meF x.1 = true := by
  unfold checkF at h
  split at h
  · cases h
  · split at h
    · cases h
    · exact leapsE_me l none h
end Go.Proofs.Ytleipbanadnchaa.C
