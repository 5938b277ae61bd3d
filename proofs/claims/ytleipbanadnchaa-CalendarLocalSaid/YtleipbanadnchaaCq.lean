/- Contracts of awake, by hand. -/
import Derived.OwnWalk
import Derived.Test.YtleipbanadnchaaCp
namespace Go.Proofs.Ytleipbanadnchaa.C
open Go.RowKit Go.Shelf Go.Maps Go.Proofs.YtleipbanadnchaaW.PrintWords Go.Proofs.YtleipbanadnchaaW.PrintLast Go.Proofs.YtleipbanadnchaaW.PrintMore
set_option linter.unusedVariables false
set_option linter.unusedSimpArgs false
theorem own_ints {w : World} {base : Nat} {v : Value} {l : List Int} (h : w.ownsRow base 3 1 v l.length (l.map fun x => .int .i64 x)) : ∃ A c, v = .slice A l.length c ∧ Kd.C (Kd.int .i64) w A l.length l := by
  have hR : Kd.R (Kd.int .i64) 3 w base (fun _ => True) v l := ⟨fun _ _ => trivial, _, h, by simp [show (Kd.int .i64).sz = 1 from rfl], fun j x hx => by
    have e : (((l.map fun x => Value.int .i64 x).drop (j * (Kd.int .i64).sz)).take (Kd.int .i64).sz) = [.int .i64 x] := by
      rw [show (Kd.int .i64).sz = 1 from rfl, Nat.mul_one]
      have hj := (List.getElem?_eq_some_iff.1 hx).1
      rw [List.drop_eq_getElem_cons (by simpa using hj)]
      simp [(List.getElem?_eq_some_iff.1 hx).2]
    rw [e]
    rfl⟩
  obtain ⟨A, c, e, _, hC⟩ := Kd.R_reads hR
  exact ⟨A, c, e, hC⟩
theorem C_two {w : World} {g : Nat} {a b : Int} (h : w.heap[g]? = some (.cells #[.int .i64 a, .int .i64 b] 3 (0, 0))) : Kd.C (Kd.int .i64) w (some ⟨g, 0, none⟩) 2 [a, b] := by
  refine ⟨rfl, by decide, fun _ => ⟨_, rfl, fun j p hj => ?_⟩⟩
  have hlt := (List.getElem?_eq_some_iff.1 hj).1
  have h2 : j = 0 ∨ j = 1 := by simp at hlt; omega
  refine ⟨[.int .i64 p], rfl, rfl, fun i u hu => ?_⟩
  have hi := (List.getElem?_eq_some_iff.1 hu).1
  obtain rfl : i = 0 := by simp at hi; omega
  obtain rfl := Option.some.inj hu
  rcases h2 with rfl | rfl
  · obtain rfl := Option.some.inj hj; exact blk_cell h 0
  · obtain rfl := Option.some.inj hj; exact blk_cell h 1
theorem ex_check : checkF 10 exL 42000 = 0 := by decide +kernel
theorem ex_ok : okD 1972 6 30 = true := by decide +kernel
theorem ex_day : dayN 1972 6 30 = 41498 := by decide +kernel
theorem ex_s : beginF exL 41498 + 86400 = 15724800 := by decide +kernel
theorem ex_b : beginF exL 41499 = 15724801 := by decide +kernel
theorem ex_d0 : dayV 2000 1 1 = 51544 := by decide +kernel
theorem ex_d1 : dayE 2000 1 1 = 0 := by decide +kernel
theorem ex_w0 : kv 51544 (wdF 51544) = 6 := by decide +kernel
theorem ex_w1 : ke 51544 = 0 := by decide +kernel
theorem ex_w2 : kv 51544 (wkY 51544) = 1999 := by decide +kernel
theorem ex_w3 : kv 51544 (wkN 51544) = 52 := by decide +kernel
set_option maxHeartbeats 4000000 in
set_option maxRecDepth 100000 in
theorem awake_calls (w : World) : Calls Try.prog 14 #[] w fun e w' => e = .returned (.bool true) ∧ Below w.heap.size w w' := by
  have a26 := fun w => day_calls 2000 1 1 w
  have a46 := fun w => Weekday_calls 51544 w
  have a48 := fun w => Week_calls 51544 w
  have a20 := fun A w h => Seconds_leap 10 42000 A 2 exL 1972 6 30 w h ex_check ex_ok (by rw [ex_day]; decide) (by rw [ex_day]; decide)
  have a32 := fun A w h => FromUnix_leap 10 42000 A 2 exL 78796800 41499 w h ex_check (by decide) (by decide) (by decide) (by decide) (by decide) (by decide) (by decide)
  rw [ex_d0, ex_d1] at a26
  rw [ex_w0, ex_w1] at a46
  rw [ex_w2, ex_w3, ex_w1] at a48
  rw [ex_day, ex_s] at a20
  rw [ex_b] at a32
  go_enter Try.func14, Try.ntmps14
  go_wp2_with fail
  refine (a26 _).mono ?_
  rintro en w1 ⟨rfl, hB⟩
  have hv1 := hB
  clear hB
  go_wp2_with fail
  refine (a46 _).mono ?_
  rintro en w2 ⟨rfl, hB⟩
  have hv2 := hv1.trans (hB.mono hv1.size)
  clear hB hv1
  go_wp2_with fail
  refine (a48 _).mono ?_
  rintro en w3 ⟨rfl, hB⟩
  have hv3 := hv2.trans (hB.mono hv2.size)
  clear hB hv2
  go_wp2_with fail
  refine (example_calls _).mono ?_
  rintro en w4 ⟨A, rfl, hC, hB⟩
  have hv4 := hv3.trans (hB.mono hv3.size)
  clear hB hv3
  go_wp2_with fail
  refine (a20 A _ hC).mono ?_
  rintro en w5 ⟨rfl, hB⟩
  have hv5 := hv4.trans (hB.mono hv4.size)
  clear hB hv4 hC
  go_wp2_with fail
  refine (example_calls _).mono ?_
  rintro en w6 ⟨A, rfl, hC, hB⟩
  have hv6 := hv5.trans (hB.mono hv5.size)
  clear hB hv5
  go_wp2_with fail
  refine (a32 A _ hC).mono ?_
  rintro en w7 ⟨v, rfl, hown, hB⟩
  have hv7 := hv6.trans (hB.mono hv6.size)
  have hown' : w7.ownsRow w6.heap.size 3 1 v 2 [.int .i64 15724800, .int .i64 15724801] := hown
  clear hB hv6 hC hown
  obtain ⟨B, c, rfl, hCB⟩ := own_ints (l := [15724800, 15724801]) hown'
  clear hown'
  go_wp2_with fail
  refine (equal_calls B _ c _ [15724800, 15724801] [15724800, 15724801] _ (Kd.C_below hCB ((Below.refl _ w7).alloc (Nat.le_refl _) _)) (C_two (al_new _ _ _ rfl)) (by decide) (by decide)).mono ?_
  rintro en w8 ⟨rfl, hB⟩
  go_wp2
  go_ret
  exact ⟨by first | rfl | simp, (hv7.alloc hv7.size _).trans (hB.mono (by have := hv7.size; simp; omega))⟩
end Go.Proofs.Ytleipbanadnchaa.C
