/- The contract of a keeper's Drive, by hand. -/
import Derived.Test.YtcaekmalkbaldaaKa
import Derived.Deep.Cut
import Derived.Deep.RegionLaw
namespace Go.Proofs.Ytcaekmalkbaldaa.M
open Go.RowKit Go.Proofs.YtcaekmalkbaldaaW.PrintWords Go.Proofs.YtcaekmalkbaldaaW.PrintLast Go.Proofs.YtcaekmalkbaldaaW.PrintMore
set_option linter.unusedVariables false
set_option linter.unusedSimpArgs false
section
open Go.Shelf
/-- A keeper lies at block kb of the world W; V: the world before it was made. -/
def KeepAt (V W : World) (kb pb : Nat) (L R S N u now : Int) (ad : Addr) (cc : Nat) (ch : List Int) (lg : List S59) : Prop :=
  (V.heap.size ≤ kb ∧ V.heap[pb]? = some (.cells #[.int .i64 L, .int .i64 R, .int .i64 S, .int .i64 N] 24 (0, 0)) ∧ Kd.C (Kd.int .i64) V (some ad) ch.length ch ∧ Below V.heap.size V W) ∧
    ∃ vl : Value, W.heap[kb]? = some (.cells #[.pointer (some ⟨pb, 0, none⟩), .int .i64 u, .int .i64 now, .slice (some ad) ch.length cc, vl] 80 (0, 0)) ∧ W.ownsRow (kb + 1) 59 2 vl lg.length (entc lg)
theorem KeepAt.below {V W W' : World} {kb pb : Nat} {L R S N u now : Int} {ad : Addr} {cc : Nat} {ch : List Int} {lg : List S59} (h : KeepAt V W kb pb L R S N u now ad cc ch lg) (hB : Below W.heap.size W W') : KeepAt V W' kb pb L R S N u now ad cc ch lg := by
  obtain ⟨⟨h1, h2, h3, h4⟩, vl, h5, h6⟩ := h
  exact ⟨⟨h1, h2, h3, h4.trans (hB.mono h4.size)⟩, vl, (hB.block _ (Array.getElem?_eq_some_iff.1 h5).1).trans h5, own_move h6 (fun k hk => hB.block k (own_lt h6 k hk))⟩
/-- All but the keeper's block and rows of states is as it was. -/
def FrameK (kb : Nat) (W W' : World) : Prop := W.heap.size ≤ W'.heap.size ∧ ∀ (q : Nat) (o : Obj), W.heap[q]? = some o → q ≠ kb → (∀ c, o ≠ .cells c 59 (0, 0)) → W'.heap[q]? = some o
theorem FrameK.of_below {kb : Nat} {W W' : World} (h : Below W.heap.size W W') : FrameK kb W W' := ⟨h.size, fun q o hq _ _ => (h.block q (Array.getElem?_eq_some_iff.1 hq).1).trans hq⟩
set_option maxRecDepth 100000 in
set_option maxHeartbeats 4000000 in
theorem drive_empty (V W : World) (kb pb : Nat) (L R S N u now : Int) (ad : Addr) (cc : Nat) (ch : List Int) (lg : List S59) (lo hi : Int) (hK : KeepAt V W kb pb L R S N u now ad cc ch lg) (hbad : hi < lo ∨ lo < -1000000000000000 ∨ 1000000000000000 < hi) :
    Calls Try.prog 32 #[.pointer (some ⟨kb, 0, none⟩), .agg #[.int .i64 lo, .int .i64 hi]] W fun e W' => e = .returned (.tuple #[.int .i64 0, .int .i64 12]) ∧ Below W.heap.size W W' := by
  obtain ⟨⟨h1, h2, h3, h4⟩, vl, h5, h6⟩ := hK
  have a56 := fun W' (hB : Below W.heap.size W W') => none_calls kb ⟨pb, 0, none⟩ _ W' ((hB.block _ (Array.getElem?_eq_some_iff.1 h5).1).trans h5) rfl
  have hu71 := Try.underlying71
  clear h1 h2 h3 h4 h5 h6
  by_cases b1 : hi < lo
  · have f1 : decide (hi < lo) = true := decide_eq_true b1
    clear b1 hbad
    go_enter Try.func32, Try.ntmps32
    go_wp2_with fail
    refine (a56 _ ((Below.refl _ W).alloc (Nat.le_refl _) _)).mono ?_
    rintro en w1 ⟨rfl, hB⟩
    have hv : Below W.heap.size W w1 := ((Below.refl _ W).alloc (Nat.le_refl _) _).trans (hB.mono (by simp))
    have kx : w1.heap[W.heap.size]? = some (.cells #[.int .i64 lo, .int .i64 hi] 71 (0, 0)) := (hB.block _ (by simp)).trans (al_new _ _ _ rfl)
    have hs1 : W.heap.size < w1.heap.size := (Array.getElem?_eq_some_iff.1 kx).1
    have x0 : w1.cell? ⟨W.heap.size, 0, none⟩ = some (.int .i64 lo) := blk_cell kx 0
    have x1 : w1.cell? ⟨W.heap.size, 1, none⟩ = some (.int .i64 hi) := blk_cell kx 1
    clear kx hB a56
    go_wp2
    repeat (go_quiet (fail); try go_wp2)
    go_ret2
    exact ⟨rfl, hv⟩
  · have f1 : decide (hi < lo) = false := decide_eq_false b1
    by_cases b2 : lo < -1000000000000000
    · have f2 : decide (lo < -1000000000000000) = true := decide_eq_true b2
      clear b1 b2 hbad
      go_enter Try.func32, Try.ntmps32
      go_wp2_with fail
      refine (a56 _ ((Below.refl _ W).alloc (Nat.le_refl _) _)).mono ?_
      rintro en w1 ⟨rfl, hB⟩
      have hv : Below W.heap.size W w1 := ((Below.refl _ W).alloc (Nat.le_refl _) _).trans (hB.mono (by simp))
      have kx : w1.heap[W.heap.size]? = some (.cells #[.int .i64 lo, .int .i64 hi] 71 (0, 0)) := (hB.block _ (by simp)).trans (al_new _ _ _ rfl)
      have hs1 : W.heap.size < w1.heap.size := (Array.getElem?_eq_some_iff.1 kx).1
      have x0 : w1.cell? ⟨W.heap.size, 0, none⟩ = some (.int .i64 lo) := blk_cell kx 0
      have x1 : w1.cell? ⟨W.heap.size, 1, none⟩ = some (.int .i64 hi) := blk_cell kx 1
      clear kx hB a56
      go_wp2
      repeat (go_quiet (fail); try go_wp2)
      go_ret2
      exact ⟨rfl, hv⟩
    · have f2 : decide (lo < -1000000000000000) = false := decide_eq_false b2
      have f3 : decide (1000000000000000 < hi) = true := decide_eq_true (by omega)
      clear b1 b2 hbad
      go_enter Try.func32, Try.ntmps32
      go_wp2_with fail
      refine (a56 _ ((Below.refl _ W).alloc (Nat.le_refl _) _)).mono ?_
      rintro en w1 ⟨rfl, hB⟩
      have hv : Below W.heap.size W w1 := ((Below.refl _ W).alloc (Nat.le_refl _) _).trans (hB.mono (by simp))
      have kx : w1.heap[W.heap.size]? = some (.cells #[.int .i64 lo, .int .i64 hi] 71 (0, 0)) := (hB.block _ (by simp)).trans (al_new _ _ _ rfl)
      have hs1 : W.heap.size < w1.heap.size := (Array.getElem?_eq_some_iff.1 kx).1
      have x0 : w1.cell? ⟨W.heap.size, 0, none⟩ = some (.int .i64 lo) := blk_cell kx 0
      have x1 : w1.cell? ⟨W.heap.size, 1, none⟩ = some (.int .i64 hi) := blk_cell kx 1
      clear kx hB a56
      go_wp2
      repeat (go_quiet (fail); try go_wp2)
      go_ret2
      exact ⟨rfl, hv⟩
set_option maxRecDepth 100000 in
set_option maxHeartbeats 4000000 in
theorem drive_full (V W : World) (kb pb : Nat) (L R S N u now : Int) (ad : Addr) (cc : Nat) (ch : List Int) (lg : List S59) (lo hi : Int) (hK : KeepAt V W kb pb L R S N u now ad cc ch lg) (h0 : lo ≤ hi) (h1' : -1000000000000000 ≤ lo) (h2' : hi ≤ 1000000000000000) (hfull : 5000 ≤ lg.length) :
    Calls Try.prog 32 #[.pointer (some ⟨kb, 0, none⟩), .agg #[.int .i64 lo, .int .i64 hi]] W fun e W' => e = .returned (.tuple #[.int .i64 0, .int .i64 2]) ∧ Below W.heap.size W W' := by
  obtain ⟨⟨h1, h2, h3, h4⟩, vl, h5, h6⟩ := hK
  obtain ⟨Al, cl, rfl, hcl, hCl⟩ := Kd.R_reads (R_entc h6)
  have a56 := fun W' (hB : Below W.heap.size W W') => none_calls kb ⟨pb, 0, none⟩ _ W' ((hB.block _ (Array.getElem?_eq_some_iff.1 h5).1).trans h5) rfl
  have hu71 := Try.underlying71
  have k4 : W.cell? ⟨kb, 4, none⟩ = some (.slice Al lg.length cl) := blk_cell h5 4
  have f1 : decide (hi < lo) = false := decide_eq_false (by omega)
  have f2 : decide (lo < -1000000000000000) = false := decide_eq_false (by omega)
  have f3 : decide (1000000000000000 < hi) = false := decide_eq_false (by omega)
  have f4 : decide ((5000 : Int) ≤ (lg.length : Int)) = true := decide_eq_true (by omega)
  have f5 : decide (5000 ≤ lg.length) = true := decide_eq_true (by omega)
  clear h1 h2 h3 h4 h5 h6 hCl
  go_enter Try.func32, Try.ntmps32
  go_wp2_with fail
  refine (a56 _ ((Below.refl _ W).alloc (Nat.le_refl _) _)).mono ?_
  rintro en w1 ⟨rfl, hB⟩
  have hv : Below W.heap.size W w1 := ((Below.refl _ W).alloc (Nat.le_refl _) _).trans (hB.mono (by simp))
  have kx : w1.heap[W.heap.size]? = some (.cells #[.int .i64 lo, .int .i64 hi] 71 (0, 0)) := (hB.block _ (by simp)).trans (al_new _ _ _ rfl)
  have hs1 : W.heap.size < w1.heap.size := (Array.getElem?_eq_some_iff.1 kx).1
  have x0 : w1.cell? ⟨W.heap.size, 0, none⟩ = some (.int .i64 lo) := blk_cell kx 0
  have x1 : w1.cell? ⟨W.heap.size, 1, none⟩ = some (.int .i64 hi) := blk_cell kx 1
  clear kx hB a56
  replace k4 := cell_on hv k4
  go_wp2
  repeat (go_quiet (fail); try go_wp2)
  go_ret2
  exact ⟨rfl, hv⟩
theorem gen_world {P : World → Prop} {w : World} (F : World → Prop) (hF : F w) (h : ∀ w, F w → P w) : P w := h w hF
set_option maxRecDepth 100000 in
set_option maxHeartbeats 8000000 in
theorem drive_out (V W : World) (kb pb : Nat) (L R S N u now : Int) (ad : Addr) (cc : Nat) (ch : List Int) (lg : List S59) (lo hi : Int) (hK : KeepAt V W kb pb L R S N u now ad cc ch lg) (h0 : lo ≤ hi) (h1' : -1000000000000000 ≤ lo) (h2' : hi ≤ 1000000000000000) (hfull : lg.length < 5000) (hu0 : 1 ≤ u) (hu1 : u ≤ 1000000000000) (hr : rightB L R S N = true) (hcsz : ch.length = siz L R) (hst : isB L R (unitsF u (Int.tdiv (lo + hi) 2)) now = false) :
    Calls Try.prog 32 #[.pointer (some ⟨kb, 0, none⟩), .agg #[.int .i64 lo, .int .i64 hi]] W fun e W' => e = .returned (.tuple #[.int .i64 0, .int .i64 9]) ∧ Below W.heap.size W W' := by
  have hK0 := hK
  obtain ⟨⟨h1, h2, h3, h4⟩, vl, h5, h6⟩ := hK
  obtain ⟨Al, cl, rfl, hcl, hCl⟩ := Kd.R_reads (R_entc h6)
  have a56 := fun W' (hB : Below W.heap.size W W') => none_calls kb ⟨pb, 0, none⟩ _ W' ((hB.block _ (Array.getElem?_eq_some_iff.1 h5).1).trans h5) rfl
  have hu71 := Try.underlying71
  have k0 : W.cell? ⟨kb, 0, none⟩ = some (.pointer (some ⟨pb, 0, none⟩)) := blk_cell h5 0
  have k1 : W.cell? ⟨kb, 1, none⟩ = some (.int .i64 u) := blk_cell h5 1
  have k2 : W.cell? ⟨kb, 2, none⟩ = some (.int .i64 now) := blk_cell h5 2
  have k4 : W.cell? ⟨kb, 4, none⟩ = some (.slice Al lg.length cl) := blk_cell h5 4
  have f1 : decide (hi < lo) = false := decide_eq_false (by omega)
  have f2 : decide (lo < -1000000000000000) = false := decide_eq_false (by omega)
  have f3 : decide (1000000000000000 < hi) = false := decide_eq_false (by omega)
  have f4 : decide ((5000 : Int) ≤ (lg.length : Int)) = false := decide_eq_false (by omega)
  have f5 : decide (5000 ≤ lg.length) = false := decide_eq_false (by omega)
  have HK := Aside0.mk hK0
  have h' := rightB_iff.1 hr
  have HCL := Aside0.mk hcsz
  have HPR := Aside0.mk hst
  have HH := Aside0.mk (And.intro h1 (And.intro h2 (And.intro h3 (And.intro h4 (And.intro h5 h6)))))
  clear h1 h2 h3 h4 h5 h6 hCl hK0 hr hcsz hst
  go_enter Try.func32, Try.ntmps32
  go_wp2_with fail
  refine (a56 _ ((Below.refl _ W).alloc (Nat.le_refl _) _)).mono ?_
  rintro en w1 ⟨rfl, hB⟩
  have hv : Below W.heap.size W w1 := ((Below.refl _ W).alloc (Nat.le_refl _) _).trans (hB.mono (by simp))
  have kx : w1.heap[W.heap.size]? = some (.cells #[.int .i64 lo, .int .i64 hi] 71 (0, 0)) := (hB.block _ (by simp)).trans (al_new _ _ _ rfl)
  have hs1 : W.heap.size < w1.heap.size := (Array.getElem?_eq_some_iff.1 kx).1
  have x0 : w1.cell? ⟨W.heap.size, 0, none⟩ = some (.int .i64 lo) := blk_cell kx 0
  have x1 : w1.cell? ⟨W.heap.size, 1, none⟩ = some (.int .i64 hi) := blk_cell kx 1
  clear kx hB a56
  replace k0 := cell_on hv k0
  replace k1 := cell_on hv k1
  replace k2 := cell_on hv k2
  replace k4 := cell_on hv k4
  go_wp2_with fail
  have hw2 : IntKind.i64.wrap (lo + hi) = lo + hi := by rw [IntKind.wrap_i64]; omega
  obtain ⟨md, hmd⟩ : ∃ md, Int.tdiv (lo + hi) 2 = md := ⟨_, rfl⟩
  have hmb : -1000000000000000 ≤ md ∧ md ≤ 1000000000000000 := by
    rw [← hmd]
    rcases Int.le_total 0 (lo + hi) with h | h
    · rw [Int.tdiv_eq_ediv_of_nonneg h]; omega
    · have h2 : Int.tdiv (lo + hi) 2 = -(Int.tdiv (-(lo + hi)) 2) := by rw [Int.neg_tdiv]; omega
      rw [h2, Int.tdiv_eq_ediv_of_nonneg (by omega)]; omega
  have hwm : IntKind.i64.wrap md = md := by rw [IntKind.wrap_i64]; omega
  have a57 : ∀ w', Below w1.heap.size w1 w' → Calls Try.prog 57 #[.pointer (some ⟨kb, 0, none⟩), .int .i64 md] w' fun e w'' => e = .returned (.int .i64 (unitsF u md)) ∧ Drawn0 w' w'' := fun w' h => units_calls kb u md w' (cell_on h k1) hu0 hu1 hmb.1 hmb.2
  have nb : ∀ m, ((w1.drewN m).alloc (.cells #[.int .i64 0, .int .i64 0] 59)).heap[w1.heap.size]? = some (.cells #[.int .i64 0, .int .i64 0] 59 (0, 0)) := fun m => World.alloc_heap_new _ _
  have nb2 : ∀ m, ((w1.alloc (.cells #[.int .i64 0, .int .i64 0] 59)).drewN m).heap[w1.heap.size]? = some (.cells #[.int .i64 0, .int .i64 0] 59 (0, 0)) := fun m => World.alloc_heap_new _ _
  have nc0 := fun m => blk_cell (nb m) 0
  have nc1 := fun m => blk_cell (nb m) 1
  have nf0 := fun m => blk_frozen (nb m) 0
  have nf1 := fun m => blk_frozen (nb m) 1
  have hS : ∀ w', Below w1.heap.size w1 w' → ((w'.cell? ⟨W.heap.size, 0, none⟩ = some (.int .i64 lo) ∧ w'.cell? ⟨W.heap.size, 1, none⟩ = some (.int .i64 hi) ∧ w'.cell? ⟨kb, 2, none⟩ = some (.int .i64 now)) ∧ Below w1.heap.size w1 w') := fun w' h => ⟨⟨cell_on h x0, cell_on h x1, cell_on h k2⟩, h⟩
  go_cut [6] from 33 (fun s6 w3 => s6 = .pointer (some ⟨w1.heap.size, 0, none⟩) ∧ Below w1.heap.size w1 w3 ∧ w3.heap[w1.heap.size]? = some (.cells #[.int .i64 (unitsF u md), .int .i64 now] 59 (0, 0)))
  case first =>
    go_region_held3 (fun w' => (w'.cell? ⟨W.heap.size, 0, none⟩ = some (.int .i64 lo) ∧ w'.cell? ⟨W.heap.size, 1, none⟩ = some (.int .i64 hi) ∧ w'.cell? ⟨kb, 2, none⟩ = some (.int .i64 now)) ∧ Below w1.heap.size w1 w') (first | exact hS _ (by repeat (first | exact Below.refl _ _ | apply below_alloc | apply pw_below_drewN | apply below_drew1 | refine below_set ?_ (Nat.le_refl _))))
      (first | (go_at_call 57; refine (a57 _ (by repeat (first | exact Below.refl _ _ | apply below_alloc | apply pw_below_drewN | apply below_drew1))).mono ?_; rintro en w' ⟨rfl, ⟨mm, rfl⟩⟩))
    all_goals
      go_wp2
      go_meet
      case rel => exact ⟨rfl, by repeat (first | exact Below.refl _ _ | apply below_alloc | apply pw_below_drewN | apply below_drew1 | refine below_set ?_ (Nat.le_refl _)), by first | exact blk_set (blk_set (nb _) 0 _) 1 _ | exact blk_set (blk_set (nb2 _) 0 _) 1 _⟩
  case rest =>
    obtain ⟨rfl, hB3, kx3⟩ := hcut
    rename World => w3
    have hT3 : Below W.heap.size W w3 := hv.trans (hB3.mono (by omega))
    have kb3 := (hT3.block kb (Array.getElem?_eq_some_iff.1 HH.out.2.2.2.2.1).1).trans HH.out.2.2.2.2.1
    have hVW := HH.out.2.2.2.1.size
    have hpl : pb < V.heap.size := (Array.getElem?_eq_some_iff.1 HH.out.2.1).1
    have kp3 := (hT3.block pb (by omega)).trans ((HH.out.2.2.2.1.block pb hpl).trans HH.out.2.1)
    have q0 : w3.cell? ⟨kb, 0, none⟩ = some (.pointer (some ⟨pb, 0, none⟩)) := blk_cell kb3 0
    have q3 : w3.cell? ⟨kb, 3, none⟩ = some (.slice (some ad) ch.length cc) := blk_cell kb3 3
    have p0 : w3.cell? ⟨pb, 0, none⟩ = some (.int .i64 L) := blk_cell kp3 0
    have p1 : w3.cell? ⟨pb, 1, none⟩ = some (.int .i64 R) := blk_cell kp3 1
    have p2 : w3.cell? ⟨pb, 2, none⟩ = some (.int .i64 S) := blk_cell kp3 2
    have p3 : w3.cell? ⟨pb, 3, none⟩ = some (.int .i64 N) := blk_cell kp3 3
    have y0 : w3.cell? ⟨w1.heap.size, 0, none⟩ = some (.int .i64 (unitsF u md)) := blk_cell kx3 0
    have y1 : w3.cell? ⟨w1.heap.size, 1, none⟩ = some (.int .i64 now) := blk_cell kx3 1
    have a38 := fun w' => is_calls L R S N (unitsF u md) now (by omega) (by omega) (by omega) (by omega) w'
    clear nc0 nc1 nf0 nf1 nb nb2 hS x0 x1 k0 k1 k2 k4 hmb hwm hw2 a57
    have hib : isB L R (unitsF u md) now = false := by rw [← hmd]; exact HPR.out
    simp only [hib] at a38
    go_wp2_with fail
    go_cut [71] from 33 (fun s71 w4 => s71 = .bool true ∧ Below w3.heap.size w3 w4)
    case first =>
      have hS : ∀ w', Below w3.heap.size w3 w' → ((w'.cell? ⟨kb, 0, none⟩ = some (.pointer (some ⟨pb, 0, none⟩)) ∧ w'.cell? ⟨kb, 3, none⟩ = some (.slice (some ad) ch.length cc) ∧ w'.cell? ⟨pb, 0, none⟩ = some (.int .i64 L) ∧ w'.cell? ⟨pb, 1, none⟩ = some (.int .i64 R) ∧ w'.cell? ⟨pb, 2, none⟩ = some (.int .i64 S) ∧ w'.cell? ⟨pb, 3, none⟩ = some (.int .i64 N) ∧ w'.cell? ⟨w1.heap.size, 0, none⟩ = some (.int .i64 (unitsF u md)) ∧ w'.cell? ⟨w1.heap.size, 1, none⟩ = some (.int .i64 now)) ∧ Below w3.heap.size w3 w') := fun w' h => ⟨⟨cell_on h q0, cell_on h q3, cell_on h p0, cell_on h p1, cell_on h p2, cell_on h p3, cell_on h y0, cell_on h y1⟩, h⟩
      refine wp_region_held_drew (S := fun w' => (w'.cell? ⟨kb, 0, none⟩ = some (.pointer (some ⟨pb, 0, none⟩)) ∧ w'.cell? ⟨kb, 3, none⟩ = some (.slice (some ad) ch.length cc) ∧ w'.cell? ⟨pb, 0, none⟩ = some (.int .i64 L) ∧ w'.cell? ⟨pb, 1, none⟩ = some (.int .i64 R) ∧ w'.cell? ⟨pb, 2, none⟩ = some (.int .i64 S) ∧ w'.cell? ⟨pb, 3, none⟩ = some (.int .i64 N) ∧ w'.cell? ⟨w1.heap.size, 0, none⟩ = some (.int .i64 (unitsF u md)) ∧ w'.cell? ⟨w1.heap.size, 1, none⟩ = some (.int .i64 now)) ∧ Below w3.heap.size w3 w') (by kernel_rfl) (hS _ (Below.refl _ _).drew) (fun hHeld => ?_)
      refine wpAnyH_take (i := 0) (oi := { dst := some 46, op := Op.move (Operand.tmp 0), type := 62, pos := "steer.go:296", after := #[], guard := none }) (v := ?_) rfl (by kernel_rfl) (by kernel_rfl) (by kernel_rfl) (fun _ _ _ h => h) (Or.inl ⟨by rfl, ?_⟩) (by assumption) ?_
      rotate_left 1
      ·(intro w_ hSw; (try dsimp only at hSw); go_simp; first | done | with_reducible rfl)
      (try simp only [Act.put, List.setIfInBounds_toArray, List.set_cons_zero, List.set_cons_succ])
      refine wpAnyH_take (i := 1) (oi := { dst := some 47, op := Op.nilCheck (Operand.tmp 46), type := 0, pos := "steer.go:296", after := #[{ on := 0, ground := Ground.data }], guard := none }) (v := ?_) rfl (by kernel_rfl) (by kernel_rfl) (by kernel_rfl) (fun _ _ _ h => h) (Or.inl ⟨by rfl, ?_⟩) (by assumption) ?_
      rotate_left 1
      ·(intro w_ hSw; (try dsimp only at hSw); go_simp; first | done | with_reducible rfl)
      (try simp only [Act.put, List.setIfInBounds_toArray, List.set_cons_zero, List.set_cons_succ])
      refine wpAnyH_take (i := 2) (oi := { dst := some 48, op := Op.fieldAddr 80 (Operand.tmp 47) 0, type := 0, pos := "steer.go:296", after := #[{ on := 1, ground := Ground.data }], guard := none }) (v := ?_) rfl (by kernel_rfl) (by kernel_rfl) (by kernel_rfl) (fun _ _ _ h => h) (Or.inl ⟨by rfl, ?_⟩) (by assumption) ?_
      rotate_left 1
      ·(intro w_ hSw; (try dsimp only at hSw); go_simp; first | done | with_reducible rfl)
      (try simp only [Act.put, List.setIfInBounds_toArray, List.set_cons_zero, List.set_cons_succ])
      refine wpAnyH_take (i := 3) (oi := { dst := some 49, op := Op.load 78 (Operand.tmp 48), type := 78, pos := "steer.go:296", after := #[{ on := 2, ground := Ground.data }], guard := none }) (v := ?_) rfl (by kernel_rfl) (by kernel_rfl) (by kernel_rfl) (fun _ _ _ h => h) (Or.inl ⟨by rfl, ?_⟩) (by assumption) ?_
      rotate_left 1
      ·(intro w_ hSw; (try dsimp only at hSw); go_simp; first | done | with_reducible rfl)
      (try simp only [Act.put, List.setIfInBounds_toArray, List.set_cons_zero, List.set_cons_succ])
      refine wpAnyH_take (i := 4) (oi := { dst := some 50, op := Op.nilCheck (Operand.tmp 49), type := 0, pos := "steer.go:296", after := #[{ on := 3, ground := Ground.data }], guard := none }) (v := ?_) rfl (by kernel_rfl) (by kernel_rfl) (by kernel_rfl) (fun _ _ _ h => h) (Or.inl ⟨by rfl, ?_⟩) (by assumption) ?_
      rotate_left 1
      ·(intro w_ hSw; (try dsimp only at hSw); go_simp; first | done | with_reducible rfl)
      (try simp only [Act.put, List.setIfInBounds_toArray, List.set_cons_zero, List.set_cons_succ])
      refine wpAnyH_take (i := 5) (oi := { dst := some 51, op := Op.load 24 (Operand.tmp 50), type := 24, pos := "steer.go:296", after := #[{ on := 4, ground := Ground.data }], guard := none }) (v := ?_) rfl (by kernel_rfl) (by kernel_rfl) (by kernel_rfl) (fun _ _ _ h => h) (Or.inl ⟨by rfl, ?_⟩) (by assumption) ?_
      rotate_left 1
      ·(intro w_ hSw; (try dsimp only at hSw); go_simp; first | done | with_reducible rfl)
      (try simp only [Act.put, List.setIfInBounds_toArray, List.set_cons_zero, List.set_cons_succ])
      refine wpAnyH_take (i := 6) (oi := { dst := some 52, op := Op.load 59 (Operand.tmp 6), type := 59, pos := "steer.go:296", after := #[], guard := none }) (v := ?_) rfl (by kernel_rfl) (by kernel_rfl) (by kernel_rfl) (fun _ _ _ h => h) (Or.inl ⟨by rfl, ?_⟩) (by assumption) ?_
      rotate_left 1
      ·(intro w_ hSw; (try dsimp only at hSw); go_simp; first | done | with_reducible rfl)
      (try simp only [Act.put, List.setIfInBounds_toArray, List.set_cons_zero, List.set_cons_succ])
      refine wpAnyH_ready (rs := [7]) (by kernel_rfl) (by simp) ?_
      refine AllReadyH.cons (o := { dst := some 53, op := Op.call { callee := Go.Callee.value (Operand.func 38), args := #[Operand.tmp 51, Operand.tmp 52], argTypes := #[78, 59] }, type := 4, pos := "steer.go:296", after := #[{ on := 5, ground := Ground.data }, { on := 6, ground := Ground.data }], guard := none }) rfl (fun K hK => ?_) AllReadyH.nil
      go_simp
      go_at_call 38
      refine (a38 _).mono ?_
      rintro en w' ⟨rfl, hB⟩
      refine hK.out _ _ ?_ (fun hHeld => ?_)
      ·(have hh := ‹(_ ∧ _ ∧ _ ∧ _ ∧ _ ∧ _ ∧ _ ∧ _) ∧ Below w3.heap.size w3 _›; exact hS _ (hh.2.trans (hB.mono hh.2.size)))
      clear hK K
      (try simp only [Act.put, List.setIfInBounds_toArray, List.set_cons_zero, List.set_cons_succ])
      refine wpAnyH_take (i := 8) (oi := { dst := some 54, op := Op.unOp Go.UnOp.not 4 (Operand.tmp 53), type := 4, pos := "steer.go:296", after := #[{ on := 7, ground := Ground.data }], guard := none }) (v := ?_) rfl (by kernel_rfl) (by kernel_rfl) (by kernel_rfl) (fun _ _ _ h => h) (Or.inl ⟨by rfl, ?_⟩) (by assumption) ?_
      rotate_left 1
      ·(intro w_ hSw; (try dsimp only at hSw); go_simp; first | done | with_reducible rfl)
      (try simp only [Act.put, List.setIfInBounds_toArray, List.set_cons_zero, List.set_cons_succ])
      refine wpAnyH_take (i := 9) (oi := { dst := some 55, op := Op.move (Operand.tmp 54), type := 4, pos := "steer.go:296", after := #[{ on := 8, ground := Ground.data }, { on := 7, ground := Ground.chain }], guard := none }) (v := ?_) rfl (by kernel_rfl) (by kernel_rfl) (by kernel_rfl) (fun _ _ _ h => h) (Or.inl ⟨by rfl, ?_⟩) (by assumption) ?_
      rotate_left 1
      ·(intro w_ hSw; (try dsimp only at hSw); go_simp; first | done | with_reducible rfl)
      (try simp only [Act.put, List.setIfInBounds_toArray, List.set_cons_zero, List.set_cons_succ])
      refine wpAnyH_take (i := 10) (oi := { dst := some 56, op := Op.move (Operand.tmp 0), type := 62, pos := "steer.go:296", after := #[{ on := 9, ground := Ground.guard }], guard := some (9, false) }) (v := undef) rfl (by kernel_rfl) (by kernel_rfl) (by kernel_rfl) (fun _ _ _ h => h) (Or.inr ⟨by rfl, rfl⟩) (by assumption) ?_
      (try simp only [Act.put, List.setIfInBounds_toArray, List.set_cons_zero, List.set_cons_succ])
      refine wpAnyH_take (i := 11) (oi := { dst := some 57, op := Op.nilCheck (Operand.tmp 56), type := 0, pos := "steer.go:296", after := #[{ on := 10, ground := Ground.data }, { on := 9, ground := Ground.guard }], guard := some (9, false) }) (v := undef) rfl (by kernel_rfl) (by kernel_rfl) (by kernel_rfl) (fun _ _ _ h => h) (Or.inr ⟨by rfl, rfl⟩) (by assumption) ?_
      (try simp only [Act.put, List.setIfInBounds_toArray, List.set_cons_zero, List.set_cons_succ])
      refine wpAnyH_take (i := 12) (oi := { dst := some 58, op := Op.fieldAddr 80 (Operand.tmp 57) 3, type := 0, pos := "steer.go:296", after := #[{ on := 11, ground := Ground.data }, { on := 9, ground := Ground.guard }], guard := some (9, false) }) (v := undef) rfl (by kernel_rfl) (by kernel_rfl) (by kernel_rfl) (fun _ _ _ h => h) (Or.inr ⟨by rfl, rfl⟩) (by assumption) ?_
      (try simp only [Act.put, List.setIfInBounds_toArray, List.set_cons_zero, List.set_cons_succ])
      refine wpAnyH_take (i := 13) (oi := { dst := some 59, op := Op.load 30 (Operand.tmp 58), type := 30, pos := "steer.go:296", after := #[{ on := 12, ground := Ground.data }, { on := 9, ground := Ground.guard }], guard := some (9, false) }) (v := undef) rfl (by kernel_rfl) (by kernel_rfl) (by kernel_rfl) (fun _ _ _ h => h) (Or.inr ⟨by rfl, rfl⟩) (by assumption) ?_
      (try simp only [Act.put, List.setIfInBounds_toArray, List.set_cons_zero, List.set_cons_succ])
      refine wpAnyH_take (i := 14) (oi := { dst := some 60, op := Op.move (Operand.tmp 0), type := 62, pos := "steer.go:296", after := #[{ on := 9, ground := Ground.guard }], guard := some (9, false) }) (v := undef) rfl (by kernel_rfl) (by kernel_rfl) (by kernel_rfl) (fun _ _ _ h => h) (Or.inr ⟨by rfl, rfl⟩) (by assumption) ?_
      (try simp only [Act.put, List.setIfInBounds_toArray, List.set_cons_zero, List.set_cons_succ])
      refine wpAnyH_take (i := 15) (oi := { dst := some 61, op := Op.nilCheck (Operand.tmp 60), type := 0, pos := "steer.go:296", after := #[{ on := 14, ground := Ground.data }, { on := 9, ground := Ground.guard }], guard := some (9, false) }) (v := undef) rfl (by kernel_rfl) (by kernel_rfl) (by kernel_rfl) (fun _ _ _ h => h) (Or.inr ⟨by rfl, rfl⟩) (by assumption) ?_
      (try simp only [Act.put, List.setIfInBounds_toArray, List.set_cons_zero, List.set_cons_succ])
      refine wpAnyH_take (i := 16) (oi := { dst := some 62, op := Op.fieldAddr 80 (Operand.tmp 61) 0, type := 0, pos := "steer.go:296", after := #[{ on := 15, ground := Ground.data }, { on := 9, ground := Ground.guard }], guard := some (9, false) }) (v := undef) rfl (by kernel_rfl) (by kernel_rfl) (by kernel_rfl) (fun _ _ _ h => h) (Or.inr ⟨by rfl, rfl⟩) (by assumption) ?_
      (try simp only [Act.put, List.setIfInBounds_toArray, List.set_cons_zero, List.set_cons_succ])
      refine wpAnyH_take (i := 17) (oi := { dst := some 63, op := Op.load 78 (Operand.tmp 62), type := 78, pos := "steer.go:296", after := #[{ on := 16, ground := Ground.data }, { on := 9, ground := Ground.guard }], guard := some (9, false) }) (v := undef) rfl (by kernel_rfl) (by kernel_rfl) (by kernel_rfl) (fun _ _ _ h => h) (Or.inr ⟨by rfl, rfl⟩) (by assumption) ?_
      (try simp only [Act.put, List.setIfInBounds_toArray, List.set_cons_zero, List.set_cons_succ])
      refine wpAnyH_take (i := 18) (oi := { dst := some 64, op := Op.nilCheck (Operand.tmp 63), type := 0, pos := "steer.go:296", after := #[{ on := 17, ground := Ground.data }, { on := 9, ground := Ground.guard }], guard := some (9, false) }) (v := undef) rfl (by kernel_rfl) (by kernel_rfl) (by kernel_rfl) (fun _ _ _ h => h) (Or.inr ⟨by rfl, rfl⟩) (by assumption) ?_
      (try simp only [Act.put, List.setIfInBounds_toArray, List.set_cons_zero, List.set_cons_succ])
      refine wpAnyH_take (i := 19) (oi := { dst := some 65, op := Op.load 24 (Operand.tmp 64), type := 24, pos := "steer.go:296", after := #[{ on := 18, ground := Ground.data }, { on := 9, ground := Ground.guard }], guard := some (9, false) }) (v := undef) rfl (by kernel_rfl) (by kernel_rfl) (by kernel_rfl) (fun _ _ _ h => h) (Or.inr ⟨by rfl, rfl⟩) (by assumption) ?_
      (try simp only [Act.put, List.setIfInBounds_toArray, List.set_cons_zero, List.set_cons_succ])
      refine wpAnyH_take (i := 20) (oi := { dst := some 66, op := Op.load 59 (Operand.tmp 6), type := 59, pos := "steer.go:296", after := #[{ on := 9, ground := Ground.guard }], guard := some (9, false) }) (v := undef) rfl (by kernel_rfl) (by kernel_rfl) (by kernel_rfl) (fun _ _ _ h => h) (Or.inr ⟨by rfl, rfl⟩) (by assumption) ?_
      (try simp only [Act.put, List.setIfInBounds_toArray, List.set_cons_zero, List.set_cons_succ])
      refine wpAnyH_take (i := 21) (oi := { dst := some 67, op := Op.call { callee := Go.Callee.value (Operand.func 39), args := #[Operand.tmp 65, Operand.tmp 66], argTypes := #[78, 59] }, type := 3, pos := "steer.go:296", after := #[{ on := 19, ground := Ground.data }, { on := 20, ground := Ground.data }, { on := 9, ground := Ground.chain }, { on := 9, ground := Ground.guard }], guard := some (9, false) }) (v := undef) rfl (by kernel_rfl) (by kernel_rfl) (by kernel_rfl) (fun _ _ _ h => h) (Or.inr ⟨by rfl, rfl⟩) (by assumption) ?_
      (try simp only [Act.put, List.setIfInBounds_toArray, List.set_cons_zero, List.set_cons_succ])
      refine wpAnyH_take (i := 22) (oi := { dst := some 68, op := Op.indexAddr 30 (Operand.tmp 59) (Operand.tmp 67), type := 0, pos := "steer.go:296", after := #[{ on := 13, ground := Ground.data }, { on := 21, ground := Ground.data }, { on := 9, ground := Ground.guard }], guard := some (9, false) }) (v := undef) rfl (by kernel_rfl) (by kernel_rfl) (by kernel_rfl) (fun _ _ _ h => h) (Or.inr ⟨by rfl, rfl⟩) (by assumption) ?_
      (try simp only [Act.put, List.setIfInBounds_toArray, List.set_cons_zero, List.set_cons_succ])
      refine wpAnyH_take (i := 23) (oi := { dst := some 69, op := Op.load 3 (Operand.tmp 68), type := 3, pos := "steer.go:296", after := #[{ on := 22, ground := Ground.data }, { on := 9, ground := Ground.guard }], guard := some (9, false) }) (v := undef) rfl (by kernel_rfl) (by kernel_rfl) (by kernel_rfl) (fun _ _ _ h => h) (Or.inr ⟨by rfl, rfl⟩) (by assumption) ?_
      (try simp only [Act.put, List.setIfInBounds_toArray, List.set_cons_zero, List.set_cons_succ])
      refine wpAnyH_take (i := 24) (oi := { dst := some 70, op := Op.binOp Go.BinOp.geq 3 (Operand.tmp 69) (Operand.const (Go.Value.int Go.IntKind.i64 1000)) 3, type := 4, pos := "steer.go:296", after := #[{ on := 23, ground := Ground.data }, { on := 9, ground := Ground.guard }], guard := some (9, false) }) (v := undef) rfl (by kernel_rfl) (by kernel_rfl) (by kernel_rfl) (fun _ _ _ h => h) (Or.inr ⟨by rfl, rfl⟩) (by assumption) ?_
      (try simp only [Act.put, List.setIfInBounds_toArray, List.set_cons_zero, List.set_cons_succ])
      refine wpAnyH_take (i := 25) (oi := { dst := some 71, op := Op.pick (Operand.tmp 55) (Operand.const (Go.Value.bool true)) (Operand.tmp 70), type := 4, pos := "steer.go:296", after := #[{ on := 9, ground := Ground.data }, { on := 24, ground := Ground.data }], guard := none }) (v := ?_) rfl (by kernel_rfl) (by kernel_rfl) (by kernel_rfl) (fun _ _ _ h => h) (Or.inl ⟨by rfl, ?_⟩) (by assumption) ?_
      rotate_left 1
      ·(intro w_ hSw; (try dsimp only at hSw); go_simp; first | done | with_reducible rfl)
      (try simp only [Act.put, List.setIfInBounds_toArray, List.set_cons_zero, List.set_cons_succ])
      refine wpAnyH_done (by kernel_rfl) ?_ _
      go_wp2
      go_meet
      case rel => exact ⟨rfl, (‹(_ ∧ _ ∧ _ ∧ _ ∧ _ ∧ _ ∧ _ ∧ _) ∧ Below w3.heap.size w3 _›).2⟩
    case rest =>
      obtain ⟨rfl, hV⟩ := hcut
      go_wp2
      go_ret2
      exact ⟨rfl, hT3.trans (hV.mono hT3.size)⟩
set_option maxRecDepth 100000 in
set_option maxHeartbeats 8000000 in
theorem drive_lost (V W : World) (kb pb : Nat) (L R S N u now : Int) (ad : Addr) (cc : Nat) (ch : List Int) (lg : List S59) (lo hi : Int) (hK : KeepAt V W kb pb L R S N u now ad cc ch lg) (h0 : lo ≤ hi) (h1' : -1000000000000000 ≤ lo) (h2' : hi ≤ 1000000000000000) (hfull : lg.length < 5000) (hu0 : 1 ≤ u) (hu1 : u ≤ 1000000000000) (hr : rightB L R S N = true) (hcsz : ch.length = siz L R) (hst : isB L R (unitsF u (Int.tdiv (lo + hi) 2)) now = true ∧ 1000 ≤ rd ch (ix L R (unitsF u (Int.tdiv (lo + hi) 2)) now)) :
    Calls Try.prog 32 #[.pointer (some ⟨kb, 0, none⟩), .agg #[.int .i64 lo, .int .i64 hi]] W fun e W' => e = .returned (.tuple #[.int .i64 0, .int .i64 9]) ∧ Below W.heap.size W W' := by
  have hK0 := hK
  obtain ⟨⟨h1, h2, h3, h4⟩, vl, h5, h6⟩ := hK
  obtain ⟨Al, cl, rfl, hcl, hCl⟩ := Kd.R_reads (R_entc h6)
  have a56 := fun W' (hB : Below W.heap.size W W') => none_calls kb ⟨pb, 0, none⟩ _ W' ((hB.block _ (Array.getElem?_eq_some_iff.1 h5).1).trans h5) rfl
  have hu71 := Try.underlying71
  have k0 : W.cell? ⟨kb, 0, none⟩ = some (.pointer (some ⟨pb, 0, none⟩)) := blk_cell h5 0
  have k1 : W.cell? ⟨kb, 1, none⟩ = some (.int .i64 u) := blk_cell h5 1
  have k2 : W.cell? ⟨kb, 2, none⟩ = some (.int .i64 now) := blk_cell h5 2
  have k4 : W.cell? ⟨kb, 4, none⟩ = some (.slice Al lg.length cl) := blk_cell h5 4
  have f1 : decide (hi < lo) = false := decide_eq_false (by omega)
  have f2 : decide (lo < -1000000000000000) = false := decide_eq_false (by omega)
  have f3 : decide (1000000000000000 < hi) = false := decide_eq_false (by omega)
  have f4 : decide ((5000 : Int) ≤ (lg.length : Int)) = false := decide_eq_false (by omega)
  have f5 : decide (5000 ≤ lg.length) = false := decide_eq_false (by omega)
  have HK := Aside0.mk hK0
  have h' := rightB_iff.1 hr
  have HCL := Aside0.mk hcsz
  have HPR := Aside0.mk hst
  have HH := Aside0.mk (And.intro h1 (And.intro h2 (And.intro h3 (And.intro h4 (And.intro h5 h6)))))
  clear h1 h2 h3 h4 h5 h6 hCl hK0 hr hcsz hst
  go_enter Try.func32, Try.ntmps32
  go_wp2_with fail
  refine (a56 _ ((Below.refl _ W).alloc (Nat.le_refl _) _)).mono ?_
  rintro en w1 ⟨rfl, hB⟩
  have hv : Below W.heap.size W w1 := ((Below.refl _ W).alloc (Nat.le_refl _) _).trans (hB.mono (by simp))
  have kx : w1.heap[W.heap.size]? = some (.cells #[.int .i64 lo, .int .i64 hi] 71 (0, 0)) := (hB.block _ (by simp)).trans (al_new _ _ _ rfl)
  have hs1 : W.heap.size < w1.heap.size := (Array.getElem?_eq_some_iff.1 kx).1
  have x0 : w1.cell? ⟨W.heap.size, 0, none⟩ = some (.int .i64 lo) := blk_cell kx 0
  have x1 : w1.cell? ⟨W.heap.size, 1, none⟩ = some (.int .i64 hi) := blk_cell kx 1
  clear kx hB a56
  replace k0 := cell_on hv k0
  replace k1 := cell_on hv k1
  replace k2 := cell_on hv k2
  replace k4 := cell_on hv k4
  go_wp2_with fail
  have hw2 : IntKind.i64.wrap (lo + hi) = lo + hi := by rw [IntKind.wrap_i64]; omega
  obtain ⟨md, hmd⟩ : ∃ md, Int.tdiv (lo + hi) 2 = md := ⟨_, rfl⟩
  have hmb : -1000000000000000 ≤ md ∧ md ≤ 1000000000000000 := by
    rw [← hmd]
    rcases Int.le_total 0 (lo + hi) with h | h
    · rw [Int.tdiv_eq_ediv_of_nonneg h]; omega
    · have h2 : Int.tdiv (lo + hi) 2 = -(Int.tdiv (-(lo + hi)) 2) := by rw [Int.neg_tdiv]; omega
      rw [h2, Int.tdiv_eq_ediv_of_nonneg (by omega)]; omega
  have hwm : IntKind.i64.wrap md = md := by rw [IntKind.wrap_i64]; omega
  have a57 : ∀ w', Below w1.heap.size w1 w' → Calls Try.prog 57 #[.pointer (some ⟨kb, 0, none⟩), .int .i64 md] w' fun e w'' => e = .returned (.int .i64 (unitsF u md)) ∧ Drawn0 w' w'' := fun w' h => units_calls kb u md w' (cell_on h k1) hu0 hu1 hmb.1 hmb.2
  have nb : ∀ m, ((w1.drewN m).alloc (.cells #[.int .i64 0, .int .i64 0] 59)).heap[w1.heap.size]? = some (.cells #[.int .i64 0, .int .i64 0] 59 (0, 0)) := fun m => World.alloc_heap_new _ _
  have nb2 : ∀ m, ((w1.alloc (.cells #[.int .i64 0, .int .i64 0] 59)).drewN m).heap[w1.heap.size]? = some (.cells #[.int .i64 0, .int .i64 0] 59 (0, 0)) := fun m => World.alloc_heap_new _ _
  have nc0 := fun m => blk_cell (nb m) 0
  have nc1 := fun m => blk_cell (nb m) 1
  have nf0 := fun m => blk_frozen (nb m) 0
  have nf1 := fun m => blk_frozen (nb m) 1
  have hS : ∀ w', Below w1.heap.size w1 w' → ((w'.cell? ⟨W.heap.size, 0, none⟩ = some (.int .i64 lo) ∧ w'.cell? ⟨W.heap.size, 1, none⟩ = some (.int .i64 hi) ∧ w'.cell? ⟨kb, 2, none⟩ = some (.int .i64 now)) ∧ Below w1.heap.size w1 w') := fun w' h => ⟨⟨cell_on h x0, cell_on h x1, cell_on h k2⟩, h⟩
  go_cut [6] from 33 (fun s6 w3 => s6 = .pointer (some ⟨w1.heap.size, 0, none⟩) ∧ Below w1.heap.size w1 w3 ∧ w3.heap[w1.heap.size]? = some (.cells #[.int .i64 (unitsF u md), .int .i64 now] 59 (0, 0)))
  case first =>
    go_region_held3 (fun w' => (w'.cell? ⟨W.heap.size, 0, none⟩ = some (.int .i64 lo) ∧ w'.cell? ⟨W.heap.size, 1, none⟩ = some (.int .i64 hi) ∧ w'.cell? ⟨kb, 2, none⟩ = some (.int .i64 now)) ∧ Below w1.heap.size w1 w') (first | exact hS _ (by repeat (first | exact Below.refl _ _ | apply below_alloc | apply pw_below_drewN | apply below_drew1 | refine below_set ?_ (Nat.le_refl _))))
      (first | (go_at_call 57; refine (a57 _ (by repeat (first | exact Below.refl _ _ | apply below_alloc | apply pw_below_drewN | apply below_drew1))).mono ?_; rintro en w' ⟨rfl, ⟨mm, rfl⟩⟩))
    all_goals
      go_wp2
      go_meet
      case rel => exact ⟨rfl, by repeat (first | exact Below.refl _ _ | apply below_alloc | apply pw_below_drewN | apply below_drew1 | refine below_set ?_ (Nat.le_refl _)), by first | exact blk_set (blk_set (nb _) 0 _) 1 _ | exact blk_set (blk_set (nb2 _) 0 _) 1 _⟩
  case rest =>
    obtain ⟨rfl, hB3, kx3⟩ := hcut
    rename World => w3
    have hT3 : Below W.heap.size W w3 := hv.trans (hB3.mono (by omega))
    have kb3 := (hT3.block kb (Array.getElem?_eq_some_iff.1 HH.out.2.2.2.2.1).1).trans HH.out.2.2.2.2.1
    have hVW := HH.out.2.2.2.1.size
    have hpl : pb < V.heap.size := (Array.getElem?_eq_some_iff.1 HH.out.2.1).1
    have kp3 := (hT3.block pb (by omega)).trans ((HH.out.2.2.2.1.block pb hpl).trans HH.out.2.1)
    have q0 : w3.cell? ⟨kb, 0, none⟩ = some (.pointer (some ⟨pb, 0, none⟩)) := blk_cell kb3 0
    have q3 : w3.cell? ⟨kb, 3, none⟩ = some (.slice (some ad) ch.length cc) := blk_cell kb3 3
    have p0 : w3.cell? ⟨pb, 0, none⟩ = some (.int .i64 L) := blk_cell kp3 0
    have p1 : w3.cell? ⟨pb, 1, none⟩ = some (.int .i64 R) := blk_cell kp3 1
    have p2 : w3.cell? ⟨pb, 2, none⟩ = some (.int .i64 S) := blk_cell kp3 2
    have p3 : w3.cell? ⟨pb, 3, none⟩ = some (.int .i64 N) := blk_cell kp3 3
    have y0 : w3.cell? ⟨w1.heap.size, 0, none⟩ = some (.int .i64 (unitsF u md)) := blk_cell kx3 0
    have y1 : w3.cell? ⟨w1.heap.size, 1, none⟩ = some (.int .i64 now) := blk_cell kx3 1
    have a38 := fun w' => is_calls L R S N (unitsF u md) now (by omega) (by omega) (by omega) (by omega) w'
    clear nc0 nc1 nf0 nf1 nb nb2 hS x0 x1 k0 k1 k2 k4 hmb hwm hw2 a57
    have hib : isB L R (unitsF u md) now = true := by rw [← hmd]; exact HPR.out.1
    simp only [hib] at a38
    have hbd := isB_iff.1 hib
    obtain ⟨j, hj, hji⟩ := idx_lt (show 1 ≤ L by omega) (show 0 ≤ R by omega) hib
    have a39 := fun w' => index_calls L R S N (unitsF u md) now j (by omega) (by omega) (by omega) (by omega) (by omega) (by omega) (by omega) (by omega) hji w'
    have hj2 : j < ch.length := by rw [HCL.out]; exact hj
    have hVw : Below V.heap.size V w3 := HH.out.2.2.2.1.trans (hT3.mono hVW)
    obtain ⟨ad', hade, hcv0⟩ := C_int HH.out.2.2.1 j hj2
    cases hade
    have hkr : ch[j]'hj2 = rd ch (j : Int) := by simp [rd, List.getD_eq_getElem?_getD, List.getElem?_eq_getElem hj2]
    rw [hkr] at hcv0
    clear hkr
    have hcv := cell_on hVw hcv0
    obtain ⟨v, hv'⟩ : ∃ v, rd ch (j : Int) = v := ⟨_, rfl⟩
    rw [hv'] at hcv
    have HV := Aside0.mk (And.intro hv' hji)
    have hpr2 : Aside0 (1000 ≤ v) := ⟨by have h0 := HPR.out.2; rw [hmd] at h0; rw [← hv', ← hji]; exact h0⟩
    clear hcv0 hv' hji hib
    have g0 : (0 : Int) ≤ (j : Int) := by omega
    have g1 : (j : Int) < (ch.length : Int) := by omega
    have hch9 : ch.length ≤ 9223372036854775807 := by have := HCL.out; have := siz_le L R (by omega) (by omega); omega
    have hS : ∀ w', Below w3.heap.size w3 w' → ((w'.cell? ⟨kb, 0, none⟩ = some (.pointer (some ⟨pb, 0, none⟩)) ∧ w'.cell? ⟨kb, 3, none⟩ = some (.slice (some ad) ch.length cc) ∧ w'.cell? ⟨pb, 0, none⟩ = some (.int .i64 L) ∧ w'.cell? ⟨pb, 1, none⟩ = some (.int .i64 R) ∧ w'.cell? ⟨pb, 2, none⟩ = some (.int .i64 S) ∧ w'.cell? ⟨pb, 3, none⟩ = some (.int .i64 N) ∧ w'.cell? ⟨w1.heap.size, 0, none⟩ = some (.int .i64 (unitsF u md)) ∧ w'.cell? ⟨w1.heap.size, 1, none⟩ = some (.int .i64 now) ∧ w'.cell? (ad.add j) = some (.int .i64 v)) ∧ Below w3.heap.size w3 w') := fun w' h => ⟨⟨cell_on h q0, cell_on h q3, cell_on h p0, cell_on h p1, cell_on h p2, cell_on h p3, cell_on h y0, cell_on h y1, cell_on h hcv⟩, h⟩
    go_wp2_with fail
    go_cut [71] from 33 (fun s71 w4 => s71 = .bool (decide (1000 ≤ v)) ∧ Below w3.heap.size w3 w4)
    case first =>
      go_region_held3 (fun w' => (w'.cell? ⟨kb, 0, none⟩ = some (.pointer (some ⟨pb, 0, none⟩)) ∧ w'.cell? ⟨kb, 3, none⟩ = some (.slice (some ad) ch.length cc) ∧ w'.cell? ⟨pb, 0, none⟩ = some (.int .i64 L) ∧ w'.cell? ⟨pb, 1, none⟩ = some (.int .i64 R) ∧ w'.cell? ⟨pb, 2, none⟩ = some (.int .i64 S) ∧ w'.cell? ⟨pb, 3, none⟩ = some (.int .i64 N) ∧ w'.cell? ⟨w1.heap.size, 0, none⟩ = some (.int .i64 (unitsF u md)) ∧ w'.cell? ⟨w1.heap.size, 1, none⟩ = some (.int .i64 now) ∧ w'.cell? (ad.add j) = some (.int .i64 v)) ∧ Below w3.heap.size w3 w') (first | exact hS _ (Below.refl _ _).drew | (have hh := ‹(_ ∧ _ ∧ _ ∧ _ ∧ _ ∧ _ ∧ _ ∧ _ ∧ _) ∧ Below w3.heap.size w3 _›; exact hS _ (hh.2.trans (hB.mono hh.2.size))))
        (first | (go_at_call 38; refine (a38 _).mono ?_; rintro en w' ⟨rfl, hB⟩) | (go_at_call 39; refine (a39 _).mono ?_; rintro en w' ⟨rfl, hB⟩))
      go_wp2
      go_meet
      case rel => exact ⟨rfl, (‹(_ ∧ _ ∧ _ ∧ _ ∧ _ ∧ _ ∧ _ ∧ _ ∧ _) ∧ Below w3.heap.size w3 _›).2⟩
    case rest =>
      obtain ⟨rfl, hV⟩ := hcut
      have f9 : decide (1000 ≤ v) = true := decide_eq_true hpr2.out
      rw [f9]
      clear f9 hpr2
      go_wp2
      go_ret2
      exact ⟨rfl, hT3.trans (hV.mono hT3.size)⟩
set_option maxRecDepth 100000 in
set_option maxHeartbeats 8000000 in
theorem drive_good (V W : World) (kb pb : Nat) (L R S N u now : Int) (ad : Addr) (cc : Nat) (ch : List Int) (lg : List S59) (lo hi : Int) (hK : KeepAt V W kb pb L R S N u now ad cc ch lg) (h0 : lo ≤ hi) (h1' : -1000000000000000 ≤ lo) (h2' : hi ≤ 1000000000000000) (hfull : lg.length < 5000) (hu0 : 1 ≤ u) (hu1 : u ≤ 1000000000000) (hr : rightB L R S N = true) (hcsz : ch.length = siz L R) (hst : isB L R (unitsF u (Int.tdiv (lo + hi) 2)) now = true ∧ rd ch (ix L R (unitsF u (Int.tdiv (lo + hi) 2)) now) < 1000) (X0 q0v : Int) (HQ : Aside0 ((unitsF u (Int.tdiv (lo + hi) 2)) = X0 ∧ rd ch (ix L R X0 now) = q0v)) :
    Calls Try.prog 32 #[.pointer (some ⟨kb, 0, none⟩), .agg #[.int .i64 lo, .int .i64 hi]] W fun e W' => e = .returned (.tuple #[.int .i64 q0v, .int .i64 0]) ∧ KeepAt V W' kb pb L R S N u q0v ad cc ch (lg ++ [(⟨X0, q0v⟩ : S59)]) ∧ FrameK kb W W' := by
  have hK0 := hK
  obtain ⟨⟨h1, h2, h3, h4⟩, vl, h5, h6⟩ := hK
  obtain ⟨Al, cl, rfl, hcl, hCl⟩ := Kd.R_reads (R_entc h6)
  have a56 := fun W' (hB : Below W.heap.size W W') => none_calls kb ⟨pb, 0, none⟩ _ W' ((hB.block _ (Array.getElem?_eq_some_iff.1 h5).1).trans h5) rfl
  have hu71 := Try.underlying71
  have k0 : W.cell? ⟨kb, 0, none⟩ = some (.pointer (some ⟨pb, 0, none⟩)) := blk_cell h5 0
  have k1 : W.cell? ⟨kb, 1, none⟩ = some (.int .i64 u) := blk_cell h5 1
  have k2 : W.cell? ⟨kb, 2, none⟩ = some (.int .i64 now) := blk_cell h5 2
  have k4 : W.cell? ⟨kb, 4, none⟩ = some (.slice Al lg.length cl) := blk_cell h5 4
  have f1 : decide (hi < lo) = false := decide_eq_false (by omega)
  have f2 : decide (lo < -1000000000000000) = false := decide_eq_false (by omega)
  have f3 : decide (1000000000000000 < hi) = false := decide_eq_false (by omega)
  have f4 : decide ((5000 : Int) ≤ (lg.length : Int)) = false := decide_eq_false (by omega)
  have f5 : decide (5000 ≤ lg.length) = false := decide_eq_false (by omega)
  have HK := Aside0.mk hK0
  have h' := rightB_iff.1 hr
  have HCL := Aside0.mk hcsz
  have HPR := Aside0.mk hst
  have HH := Aside0.mk (And.intro h1 (And.intro h2 (And.intro h3 (And.intro h4 (And.intro h5 h6)))))
  clear h1 h2 h3 h4 h5 h6 hCl hK0 hr hcsz hst
  go_enter Try.func32, Try.ntmps32
  go_wp2_with fail
  refine (a56 _ ((Below.refl _ W).alloc (Nat.le_refl _) _)).mono ?_
  rintro en w1 ⟨rfl, hB⟩
  have hv : Below W.heap.size W w1 := ((Below.refl _ W).alloc (Nat.le_refl _) _).trans (hB.mono (by simp))
  have kx : w1.heap[W.heap.size]? = some (.cells #[.int .i64 lo, .int .i64 hi] 71 (0, 0)) := (hB.block _ (by simp)).trans (al_new _ _ _ rfl)
  have hs1 : W.heap.size < w1.heap.size := (Array.getElem?_eq_some_iff.1 kx).1
  have x0 : w1.cell? ⟨W.heap.size, 0, none⟩ = some (.int .i64 lo) := blk_cell kx 0
  have x1 : w1.cell? ⟨W.heap.size, 1, none⟩ = some (.int .i64 hi) := blk_cell kx 1
  clear kx hB a56
  replace k0 := cell_on hv k0
  replace k1 := cell_on hv k1
  replace k2 := cell_on hv k2
  replace k4 := cell_on hv k4
  go_wp2_with fail
  have hw2 : IntKind.i64.wrap (lo + hi) = lo + hi := by rw [IntKind.wrap_i64]; omega
  obtain ⟨md, hmd⟩ : ∃ md, Int.tdiv (lo + hi) 2 = md := ⟨_, rfl⟩
  have hmb : -1000000000000000 ≤ md ∧ md ≤ 1000000000000000 := by
    rw [← hmd]
    rcases Int.le_total 0 (lo + hi) with h | h
    · rw [Int.tdiv_eq_ediv_of_nonneg h]; omega
    · have h2 : Int.tdiv (lo + hi) 2 = -(Int.tdiv (-(lo + hi)) 2) := by rw [Int.neg_tdiv]; omega
      rw [h2, Int.tdiv_eq_ediv_of_nonneg (by omega)]; omega
  have hwm : IntKind.i64.wrap md = md := by rw [IntKind.wrap_i64]; omega
  have a57 : ∀ w', Below w1.heap.size w1 w' → Calls Try.prog 57 #[.pointer (some ⟨kb, 0, none⟩), .int .i64 md] w' fun e w'' => e = .returned (.int .i64 (unitsF u md)) ∧ Drawn0 w' w'' := fun w' h => units_calls kb u md w' (cell_on h k1) hu0 hu1 hmb.1 hmb.2
  have nb : ∀ m, ((w1.drewN m).alloc (.cells #[.int .i64 0, .int .i64 0] 59)).heap[w1.heap.size]? = some (.cells #[.int .i64 0, .int .i64 0] 59 (0, 0)) := fun m => World.alloc_heap_new _ _
  have nb2 : ∀ m, ((w1.alloc (.cells #[.int .i64 0, .int .i64 0] 59)).drewN m).heap[w1.heap.size]? = some (.cells #[.int .i64 0, .int .i64 0] 59 (0, 0)) := fun m => World.alloc_heap_new _ _
  have nc0 := fun m => blk_cell (nb m) 0
  have nc1 := fun m => blk_cell (nb m) 1
  have nf0 := fun m => blk_frozen (nb m) 0
  have nf1 := fun m => blk_frozen (nb m) 1
  have hS : ∀ w', Below w1.heap.size w1 w' → ((w'.cell? ⟨W.heap.size, 0, none⟩ = some (.int .i64 lo) ∧ w'.cell? ⟨W.heap.size, 1, none⟩ = some (.int .i64 hi) ∧ w'.cell? ⟨kb, 2, none⟩ = some (.int .i64 now)) ∧ Below w1.heap.size w1 w') := fun w' h => ⟨⟨cell_on h x0, cell_on h x1, cell_on h k2⟩, h⟩
  go_cut [6] from 33 (fun s6 w3 => s6 = .pointer (some ⟨w1.heap.size, 0, none⟩) ∧ Below w1.heap.size w1 w3 ∧ w3.heap[w1.heap.size]? = some (.cells #[.int .i64 (unitsF u md), .int .i64 now] 59 (0, 0)))
  case first =>
    go_region_held3 (fun w' => (w'.cell? ⟨W.heap.size, 0, none⟩ = some (.int .i64 lo) ∧ w'.cell? ⟨W.heap.size, 1, none⟩ = some (.int .i64 hi) ∧ w'.cell? ⟨kb, 2, none⟩ = some (.int .i64 now)) ∧ Below w1.heap.size w1 w') (first | exact hS _ (by repeat (first | exact Below.refl _ _ | apply below_alloc | apply pw_below_drewN | apply below_drew1 | refine below_set ?_ (Nat.le_refl _))))
      (first | (go_at_call 57; refine (a57 _ (by repeat (first | exact Below.refl _ _ | apply below_alloc | apply pw_below_drewN | apply below_drew1))).mono ?_; rintro en w' ⟨rfl, ⟨mm, rfl⟩⟩))
    all_goals
      go_wp2
      go_meet
      case rel => exact ⟨rfl, by repeat (first | exact Below.refl _ _ | apply below_alloc | apply pw_below_drewN | apply below_drew1 | refine below_set ?_ (Nat.le_refl _)), by first | exact blk_set (blk_set (nb _) 0 _) 1 _ | exact blk_set (blk_set (nb2 _) 0 _) 1 _⟩
  case rest =>
    obtain ⟨rfl, hB3, kx3⟩ := hcut
    rename World => w3
    have hT3 : Below W.heap.size W w3 := hv.trans (hB3.mono (by omega))
    have kb3 := (hT3.block kb (Array.getElem?_eq_some_iff.1 HH.out.2.2.2.2.1).1).trans HH.out.2.2.2.2.1
    have hVW := HH.out.2.2.2.1.size
    have hpl : pb < V.heap.size := (Array.getElem?_eq_some_iff.1 HH.out.2.1).1
    have kp3 := (hT3.block pb (by omega)).trans ((HH.out.2.2.2.1.block pb hpl).trans HH.out.2.1)
    have q0 : w3.cell? ⟨kb, 0, none⟩ = some (.pointer (some ⟨pb, 0, none⟩)) := blk_cell kb3 0
    have q3 : w3.cell? ⟨kb, 3, none⟩ = some (.slice (some ad) ch.length cc) := blk_cell kb3 3
    have p0 : w3.cell? ⟨pb, 0, none⟩ = some (.int .i64 L) := blk_cell kp3 0
    have p1 : w3.cell? ⟨pb, 1, none⟩ = some (.int .i64 R) := blk_cell kp3 1
    have p2 : w3.cell? ⟨pb, 2, none⟩ = some (.int .i64 S) := blk_cell kp3 2
    have p3 : w3.cell? ⟨pb, 3, none⟩ = some (.int .i64 N) := blk_cell kp3 3
    have y0 : w3.cell? ⟨w1.heap.size, 0, none⟩ = some (.int .i64 (unitsF u md)) := blk_cell kx3 0
    have y1 : w3.cell? ⟨w1.heap.size, 1, none⟩ = some (.int .i64 now) := blk_cell kx3 1
    have a38 := fun w' => is_calls L R S N (unitsF u md) now (by omega) (by omega) (by omega) (by omega) w'
    clear nc0 nc1 nf0 nf1 nb nb2 hS x0 x1 k0 k1 k2 k4 hmb hwm hw2 a57
    have hib : isB L R (unitsF u md) now = true := by rw [← hmd]; exact HPR.out.1
    simp only [hib] at a38
    have hbd := isB_iff.1 hib
    obtain ⟨j, hj, hji⟩ := idx_lt (show 1 ≤ L by omega) (show 0 ≤ R by omega) hib
    have a39 := fun w' => index_calls L R S N (unitsF u md) now j (by omega) (by omega) (by omega) (by omega) (by omega) (by omega) (by omega) (by omega) hji w'
    have hj2 : j < ch.length := by rw [HCL.out]; exact hj
    have hVw : Below V.heap.size V w3 := HH.out.2.2.2.1.trans (hT3.mono hVW)
    obtain ⟨ad', hade, hcv0⟩ := C_int HH.out.2.2.1 j hj2
    cases hade
    have hkr : ch[j]'hj2 = rd ch (j : Int) := by simp [rd, List.getD_eq_getElem?_getD, List.getElem?_eq_getElem hj2]
    rw [hkr] at hcv0
    clear hkr
    have hcv := cell_on hVw hcv0
    obtain ⟨v, hv'⟩ : ∃ v, rd ch (j : Int) = v := ⟨_, rfl⟩
    rw [hv'] at hcv
    have HV := Aside0.mk (And.intro hv' hji)
    have hpr2 : Aside0 (v < 1000) := ⟨by have h0 := HPR.out.2; rw [hmd] at h0; rw [← hv', ← hji]; exact h0⟩
    clear hcv0 hv' hji hib
    have g0 : (0 : Int) ≤ (j : Int) := by omega
    have g1 : (j : Int) < (ch.length : Int) := by omega
    have hch9 : ch.length ≤ 9223372036854775807 := by have := HCL.out; have := siz_le L R (by omega) (by omega); omega
    have hS : ∀ w', Below w3.heap.size w3 w' → ((w'.cell? ⟨kb, 0, none⟩ = some (.pointer (some ⟨pb, 0, none⟩)) ∧ w'.cell? ⟨kb, 3, none⟩ = some (.slice (some ad) ch.length cc) ∧ w'.cell? ⟨pb, 0, none⟩ = some (.int .i64 L) ∧ w'.cell? ⟨pb, 1, none⟩ = some (.int .i64 R) ∧ w'.cell? ⟨pb, 2, none⟩ = some (.int .i64 S) ∧ w'.cell? ⟨pb, 3, none⟩ = some (.int .i64 N) ∧ w'.cell? ⟨w1.heap.size, 0, none⟩ = some (.int .i64 (unitsF u md)) ∧ w'.cell? ⟨w1.heap.size, 1, none⟩ = some (.int .i64 now) ∧ w'.cell? (ad.add j) = some (.int .i64 v)) ∧ Below w3.heap.size w3 w') := fun w' h => ⟨⟨cell_on h q0, cell_on h q3, cell_on h p0, cell_on h p1, cell_on h p2, cell_on h p3, cell_on h y0, cell_on h y1, cell_on h hcv⟩, h⟩
    go_wp2_with fail
    go_cut [71] from 33 (fun s71 w4 => s71 = .bool (decide (1000 ≤ v)) ∧ Below w3.heap.size w3 w4)
    case first =>
      go_region_held3 (fun w' => (w'.cell? ⟨kb, 0, none⟩ = some (.pointer (some ⟨pb, 0, none⟩)) ∧ w'.cell? ⟨kb, 3, none⟩ = some (.slice (some ad) ch.length cc) ∧ w'.cell? ⟨pb, 0, none⟩ = some (.int .i64 L) ∧ w'.cell? ⟨pb, 1, none⟩ = some (.int .i64 R) ∧ w'.cell? ⟨pb, 2, none⟩ = some (.int .i64 S) ∧ w'.cell? ⟨pb, 3, none⟩ = some (.int .i64 N) ∧ w'.cell? ⟨w1.heap.size, 0, none⟩ = some (.int .i64 (unitsF u md)) ∧ w'.cell? ⟨w1.heap.size, 1, none⟩ = some (.int .i64 now) ∧ w'.cell? (ad.add j) = some (.int .i64 v)) ∧ Below w3.heap.size w3 w') (first | exact hS _ (Below.refl _ _).drew | (have hh := ‹(_ ∧ _ ∧ _ ∧ _ ∧ _ ∧ _ ∧ _ ∧ _ ∧ _) ∧ Below w3.heap.size w3 _›; exact hS _ (hh.2.trans (hB.mono hh.2.size))))
        (first | (go_at_call 38; refine (a38 _).mono ?_; rintro en w' ⟨rfl, hB⟩) | (go_at_call 39; refine (a39 _).mono ?_; rintro en w' ⟨rfl, hB⟩))
      go_wp2
      go_meet
      case rel => exact ⟨rfl, (‹(_ ∧ _ ∧ _ ∧ _ ∧ _ ∧ _ ∧ _ ∧ _ ∧ _) ∧ Below w3.heap.size w3 _›).2⟩
    case rest =>
      obtain ⟨rfl, hV⟩ := hcut
      rename World => w4
      have f9 : decide (1000 ≤ v) = false := decide_eq_false (by have := hpr2.out; omega)
      rw [f9]
      clear f9
      have kb4 := (hV.block kb (Array.getElem?_eq_some_iff.1 kb3).1).trans kb3
      have kx4 := (hV.block _ (Array.getElem?_eq_some_iff.1 kx3).1).trans kx3
      have lkb := (Array.getElem?_eq_some_iff.1 kb4).1
      have hkx : kb < w1.heap.size := by have := (Array.getElem?_eq_some_iff.1 HH.out.2.2.2.2.1).1; omega
      have r0 : w4.cell? ⟨kb, 0, none⟩ = some (.pointer (some ⟨pb, 0, none⟩)) := blk_cell kb4 0
      have r3 : w4.cell? ⟨kb, 3, none⟩ = some (.slice (some ad) ch.length cc) := blk_cell kb4 3
      have s0 := cell_on hV p0
      have s1 := cell_on hV p1
      have s2 := cell_on hV p2
      have s3 := cell_on hV p3
      have z0 := cell_on hV y0
      have z1 := cell_on hV y1
      have hcv4 := cell_on hV hcv
      have hadl : ad.block < V.heap.size := by
        obtain ⟨ad2, hae, hc2⟩ := C_int HH.out.2.2.1 j hj2
        cases hae
        have := World.block_lt_of_cell? V _ hc2
        rwa [show (ad.add j).block = ad.block from by unfold Addr.add; split <;> rfl] at this
      have hadk : (ad.add j).block ≠ kb := by rw [show (ad.add j).block = ad.block from by unfold Addr.add; split <;> rfl]; have := HH.out.1; omega
      have hpbk : pb ≠ kb := by have := HH.out.1; omega
      have hxk : w1.heap.size ≠ kb := by omega
      clear q0 q3 p0 p1 p2 p3 y0 y1 hcv hS
      have hS : ∀ w', Below w4.heap.size w4 w' → ((w'.cell? ⟨kb, 0, none⟩ = some (.pointer (some ⟨pb, 0, none⟩)) ∧ w'.cell? ⟨kb, 3, none⟩ = some (.slice (some ad) ch.length cc) ∧ w'.cell? ⟨pb, 0, none⟩ = some (.int .i64 L) ∧ w'.cell? ⟨pb, 1, none⟩ = some (.int .i64 R) ∧ w'.cell? ⟨pb, 2, none⟩ = some (.int .i64 S) ∧ w'.cell? ⟨pb, 3, none⟩ = some (.int .i64 N) ∧ w'.cell? ⟨w1.heap.size, 0, none⟩ = some (.int .i64 (unitsF u md)) ∧ w'.cell? ⟨w1.heap.size, 1, none⟩ = some (.int .i64 now) ∧ w'.cell? (ad.add j) = some (.int .i64 v)) ∧ True) := fun w' h => ⟨⟨cell_on h r0, cell_on h r3, cell_on h s0, cell_on h s1, cell_on h s2, cell_on h s3, cell_on h z0, cell_on h z1, cell_on h hcv4⟩, trivial⟩
      have a39' : ∀ w', Below w4.heap.size w4 w' → Calls Try.prog 39 #[.agg #[.int .i64 L, .int .i64 R, .int .i64 S, .int .i64 N], .agg #[.int .i64 (unitsF u md), .int .i64 now]] w' fun e w'' => e = .returned (.int .i64 j) ∧ Below w4.heap.size w4 w'' := fun w' h => (a39 w').mono (fun e w'' hh => ⟨hh.1, h.trans (hh.2.mono h.size)⟩)
      have hSs : ∀ w', Below w4.heap.size w4 w' → (((w'.setCell ⟨kb, 2, none⟩ (.int .i64 v)).cell? ⟨kb, 0, none⟩ = some (.pointer (some ⟨pb, 0, none⟩)) ∧ (w'.setCell ⟨kb, 2, none⟩ (.int .i64 v)).cell? ⟨kb, 3, none⟩ = some (.slice (some ad) ch.length cc) ∧ (w'.setCell ⟨kb, 2, none⟩ (.int .i64 v)).cell? ⟨pb, 0, none⟩ = some (.int .i64 L) ∧ (w'.setCell ⟨kb, 2, none⟩ (.int .i64 v)).cell? ⟨pb, 1, none⟩ = some (.int .i64 R) ∧ (w'.setCell ⟨kb, 2, none⟩ (.int .i64 v)).cell? ⟨pb, 2, none⟩ = some (.int .i64 S) ∧ (w'.setCell ⟨kb, 2, none⟩ (.int .i64 v)).cell? ⟨pb, 3, none⟩ = some (.int .i64 N) ∧ (w'.setCell ⟨kb, 2, none⟩ (.int .i64 v)).cell? ⟨w1.heap.size, 0, none⟩ = some (.int .i64 (unitsF u md)) ∧ (w'.setCell ⟨kb, 2, none⟩ (.int .i64 v)).cell? ⟨w1.heap.size, 1, none⟩ = some (.int .i64 now) ∧ (w'.setCell ⟨kb, 2, none⟩ (.int .i64 v)).cell? (ad.add j) = some (.int .i64 v)) ∧ True) := fun w' h => by
        have hh := (hS w' h).1
        have ho : ∀ (a : Addr) (x : Value), a.block ≠ kb → w'.cell? a = some x → (w'.setCell ⟨kb, 2, none⟩ (.int .i64 v)).cell? a = some x := fun a x hne hx => by
          unfold World.cell? at hx ⊢
          rw [Below.heap_setCell _ _ _ _ hne]
          exact hx
        have hb := blk_set ((h.block kb lkb).trans kb4) 2 (.int .i64 v)
        exact ⟨⟨blk_cell hb 0, blk_cell hb 3, ho _ _ hpbk hh.2.2.1, ho _ _ hpbk hh.2.2.2.1, ho _ _ hpbk hh.2.2.2.2.1, ho _ _ hpbk hh.2.2.2.2.2.1, ho _ _ hxk hh.2.2.2.2.2.2.1, ho _ _ hxk hh.2.2.2.2.2.2.2.1, ho _ _ hadk hh.2.2.2.2.2.2.2.2⟩, trivial⟩
      go_wp2_with fail
      go_cut [] from 33 (fun w5 => ∃ w', Below w4.heap.size w4 w' ∧ w5 = w'.setCell ⟨kb, 2, none⟩ (.int .i64 v))
      case first =>
        go_region_held3 (fun w' => (w'.cell? ⟨kb, 0, none⟩ = some (.pointer (some ⟨pb, 0, none⟩)) ∧ w'.cell? ⟨kb, 3, none⟩ = some (.slice (some ad) ch.length cc) ∧ w'.cell? ⟨pb, 0, none⟩ = some (.int .i64 L) ∧ w'.cell? ⟨pb, 1, none⟩ = some (.int .i64 R) ∧ w'.cell? ⟨pb, 2, none⟩ = some (.int .i64 S) ∧ w'.cell? ⟨pb, 3, none⟩ = some (.int .i64 N) ∧ w'.cell? ⟨w1.heap.size, 0, none⟩ = some (.int .i64 (unitsF u md)) ∧ w'.cell? ⟨w1.heap.size, 1, none⟩ = some (.int .i64 now) ∧ w'.cell? (ad.add j) = some (.int .i64 v)) ∧ True) (first | exact hS _ (Below.refl _ _).drew | exact hS _ hB | exact hSs _ hB)
          (first | (go_at_call 39; refine (a39' _ (Below.refl _ _).drew).mono ?_; rintro en w' ⟨rfl, hB⟩; have hk2 : w'.cell? ⟨kb, 2, none⟩ = some (.int .i64 now) := blk_cell ((hB.block kb lkb).trans kb4) 2; have hf2 : w'.frozen? ⟨kb, 2, none⟩ = false := blk_frozen ((hB.block kb lkb).trans kb4) 2))
        go_wp2
        go_meet
        case rel => exact ⟨_, hB, rfl⟩
      case rest =>
        obtain ⟨w4b, hB4, rfl⟩ := hcut
        have hB0 := hT3.trans ((hV.mono hT3.size).trans (hB4.mono (by have := hT3.size; have := hV.size; omega)))
        have kb5 := blk_set ((hB4.block kb lkb).trans kb4) 2 (.int .i64 v)
        have hx4b := (hB4.block w1.heap.size (Array.getElem?_eq_some_iff.1 kx4).1).trans kx4
        have kx5 : (w4b.setCell ⟨kb, 2, none⟩ (.int .i64 v)).heap[w1.heap.size]? = some (.cells #[.int .i64 (unitsF u md), .int .i64 now] 59 (0, 0)) := (Below.heap_setCell _ _ _ _ hxk).trans hx4b
        have ho5 : (w4b.setCell ⟨kb, 2, none⟩ (.int .i64 v)).ownsRow (kb + 1) 59 2 (.slice Al lg.length cl) lg.length (entc lg) := own_move HH.out.2.2.2.2.2 (fun q hq => (Below.heap_setCell _ _ _ _ (by have := own_base HH.out.2.2.2.2.2 q hq; simp; omega)).trans (hB0.block q (own_lt HH.out.2.2.2.2.2 q hq)))
        have HB0 := Aside0.mk (And.intro hB0 hB4)
        obtain ⟨w5, hw5⟩ : ∃ w5, w4b.setCell ⟨kb, 2, none⟩ (.int .i64 v) = w5 := ⟨_, rfl⟩
        rw [hw5] at kb5 kx5 ho5 ⊢
        have HW5 := Aside0.mk hw5
        clear hw5 hB0 hx4b r0 r3 s0 s1 s2 s3 z0 z1 hcv4 hS hSs a39 a39' a38
        have m4 : w5.cell? ⟨kb, 4, none⟩ = some (.slice Al lg.length cl) := blk_cell kb5 4
        have m2 : w5.cell? ⟨kb, 2, none⟩ = some (.int .i64 v) := blk_cell kb5 2
        have z0 : w5.cell? ⟨w1.heap.size, 0, none⟩ = some (.int .i64 (unitsF u md)) := blk_cell kx5 0
        have lk5 := (Array.getElem?_eq_some_iff.1 kb5).1
        have lx5 := (Array.getElem?_eq_some_iff.1 kx5).1
        obtain ⟨ii, hii, hz0, hz1, hz2⟩ := info_parts info59n
        have hOW : ∀ wx, Below w5.heap.size w5 wx → wx.ownsRow (kb + 1) 59 2 (.slice Al lg.length cl) lg.length (entc lg) := fun wx h => own_move ho5 (fun q hq => h.block q (own_lt ho5 q hq))
        have hob := own_base ho5
        have hK4 : ∀ wx w7, Below w5.heap.size w5 wx → wx.grownBy w7 (Value.ownBlock (.slice Al lg.length cl)) → w7.heap[kb]? = some (.cells #[.pointer (some ⟨pb, 0, none⟩), .int .i64 u, .int .i64 v, .slice (some ad) ch.length cc, .slice Al lg.length cl] 80 (0, 0)) := fun wx w7 h hg => (hg.block kb (by have := h.size; omega) (fun e => by have := hob kb e.symm; omega)).trans ((h.block kb lk5).trans kb5)
        go_wp2_with fail
        go_cut [] from 33 (fun w8 => ∃ (gg cap : Nat) (wx w7 : World), Below w5.heap.size w5 wx ∧ wx.grownBy w7 (Value.ownBlock (.slice Al lg.length cl)) ∧ w7.ownsRow (kb + 1) 59 2 (.slice (some ⟨gg, 0, none⟩) (lg.length + 1) cap) (lg.length + 1) (entc lg ++ [.int .i64 (unitsF u md), .int .i64 v]) ∧ w8 = w7.setCell ⟨kb, 4, none⟩ (.slice (some ⟨gg, 0, none⟩) (lg.length + 1) cap))
        case first =>
          go_region_law (refine step_append_lies _ (by rfl) _ _ _ (by rfl) (kb + 1) 59 ii _ 2 16 Try.underlying48 hii hz0 hz1 hz2 rfl (by omega) (.slice Al lg.length cl) lg.length (entc lg) (by rfl) (hOW _ (by repeat (first | exact Below.refl _ _ | apply below_alloc | apply pw_below_drewN | apply below_drew1))) ⟨_, 0, none⟩ 1 1 [.int .i64 (unitsF u md), .int .i64 v] (by rfl) (by rfl) (World.news_of_block (cs := #[.int .i64 (unitsF u md), .int .i64 v]) (t := 59) (fr := (0, 0)) (heap_alloc_new _ _)) (by simp [Value.oneCell']) (by omega) (by unfold maxLen; omega) (by omega) (by simp; omega) _ rfl ?_; intro gg cap w7 hown7 hgrow7 hat7 hlt7; have hb7 := hK4 _ w7 (by repeat (first | exact Below.refl _ _ | apply below_alloc | apply pw_below_drewN | apply below_drew1)) hgrow7; have hk7 := blk_cell hb7 4; have hf7 := blk_frozen hb7 4)
          all_goals
            go_wp2
            go_meet
            case rel => exact ⟨gg, cap, _, w7, by repeat (first | exact Below.refl _ _ | apply below_alloc | apply pw_below_drewN | apply below_drew1), hgrow7, hown7, rfl⟩
        case rest =>
          obtain ⟨gg, cap, wx, w7, hBx, hgrow7, hown7, rfl⟩ := hcut
          have hb7 := hK4 wx w7 hBx hgrow7
          have hb8 := blk_set hb7 4 (.slice (some ⟨gg, 0, none⟩) (lg.length + 1) cap)
          have hob7 := own_base hown7
          have n2 : (w7.setCell ⟨kb, 4, none⟩ (.slice (some ⟨gg, 0, none⟩) (lg.length + 1) cap)).cell? ⟨kb, 2, none⟩ = some (.int .i64 v) := blk_cell hb8 2
          have own8 : (w7.setCell ⟨kb, 4, none⟩ (.slice (some ⟨gg, 0, none⟩) (lg.length + 1) cap)).ownsRow (kb + 1) 59 2 (.slice (some ⟨gg, 0, none⟩) (lg.length + 1) cap) (lg ++ [(⟨unitsF u md, v⟩ : S59)]).length (entc (lg ++ [(⟨unitsF u md, v⟩ : S59)])) := by
            have := own_move (w1 := w7.setCell ⟨kb, 4, none⟩ (.slice (some ⟨gg, 0, none⟩) (lg.length + 1) cap)) hown7 (fun q hq => Below.heap_setCell _ _ _ _ (by have := hob7 q hq; simp; omega))
            rw [List.length_append, entc_append]
            exact this
          have hs45 : w4b.heap.size = w5.heap.size := by rw [← HW5.out]; simp [World.setCell]
          have hV8 : Below V.heap.size V (w7.setCell ⟨kb, 4, none⟩ (.slice (some ⟨gg, 0, none⟩) (lg.length + 1) cap)) := by
            have e1 := HH.out.2.2.2.1.trans (HB0.out.1.mono hVW)
            have e2 := e1.setCell (p := ⟨kb, 2, none⟩) HH.out.1 (.int .i64 v)
            rw [HW5.out] at e2
            have e3 := e2.trans (hBx.mono e2.size)
            have e4 := e3.grown hgrow7 e3.size (fun q hq => by have := hob q hq; have := HH.out.1; omega)
            exact e4.setCell (p := ⟨kb, 4, none⟩) HH.out.1 _
          have hFK : FrameK kb W (w7.setCell ⟨kb, 4, none⟩ (.slice (some ⟨gg, 0, none⟩) (lg.length + 1) cap)) := by
            refine ⟨?_, fun q o hq hne hno => ?_⟩
            · have g1 := HB0.out.1.size; have g2 := hBx.size; have g3 := hgrow7.size
              simp [World.setCell]; omega
            · have hqW := (Array.getElem?_eq_some_iff.1 hq).1
              have c1 := (HB0.out.1.block q hqW).trans hq
              have c2 : w5.heap[q]? = some o := by rw [← HW5.out]; exact (Below.heap_setCell _ _ _ _ hne).trans c1
              have c3 := (hBx.block q (Array.getElem?_eq_some_iff.1 c2).1).trans c2
              refine (Below.heap_setCell _ _ _ _ hne).trans ((hgrow7.block q (Array.getElem?_eq_some_iff.1 c3).1 (fun e => ?_)).trans c3)
              obtain ⟨cells, hcq⟩ := own_typed (hOW wx hBx) q e.symm
              rw [c3] at hcq
              cases hcq
              exact hno _ rfl
          have HF := Aside0.mk (And.intro hb8 (And.intro own8 (And.intro hV8 hFK)))
          clear hb8 own8 hV8 hFK hb7 m4 m2 z0 hOW hK4
          go_wp2
          go_ret2
          have hq : q0v = v := by
            have e1 := HQ.out.2
            rw [← HQ.out.1, hmd, show ix L R (unitsF u md) now = (j : Int) from HV.out.2, HV.out.1] at e1
            exact e1.symm
          have hX : X0 = unitsF u md := by rw [← HQ.out.1, hmd]
          subst hq
          rw [hX]
          exact ⟨rfl, ⟨⟨HH.out.1, HH.out.2.1, HH.out.2.2.1, HF.out.2.2.1⟩, _, HF.out.1, HF.out.2.1⟩, HF.out.2.2.2⟩
end
end Go.Proofs.Ytcaekmalkbaldaa.M
