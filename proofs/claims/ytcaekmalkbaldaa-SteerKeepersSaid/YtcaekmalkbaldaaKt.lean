/- SteerKeepers: the law's walk. -/
import Derived.Test.YtcaekmalkbaldaaKs
import Derived.Test.YtcaekmalkbaldaaM7
namespace Go.Proofs.Ytcaekmalkbaldaa.M
open Go.RowKit Go.Shelf Go.Proofs.YtcaekmalkbaldaaW.PrintWords Go.Proofs.YtcaekmalkbaldaaW.PrintLast Go.Proofs.YtcaekmalkbaldaaW.PrintMore
set_option linter.unusedVariables false
set_option linter.unusedSimpArgs false
def kl : Kd (Int × Int) := Kd.pair (Kd.int .i64) (Kd.int .i64)
theorem kl_open {w : World} {x : Int × Int} {cs : List Value} (h : kl.K w x cs) : cs = [.int .i64 x.1, .int .i64 x.2] := by
  obtain ⟨c1, c2, rfl, h1, h2⟩ := h
  rw [show c1 = [.int .i64 x.1] from h1, show c2 = [.int .i64 x.2] from h2]
  rfl
theorem C_leap {w : World} {A : Option Addr} {n : Nat} {l : List (Int × Int)} (h : Kd.C kl w A n l) (k : Nat) (hk : k < l.length) (hn : k < n) :
    ∃ ad, A = some ad ∧ w.cell? (ad.add (k * 2)) = some (.int .i64 l[k].1) ∧ w.cell? ⟨(ad.add (k * 2)).block, (ad.add (k * 2)).off + 1, none⟩ = some (.int .i64 l[k].2) := by
  obtain ⟨ad, c, e, hs, hr, hc⟩ := ReadsRow.get_ h (0, 0) k (by omega) (by omega)
  have hx : l.getD (Int.toNat (k : Int)) (0, 0) = l[k] := by simp [List.getD_eq_getElem?_getD, hk]
  rw [hx] at hr
  obtain rfl := kl_open hr
  have e1 : ad.add (k * 2 + 1) = ⟨(ad.add (k * 2)).block, (ad.add (k * 2)).off + 1, none⟩ := by
    unfold Addr.add
    rw [if_neg (show ¬ k * 2 + 1 = 0 by omega)]
    split
    · rename_i h0; simp [h0]
    · simp [Nat.add_assoc]
  have c0 := hc 0 _ rfl
  have c1 := hc 1 _ rfl
  rw [show kl.sz = 2 from rfl, show Int.toNat (k : Int) = k by simp] at c0 c1
  exact ⟨ad, e, c0, by rw [← e1]; exact c1⟩
abbrev ksArgs (L R S N u r : Int) (A : Option Addr) (n c : Nat) : Array Value := #[.agg #[.int .i64 L, .int .i64 R, .int .i64 S, .int .i64 N], .int .i64 u, .int .i64 r, .slice A n c]
set_option maxRecDepth 100000 in
set_option maxHeartbeats 8000000 in
theorem keepers_big (L R S N u r : Int) (A : Option Addr) (c : Nat) (l : List (Int × Int)) (w : World) (hb : (decide (rightB L R S N = true) && decide (600 < (2 * L + 1) * (2 * R + 1))) = true) :
    Calls Try.prog 8 #[.agg #[.int .i64 L, .int .i64 R, .int .i64 S, .int .i64 N], .int .i64 u, .int .i64 r, .slice A l.length c] w fun e w' => e = .returned (.bool true) ∧ Below w.heap.size w w' := by
  have hu23 := Try.underlying23
  have hu62 := Try.underlying62
  have hu66 := Try.underlying66
  have hu26 := Try.underlying26
  have a10 := fun W => meridianlaw06_big.calls L R S N _ W (big_f L R S N)
  have a12 := fun W => meridianlaw06_awake.calls true W rfl
  rw [hb] at a10
  go_enter Try.func8, Try.ntmps8
  go_wp2_with (first | (go_at_call 10; refine (a10 _).mono ?_; rintro en w1 ⟨rfl, hB1⟩) | (go_at_call 12; refine (a12 _).mono ?_; rintro en w2 ⟨rfl, hB2⟩))
  go_ret
  exact ⟨rfl, (((Below.refl _ w).alloc (Nat.le_refl _) _).trans (hB1.mono (by simp))).trans (hB2.mono (by have := hB1.size; simp at this; omega))⟩
set_option maxRecDepth 100000 in
set_option maxHeartbeats 8000000 in
theorem keepers_long (L R S N u r : Int) (A : Option Addr) (c : Nat) (l : List (Int × Int)) (w : World) (hb : (decide (rightB L R S N = true) && decide (600 < (2 * L + 1) * (2 * R + 1))) = false) (hl : l.length > 40) :
    Calls Try.prog 8 #[.agg #[.int .i64 L, .int .i64 R, .int .i64 S, .int .i64 N], .int .i64 u, .int .i64 r, .slice A l.length c] w fun e w' => e = .returned (.bool true) ∧ Below w.heap.size w w' := by
  have hu23 := Try.underlying23
  have hu62 := Try.underlying62
  have hu66 := Try.underlying66
  have hu26 := Try.underlying26
  have a10 := fun W => meridianlaw06_big.calls L R S N _ W (big_f L R S N)
  have a12 := fun W => meridianlaw06_awake.calls true W rfl
  rw [hb] at a10
  have d1 : decide (40 < (l.length : Int)) = true := decide_eq_true (by omega)
  have d2 : decide (40 < l.length) = true := decide_eq_true hl
  go_enter Try.func8, Try.ntmps8
  go_wp2_with (first | (go_at_call 10; refine (a10 _).mono ?_; rintro en w1 ⟨rfl, hB1⟩) | (go_at_call 12; refine (a12 _).mono ?_; rintro en w2 ⟨rfl, hB2⟩))
  go_ret
  exact ⟨rfl, (((Below.refl _ w).alloc (Nat.le_refl _) _).trans (hB1.mono (by simp))).trans (hB2.mono (by have := hB1.size; simp at this; omega))⟩
set_option maxRecDepth 100000 in
set_option maxHeartbeats 8000000 in
theorem keepers_none (L R S N u r : Int) (A : Option Addr) (c : Nat) (l : List (Int × Int)) (w : World) (hb : (decide (rightB L R S N = true) && decide (600 < (2 * L + 1) * (2 * R + 1))) = false) (hl : l.length ≤ 40) (E : Int) (hE : E ≠ 0) (a30 : ∀ W, Calls Try.prog 30 #[.agg #[.int .i64 L, .int .i64 R, .int .i64 S, .int .i64 N], .int .i64 u, .int .i64 r] W fun e w' => e = .returned (.tuple #[.pointer none, .int .i64 E]) ∧ Below W.heap.size W w') (a31 : ∀ W, Calls Try.prog 31 #[.agg #[.int .i64 L, .int .i64 R, .int .i64 S, .int .i64 N], .int .i64 u, .int .i64 r] W fun e w' => e = .returned (.tuple #[.agg #[.int .i64 0, .int .i64 0, .int .i64 0, .int .i64 0, .int .i64 0, .int .i64 0, .slice none 0 0], .int .i64 E]) ∧ Below W.heap.size W w') :
    Calls Try.prog 8 #[.agg #[.int .i64 L, .int .i64 R, .int .i64 S, .int .i64 N], .int .i64 u, .int .i64 r, .slice A l.length c] w fun e w' => e = .returned (.bool true) ∧ Below w.heap.size w w' := by
  have hu23 := Try.underlying23
  have hu62 := Try.underlying62
  have hu66 := Try.underlying66
  have hu26 := Try.underlying26
  have a10 := fun W => meridianlaw06_big.calls L R S N _ W (big_f L R S N)
  have a12 := fun W => meridianlaw06_awake.calls true W rfl
  have hEb : (E == 0) = false := beq_eq_false_iff_ne.2 hE
  have hEn : (E != 0) = true := by simp [hEb, bne]
  rw [hb] at a10
  have d1 : decide (40 < (l.length : Int)) = false := decide_eq_false (by omega)
  have d2 : decide (40 < l.length) = false := decide_eq_false (by omega)
  go_enter Try.func8, Try.ntmps8
  go_wp2_with fail
  have k4 : (w.alloc (.cells #[.int .i64 L, .int .i64 R, .int .i64 S, .int .i64 N] 23)).heap[w.heap.size]? = some (.cells #[.int .i64 L, .int .i64 R, .int .i64 S, .int .i64 N] 23 (0, 0)) := al_new _ _ _ rfl
  have hB0 : Below w.heap.size w (w.alloc (.cells #[.int .i64 L, .int .i64 R, .int .i64 S, .int .i64 N] 23)) := (Below.refl _ w).alloc (Nat.le_refl _) _
  generalize w.alloc (.cells #[.int .i64 L, .int .i64 R, .int .i64 S, .int .i64 N] 23) = X0 at k4 hB0 ⊢
  refine (a10 _).mono ?_
  rintro en X1 ⟨rfl, hB⟩
  replace k4 := blk_on hB k4
  replace hB0 := hB0.trans (hB.mono hB0.size)
  clear hB a10
  have p0 : X1.cell? ⟨w.heap.size, 0, none⟩ = some (.int .i64 L) := blk_cell k4 0
  have p1 : X1.cell? ⟨w.heap.size, 1, none⟩ = some (.int .i64 R) := blk_cell k4 1
  have p2 : X1.cell? ⟨w.heap.size, 2, none⟩ = some (.int .i64 S) := blk_cell k4 2
  have p3 : X1.cell? ⟨w.heap.size, 3, none⟩ = some (.int .i64 N) := blk_cell k4 3
  go_wp2_with fail
  refine (a30 _).mono ?_
  rintro en X2 ⟨rfl, hB⟩
  replace hB0 := hB0.trans (hB.mono hB0.size)
  replace k4 := blk_on hB k4
  clear hB a30 p0 p1 p2 p3
  have p0 : X2.cell? ⟨w.heap.size, 0, none⟩ = some (.int .i64 L) := blk_cell k4 0
  have p1 : X2.cell? ⟨w.heap.size, 1, none⟩ = some (.int .i64 R) := blk_cell k4 1
  have p2 : X2.cell? ⟨w.heap.size, 2, none⟩ = some (.int .i64 S) := blk_cell k4 2
  have p3 : X2.cell? ⟨w.heap.size, 3, none⟩ = some (.int .i64 N) := blk_cell k4 3
  go_wp2_with fail
  refine (a31 _).mono ?_
  rintro en X3 ⟨rfl, hB⟩
  replace hB0 := hB0.trans (hB.mono hB0.size)
  clear hB a31 p0 p1 p2 p3 k4
  go_wp2_with fail
  refine (a12 _).mono ?_
  rintro en X4 ⟨rfl, hB⟩
  go_wp2
  go_ret
  exact ⟨rfl, (hB0.alloc hB0.size _).trans (hB.mono (by have := hB0.size; simp; omega))⟩
theorem rDrive_calls (L R S N u now : Int) (A : Option Addr) (c : Nat) (lg : List S59) (lo hi : Int) (base : Nat) (W : World) (ho : W.ownsRow base 84 2 (.slice A lg.length c) lg.length (entc lg)) (hb : base ≤ W.heap.size)
    (hu0 : 1 ≤ u) (hu1 : u ≤ 1000000000000) (hp : rightB L R S N = true) (ch : List Int) (hch : steer_Plan_chart.f L R S N = some ch) (hcl : ch.length = siz L R) (hfit : lg.length ≤ 1000000) :
    Calls Try.prog 33 #[.agg #[.int .i64 L, .int .i64 R, .int .i64 S, .int .i64 N, .int .i64 u, .int .i64 now, .slice A lg.length c], .agg #[.int .i64 lo, .int .i64 hi]] W fun e W' => ∃ v', e = .returned (.tuple #[.agg #[.int .i64 L, .int .i64 R, .int .i64 S, .int .i64 N, .int .i64 u, .int .i64 (driveR L R ch u now lg lo hi).1, v'], .int .i64 (driveR L R ch u now lg lo hi).2.2.1, .int .i64 (driveR L R ch u now lg lo hi).2.2.2]) ∧ W'.ownsRow base 84 2 v' (driveR L R ch u now lg lo hi).2.1.length (entc (driveR L R ch u now lg lo hi).2.1) ∧ Below W.heap.size W W' := by
  have same : ∀ W', Below W.heap.size W W' → W'.ownsRow base 84 2 (.slice A lg.length c) lg.length (entc lg) := fun W' hB => own_move ho (fun q hq => hB.block q (own_lt ho q hq))
  unfold driveR
  by_cases h1 : hi < lo ∨ lo < -1000000000000000 ∨ 1000000000000000 < hi
  · rw [if_pos h1]
    refine (rDrive_empty L R S N u now A c lg lo hi base W ho hb h1).mono ?_
    rintro e W' ⟨rfl, hB⟩
    exact ⟨_, rfl, same _ hB, hB⟩
  · rw [if_neg h1]
    by_cases h2 : 5000 ≤ lg.length
    · rw [if_pos h2]
      refine (rDrive_full L R S N u now A c lg lo hi base W ho hb (by omega) (by omega) (by omega) h2).mono ?_
      rintro e W' ⟨rfl, hB⟩
      exact ⟨_, rfl, same _ hB, hB⟩
    · rw [if_neg h2]
      by_cases h3 : isB L R (unitsF u (Int.tdiv (lo + hi) 2)) now = true
      · rw [if_pos h3]
        by_cases h4 : 1000 ≤ rd ch (ix L R (unitsF u (Int.tdiv (lo + hi) 2)) now)
        · rw [if_pos h4]
          refine (rDrive_lost L R S N u now A c lg lo hi base W ho hb (by omega) (by omega) (by omega) (by omega) hu0 hu1 hp ch hch hcl _ rfl h3 h4).mono ?_
          rintro e W' ⟨rfl, hB⟩
          exact ⟨_, rfl, same _ hB, hB⟩
        · rw [if_neg h4]
          refine (rDrive_good L R S N u now A c lg lo hi base W ho hb (by omega) (by omega) (by omega) (by omega) hu0 hu1 hp ch hch hcl _ rfl h3 (by omega) _ rfl).mono ?_
          rintro e W' ⟨v', rfl, hown, hB⟩
          exact ⟨v', rfl, by rw [show (lg ++ [(⟨unitsF u (Int.tdiv (lo + hi) 2), rd ch (ix L R (unitsF u (Int.tdiv (lo + hi) 2)) now)⟩ : S59)]).length = lg.length + 1 by simp]; exact hown, hB⟩
      · rw [if_neg h3]
        refine (rDrive_out L R S N u now A c lg lo hi base W ho hb (by omega) (by omega) (by omega) (by omega) hu0 hu1 hp ch hch hcl _ rfl (by simpa using h3)).mono ?_
        rintro e W' ⟨rfl, hB⟩
        exact ⟨_, rfl, same _ hB, hB⟩
theorem driveR_len (L R : Int) (ch : List Int) (u now : Int) (lg : List S59) (lo hi : Int) : (driveR L R ch u now lg lo hi).2.1.length ≤ lg.length + 1 := by
  unfold driveR
  repeat' split
  all_goals simp
/-- Both keepers, as they lie in the loop. -/
structure KInv (L R S N u : Int) (ch : List Int) (base : Nat) (V W : World) (kb pb : Nat) (ad : Addr) (cc b11 : Nat) (now : Int) (lg : List S59) : Prop where
  keep : KeepAt V W kb pb L R S N u now ad cc ch lg
  blk : ∃ A2 c2, W.heap[b11]? = some (.cells #[.int .i64 L, .int .i64 R, .int .i64 S, .int .i64 N, .int .i64 u, .int .i64 now, .slice A2 lg.length c2] 66 (0, 0)) ∧ W.ownsRow base 84 2 (.slice A2 lg.length c2) lg.length (entc lg)
  size : base ≤ W.heap.size
theorem KInv.below {L R S N u : Int} {ch : List Int} {base : Nat} {V W W' : World} {kb pb : Nat} {ad : Addr} {cc b11 : Nat} {now : Int} {lg : List S59} (h : KInv L R S N u ch base V W kb pb ad cc b11 now lg) (hB : Below W.heap.size W W') : KInv L R S N u ch base V W' kb pb ad cc b11 now lg := by
  obtain ⟨A2, c2, h1, h2⟩ := h.blk
  exact ⟨h.keep.below hB, ⟨A2, c2, blk_on hB h1, own_move h2 (fun q hq => hB.block q (own_lt h2 q hq))⟩, by have := hB.size; have := h.size; omega⟩
theorem own_frameK {kb : Nat} {W W' : World} {base : Nat} {size n : Nat} {v : Value} {xs : List Value} (h : W.ownsRow base 84 size v n xs) (hF : FrameK kb W W') (hk : ∀ o, W.heap[kb]? = some o → ∀ c, o ≠ .cells c 84 (0, 0)) : W'.ownsRow base 84 size v n xs := by
  refine ⟨h.1, ?_⟩
  rcases h.2 with h2 | ⟨g, cap, cur, e1, e2, e3, e4⟩
  · exact .inl h2
  · exact .inr ⟨g, cap, cur, e1, e2, hF.2 g _ e3 (fun e => by subst e; exact hk _ e3 _ rfl) (fun c e => by cases e), e4⟩
theorem set7_spec {W : World} {b : Nat} {o0 o1 o2 o3 o4 o5 o6 : Value} (k : W.heap[b]? = some (.cells #[o0, o1, o2, o3, o4, o5, o6] 66 (0, 0))) (v0 v1 v2 v3 v4 v5 v6 : Value) :
    (((((((W.setCell ⟨b, 0, none⟩ v0).setCell ⟨b, 1, none⟩ v1).setCell ⟨b, 2, none⟩ v2).setCell ⟨b, 3, none⟩ v3).setCell ⟨b, 4, none⟩ v4).setCell ⟨b, 5, none⟩ v5).setCell ⟨b, 6, none⟩ v6).heap[b]? = some (.cells #[v0, v1, v2, v3, v4, v5, v6] 66 (0, 0)) ∧
    (∀ q, q ≠ b → (((((((W.setCell ⟨b, 0, none⟩ v0).setCell ⟨b, 1, none⟩ v1).setCell ⟨b, 2, none⟩ v2).setCell ⟨b, 3, none⟩ v3).setCell ⟨b, 4, none⟩ v4).setCell ⟨b, 5, none⟩ v5).setCell ⟨b, 6, none⟩ v6).heap[q]? = W.heap[q]?) ∧
    ∀ n, n ≤ b → Below n W (((((((W.setCell ⟨b, 0, none⟩ v0).setCell ⟨b, 1, none⟩ v1).setCell ⟨b, 2, none⟩ v2).setCell ⟨b, 3, none⟩ v3).setCell ⟨b, 4, none⟩ v4).setCell ⟨b, 5, none⟩ v5).setCell ⟨b, 6, none⟩ v6) := by
  refine ⟨set7_heap k v0 v1 v2 v3 v4 v5 v6, fun q hq => ?_, fun n hn => ?_⟩
  · rw [Below.heap_setCell _ _ _ q hq, Below.heap_setCell _ _ _ q hq, Below.heap_setCell _ _ _ q hq, Below.heap_setCell _ _ _ q hq, Below.heap_setCell _ _ _ q hq, Below.heap_setCell _ _ _ q hq, Below.heap_setCell _ _ _ q hq]
  · exact (((((((Below.refl n W).setCell hn _).setCell hn _).setCell hn _).setCell hn _).setCell hn _).setCell hn _).setCell hn _
/-- A row is not the block of a keeper. -/
theorem own_put {W X : World} {base b size n : Nat} {v : Value} {xs : List Value} {cs : Array Value} (h : W.ownsRow base 84 size v n xs) (k : W.heap[b]? = some (.cells cs 66 (0, 0))) (hX : ∀ q, q ≠ b → X.heap[q]? = W.heap[q]?) : X.ownsRow base 84 size v n xs := by
  refine ⟨h.1, ?_⟩
  rcases h.2 with h2 | ⟨g, cap, cur, e1, e2, e3, e4⟩
  · exact .inl h2
  · exact .inr ⟨g, cap, cur, e1, e2, (hX g (fun e => by subst e; rw [k] at e3; cases e3)).trans e3, e4⟩
theorem keep_put {V W X : World} {kb pb : Nat} {L R S N u now : Int} {ad : Addr} {cc : Nat} {ch : List Int} {lg : List S59} {b : Nat} {cs cs' : Array Value} (h : KeepAt V W kb pb L R S N u now ad cc ch lg) (k : W.heap[b]? = some (.cells cs 66 (0, 0))) (y1 : X.heap[b]? = some (.cells cs' 66 (0, 0)))
    (y2 : ∀ q, q ≠ b → X.heap[q]? = W.heap[q]?) (y3 : ∀ n, n ≤ b → Below n W X) (hne : kb ≠ b) (hV : V.heap.size ≤ b) : KeepAt V X kb pb L R S N u now ad cc ch lg := by
  obtain ⟨⟨h1, h2, h3, h4⟩, vl, h5, h6⟩ := h
  refine ⟨⟨h1, h2, h3, h4.trans (y3 _ hV)⟩, vl, (y2 kb hne).trans h5, h6.1, ?_⟩
  rcases h6.2 with h7 | ⟨g, cap, cur, e1, e2, e3, e4⟩
  · exact .inl h7
  · exact .inr ⟨g, cap, cur, e1, e2, (y2 g (fun e => by subst e; rw [k] at e3; cases e3)).trans e3, e4⟩
theorem R_ent84 {X : World} {base : Nat} {v : Value} {l : List S59} (h : X.ownsRow base 84 2 v l.length (entc l)) : Kd.R k84 84 X base (fun _ => True) v (l.map cv) := by
  refine ⟨fun _ _ => trivial, entc l, by rw [List.length_map]; exact h, by rw [List.length_map]; exact entc_len l, fun j x hx => ?_⟩
  rw [List.getElem?_map] at hx
  obtain ⟨y, hy, rfl⟩ := Option.map_eq_some_iff.1 hx
  rw [show j * k84.sz = j * 2 from rfl, show k84.sz = 2 from rfl, entc_at l j y hy]
  exact k84_mkM _ _ _ (cv y)
set_option maxRecDepth 100000 in
set_option maxHeartbeats 8000000 in
theorem keepers_good (L R S N u r : Int) (A : Option Addr) (c : Nat) (l : List (Int × Int)) (w : World) (hb : (decide (rightB L R S N = true) && decide (600 < (2 * L + 1) * (2 * R + 1))) = false) (hl : l.length ≤ 40) (hp : rightB L R S N = true) (hu : 1 ≤ u ∧ u ≤ 1000000000000) (hr : -R ≤ r ∧ r ≤ R) (ch : List Int) (hch : steer_Plan_chart.f L R S N = some ch) (hcl : ch.length = siz L R) (hsafe : safeAny L R r ch (List.range (siz L R)) = true) (hC : Kd.C kl w A l.length l) :
    Calls Try.prog 8 #[.agg #[.int .i64 L, .int .i64 R, .int .i64 S, .int .i64 N], .int .i64 u, .int .i64 r, .slice A l.length c] w fun e w' => e = .returned (.bool true) ∧ Below w.heap.size w w' := by
  have hu23 := Try.underlying23
  have hu62 := Try.underlying62
  have hu66 := Try.underlying66
  have hu26 := Try.underlying26
  have a10 := fun W => meridianlaw06_big.calls L R S N _ W (big_f L R S N)
  have a12 := fun W => meridianlaw06_awake.calls true W rfl
  have hu71 := Try.underlying71
  have a30 := fun W => newKeeper_main L R S N u r ch W hp hu hr hch hcl
  have a31 := fun W => rNewKeeper_main L R S N u r ch W hp hch hcl
  have hq := rightB_iff.1 hp
  have href := (safe_ref hq.1 hq.2.2.1 hr).1 hsafe
  simp only [if_pos (And.intro hu hr)] at a31
  rw [hb] at a10
  have d1 : decide (40 < (l.length : Int)) = false := decide_eq_false (by omega)
  have d2 : decide (40 < l.length) = false := decide_eq_false (by omega)
  go_enter Try.func8, Try.ntmps8
  go_wp2_with fail
  have k4 : (w.alloc (.cells #[.int .i64 L, .int .i64 R, .int .i64 S, .int .i64 N] 23)).heap[w.heap.size]? = some (.cells #[.int .i64 L, .int .i64 R, .int .i64 S, .int .i64 N] 23 (0, 0)) := al_new _ _ _ rfl
  have hB0 : Below w.heap.size w (w.alloc (.cells #[.int .i64 L, .int .i64 R, .int .i64 S, .int .i64 N] 23)) := (Below.refl _ w).alloc (Nat.le_refl _) _
  generalize w.alloc (.cells #[.int .i64 L, .int .i64 R, .int .i64 S, .int .i64 N] 23) = X0 at k4 hB0 ⊢
  refine (a10 _).mono ?_
  rintro en X1 ⟨rfl, hB⟩
  replace k4 := blk_on hB k4
  replace hB0 := hB0.trans (hB.mono hB0.size)
  clear hB a10
  have p0 : X1.cell? ⟨w.heap.size, 0, none⟩ = some (.int .i64 L) := blk_cell k4 0
  have p1 : X1.cell? ⟨w.heap.size, 1, none⟩ = some (.int .i64 R) := blk_cell k4 1
  have p2 : X1.cell? ⟨w.heap.size, 2, none⟩ = some (.int .i64 S) := blk_cell k4 2
  have p3 : X1.cell? ⟨w.heap.size, 3, none⟩ = some (.int .i64 N) := blk_cell k4 3
  have HC := Aside0.mk hC
  have HPP := Aside0.mk (And.intro hp (And.intro hch (And.intro hcl (And.intro hu hr))))
  have HSF := Aside0.mk (And.intro hsafe href)
  clear hC hp hch hcl hu hr hsafe href hq
  go_wp2_with fail
  refine (a30 _).mono ?_
  rintro en X2 ⟨hB, ⟨hno, -⟩ | ⟨-, kb, pb, ad, cc, V, rfl, ⟨⟨hv1, hv2⟩, hv3, hv4, hv5⟩, hv6⟩⟩
  · rw [HSF.out.1] at hno; cases hno
  have hBV : Below w.heap.size w V := by
    have h1 := hB0.trans (hB.mono hB0.size)
    have h2 := hB0.size
    exact ⟨hv5.os.symm.trans h1.os, hv5.tape.symm.trans h1.tape, hv5.output.symm.trans h1.output, by omega, fun k hk => (hv5.block k (by omega)).symm.trans (h1.block k hk)⟩
  replace hB0 := hB0.trans (hB.mono hB0.size)
  replace k4 := blk_on hB k4
  clear hB a30 p0 p1 p2 p3
  have p0 : X2.cell? ⟨w.heap.size, 0, none⟩ = some (.int .i64 L) := blk_cell k4 0
  have p1 : X2.cell? ⟨w.heap.size, 1, none⟩ = some (.int .i64 R) := blk_cell k4 1
  have p2 : X2.cell? ⟨w.heap.size, 2, none⟩ = some (.int .i64 S) := blk_cell k4 2
  have p3 : X2.cell? ⟨w.heap.size, 3, none⟩ = some (.int .i64 N) := blk_cell k4 3
  have hkeep : KeepAt V X2 kb pb L R S N u r ad cc ch [] := ⟨⟨hv2, hv3, hv4, hv5⟩, _, hv6, ⟨rfl, .inl ⟨rfl, rfl⟩⟩⟩
  have hkl := (Array.getElem?_eq_some_iff.1 hv6).1
  clear hv1 hv2 hv3 hv4 hv5 hv6
  have HK := Aside0.mk hkeep
  have HBV := Aside0.mk hBV
  clear hkeep hBV
  go_wp2_with fail
  refine (a31 _).mono ?_
  rintro en X3 ⟨hB, h31, -⟩
  obtain rfl := h31 HSF.out.2
  have hK3 := HK.out.below hB
  have hs3 := hB.size
  replace hB0 := hB0.trans (hB.mono hB0.size)
  clear hB a31 h31 p0 p1 p2 p3 k4 HK
  have HI : Aside0 (KInv L R S N u ch w.heap.size V (X3.alloc (.cells #[.int .i64 L, .int .i64 R, .int .i64 S, .int .i64 N, .int .i64 u, .int .i64 r, .slice none 0 0] 66)) kb pb ad cc X3.heap.size r []) := ⟨⟨hK3.below ((Below.refl _ X3).alloc (Nat.le_refl _) _), ⟨none, 0, al_new _ _ _ rfl, ⟨rfl, .inl ⟨rfl, rfl⟩⟩⟩, by have := hB0.size; simp; omega⟩⟩
  have hkb : kb < X3.heap.size := by omega
  have HB4 := Aside0.mk (hB0.alloc hB0.size (.cells #[.int .i64 L, .int .i64 R, .int .i64 S, .int .i64 N, .int .i64 u, .int .i64 r, .slice none 0 0] 66))
  have HB0 := Aside0.mk hB0
  clear hK3 hs3 hB0
  go_upto_region 9 with fail
  generalize X3.alloc (.cells #[.int .i64 L, .int .i64 R, .int .i64 S, .int .i64 N, .int .i64 u, .int .i64 r, .slice none 0 0] 66) = X4 at HI HB4 ⊢
  generalize X3.heap.size = b11 at HI hkb ⊢
  clear HB0
  go_wp2_with fail
  go_loopw [13] (fun v wr => ∃ (i : Nat) (now : Int) (lg : List S59), i ≤ l.length ∧ v = .int .i64 i ∧ Aside0 (KInv L R S N u ch w.heap.size V wr kb pb ad cc b11 now lg ∧ lg.length ≤ i)) (fun v _ => l.length - (intOf v).toNat)
  case atStart => exact ⟨0, r, [], Nat.zero_le _, rfl, ⟨HI.out, Nat.zero_le _⟩⟩
  case round =>
    obtain ⟨i, now, lg, hi, rfl, HJ⟩ := hrel
    clear HI
    have hbw : Below w.heap.size w wr := HBV.out.trans (HJ.out.1.keep.1.2.2.2.mono HBV.out.size)
    by_cases h : i < l.length
    · obtain ⟨al, rfl, s0, s1⟩ := C_leap (Kd.C_below HC.out hbw) i h h
      obtain ⟨lo, hlo⟩ : ∃ x, (l[i]'h).1 = x := ⟨_, rfl⟩
      obtain ⟨hh, hhi⟩ : ∃ x, (l[i]'h).2 = x := ⟨_, rfl⟩
      rw [hlo] at s0
      rw [hhi] at s1
      have hks : (0 : Int) ≤ (i : Int) ∧ (i : Int) < l.length := ⟨by omega, by omega⟩
      have c32 := drive_calls V wr kb pb u now ad cc ch lg lo hh HJ.out.1.keep HPP.out.2.2.2.1.1 HPP.out.2.2.2.1.2 HPP.out.1 HPP.out.2.2.1
      have hfl := driveR_len L R ch u now lg lo hh
      obtain ⟨D, hD⟩ : ∃ D, driveR L R ch u now lg lo hh = D := ⟨_, rfl⟩
      have c33 := fun A c2 W ho hb => rDrive_calls L R S N u now A c2 lg lo hh w.heap.size W ho hb HPP.out.2.2.2.1.1 HPP.out.2.2.2.1.2 HPP.out.1 ch HPP.out.2.1 HPP.out.2.2.1 (by have := HJ.out.2; omega)
      rw [hD] at c32 hfl c33
      obtain ⟨n2, lg2, q, er⟩ := D
      simp only at c32 hfl c33
      obtain ⟨A2, c2, hb11, hown⟩ := HJ.out.1.blk
      clear hD
      go_wp2_with fail
      refine c32.mono ?_
      rintro en Y1 ⟨rfl, hK2, hF⟩
      have hb11' : Y1.heap[b11]? = _ := hF.2 b11 _ hb11 (by omega) (fun c e => by cases e)
      have hown' : Y1.ownsRow w.heap.size 84 2 (.slice A2 lg.length c2) lg.length (entc lg) := own_frameK hown hF (fun o ho cx e => by obtain ⟨_, _, h5, _⟩ := HJ.out.1.keep; rw [h5] at ho; cases ho; cases e)
      have hbw1 : Below w.heap.size w Y1 := HBV.out.trans (hK2.1.2.2.2.mono HBV.out.size)
      have hC1 := Kd.C_below HC.out hbw1
      obtain ⟨al', he, s0', s1'⟩ := C_leap hC1 i h h
      obtain rfl : al = al' := Option.some.inj he
      rw [hlo] at s0'
      rw [hhi] at s1'
      have hsz1 := hF.1
      have hsw := HJ.out.1.size
      have HK2 := Aside0.mk hK2
      have HF := Aside0.mk hF
      clear hF hK2 c32 s0 s1 he hbw hb11 hown hC1
      have HB11 := Aside0.mk hb11'
      have hb11l := (Array.getElem?_eq_some_iff.1 hb11').1
      have r0 := blk_cell hb11' 0
      have r1 := blk_cell hb11' 1
      have r2 := blk_cell hb11' 2
      have r3 := blk_cell hb11' 3
      have r4 := blk_cell hb11' 4
      have r5 := blk_cell hb11' 5
      have r6 := blk_cell hb11' 6
      have hS : ∀ w', Below Y1.heap.size Y1 w' → (w'.cell? ⟨b11, 0, none⟩ = some (.int .i64 L) ∧ w'.cell? ⟨b11, 1, none⟩ = some (.int .i64 R) ∧ w'.cell? ⟨b11, 2, none⟩ = some (.int .i64 S) ∧ w'.cell? ⟨b11, 3, none⟩ = some (.int .i64 N) ∧ w'.cell? ⟨b11, 4, none⟩ = some (.int .i64 u) ∧ w'.cell? ⟨b11, 5, none⟩ = some (.int .i64 now) ∧ w'.cell? ⟨b11, 6, none⟩ = some (.slice A2 lg.length c2) ∧ w'.cell? (al.add (i * 2)) = some (.int .i64 lo) ∧ w'.cell? ⟨(al.add (i * 2)).block, (al.add (i * 2)).off + 1, none⟩ = some (.int .i64 hh)) ∧ Below Y1.heap.size Y1 w' := fun w' hB => ⟨⟨cell_on hB r0, cell_on hB r1, cell_on hB r2, cell_on hB r3, cell_on hB r4, cell_on hB r5, cell_on hB r6, cell_on hB s0', cell_on hB s1'⟩, hB⟩
      have c33' := fun W (hB : Below Y1.heap.size Y1 W) => c33 A2 c2 W (own_move hown' (fun q hq => hB.block q (own_lt hown' q hq))) (by have := hB.size; omega)
      have HOWN := Aside0.mk hown'
      have HBW1 := Aside0.mk hbw1
      have HFL := Aside0.mk hfl
      clear c33 hown' hbw1 hfl
      go_wp2_with fail
      go_region_held3 (fun w' => (w'.cell? ⟨b11, 0, none⟩ = some (.int .i64 L) ∧ w'.cell? ⟨b11, 1, none⟩ = some (.int .i64 R) ∧ w'.cell? ⟨b11, 2, none⟩ = some (.int .i64 S) ∧ w'.cell? ⟨b11, 3, none⟩ = some (.int .i64 N) ∧ w'.cell? ⟨b11, 4, none⟩ = some (.int .i64 u) ∧ w'.cell? ⟨b11, 5, none⟩ = some (.int .i64 now) ∧ w'.cell? ⟨b11, 6, none⟩ = some (.slice A2 lg.length c2) ∧ w'.cell? (al.add (i * 2)) = some (.int .i64 lo) ∧ w'.cell? ⟨(al.add (i * 2)).block, (al.add (i * 2)).off + 1, none⟩ = some (.int .i64 hh)) ∧ Below Y1.heap.size Y1 w')
        (first | with_reducible assumption | (refine hS _ ?_; repeat (first | with_reducible assumption | with_reducible refine Below.setCell ?_ (by (first | exact Nat.le_refl _ | (have := hBc.size; first | (simp; done) | (simp; omega)) | (simp; done))) _ | with_reducible refine Below.alloc ?_ (by (first | exact Nat.le_refl _ | (have := hBc.size; first | (simp; done) | (simp; omega)) | (simp; done))) _ | with_reducible refine Below.drew ?_ | with_reducible exact Below.refl _ _)))
        (first | (go_at_call 33; (have hh9 := ‹(_ ∧ _ ∧ _ ∧ _ ∧ _ ∧ _ ∧ _ ∧ _ ∧ _) ∧ Below Y1.heap.size Y1 _›; refine (c33' _ hh9.2).mono ?_; rintro e w' ⟨v2, rfl, hO2, hB⟩; have hBc := hh9.2.trans (hB.mono hh9.2.size); clear hh9; obtain ⟨A3, c3, rfl⟩ := own_form1 hO2; (try (have k9a := hB.block Y1.heap.size (by simp; done); have k9b := k9a.trans (al_new Y1 (.cells #[.int .i64 0, .int .i64 0, .int .i64 0, .int .i64 0, .int .i64 0, .int .i64 0, .slice none 0 0] 66) Y1.heap.size rfl); clear k9a; have k90 := blk_cell k9b 0; have k9f0 := blk_fr k9b 0; have k91 := blk_cell k9b 1; have k9f1 := blk_fr k9b 1; have k92 := blk_cell k9b 2; have k9f2 := blk_fr k9b 2; have k93 := blk_cell k9b 3; have k9f3 := blk_fr k9b 3; have k94 := blk_cell k9b 4; have k9f4 := blk_fr k9b 4; have k95 := blk_cell k9b 5; have k9f5 := blk_fr k9b 5; have k96 := blk_cell k9b 6; have k9f6 := blk_fr k9b 6; have k9l := (Array.getElem?_eq_some_iff.1 k9b).1)))))
      · obtain ⟨X, hX⟩ : ∃ X, w'.alloc (.cells #[.int .i64 L, .int .i64 R, .int .i64 S, .int .i64 N, .int .i64 u, .int .i64 n2, .slice A3 lg2.length c3] 66) = X := ⟨_, rfl⟩
        have kx : X.heap[w'.heap.size]? = some (.cells #[.int .i64 L, .int .i64 R, .int .i64 S, .int .i64 N, .int .i64 u, .int .i64 n2, .slice A3 lg2.length c3] 66 (0, 0)) := by rw [← hX]; exact al_new _ _ _ rfl
        have hBX : Below Y1.heap.size Y1 X := by rw [← hX]; exact hBc.alloc hBc.size _
        have ox : X.ownsRow w.heap.size 84 2 (.slice A3 lg2.length c3) lg2.length (entc lg2) := by rw [← hX]; exact own_move hO2 (fun q hq => Below.heap_alloc _ _ q (own_lt hO2 q hq))
        have hb16 : Y1.heap.size ≤ w'.heap.size := hBc.size
        rw [hX]
        generalize w'.heap.size = b16 at kx hb16 ⊢
        clear hX hBc hB hO2
        have hk11 := blk_on hBX hb11'
        have hKX := HK2.out.below hBX
        have hne : b16 ≠ b11 := by omega
        obtain ⟨y1, y2, y3⟩ := set7_spec hk11 (.int .i64 L) (.int .i64 R) (.int .i64 S) (.int .i64 N) (.int .i64 u) (.int .i64 n2) (.slice A3 lg2.length c3)
        have KX := Aside0.mk kx
        have OX := Aside0.mk ox
        have HKX := Aside0.mk hKX
        have HBX := Aside0.mk hBX
        have HB16 := Aside0.mk hb16
        have Y123 := Aside0.mk (And.intro y1 (And.intro y2 y3))
        clear r0 r1 r2 r3 r4 r5 r6 hb11' s0' s1' y1 y2 y3 ox hKX hBX
        have m0 := blk_cell kx 0
        have m1 := blk_cell kx 1
        have m2 := blk_cell kx 2
        have m3 := blk_cell kx 3
        have m4 := blk_cell kx 4
        have m5 := blk_cell kx 5
        have m6 := blk_cell kx 6
        have n0_ := blk_cell hk11 0
        have g0_ := blk_fr hk11 0
        have n1_ := blk_cell hk11 1
        have g1_ := blk_fr hk11 1
        have n2_ := blk_cell hk11 2
        have g2_ := blk_fr hk11 2
        have n3_ := blk_cell hk11 3
        have g3_ := blk_fr hk11 3
        have n4_ := blk_cell hk11 4
        have g4_ := blk_fr hk11 4
        have n5_ := blk_cell hk11 5
        have g5_ := blk_fr hk11 5
        have n6_ := blk_cell hk11 6
        have g6_ := blk_fr hk11 6
        clear kx hk11
        go_upto_region 11 with fail
        obtain ⟨y1, y2, y3⟩ := Y123.out
        generalize (((((((X.setCell ⟨b11, 0, none⟩ (.int .i64 L)).setCell ⟨b11, 1, none⟩ (.int .i64 R)).setCell ⟨b11, 2, none⟩ (.int .i64 S)).setCell ⟨b11, 3, none⟩ (.int .i64 N)).setCell ⟨b11, 4, none⟩ (.int .i64 u)).setCell ⟨b11, 5, none⟩ (.int .i64 n2)).setCell ⟨b11, 6, none⟩ (.slice A3 lg2.length c3)) = X9 at y1 y2 y3 ⊢
        have hI9 : KInv L R S N u ch w.heap.size V X9 kb pb ad cc b11 n2 lg2 := ⟨keep_put HKX.out (blk_on HBX.out HB11.out) y1 y2 y3 (by omega) (by have := HK2.out.1.1; omega), ⟨A3, c3, y1, own_put OX.out (blk_on HBX.out HB11.out) y2⟩, by have := (y3 0 (Nat.zero_le _)).size; have := HBX.out.size; omega⟩
        have HI9 := Aside0.mk hI9
        clear y1 y2 y3 hI9 m0 n0_ g0_ m1 n1_ g1_ m2 n2_ g2_ m3 n3_ g3_ m4 n4_ g4_ m5 n5_ g5_ m6 n6_ g6_
        go_wp2
        go_roundw
        case rel => exact ⟨i + 1, n2, lg2, by omega, by go_num, ⟨HI9.out, by have := HFL.out; have := HJ.out.2; omega⟩⟩
        case measure => simp [intOf]; omega
      · obtain ⟨X, hX⟩ : ∃ X, (((((((w'.setCell ⟨Y1.heap.size, 0, none⟩ (.int .i64 L)).setCell ⟨Y1.heap.size, 1, none⟩ (.int .i64 R)).setCell ⟨Y1.heap.size, 2, none⟩ (.int .i64 S)).setCell ⟨Y1.heap.size, 3, none⟩ (.int .i64 N)).setCell ⟨Y1.heap.size, 4, none⟩ (.int .i64 u)).setCell ⟨Y1.heap.size, 5, none⟩ (.int .i64 n2)).setCell ⟨Y1.heap.size, 6, none⟩ (.slice A3 lg2.length c3)) = X := ⟨_, rfl⟩
        have kx : X.heap[Y1.heap.size]? = some (.cells #[.int .i64 L, .int .i64 R, .int .i64 S, .int .i64 N, .int .i64 u, .int .i64 n2, .slice A3 lg2.length c3] 66 (0, 0)) := by rw [← hX]; exact set7_heap k9b (.int .i64 L) (.int .i64 R) (.int .i64 S) (.int .i64 N) (.int .i64 u) (.int .i64 n2) (.slice A3 lg2.length c3)
        have hBX : Below Y1.heap.size Y1 X := by rw [← hX]; exact ((((((hBc.setCell (by simp) _).setCell (by simp) _).setCell (by simp) _).setCell (by simp) _).setCell (by simp) _).setCell (by simp) _).setCell (by simp) _
        have ox : X.ownsRow w.heap.size 84 2 (.slice A3 lg2.length c3) lg2.length (entc lg2) := by rw [← hX]; exact own_put hO2 k9b (set7_spec k9b (.int .i64 L) (.int .i64 R) (.int .i64 S) (.int .i64 N) (.int .i64 u) (.int .i64 n2) (.slice A3 lg2.length c3)).2.1
        have hb16 : Y1.heap.size ≤ Y1.heap.size := Nat.le_refl _
        rw [hX]
        obtain ⟨b16, hbe⟩ : ∃ b, Y1.heap.size = b := ⟨_, rfl⟩
        rw [hbe] at kx
        rw [hbe]
        replace hb16 : Y1.heap.size ≤ b16 := by omega
        clear hX hBc hB hO2 k9b k9l k90 k9f0 k91 k9f1 k92 k9f2 k93 k9f3 k94 k9f4 k95 k9f5 k96 k9f6
        have hk11 := blk_on hBX hb11'
        have hKX := HK2.out.below hBX
        have hne : b16 ≠ b11 := by omega
        obtain ⟨y1, y2, y3⟩ := set7_spec hk11 (.int .i64 L) (.int .i64 R) (.int .i64 S) (.int .i64 N) (.int .i64 u) (.int .i64 n2) (.slice A3 lg2.length c3)
        have KX := Aside0.mk kx
        have OX := Aside0.mk ox
        have HKX := Aside0.mk hKX
        have HBX := Aside0.mk hBX
        have HB16 := Aside0.mk hb16
        have Y123 := Aside0.mk (And.intro y1 (And.intro y2 y3))
        clear r0 r1 r2 r3 r4 r5 r6 hb11' s0' s1' y1 y2 y3 ox hKX hBX
        have m0 := blk_cell kx 0
        have m1 := blk_cell kx 1
        have m2 := blk_cell kx 2
        have m3 := blk_cell kx 3
        have m4 := blk_cell kx 4
        have m5 := blk_cell kx 5
        have m6 := blk_cell kx 6
        have n0_ := blk_cell hk11 0
        have g0_ := blk_fr hk11 0
        have n1_ := blk_cell hk11 1
        have g1_ := blk_fr hk11 1
        have n2_ := blk_cell hk11 2
        have g2_ := blk_fr hk11 2
        have n3_ := blk_cell hk11 3
        have g3_ := blk_fr hk11 3
        have n4_ := blk_cell hk11 4
        have g4_ := blk_fr hk11 4
        have n5_ := blk_cell hk11 5
        have g5_ := blk_fr hk11 5
        have n6_ := blk_cell hk11 6
        have g6_ := blk_fr hk11 6
        clear kx hk11
        go_upto_region 11 with fail
        obtain ⟨y1, y2, y3⟩ := Y123.out
        generalize (((((((X.setCell ⟨b11, 0, none⟩ (.int .i64 L)).setCell ⟨b11, 1, none⟩ (.int .i64 R)).setCell ⟨b11, 2, none⟩ (.int .i64 S)).setCell ⟨b11, 3, none⟩ (.int .i64 N)).setCell ⟨b11, 4, none⟩ (.int .i64 u)).setCell ⟨b11, 5, none⟩ (.int .i64 n2)).setCell ⟨b11, 6, none⟩ (.slice A3 lg2.length c3)) = X9 at y1 y2 y3 ⊢
        have hI9 : KInv L R S N u ch w.heap.size V X9 kb pb ad cc b11 n2 lg2 := ⟨keep_put HKX.out (blk_on HBX.out HB11.out) y1 y2 y3 (by omega) (by have := HK2.out.1.1; omega), ⟨A3, c3, y1, own_put OX.out (blk_on HBX.out HB11.out) y2⟩, by have := (y3 0 (Nat.zero_le _)).size; have := HBX.out.size; omega⟩
        have HI9 := Aside0.mk hI9
        clear y1 y2 y3 hI9 m0 n0_ g0_ m1 n1_ g1_ m2 n2_ g2_ m3 n3_ g3_ m4 n4_ g4_ m5 n5_ g5_ m6 n6_ g6_
        go_wp2
        go_roundw
        case rel => exact ⟨i + 1, n2, lg2, by omega, by go_num, ⟨HI9.out, by have := HFL.out; have := HJ.out.2; omega⟩⟩
        case measure => simp [intOf]; omega
    · rename World => wo
      have hlg : lg.length ≤ 40 := by have := HJ.out.2; omega
      have HBW := Aside0.mk hbw
      have hlog := fun W hB => log_calls V W kb pb L R S N u now ad cc ch lg (HJ.out.1.keep.below hB) (by omega)
      obtain ⟨A2, c2, hb11, hown⟩ := HJ.out.1.blk
      have hi1 : decide ((i : Int) < l.length) = false := decide_eq_false (by omega)
      go_wp2_with fail
      refine (hlog _ (Below.refl _ _)).mono ?_
      rintro en Y1 ⟨v1, rfl, hO1, hB1⟩
      obtain ⟨Al, cl, rfl⟩ := own_form1 hO1
      have hb11a := blk_on hB1 hb11
      have r6 := blk_cell hb11a 6
      have hown1 : Y1.ownsRow w.heap.size 84 2 (.slice A2 lg.length c2) lg.length (entc lg) := own_move hown (fun q hq => hB1.block q (own_lt hown q hq))
      have hR59_a := Kd.R_reads' (R_entc hO1)
      have hR84_a := Kd.R_reads' (R_ent84 hown1)
      have c27_a := meridianlaw06_entries.calls (lg.length + 1) Al cl lg A2 c2 (lg.map cv) true Y1 hR59_a.2.2 hR59_a.2.1 hR84_a.2.2 (by have := hR84_a.2.1; rw [List.length_map] at *; exact this) (entries_f lg (by omega) _ (by omega))
      rw [List.length_map] at c27_a
      have HB1 := Aside0.mk hB1
      have HO1 := Aside0.mk hO1
      have HOWN := Aside0.mk hown
      have HB11 := Aside0.mk hb11
      have HLOG := Aside0.mk hlog
      clear hB1 hO1 hown hown1 hb11a hb11 hR59_a hR84_a hlog
      go_wp2_with fail
      refine c27_a.mono ?_
      rintro en Y2 ⟨rfl, hD2⟩
      have hB2 := hD2.below
      have hz0 : Below wo.heap.size wo Y2 := HB1.out.trans (hB2.mono HB1.out.size)
      have hown2 : Y2.ownsRow wo.heap.size 59 2 (.slice Al lg.length cl) lg.length (entc lg) := own_move HO1.out (fun q hq => hB2.block q (own_lt HO1.out q hq))
      have HZ : Aside0 (Below wo.heap.size wo Y2 ∧ ∀ g, Al = some ⟨g, 0, none⟩ → ∃ cs : Array Value, Y2.heap[g]? = some (.cells cs 59 (0, 0)) ∧ lg.length * 2 ≤ cs.size) := ⟨hz0, fun g hg => by
        rcases hown2.2 with ⟨e1, _⟩ | ⟨g', cap, cur, e1, _, e3, e4, _, e5, _⟩
        · rw [hg] at e1; cases e1
        · rw [hg] at e1; cases e1; exact ⟨cur, e3, by omega⟩⟩
      have hform : lg.length = 0 ∨ ∃ g, Al = some ⟨g, 0, none⟩ ∧ wo.heap.size ≤ g ∧ lg.length ≤ cl := by
        rcases hown2.2 with ⟨e1, e2⟩ | ⟨g', cap, cur, e1, e2, e3, e4, _, e5, _⟩
        · exact .inl e2
        · cases e1; exact .inr ⟨g', rfl, e2, e4⟩
      have HFO := Aside0.mk hform
      clear hD2 hB2 hz0 hown2 hform c27_a r6
      go_wp2_with fail
      go_loopw [20] (fun v Z => ∃ j : Nat, j ≤ lg.length ∧ v = .int .i64 j ∧ Aside0 (Below wo.heap.size wo Z ∧ ∀ g, Al = some ⟨g, 0, none⟩ → ∃ cs : Array Value, Z.heap[g]? = some (.cells cs 59 (0, 0)) ∧ lg.length * 2 ≤ cs.size)) (fun v _ => lg.length - (intOf v).toNat)
      case atStart => exact ⟨0, Nat.zero_le _, rfl, HZ⟩
      case round =>
        obtain ⟨j, hj, rfl, HJ2⟩ := hrel
        rename World => Z
        clear HZ
        by_cases h5 : j < lg.length
        · obtain ⟨g, rfl, hg1, hg2⟩ := HFO.out.resolve_left (by omega)
          obtain ⟨cs, hg3, hg4⟩ := HJ2.out.2 g rfl
          obtain ⟨old, hold⟩ : ∃ x, cs[j * 2]? = some x := ⟨cs[j * 2]'(by omega), Array.getElem?_eq_getElem (by omega)⟩
          have s5 : Z.cell? ⟨g, j * 2, none⟩ = some old := by simp [World.cell?, hg3, hold]
          have s5f := blk_fr hg3 (j * 2)
          have hjs : (0 : Int) ≤ (j : Int) ∧ (j : Int) < lg.length := ⟨by omega, by omega⟩
          go_wp2
          go_roundw
          case rel => exact ⟨j + 1, by omega, by go_num, ⟨HJ2.out.1.setCell hg1 _, fun g' e => by cases e; exact ⟨_, blk_put hg3 (j * 2) _, by simp; omega⟩⟩⟩
          case measure => simp [intOf]; omega
        · have hbz := HJ2.out.1
          have r6 := blk_cell (blk_on hbz HB11.out) 6
          have hl2 := HLOG.out Z hbz
          have hj1 : decide ((j : Int) < lg.length) = false := decide_eq_false (by omega)
          go_wp2_with fail
          refine hl2.mono ?_
          rintro en Z1 ⟨v3, rfl, hO3, hB3⟩
          obtain ⟨A4, c4, rfl⟩ := own_form1 hO3
          replace r6 := cell_on hB3 r6
          have hown3 : Z1.ownsRow w.heap.size 84 2 (.slice A2 lg.length c2) lg.length (entc lg) := own_move HOWN.out (fun q hq => (hB3.block q (by have := own_lt HOWN.out q hq; have := hbz.size; omega)).trans (hbz.block q (own_lt HOWN.out q hq)))
          have hR59_b := Kd.R_reads' (R_entc hO3)
          have hR84_b := Kd.R_reads' (R_ent84 hown3)
          have c27_b := meridianlaw06_entries.calls (lg.length + 1) A4 c4 lg A2 c2 (lg.map cv) true Z1 hR59_b.2.2 hR59_b.2.1 hR84_b.2.2 (by have := hR84_b.2.1; rw [List.length_map] at *; exact this) (entries_f lg (by omega) _ (by omega))
          rw [List.length_map] at c27_b
          have hbw9 : Below w.heap.size w Z1 := (HBW.out.trans (hbz.mono HBW.out.size)).trans (hB3.mono (by have := HBW.out.size; have := hbz.size; omega))
          have HB9 := Aside0.mk hbw9
          clear hO3 hown3 hR59_b hR84_b hbz hbw9 hB3
          go_wp2_with fail
          refine c27_b.mono ?_
          rintro en Z2 ⟨rfl, hD3⟩
          have hB4 := hD3.below
          have HB10 := Aside0.mk (HB9.out.trans (hB4.mono HB9.out.size))
          clear hD3 hB4 c27_b r6
          go_wp2_with fail
          refine (a12 _).mono ?_
          rintro en Z3 ⟨rfl, hB5⟩
          have HB11_ := Aside0.mk (HB10.out.trans (hB5.mono HB10.out.size))
          clear hB5
          go_wp2
          go_ret
          exact ⟨rfl, HB11_.out⟩
theorem steerKeepers_w.calls (L R S N u r : Int) (A : Option Addr) (c : Nat) (l : List (Int × Int)) (w : World) (hC : Kd.C kl w A l.length l) :
    Calls Try.prog 8 #[.agg #[.int .i64 L, .int .i64 R, .int .i64 S, .int .i64 N], .int .i64 u, .int .i64 r, .slice A l.length c] w fun e w' => e = .returned (.bool true) ∧ Below w.heap.size w w' := by
  cases hb : (decide (rightB L R S N = true) && decide (600 < (2 * L + 1) * (2 * R + 1))) with
  | true => exact keepers_big L R S N u r A c l w hb
  | false =>
    by_cases hl : l.length > 40
    · exact keepers_long L R S N u r A c l w hb hl
    · cases hp : rightB L R S N with
      | false => exact keepers_none L R S N u r A c l w hb (by omega) 60 (by decide) (fun W => newKeeper_bad L R S N u r W hp) (fun W => rNewKeeper_bad L R S N u r W hp)
      | true =>
        obtain ⟨ch, hch⟩ := chart_some hp
        have hcl : ch.length = siz L R := by obtain ⟨m, _, hs, _⟩ := chart_best hch; exact hs.1
        by_cases hu : 1 ≤ u ∧ u ≤ 1000000000000
        · by_cases hr : -R ≤ r ∧ r ≤ R
          · cases hs : safeAny L R r ch (List.range (siz L R)) with
            | true => exact keepers_good L R S N u r A c l w hb (by omega) hp hu hr ch hch hcl hs hC
            | false =>
              have hq := rightB_iff.1 hp
              refine keepers_none L R S N u r A c l w hb (by omega) 4 (by decide) (fun W => ?_) (fun W => ?_)
              · refine (newKeeper_main L R S N u r ch W hp hu hr hch hcl).mono ?_
                rintro e w' ⟨hB, ⟨-, rfl⟩ | ⟨h2, -⟩⟩
                · exact ⟨rfl, hB⟩
                · rw [hs] at h2; cases h2
              · refine (rNewKeeper_main L R S N u r ch W hp hch hcl).mono ?_
                rintro e w' ⟨hB, h⟩
                rw [if_pos ⟨hu, hr⟩] at h
                exact ⟨h.2 (fun h3 => by rw [(safe_ref hq.1 hq.2.2.1 hr).2 h3] at hs; cases hs), hB⟩
          · refine keepers_none L R S N u r A c l w hb (by omega) 6 (by decide) (fun W => newKeeper_rate L R S N u r W hp hu hr) (fun W => ?_)
            refine (rNewKeeper_main L R S N u r ch W hp hch hcl).mono ?_
            rintro e w' ⟨hB, h⟩
            rw [if_neg (fun h2 => hr h2.2)] at h
            exact ⟨h, hB⟩
        · refine keepers_none L R S N u r A c l w hb (by omega) 6 (by decide) (fun W => newKeeper_unit L R S N u r W hp hu) (fun W => ?_)
          refine (rNewKeeper_main L R S N u r ch W hp hch hcl).mono ?_
          rintro e w' ⟨hB, h⟩
          rw [if_neg (fun h2 => hu h2.1)] at h
          exact ⟨h, hB⟩
end Go.Proofs.Ytcaekmalkbaldaa.M
