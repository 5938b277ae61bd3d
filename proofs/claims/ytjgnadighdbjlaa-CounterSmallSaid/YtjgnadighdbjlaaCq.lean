/- The contract of Unwrap, by hand. -/
import Derived.OwnWalk
import Derived.Deep.CutRange
import Derived.Laws.AppendOwn
import Derived.Deep.RegionHeld3
import Derived.Test.YtjgnadighdbjlaaCp
namespace Go.Proofs.Ytjgnadighdbjlaa.C
open Go.RowKit Go.Shelf Go.Maps Go.Proofs.YtjgnadighdbjlaaW.PrintWords Go.Proofs.YtjgnadighdbjlaaW.PrintLast Go.Proofs.YtjgnadighdbjlaaW.PrintMore
set_option linter.unusedVariables false
set_option linter.unusedSimpArgs false
theorem own_ints {w : World} {base : Nat} {v : Value} {l : List Int} (h : w.ownsRow base 3 1 v l.length (l.map fun x => .int .i64 x)) : ∃ A c, v = .slice A l.length c ∧ Kd.C (Kd.int .i64) w A l.length l := by
  have hR : Kd.R (Kd.int .i64) 3 w base (fun _ => True) v l := ⟨fun _ _ => trivial, _, h, by simp [show (Kd.int .i64).sz = 1 from rfl], fun j x hx => by
    have e : (((l.map fun x => Value.int .i64 x).drop (j * (Kd.int .i64).sz)).take (Kd.int .i64).sz) = [.int .i64 x] := by
      rw [show (Kd.int .i64).sz = 1 from rfl, Nat.mul_one]
      have hj := (List.getElem?_eq_some_iff.1 hx).1
      rw [List.drop_eq_getElem_cons (by simpa using hj)]
      simp [(List.getElem?_eq_some_iff.1 hx).2]
    rw [e]
    rfl⟩
  obtain ⟨A, c, e, _, hC⟩ := Kd.R_reads hR
  exact ⟨A, c, e, hC⟩
theorem own_keep {w w' : World} {base : Nat} {e : TypeId} {size n : Nat} {v : Value} {xs : List Value} (h : w.ownsRow base e size v n xs) (hB : Below w.heap.size w w') : w'.ownsRow base e size v n xs := own_move h (fun k hk => hB.block k (own_lt h k hk))
theorem info3n : (Try.prog.info? 3).map (fun i => (i.zero, i.size, i.bytes)) = some (some (.int .i64 0), 1, 8) := by kernel_rfl
abbrev icells (l : List Int) : List Value := l.map (fun x => Value.int .i64 x)
/-- Unwrapped values. -/
def unwAt (R : Int) (l : List Int) : Nat → Int
  | 0 => l.getD 0 0
  | i + 1 => unwAt R l i + wrapF R (l.getD (i + 1) 0 - l.getD i 0)
def unwL (R : Int) (l : List Int) : List Int := (List.range l.length).map (unwAt R l)
theorem wrapF_bound {R n : Int} (hR : 1 ≤ R) : -R ≤ wrapF R n ∧ wrapF R n ≤ R := by
  have h2 := Int.emod_nonneg (n + R / 2) (b := R) (by omega)
  have h3 := Int.emod_lt_of_pos (n + R / 2) (b := R) (by omega)
  unfold wrapF
  omega
theorem unwAt_bound {R : Int} (hR : 1 ≤ R) {l : List Int} (hl : ∀ x ∈ l, -R ≤ x ∧ x ≤ R) : ∀ i : Nat, i < l.length → -(R * (i + 1)) ≤ unwAt R l i ∧ unwAt R l i ≤ R * (i + 1)
  | 0, h => by
    have := hl _ (List.getElem_mem h)
    simp [unwAt, List.getD_eq_getElem?_getD, List.getElem?_eq_getElem h]; omega
  | i + 1, h => by
    have h1 := unwAt_bound hR hl i (by omega)
    have h2 := wrapF_bound (n := l.getD (i + 1) 0 - l.getD i 0) hR
    unfold unwAt
    rw [show R * (((i + 1 : Nat) : Int) + 1) = R * ((i : Int) + 1) + R by rw [Int.mul_add]; push_cast; omega]
    omega
/-- Unwrap's answer: the values, and the error. -/
def unwE (F O J G R D I : Int) (l : List Int) (far : Int) : Int :=
  if okC F O J G R D I then if 2000 < l.length then 2 else if l.any (fun m => !shownF R m) || decide (1000000000000000 < far) then 6 else if far < 0 ∨ R / 2 ≤ F * far + 2 * (J + G / 2) then 31 else 0 else 30
def unwR (F O J G R D I : Int) (l : List Int) (far : Int) : List Int := if unwE F O J G R D I l far = 0 then unwL R l else []
theorem unwrap1_calls (F O J G R D I m : Int) (B : Nat) (w : World) (HK : CtrOk F O J G R D I) (hB : w.heap[B]? = some (.cells #[.int .i64 F, .int .i64 O, .int .i64 J, .int .i64 G, .int .i64 R, .int .i64 D, .int .i64 I] 51 (0, 0))) :
    Calls Try.prog 47 #[.int .i64 m, .pointer (some ⟨B, 0, none⟩)] w fun e w' => e = .returned (.bool (!shownF R m)) ∧ Below w.heap.size w w' := by
  have hv := Below.refl w.heap.size w
  have c1 := fun w => shown_calls F O J G R D I m w HK.r HK.even
  have x0 : w.cell? ⟨B, 0, none⟩ = some (.int .i64 F) := blk_cell hB 0
  have x1 : w.cell? ⟨B, 1, none⟩ = some (.int .i64 O) := blk_cell hB 1
  have x2 : w.cell? ⟨B, 2, none⟩ = some (.int .i64 J) := blk_cell hB 2
  have x3 : w.cell? ⟨B, 3, none⟩ = some (.int .i64 G) := blk_cell hB 3
  have x4 : w.cell? ⟨B, 4, none⟩ = some (.int .i64 R) := blk_cell hB 4
  have x5 : w.cell? ⟨B, 5, none⟩ = some (.int .i64 D) := blk_cell hB 5
  have x6 : w.cell? ⟨B, 6, none⟩ = some (.int .i64 I) := blk_cell hB 6
  clear hB
  cases hs : shownF R m <;> rw [hs] at c1
  · go_enter Try.func47, Try.ntmps47
    go_wp2_with fail
    refine (c1 _).mono ?_
    rintro en w1 ⟨rfl, hB⟩
    go_wp2
    go_ret
    exact ⟨rfl, hB⟩
  · go_enter Try.func47, Try.ntmps47
    go_wp2_with fail
    refine (c1 _).mono ?_
    rintro en w1 ⟨rfl, hB⟩
    go_wp2
    go_ret
    exact ⟨rfl, hB⟩
/-- What the loop keeps. -/
structure UI (F O J G R D I : Int) (w : World) (W : World) (vo : Value) (xs : List Int) : Prop where
  bel : Below w.heap.size w W
  kx : W.heap[w.heap.size]? = some (.cells #[.int .i64 F, .int .i64 O, .int .i64 J, .int .i64 G, .int .i64 R, .int .i64 D, .int .i64 I] 51 (0, 0))
  own : W.ownsRow (w.heap.size + 1) 3 1 vo xs.length (icells xs)
theorem UI.below {F O J G R D I : Int} {w W X : World} {vo : Value} {xs : List Int} (h : UI F O J G R D I w W vo xs) (hB : Below W.heap.size W X) : UI F O J G R D I w X vo xs :=
  ⟨h.bel.trans (hB.mono h.bel.size), blk_on hB h.kx, own_keep h.own hB⟩
theorem ui_append {F O J G R D I : Int} {w X Y : World} {ob : Obj} {vo v2 : Value} {xs ys : List Int} {x : Int} {n : Nat} (h : UI F O J G R D I w X vo xs) (hxs : ys = xs ++ [x]) (hown : Y.ownsRow (w.heap.size + 1) 3 1 v2 (n + 1) (icells xs ++ [.int .i64 x])) (hg : (X.alloc ob).grownBy Y vo.ownBlock) : UI F O J G R D I w Y v2 ys := by
  have h1 := (Array.getElem?_eq_some_iff.1 h.kx).1
  have hge : ∀ k, vo.ownBlock = some k → w.heap.size + 1 ≤ k := fun k hk => own_base h.own k hk
  subst hxs
  refine ⟨(h.bel.alloc h.bel.size _).grown hg (by have := h.bel.size; simp; omega) (fun k e => by have := hge k e; omega), ?_, ?_⟩
  · exact (hg.block _ (by simp; omega) (fun e => by have := hge _ e.symm; omega)).trans (al_old h.kx)
  · have hl : icells (xs ++ [x]) = icells xs ++ [.int .i64 x] := by simp
    have hn : (xs ++ [x]).length = n + 1 := by have := hown.1; simp at this; simp; omega
    rw [hl, hn]; exact hown
set_option maxHeartbeats 4000000 in
set_option maxRecDepth 100000 in
theorem Unwrap_calls (F O J G R D I : Int) (A : Option Addr) (c : Nat) (l : List Int) (far : Int) (w : World) (hr : Kd.C (Kd.int .i64) w A l.length l) :
    Calls Try.prog 22 #[.agg #[.int .i64 F, .int .i64 O, .int .i64 J, .int .i64 G, .int .i64 R, .int .i64 D, .int .i64 I], .slice A l.length c, .int .i64 far] w fun e w' => ∃ A' c', e = .returned (.tuple #[.slice A' (unwR F O J G R D I l far).length c', .int .i64 (unwE F O J G R D I l far)]) ∧ Kd.C (Kd.int .i64) w' A' (unwR F O J G R D I l far).length (unwR F O J G R D I l far) ∧ Below w.heap.size w w' := by
  have hv := Below.refl w.heap.size w
  have c1 := fun w => Check_calls F O J G R D I w
  have HNIL : Aside0 (∀ W, Kd.C (Kd.int .i64) W none 0 []) := ⟨fun W => ⟨rfl, by decide, fun h => by cases h⟩⟩
  have hll : l.length ≤ 9223372036854775807 := hr.2.1
  have HR := Aside0.mk hr
  clear hr
  cases hk : okC F O J G R D I
  · have hE : unwE F O J G R D I l far = 30 := by unfold unwE; rw [hk]; rfl
    have hU : unwR F O J G R D I l far = [] := by unfold unwR; rw [hE]; rfl
    rw [hU, hE]
    clear hU hE
    simp only [List.length_nil]
    rw [hk, if_neg (by simp)] at c1
    clear hk
    go_enter Try.func22, Try.ntmps22
    go_wp2_with fail
    obtain ⟨w1, hw1⟩ : ∃ w1, w.alloc (.cells #[.int .i64 F, .int .i64 O, .int .i64 J, .int .i64 G, .int .i64 R, .int .i64 D, .int .i64 I] 51) = w1 := ⟨_, rfl⟩
    try rw [hw1]
    have hB : Below w.heap.size w w1 := by rw [← hw1]; exact (Below.refl _ w).alloc (by first | exact Nat.le_refl _ | (simp; done) | (simp; omega)) _
    have kx : w1.heap[w.heap.size]? = some (.cells #[.int .i64 F, .int .i64 O, .int .i64 J, .int .i64 G, .int .i64 R, .int .i64 D, .int .i64 I] 51 (0, 0)) := by rw [← hw1]; exact al_new _ _ _ (by first | rfl | (simp; done) | (simp; omega))
    have x0 : w1.cell? ⟨w.heap.size, 0, none⟩ = some (.int .i64 F) := blk_cell kx 0
    have x1 : w1.cell? ⟨w.heap.size, 1, none⟩ = some (.int .i64 O) := blk_cell kx 1
    have x2 : w1.cell? ⟨w.heap.size, 2, none⟩ = some (.int .i64 J) := blk_cell kx 2
    have x3 : w1.cell? ⟨w.heap.size, 3, none⟩ = some (.int .i64 G) := blk_cell kx 3
    have x4 : w1.cell? ⟨w.heap.size, 4, none⟩ = some (.int .i64 R) := blk_cell kx 4
    have x5 : w1.cell? ⟨w.heap.size, 5, none⟩ = some (.int .i64 D) := blk_cell kx 5
    have x6 : w1.cell? ⟨w.heap.size, 6, none⟩ = some (.int .i64 I) := blk_cell kx 6
    replace hv := hv.trans (hB.mono hv.size)
    clear hB hw1
    have hs1 := World.block_lt_of_cell? _ _ x0
    refine (c1 _).mono ?_
    rintro en w2 ⟨rfl, hB⟩
    replace kx := blk_on hB kx
    replace x0 := cell_on hB x0
    replace x1 := cell_on hB x1
    replace x2 := cell_on hB x2
    replace x3 := cell_on hB x3
    replace x4 := cell_on hB x4
    replace x5 := cell_on hB x5
    replace x6 := cell_on hB x6
    replace hv := hv.trans (hB.mono hv.size)
    clear hB c1
    go_wp2_with fail
    go_ret2
    exact ⟨none, 0, rfl, HNIL.out _, hv⟩
  · have HK := CtrOk.of hk
    have HKA := Aside0.mk HK
    have hf := HK.f; have hj := HK.j; have hg := HK.g; have hR := HK.r
    have HOK := Aside0.mk hk
    rw [hk, if_pos rfl] at c1
    clear hk HK
    by_cases hlen : 2000 < l.length
    · have hE : unwE F O J G R D I l far = 2 := by unfold unwE; rw [if_pos HOK.out, if_pos hlen]
      have hU : unwR F O J G R D I l far = [] := by unfold unwR; rw [hE]; rfl
      rw [hU, hE]
      clear hU hE
      simp only [List.length_nil]
      have hlen2 : (2000 : Int) < (l.length : Int) := by omega
      go_enter Try.func22, Try.ntmps22
      go_wp2_with fail
      obtain ⟨w1, hw1⟩ : ∃ w1, w.alloc (.cells #[.int .i64 F, .int .i64 O, .int .i64 J, .int .i64 G, .int .i64 R, .int .i64 D, .int .i64 I] 51) = w1 := ⟨_, rfl⟩
      try rw [hw1]
      have hB : Below w.heap.size w w1 := by rw [← hw1]; exact (Below.refl _ w).alloc (by first | exact Nat.le_refl _ | (simp; done) | (simp; omega)) _
      have kx : w1.heap[w.heap.size]? = some (.cells #[.int .i64 F, .int .i64 O, .int .i64 J, .int .i64 G, .int .i64 R, .int .i64 D, .int .i64 I] 51 (0, 0)) := by rw [← hw1]; exact al_new _ _ _ (by first | rfl | (simp; done) | (simp; omega))
      have x0 : w1.cell? ⟨w.heap.size, 0, none⟩ = some (.int .i64 F) := blk_cell kx 0
      have x1 : w1.cell? ⟨w.heap.size, 1, none⟩ = some (.int .i64 O) := blk_cell kx 1
      have x2 : w1.cell? ⟨w.heap.size, 2, none⟩ = some (.int .i64 J) := blk_cell kx 2
      have x3 : w1.cell? ⟨w.heap.size, 3, none⟩ = some (.int .i64 G) := blk_cell kx 3
      have x4 : w1.cell? ⟨w.heap.size, 4, none⟩ = some (.int .i64 R) := blk_cell kx 4
      have x5 : w1.cell? ⟨w.heap.size, 5, none⟩ = some (.int .i64 D) := blk_cell kx 5
      have x6 : w1.cell? ⟨w.heap.size, 6, none⟩ = some (.int .i64 I) := blk_cell kx 6
      replace hv := hv.trans (hB.mono hv.size)
      clear hB hw1
      have hs1 := World.block_lt_of_cell? _ _ x0
      refine (c1 _).mono ?_
      rintro en w2 ⟨rfl, hB⟩
      replace kx := blk_on hB kx
      replace x0 := cell_on hB x0
      replace x1 := cell_on hB x1
      replace x2 := cell_on hB x2
      replace x3 := cell_on hB x3
      replace x4 := cell_on hB x4
      replace x5 := cell_on hB x5
      replace x6 := cell_on hB x6
      replace hv := hv.trans (hB.mono hv.size)
      clear hB c1
      go_wp2_with fail
      go_ret2
      exact ⟨none, 0, rfl, HNIL.out _, hv⟩
    have hlen2 : ¬ (2000 : Int) < (l.length : Int) := by omega
    have c2 := fun (W : World) (B : Nat) (hC : Kd.C (Kd.int .i64) W A l.length l) (hB : W.heap[B]? = some (.cells #[.int .i64 F, .int .i64 O, .int .i64 J, .int .i64 G, .int .i64 R, .int .i64 D, .int .i64 I] 51 (0, 0))) =>
      containsFuncI_calls A c l 47 #[.pointer (some ⟨B, 0, none⟩)] (enters_of Try.func47 (by kernel_rfl) rfl) (fun m => !shownF R m) W hC (fun W' m _ hW => unwrap1_calls F O J G R D I m B W' HKA.out (blk_on hW hB))
    cases hany : l.any (fun m => !shownF R m)
    rotate_left
    · have hE : unwE F O J G R D I l far = 6 := by unfold unwE; rw [if_pos HOK.out, if_neg hlen, if_pos (by rw [hany]; simp)]
      have hU : unwR F O J G R D I l far = [] := by unfold unwR; rw [hE]; rfl
      rw [hU, hE]
      clear hU hE
      simp only [List.length_nil]
      rw [hany] at c2
      clear hany
      go_enter Try.func22, Try.ntmps22
      go_wp2_with fail
      obtain ⟨w1, hw1⟩ : ∃ w1, w.alloc (.cells #[.int .i64 F, .int .i64 O, .int .i64 J, .int .i64 G, .int .i64 R, .int .i64 D, .int .i64 I] 51) = w1 := ⟨_, rfl⟩
      try rw [hw1]
      have hB : Below w.heap.size w w1 := by rw [← hw1]; exact (Below.refl _ w).alloc (by first | exact Nat.le_refl _ | (simp; done) | (simp; omega)) _
      have kx : w1.heap[w.heap.size]? = some (.cells #[.int .i64 F, .int .i64 O, .int .i64 J, .int .i64 G, .int .i64 R, .int .i64 D, .int .i64 I] 51 (0, 0)) := by rw [← hw1]; exact al_new _ _ _ (by first | rfl | (simp; done) | (simp; omega))
      have x0 : w1.cell? ⟨w.heap.size, 0, none⟩ = some (.int .i64 F) := blk_cell kx 0
      have x1 : w1.cell? ⟨w.heap.size, 1, none⟩ = some (.int .i64 O) := blk_cell kx 1
      have x2 : w1.cell? ⟨w.heap.size, 2, none⟩ = some (.int .i64 J) := blk_cell kx 2
      have x3 : w1.cell? ⟨w.heap.size, 3, none⟩ = some (.int .i64 G) := blk_cell kx 3
      have x4 : w1.cell? ⟨w.heap.size, 4, none⟩ = some (.int .i64 R) := blk_cell kx 4
      have x5 : w1.cell? ⟨w.heap.size, 5, none⟩ = some (.int .i64 D) := blk_cell kx 5
      have x6 : w1.cell? ⟨w.heap.size, 6, none⟩ = some (.int .i64 I) := blk_cell kx 6
      replace hv := hv.trans (hB.mono hv.size)
      clear hB hw1
      have hs1 := World.block_lt_of_cell? _ _ x0
      refine (c1 _).mono ?_
      rintro en w2 ⟨rfl, hB⟩
      replace kx := blk_on hB kx
      replace x0 := cell_on hB x0
      replace x1 := cell_on hB x1
      replace x2 := cell_on hB x2
      replace x3 := cell_on hB x3
      replace x4 := cell_on hB x4
      replace x5 := cell_on hB x5
      replace x6 := cell_on hB x6
      replace hv := hv.trans (hB.mono hv.size)
      clear hB c1
      go_wp2_with fail
      refine (c2 _ _ (Kd.C_below HR.out hv) kx).mono ?_
      rintro en w3 ⟨rfl, hB⟩
      replace kx := blk_on hB kx
      replace x0 := cell_on hB x0
      replace x1 := cell_on hB x1
      replace x2 := cell_on hB x2
      replace x3 := cell_on hB x3
      replace x4 := cell_on hB x4
      replace x5 := cell_on hB x5
      replace x6 := cell_on hB x6
      replace hv := hv.trans (hB.mono hv.size)
      clear hB c2
      go_wp2_with fail
      go_ret2
      exact ⟨none, 0, rfl, HNIL.out _, hv⟩
    rw [hany] at c2
    have HANY := Aside0.mk hany
    clear hany
    by_cases hfar : 1000000000000000 < far
    · have hE : unwE F O J G R D I l far = 6 := by unfold unwE; rw [if_pos HOK.out, if_neg hlen, if_pos (by simp [hfar])]
      have hU : unwR F O J G R D I l far = [] := by unfold unwR; rw [hE]; rfl
      rw [hU, hE]
      clear hU hE
      simp only [List.length_nil]
      go_enter Try.func22, Try.ntmps22
      go_wp2_with fail
      obtain ⟨w1, hw1⟩ : ∃ w1, w.alloc (.cells #[.int .i64 F, .int .i64 O, .int .i64 J, .int .i64 G, .int .i64 R, .int .i64 D, .int .i64 I] 51) = w1 := ⟨_, rfl⟩
      try rw [hw1]
      have hB : Below w.heap.size w w1 := by rw [← hw1]; exact (Below.refl _ w).alloc (by first | exact Nat.le_refl _ | (simp; done) | (simp; omega)) _
      have kx : w1.heap[w.heap.size]? = some (.cells #[.int .i64 F, .int .i64 O, .int .i64 J, .int .i64 G, .int .i64 R, .int .i64 D, .int .i64 I] 51 (0, 0)) := by rw [← hw1]; exact al_new _ _ _ (by first | rfl | (simp; done) | (simp; omega))
      have x0 : w1.cell? ⟨w.heap.size, 0, none⟩ = some (.int .i64 F) := blk_cell kx 0
      have x1 : w1.cell? ⟨w.heap.size, 1, none⟩ = some (.int .i64 O) := blk_cell kx 1
      have x2 : w1.cell? ⟨w.heap.size, 2, none⟩ = some (.int .i64 J) := blk_cell kx 2
      have x3 : w1.cell? ⟨w.heap.size, 3, none⟩ = some (.int .i64 G) := blk_cell kx 3
      have x4 : w1.cell? ⟨w.heap.size, 4, none⟩ = some (.int .i64 R) := blk_cell kx 4
      have x5 : w1.cell? ⟨w.heap.size, 5, none⟩ = some (.int .i64 D) := blk_cell kx 5
      have x6 : w1.cell? ⟨w.heap.size, 6, none⟩ = some (.int .i64 I) := blk_cell kx 6
      replace hv := hv.trans (hB.mono hv.size)
      clear hB hw1
      have hs1 := World.block_lt_of_cell? _ _ x0
      refine (c1 _).mono ?_
      rintro en w2 ⟨rfl, hB⟩
      replace kx := blk_on hB kx
      replace x0 := cell_on hB x0
      replace x1 := cell_on hB x1
      replace x2 := cell_on hB x2
      replace x3 := cell_on hB x3
      replace x4 := cell_on hB x4
      replace x5 := cell_on hB x5
      replace x6 := cell_on hB x6
      replace hv := hv.trans (hB.mono hv.size)
      clear hB c1
      go_wp2_with fail
      refine (c2 _ _ (Kd.C_below HR.out hv) kx).mono ?_
      rintro en w3 ⟨rfl, hB⟩
      replace kx := blk_on hB kx
      replace x0 := cell_on hB x0
      replace x1 := cell_on hB x1
      replace x2 := cell_on hB x2
      replace x3 := cell_on hB x3
      replace x4 := cell_on hB x4
      replace x5 := cell_on hB x5
      replace x6 := cell_on hB x6
      replace hv := hv.trans (hB.mono hv.size)
      clear hB c2
      go_wp2_with fail
      go_ret2
      exact ⟨none, 0, rfl, HNIL.out _, hv⟩
    have hE1 : unwE F O J G R D I l far = if far < 0 ∨ R / 2 ≤ F * far + 2 * (J + G / 2) then 31 else 0 := by unfold unwE; rw [if_pos HOK.out, if_neg hlen, if_neg (by rw [HANY.out]; simp; omega)]
    have c3 := fun w => fault_calls F O J G R D I w (by omega) (by omega)
    have he1 : 0 ≤ J + G / 2 ∧ J + G / 2 ≤ 1500000000 := by omega
    generalize J + G / 2 = e at *
    have HE1 := Aside0.mk hE1
    clear hE1
    have t0 := Int.tdiv_eq_ediv_of_nonneg (a := R) (by omega) (b := 2)
    by_cases hneg : far < 0
    · have hE : unwE F O J G R D I l far = 31 := by rw [HE1.out, if_pos (Or.inl hneg)]
      have hU : unwR F O J G R D I l far = [] := by unfold unwR; rw [hE]; rfl
      rw [hU, hE]
      clear hU hE
      simp only [List.length_nil]
      have hneg2 : decide (far < 0) = true := decide_eq_true hneg
      go_enter Try.func22, Try.ntmps22
      go_wp2_with fail
      obtain ⟨w1, hw1⟩ : ∃ w1, w.alloc (.cells #[.int .i64 F, .int .i64 O, .int .i64 J, .int .i64 G, .int .i64 R, .int .i64 D, .int .i64 I] 51) = w1 := ⟨_, rfl⟩
      try rw [hw1]
      have hB : Below w.heap.size w w1 := by rw [← hw1]; exact (Below.refl _ w).alloc (by first | exact Nat.le_refl _ | (simp; done) | (simp; omega)) _
      have kx : w1.heap[w.heap.size]? = some (.cells #[.int .i64 F, .int .i64 O, .int .i64 J, .int .i64 G, .int .i64 R, .int .i64 D, .int .i64 I] 51 (0, 0)) := by rw [← hw1]; exact al_new _ _ _ (by first | rfl | (simp; done) | (simp; omega))
      have x0 : w1.cell? ⟨w.heap.size, 0, none⟩ = some (.int .i64 F) := blk_cell kx 0
      have x1 : w1.cell? ⟨w.heap.size, 1, none⟩ = some (.int .i64 O) := blk_cell kx 1
      have x2 : w1.cell? ⟨w.heap.size, 2, none⟩ = some (.int .i64 J) := blk_cell kx 2
      have x3 : w1.cell? ⟨w.heap.size, 3, none⟩ = some (.int .i64 G) := blk_cell kx 3
      have x4 : w1.cell? ⟨w.heap.size, 4, none⟩ = some (.int .i64 R) := blk_cell kx 4
      have x5 : w1.cell? ⟨w.heap.size, 5, none⟩ = some (.int .i64 D) := blk_cell kx 5
      have x6 : w1.cell? ⟨w.heap.size, 6, none⟩ = some (.int .i64 I) := blk_cell kx 6
      replace hv := hv.trans (hB.mono hv.size)
      clear hB hw1
      have hs1 := World.block_lt_of_cell? _ _ x0
      refine (c1 _).mono ?_
      rintro en w2 ⟨rfl, hB⟩
      replace kx := blk_on hB kx
      replace x0 := cell_on hB x0
      replace x1 := cell_on hB x1
      replace x2 := cell_on hB x2
      replace x3 := cell_on hB x3
      replace x4 := cell_on hB x4
      replace x5 := cell_on hB x5
      replace x6 := cell_on hB x6
      replace hv := hv.trans (hB.mono hv.size)
      clear hB c1
      go_wp2_with fail
      refine (c2 _ _ (Kd.C_below HR.out hv) kx).mono ?_
      rintro en w3 ⟨rfl, hB⟩
      replace kx := blk_on hB kx
      replace x0 := cell_on hB x0
      replace x1 := cell_on hB x1
      replace x2 := cell_on hB x2
      replace x3 := cell_on hB x3
      replace x4 := cell_on hB x4
      replace x5 := cell_on hB x5
      replace x6 := cell_on hB x6
      replace hv := hv.trans (hB.mono hv.size)
      clear hB c2
      go_wp2_with fail
      go_quiet (fail)
      go_wp2_with fail
      go_ret2
      exact ⟨none, 0, rfl, HNIL.out _, pw_below_drewN hv _⟩
    have hneg2 : decide (far < 0) = false := decide_eq_false hneg
    have hb1 := mul_bound (F := F) (d := far) (M := 1000000000000000) (by omega) (by omega) (by omega)
    have hw1 := wrp (F * far) (by omega) (by omega)
    have hw2 := wrp (2 * e) (by omega) (by omega)
    obtain ⟨z, hz⟩ : ∃ z, F * far + 2 * e = z := ⟨_, rfl⟩
    have hw3 : IntKind.i64.wrap (F * far + 2 * e) = z := by rw [hz]; exact wrp z (by omega) (by omega)
    rw [hz] at HE1
    clear hz hb1
    have hw4 := wrp (R / 2) (by omega) (by omega)
    by_cases hbig : R / 2 ≤ z
    · have hE : unwE F O J G R D I l far = 31 := by rw [HE1.out, if_pos (Or.inr hbig)]
      have hU : unwR F O J G R D I l far = [] := by unfold unwR; rw [hE]; rfl
      rw [hU, hE]
      clear hU hE
      simp only [List.length_nil]
      go_enter Try.func22, Try.ntmps22
      go_wp2_with fail
      obtain ⟨w1, hw1⟩ : ∃ w1, w.alloc (.cells #[.int .i64 F, .int .i64 O, .int .i64 J, .int .i64 G, .int .i64 R, .int .i64 D, .int .i64 I] 51) = w1 := ⟨_, rfl⟩
      try rw [hw1]
      have hB : Below w.heap.size w w1 := by rw [← hw1]; exact (Below.refl _ w).alloc (by first | exact Nat.le_refl _ | (simp; done) | (simp; omega)) _
      have kx : w1.heap[w.heap.size]? = some (.cells #[.int .i64 F, .int .i64 O, .int .i64 J, .int .i64 G, .int .i64 R, .int .i64 D, .int .i64 I] 51 (0, 0)) := by rw [← hw1]; exact al_new _ _ _ (by first | rfl | (simp; done) | (simp; omega))
      have x0 : w1.cell? ⟨w.heap.size, 0, none⟩ = some (.int .i64 F) := blk_cell kx 0
      have x1 : w1.cell? ⟨w.heap.size, 1, none⟩ = some (.int .i64 O) := blk_cell kx 1
      have x2 : w1.cell? ⟨w.heap.size, 2, none⟩ = some (.int .i64 J) := blk_cell kx 2
      have x3 : w1.cell? ⟨w.heap.size, 3, none⟩ = some (.int .i64 G) := blk_cell kx 3
      have x4 : w1.cell? ⟨w.heap.size, 4, none⟩ = some (.int .i64 R) := blk_cell kx 4
      have x5 : w1.cell? ⟨w.heap.size, 5, none⟩ = some (.int .i64 D) := blk_cell kx 5
      have x6 : w1.cell? ⟨w.heap.size, 6, none⟩ = some (.int .i64 I) := blk_cell kx 6
      replace hv := hv.trans (hB.mono hv.size)
      clear hB hw1
      have hs1 := World.block_lt_of_cell? _ _ x0
      refine (c1 _).mono ?_
      rintro en w2 ⟨rfl, hB⟩
      replace kx := blk_on hB kx
      replace x0 := cell_on hB x0
      replace x1 := cell_on hB x1
      replace x2 := cell_on hB x2
      replace x3 := cell_on hB x3
      replace x4 := cell_on hB x4
      replace x5 := cell_on hB x5
      replace x6 := cell_on hB x6
      replace hv := hv.trans (hB.mono hv.size)
      clear hB c1
      go_wp2_with fail
      refine (c2 _ _ (Kd.C_below HR.out hv) kx).mono ?_
      rintro en w3 ⟨rfl, hB⟩
      replace kx := blk_on hB kx
      replace x0 := cell_on hB x0
      replace x1 := cell_on hB x1
      replace x2 := cell_on hB x2
      replace x3 := cell_on hB x3
      replace x4 := cell_on hB x4
      replace x5 := cell_on hB x5
      replace x6 := cell_on hB x6
      replace hv := hv.trans (hB.mono hv.size)
      clear hB c2
      go_wp2_with fail
      have hbd : decide (R / 2 ≤ z) = true := decide_eq_true hbig
      go_cut [30] from 12 (fun s30 wx => s30 = .bool true ∧ Below w3.heap.size w3 wx)
      case first =>
        have hS : ∀ w', Below w3.heap.size w3 w' → ((w'.cell? ⟨w.heap.size, 0, none⟩ = some (.int .i64 F) ∧ w'.cell? ⟨w.heap.size, 1, none⟩ = some (.int .i64 O) ∧ w'.cell? ⟨w.heap.size, 2, none⟩ = some (.int .i64 J) ∧ w'.cell? ⟨w.heap.size, 3, none⟩ = some (.int .i64 G) ∧ w'.cell? ⟨w.heap.size, 4, none⟩ = some (.int .i64 R) ∧ w'.cell? ⟨w.heap.size, 5, none⟩ = some (.int .i64 D) ∧ w'.cell? ⟨w.heap.size, 6, none⟩ = some (.int .i64 I)) ∧ Below w3.heap.size w3 w') := fun w' hB => ⟨⟨cell_on hB x0, cell_on hB x1, cell_on hB x2, cell_on hB x3, cell_on hB x4, cell_on hB x5, cell_on hB x6⟩, hB⟩
        go_region_held3 (fun w' => (w'.cell? ⟨w.heap.size, 0, none⟩ = some (.int .i64 F) ∧ w'.cell? ⟨w.heap.size, 1, none⟩ = some (.int .i64 O) ∧ w'.cell? ⟨w.heap.size, 2, none⟩ = some (.int .i64 J) ∧ w'.cell? ⟨w.heap.size, 3, none⟩ = some (.int .i64 G) ∧ w'.cell? ⟨w.heap.size, 4, none⟩ = some (.int .i64 R) ∧ w'.cell? ⟨w.heap.size, 5, none⟩ = some (.int .i64 D) ∧ w'.cell? ⟨w.heap.size, 6, none⟩ = some (.int .i64 I)) ∧ Below w3.heap.size w3 w') (first | exact hS _ (Below.refl _ _).drew | assumption | (have hh := ‹(_ ∧ _ ∧ _ ∧ _ ∧ _ ∧ _ ∧ _) ∧ Below w3.heap.size w3 _›; exact hS _ (hh.2.trans (hB.mono hh.2.size))))
          (first | (go_at_call 48; with_reducible refine (c3 _).mono ?_; rintro e w' ⟨rfl, hB⟩))
        all_goals
          rename_i hHeld
          go_wp2
          go_meet
          exact ⟨rfl, hHeld.2⟩
      case rest =>
      obtain ⟨rfl, hB⟩ := hcut
      rename World => w4
      replace kx := blk_on hB kx
      replace x0 := cell_on hB x0
      replace x1 := cell_on hB x1
      replace x2 := cell_on hB x2
      replace x3 := cell_on hB x3
      replace x4 := cell_on hB x4
      replace x5 := cell_on hB x5
      replace x6 := cell_on hB x6
      replace hv := hv.trans (hB.mono hv.size)
      clear hB c3 hbd hw1 hw2 hw3 hw4 t0
      go_wp2_with fail
      go_ret2
      exact ⟨none, 0, rfl, HNIL.out _, hv⟩
    have hE : unwE F O J G R D I l far = 0 := by rw [HE1.out, if_neg (by omega)]
    have hU : unwR F O J G R D I l far = unwL R l := by unfold unwR; rw [if_pos hE]
    rw [hU, hE]
    clear hU hE HE1
    go_enter Try.func22, Try.ntmps22
    go_wp2_with fail
    obtain ⟨w1, hw1⟩ : ∃ w1, w.alloc (.cells #[.int .i64 F, .int .i64 O, .int .i64 J, .int .i64 G, .int .i64 R, .int .i64 D, .int .i64 I] 51) = w1 := ⟨_, rfl⟩
    try rw [hw1]
    have hB : Below w.heap.size w w1 := by rw [← hw1]; exact (Below.refl _ w).alloc (by first | exact Nat.le_refl _ | (simp; done) | (simp; omega)) _
    have kx : w1.heap[w.heap.size]? = some (.cells #[.int .i64 F, .int .i64 O, .int .i64 J, .int .i64 G, .int .i64 R, .int .i64 D, .int .i64 I] 51 (0, 0)) := by rw [← hw1]; exact al_new _ _ _ (by first | rfl | (simp; done) | (simp; omega))
    have x0 : w1.cell? ⟨w.heap.size, 0, none⟩ = some (.int .i64 F) := blk_cell kx 0
    have x1 : w1.cell? ⟨w.heap.size, 1, none⟩ = some (.int .i64 O) := blk_cell kx 1
    have x2 : w1.cell? ⟨w.heap.size, 2, none⟩ = some (.int .i64 J) := blk_cell kx 2
    have x3 : w1.cell? ⟨w.heap.size, 3, none⟩ = some (.int .i64 G) := blk_cell kx 3
    have x4 : w1.cell? ⟨w.heap.size, 4, none⟩ = some (.int .i64 R) := blk_cell kx 4
    have x5 : w1.cell? ⟨w.heap.size, 5, none⟩ = some (.int .i64 D) := blk_cell kx 5
    have x6 : w1.cell? ⟨w.heap.size, 6, none⟩ = some (.int .i64 I) := blk_cell kx 6
    replace hv := hv.trans (hB.mono hv.size)
    clear hB hw1
    have hs1 := World.block_lt_of_cell? _ _ x0
    refine (c1 _).mono ?_
    rintro en w2 ⟨rfl, hB⟩
    replace kx := blk_on hB kx
    replace x0 := cell_on hB x0
    replace x1 := cell_on hB x1
    replace x2 := cell_on hB x2
    replace x3 := cell_on hB x3
    replace x4 := cell_on hB x4
    replace x5 := cell_on hB x5
    replace x6 := cell_on hB x6
    replace hv := hv.trans (hB.mono hv.size)
    clear hB c1
    go_wp2_with fail
    refine (c2 _ _ (Kd.C_below HR.out hv) kx).mono ?_
    rintro en w3 ⟨rfl, hB⟩
    replace kx := blk_on hB kx
    replace x0 := cell_on hB x0
    replace x1 := cell_on hB x1
    replace x2 := cell_on hB x2
    replace x3 := cell_on hB x3
    replace x4 := cell_on hB x4
    replace x5 := cell_on hB x5
    replace x6 := cell_on hB x6
    replace hv := hv.trans (hB.mono hv.size)
    clear hB c2
    go_wp2_with fail
    have hbd : decide (R / 2 ≤ z) = false := decide_eq_false (by omega)
    go_cut [30] from 12 (fun s30 wx => s30 = .bool false ∧ Below w3.heap.size w3 wx)
    case first =>
      have hS : ∀ w', Below w3.heap.size w3 w' → ((w'.cell? ⟨w.heap.size, 0, none⟩ = some (.int .i64 F) ∧ w'.cell? ⟨w.heap.size, 1, none⟩ = some (.int .i64 O) ∧ w'.cell? ⟨w.heap.size, 2, none⟩ = some (.int .i64 J) ∧ w'.cell? ⟨w.heap.size, 3, none⟩ = some (.int .i64 G) ∧ w'.cell? ⟨w.heap.size, 4, none⟩ = some (.int .i64 R) ∧ w'.cell? ⟨w.heap.size, 5, none⟩ = some (.int .i64 D) ∧ w'.cell? ⟨w.heap.size, 6, none⟩ = some (.int .i64 I)) ∧ Below w3.heap.size w3 w') := fun w' hB => ⟨⟨cell_on hB x0, cell_on hB x1, cell_on hB x2, cell_on hB x3, cell_on hB x4, cell_on hB x5, cell_on hB x6⟩, hB⟩
      go_region_held3 (fun w' => (w'.cell? ⟨w.heap.size, 0, none⟩ = some (.int .i64 F) ∧ w'.cell? ⟨w.heap.size, 1, none⟩ = some (.int .i64 O) ∧ w'.cell? ⟨w.heap.size, 2, none⟩ = some (.int .i64 J) ∧ w'.cell? ⟨w.heap.size, 3, none⟩ = some (.int .i64 G) ∧ w'.cell? ⟨w.heap.size, 4, none⟩ = some (.int .i64 R) ∧ w'.cell? ⟨w.heap.size, 5, none⟩ = some (.int .i64 D) ∧ w'.cell? ⟨w.heap.size, 6, none⟩ = some (.int .i64 I)) ∧ Below w3.heap.size w3 w') (first | exact hS _ (Below.refl _ _).drew | assumption | (have hh := ‹(_ ∧ _ ∧ _ ∧ _ ∧ _ ∧ _ ∧ _) ∧ Below w3.heap.size w3 _›; exact hS _ (hh.2.trans (hB.mono hh.2.size))))
        (first | (go_at_call 48; with_reducible refine (c3 _).mono ?_; rintro e w' ⟨rfl, hB⟩))
      all_goals
        rename_i hHeld
        go_wp2
        go_meet
        exact ⟨rfl, hHeld.2⟩
    case rest =>
    obtain ⟨rfl, hB⟩ := hcut
    rename World => w4
    replace kx := blk_on hB kx
    replace x0 := cell_on hB x0
    replace x1 := cell_on hB x1
    replace x2 := cell_on hB x2
    replace x3 := cell_on hB x3
    replace x4 := cell_on hB x4
    replace x5 := cell_on hB x5
    replace x6 := cell_on hB x6
    replace hv := hv.trans (hB.mono hv.size)
    clear hB c3 hbd hw1 hw2 hw3 hw4 t0
    go_wp2_with fail
    have HU0 : Aside0 (UI F O J G R D I w w4 (.slice none 0 0) []) := ⟨⟨hv, kx, own_nil _ _ _ _⟩⟩
    have HS : Aside0 (∀ x ∈ l, -R ≤ x ∧ x ≤ R) := ⟨fun x hx => by
      have := List.any_eq_false.1 HANY.out x hx
      unfold shownF at this
      simp at this
      omega⟩
    have hR1 := HKA.out.r
    clear kx hv hs1 HOK x0 x1 x2 x3 x4 x5 x6
    obtain ⟨i0, hi0, hz0, hz1, hz2⟩ := info_parts info3n
    go_loopw [9, 49] (fun v9 v49 wr => ∃ (i : Nat) (vo : Value), i ≤ l.length ∧ v49 = .int .i64 i ∧ vo = v9 ∧ Aside0 (UI F O J G R D I w wr vo ((List.range i).map (unwAt R l)))) (fun _ v49 _ => l.length - (intOf v49).toNat)
    case atStart => exact ⟨0, _, by omega, by simp, rfl, HU0⟩
    case round =>
      clear HU0
      obtain ⟨i, v9, hi, rfl, rfl, HI⟩ := hrel
      by_cases hlt : i < l.length
      · obtain ⟨ad, rfl, hc⟩ := C_int (Kd.C_below HR.out HI.out.bel) i hlt
        have hd1 : (i : Int) < (l.length : Int) := by omega
        have hdl : decide ((i : Int) < (l.length : Int)) = true := decide_eq_true hd1
        obtain ⟨m, hm⟩ : ∃ m, l[i] = m := ⟨_, rfl⟩
        have hmb := HS.out _ (List.getElem_mem hlt)
        rw [hm] at hc hmb
        have HM : Aside0 (l.getD i 0 = m) := ⟨by rw [List.getD_eq_getElem?_getD, List.getElem?_eq_getElem hlt, hm]; rfl⟩
        clear hm
        have hxl : ((List.range i).map (unwAt R l)).length = i := by simp
        have hown := HI.out.own
        rw [hxl] at hown
        have HXL := Aside0.mk hxl
        clear hxl
        have hws := (Array.getElem?_eq_some_iff.1 HI.out.kx).1
        have hwi := wrp ((i : Int) + 1) (by omega) (by omega)
        rcases Nat.eq_zero_or_pos i with hi00 | hi01
        · obtain ⟨xs, hxs⟩ : ∃ xs, (List.range i).map (unwAt R l) = xs := ⟨_, rfl⟩
          have HXS : Aside0 ((List.range (i + 1)).map (unwAt R l) = xs ++ [m]) := ⟨by rw [← hxs, ← HM.out]; obtain rfl := hi00; rfl⟩
          have hi2 : ¬ 0 < (i : Int) := by omega
          rw [hxs] at HI hown
          clear hxs HXL HM hi00
          have hownA : (wr.alloc (.cells #[.int .i64 m] 3)).ownsRow (w.heap.size + 1) 3 1 v9 i (icells xs) := own_move hown (fun k hk => Below.heap_alloc _ _ k (own_lt hown k hk))
          have HIK := Aside0.mk HI.out
          clear hown HI
          go_wp2_with (at_builtin; refine wpList_append_own _ rfl _ _ 59 rfl (w.heap.size + 1) 3 i0 (.int .i64 0) 1 8 Try.underlying59 hi0 hz0 hz1 hz2 rfl (by decide) _ _ _ rfl hownA ⟨wr.heap.size, 0, none⟩ 1 1 [.int .i64 m] rfl ?qa1 ?qa2 ?qa3 ?qa4 ?qa5 ?qa6 ?_)
          try (case qa1 => rfl)
          try (case qa2 => exact World.news_of_block (cs := #[.int .i64 m]) (t := 3) (fr := (0, 0)) (al_new _ _ _ rfl))
          try (case qa3 => first | rfl | simp [Value.oneCell'])
          try (case qa4 => unfold maxLen; omega)
          try (case qa5 => omega)
          try (case qa6 => first | omega | (simp; omega))
          intro v2 wz hown2 hg2 hnil2
          have HN : Aside0 (UI F O J G R D I w wz v2 ((List.range (i + 1)).map (unwAt R l))) := ⟨ui_append HIK.out HXS.out hown2 hg2⟩
          clear hown2 hg2 hnil2 hownA HIK HXS
          go_wp2
          go_roundw
          case rel => exact ⟨i + 1, _, by omega, by go_num, rfl, HN⟩
          case measure => simp [intOf]; omega
        · obtain ⟨j, hj1, hj2⟩ : ∃ j : Nat, i ≤ j + 1 ∧ j + 1 ≤ i := ⟨i - 1, by omega, by omega⟩
          have hjl : j < l.length := by omega
          obtain ⟨ad', e, hcj⟩ := C_int (Kd.C_below HR.out HI.out.bel) j hjl
          cases e
          obtain ⟨b, hb⟩ : ∃ b, l[j] = b := ⟨_, rfl⟩
          have hbb := HS.out _ (List.getElem_mem hjl)
          rw [hb] at hcj hbb
          have HBJ : Aside0 (l.getD j 0 = b) := ⟨by rw [List.getD_eq_getElem?_getD, List.getElem?_eq_getElem hjl, hb]; rfl⟩
          clear hb
          obtain ⟨g, cap, rfl⟩ : ∃ g cap, v9 = .slice (some ⟨g, 0, none⟩) i cap := by
            rcases hown.2 with ⟨e, h0⟩ | ⟨g, cap, cur, e, h1, _⟩
            · omega
            · exact ⟨g, cap, e⟩
          have hgc := (own_at (k := .i64) hown (j : Int) (by omega) (by omega)).1
          simp only [Int.toNat_natCast] at hgc
          have hub := unwAt_bound hR1.1 HS.out j hjl
          obtain ⟨u, hu⟩ : ∃ u, unwAt R l j = u := ⟨_, rfl⟩
          rw [hu] at hub
          have hrd : rd ((List.range i).map (unwAt R l)) (j : Int) = u := by simp [rd, List.getD_eq_getElem?_getD, show j < i by omega, hu]
          rw [hrd] at hgc
          have hub2 : -3000000000000000000 ≤ u ∧ u ≤ 3000000000000000000 := by
            have := Int.mul_le_mul_of_nonneg_left (show (j : Int) + 1 ≤ 2000 by omega) (show 0 ≤ R by omega)
            omega
          obtain ⟨d, hd⟩ : ∃ d, m - b = d := ⟨_, rfl⟩
          have hw1 : IntKind.i64.wrap (m - b) = d := by rw [hd]; exact wrp d (by omega) (by omega)
          have hqb := wrapF_bound (n := d) hR1.1
          have c49 := fun w => wrap_calls F O J G R D I d w hR1 (by omega)
          obtain ⟨q, hq⟩ : ∃ q, wrapF R d = q := ⟨_, rfl⟩
          rw [hq] at c49 hqb
          obtain ⟨s, hs⟩ : ∃ s, u + q = s := ⟨_, rfl⟩
          have hw2 : IntKind.i64.wrap (u + q) = s := by rw [hs]; exact wrp s (by omega) (by omega)
          have hwj : IntKind.i64.wrap ((i : Int) - 1) = (j : Int) := by rw [show (i : Int) - 1 = (j : Int) by omega]; exact wrp _ (by omega) (by omega)
          have hji : (j : Int) < (i : Int) := by omega
          have hjl2 : (j : Int) < (l.length : Int) := by omega
          have hi2 : 0 < (i : Int) := by omega
          have HXS : Aside0 ((List.range (i + 1)).map (unwAt R l) = (List.range i).map (unwAt R l) ++ [s]) := ⟨by
            rw [List.range_succ, List.map_append]
            congr 1
            simp only [List.map_cons, List.map_nil, List.cons.injEq, and_true]
            obtain rfl : i = j + 1 := by omega
            rw [unwAt, HM.out, HBJ.out, hu, hd, hq, hs]⟩
          generalize (List.range i).map (unwAt R l) = xs at *
          clear hd hq hs hu hrd HM HBJ hub HXL
          have x0 : wr.cell? ⟨w.heap.size, 0, none⟩ = some (.int .i64 F) := blk_cell HI.out.kx 0
          have x1 : wr.cell? ⟨w.heap.size, 1, none⟩ = some (.int .i64 O) := blk_cell HI.out.kx 1
          have x2 : wr.cell? ⟨w.heap.size, 2, none⟩ = some (.int .i64 J) := blk_cell HI.out.kx 2
          have x3 : wr.cell? ⟨w.heap.size, 3, none⟩ = some (.int .i64 G) := blk_cell HI.out.kx 3
          have x4 : wr.cell? ⟨w.heap.size, 4, none⟩ = some (.int .i64 R) := blk_cell HI.out.kx 4
          have x5 : wr.cell? ⟨w.heap.size, 5, none⟩ = some (.int .i64 D) := blk_cell HI.out.kx 5
          have x6 : wr.cell? ⟨w.heap.size, 6, none⟩ = some (.int .i64 I) := blk_cell HI.out.kx 6
          go_wp2_with fail
          go_cut [11] from 54 to 70 (fun s11 wx => s11 = .int .i64 s ∧ Below wr.heap.size wr wx)
          case first =>
            have hS : ∀ w', Below wr.heap.size wr w' → ((w'.cell? ⟨w.heap.size, 0, none⟩ = some (.int .i64 F) ∧ w'.cell? ⟨w.heap.size, 1, none⟩ = some (.int .i64 O) ∧ w'.cell? ⟨w.heap.size, 2, none⟩ = some (.int .i64 J) ∧ w'.cell? ⟨w.heap.size, 3, none⟩ = some (.int .i64 G) ∧ w'.cell? ⟨w.heap.size, 4, none⟩ = some (.int .i64 R) ∧ w'.cell? ⟨w.heap.size, 5, none⟩ = some (.int .i64 D) ∧ w'.cell? ⟨w.heap.size, 6, none⟩ = some (.int .i64 I) ∧ w'.cell? ⟨g, j, none⟩ = some (.int .i64 u) ∧ w'.cell? (ad.add j) = some (.int .i64 b)) ∧ Below wr.heap.size wr w') := fun w' hB => ⟨⟨cell_on hB x0, cell_on hB x1, cell_on hB x2, cell_on hB x3, cell_on hB x4, cell_on hB x5, cell_on hB x6, cell_on hB hgc, cell_on hB hcj⟩, hB⟩
            go_region_held3 (fun w' => (w'.cell? ⟨w.heap.size, 0, none⟩ = some (.int .i64 F) ∧ w'.cell? ⟨w.heap.size, 1, none⟩ = some (.int .i64 O) ∧ w'.cell? ⟨w.heap.size, 2, none⟩ = some (.int .i64 J) ∧ w'.cell? ⟨w.heap.size, 3, none⟩ = some (.int .i64 G) ∧ w'.cell? ⟨w.heap.size, 4, none⟩ = some (.int .i64 R) ∧ w'.cell? ⟨w.heap.size, 5, none⟩ = some (.int .i64 D) ∧ w'.cell? ⟨w.heap.size, 6, none⟩ = some (.int .i64 I) ∧ w'.cell? ⟨g, j, none⟩ = some (.int .i64 u) ∧ w'.cell? (ad.add j) = some (.int .i64 b)) ∧ Below wr.heap.size wr w') (first | exact hS _ (Below.refl _ _).drew | assumption | (have hh := ‹(_ ∧ _ ∧ _ ∧ _ ∧ _ ∧ _ ∧ _ ∧ _ ∧ _) ∧ Below wr.heap.size wr _›; exact hS _ (hh.2.trans (hB.mono hh.2.size))))
              (first | (go_at_call 49; with_reducible refine (c49 _).mono ?_; rintro e w' ⟨rfl, hB⟩))
            all_goals
              rename_i hHeld
              go_wp2
              go_meet
              exact ⟨rfl, hHeld.2⟩
          case rest =>
          obtain ⟨rfl, hB⟩ := hcut
          rename World => wq
          clear c49 hw1 hw2 hwj hgc hcj hc hi2 hji x0 x1 x2 x3 x4 x5 x6
          have hown := own_keep hown hB
          have hws2 := hB.size
          replace HI := Aside0.mk (HI.out.below hB)
          clear hB
          have hownA : (wq.alloc (.cells #[.int .i64 s] 3)).ownsRow (w.heap.size + 1) 3 1 (.slice (some ⟨g, 0, none⟩) i cap) i (icells xs) := own_move hown (fun k hk => Below.heap_alloc _ _ k (own_lt hown k hk))
          have HIK := Aside0.mk HI.out
          clear hown HI
          go_wp2_with (at_builtin; refine wpList_append_own _ rfl _ _ 59 rfl (w.heap.size + 1) 3 i0 (.int .i64 0) 1 8 Try.underlying59 hi0 hz0 hz1 hz2 rfl (by decide) _ _ _ rfl hownA ⟨wq.heap.size, 0, none⟩ 1 1 [.int .i64 s] rfl ?qb1 ?qb2 ?qb3 ?qb4 ?qb5 ?qb6 ?_)
          try (case qb1 => rfl)
          try (case qb2 => exact World.news_of_block (cs := #[.int .i64 s]) (t := 3) (fr := (0, 0)) (al_new _ _ _ rfl))
          try (case qb3 => first | rfl | simp [Value.oneCell'])
          try (case qb4 => unfold maxLen; omega)
          try (case qb5 => omega)
          try (case qb6 => first | omega | (simp; omega))
          intro v2 wz hown2 hg2 hnil2
          have HN : Aside0 (UI F O J G R D I w wz v2 ((List.range (i + 1)).map (unwAt R l))) := ⟨ui_append HIK.out HXS.out hown2 hg2⟩
          clear hown2 hg2 hnil2 hownA HIK HXS
          go_wp2
          go_roundw
          case rel => exact ⟨i + 1, _, by omega, by go_num, rfl, HN⟩
          case measure => simp [intOf]; omega
      · obtain rfl : i = l.length := by omega
        have hown := HI.out.own
        have hbel := HI.out.bel
        obtain ⟨A', c', rfl, hC⟩ := own_ints hown
        have HC := Aside0.mk hC
        have HB := Aside0.mk hbel
        clear hC hbel hown HI
        have hdl : decide ((l.length : Int) < (l.length : Int)) = false := by simp
        go_wp2
        go_ret2
        exact ⟨_, _, rfl, HC.out, HB.out⟩
end Go.Proofs.Ytjgnadighdbjlaa.C
