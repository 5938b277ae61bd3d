/- Contracts of gps, ToNtp, slices.Index and slices.Contains, by hand. -/
import Derived.OwnWalk
import Derived.Test.YtleipbanadnchaaGa
import Derived.Test.YtleipbanadnchaaCp
import Derived.Test.YtleipbanadnchaaFa
import Derived.Test.YtleipbanadnchaaDe
import Derived.Laws.BitsLemmas
namespace Go.Proofs.Ytleipbanadnchaa.C
open Go.RowKit Go.Shelf Go.Maps Go.Proofs.YtleipbanadnchaaW.PrintWords Go.Proofs.YtleipbanadnchaaW.PrintLast Go.Proofs.YtleipbanadnchaaW.PrintMore
set_option linter.unusedVariables false
set_option linter.unusedSimpArgs false
/-- The first second of GPS time; -1. -/
def gpsF (l : List (Int × Int)) (u : Int) : Int := if u ≤ 44244 then -1 else beginF l 44244
theorem gps_calls (kb : Nat) (b u : Int) (A : Option Addr) (c : Nat) (l : List (Int × Int)) (w : World) (hc : CtAt w kb b A c u l) (hk : checkF b l u = 0) :
    Calls Try.prog 91 #[.pointer (some ⟨kb, 0, none⟩)] w fun e w' => e = .returned (.int .i64 (gpsF l u)) ∧ Below w.heap.size w w' := by
  obtain ⟨h1, h2, h3, h4, h5, h6⟩ := checkF_right hk
  have a115 := begin_calls kb b u A c l 44244 (by omega) (by omega) w hc h6 h5
  obtain ⟨_, _, hkx, _⟩ := hc
  have u2 : w.cell? ⟨kb, 2, none⟩ = some (.int .i64 u) := blk_cell hkx 2
  clear hkx h6 hk
  unfold gpsF
  by_cases h : u ≤ 44244
  · rw [if_pos h]
    have d1 : decide (u ≤ 44244) = true := decide_eq_true h
    go_enter Try.func91, Try.ntmps91
    go_wp2
    go_ret
    exact ⟨rfl, Below.refl _ _⟩
  · rw [if_neg h]
    have d1 : decide (u ≤ 44244) = false := decide_eq_false h
    go_enter Try.func91, Try.ntmps91
    go_wp2_with fail
    refine a115.mono ?_
    rintro en w1 ⟨rfl, hB⟩
    go_wp2
    go_ret
    exact ⟨rfl, hB⟩
/-- The index of a number in a list; -1. -/
def idxI (x : Int) : List Int → Nat → Int
  | [], _ => -1
  | y :: l, i => if y = x then (i : Int) else idxI x l (i + 1)
theorem idxI_has (x : Int) : ∀ (l : List Int) (i : Nat), decide (0 ≤ idxI x l i) = l.contains x
  | [], i => by simp [idxI]
  | y :: l, i => by
    unfold idxI
    by_cases h : y = x
    · rw [if_pos h]; subst h; simp
    · rw [if_neg h, idxI_has x l (i + 1), List.contains_cons]
      have : (x == y) = false := beq_eq_false_iff_ne.2 (fun e => h e.symm)
      rw [this, Bool.false_or]
set_option maxHeartbeats 1000000 in
set_option maxRecDepth 100000 in
theorem index_calls (A : Option Addr) (c : Nat) (l : List Int) (x : Int) (w : World) (hl : Kd.C (Kd.int .i64) w A l.length l) (hlen : l.length ≤ 1000000) :
    Calls Try.prog 90 #[.slice A l.length c, .int .i64 x] w fun e w' => e = .returned (.int .i64 (idxI x l 0)) ∧ Below w.heap.size w w' := by
  have HL := Aside0.mk hl
  clear hl
  go_enter Try.func90, Try.ntmps90
  go_wp2_with fail
  go_loopw [8] (fun v8 wr => ∃ i : Nat, i ≤ l.length ∧ v8 = .int .i64 i ∧ Aside0 (idxI x l 0 = idxI x (l.drop i) i) ∧ Aside0 (Below w.heap.size w wr)) (fun v _ => l.length - (intOf v).toNat)
  case atStart => exact ⟨0, by omega, rfl, ⟨rfl⟩, ⟨Below.refl _ _⟩⟩
  case round =>
    obtain ⟨i, hi, rfl, HT, HW⟩ := hrel
    by_cases hlt : i < l.length
    · obtain ⟨ad, rfl, hc0⟩ := C_i64 (Kd.C_below HL.out HW.out) i hlt hlt
      have hdr : l.drop i = l[i] :: l.drop (i + 1) := List.drop_eq_getElem_cons hlt
      have hTT := HT.out
      rw [hdr] at hTT
      generalize l[i] = y at *
      have d1 : decide ((i : Int) < (l.length : Int)) = true := decide_eq_true (by omega)
      have d2 : (i : Int) < (l.length : Int) := by omega
      by_cases hxy : y = x
      · have HN : Aside0 (idxI x l 0 = (i : Int)) := ⟨by rw [hTT]; unfold idxI; rw [if_pos hxy]⟩
        have q1 : (x == y) = true := beq_iff_eq.2 hxy.symm
        clear hxy hdr hTT
        go_wp2
        go_ret
        exact ⟨by rw [HN.out]; rfl, HW.out⟩
      · have HN : Aside0 (idxI x l 0 = idxI x (l.drop (i + 1)) (i + 1)) := ⟨by rw [hTT]; rw [idxI, if_neg hxy]⟩
        have q1 : (x == y) = false := beq_eq_false_iff_ne.2 (fun e => hxy e.symm)
        clear hxy hdr hTT
        go_wp2
        go_roundw
        case rel => exact ⟨i + 1, by omega, by go_num, HN, HW⟩
        case measure => simp [intOf]; omega
    · obtain rfl : i = l.length := by omega
      have HN : Aside0 (idxI x l 0 = -1) := ⟨by rw [HT.out, List.drop_length]; rfl⟩
      go_wp2
      go_ret
      exact ⟨by rw [HN.out]; rfl, HW.out⟩
theorem contains_calls (A : Option Addr) (c : Nat) (l : List Int) (x : Int) (w : World) (hl : Kd.C (Kd.int .i64) w A l.length l) (hlen : l.length ≤ 1000000) :
    Calls Try.prog 36 #[.slice A l.length c, .int .i64 x] w fun e w' => e = .returned (.bool (l.contains x)) ∧ Below w.heap.size w w' := by
  have a90 := index_calls A c l x w hl hlen
  rw [← idxI_has x l 0]
  generalize idxI x l 0 = q at *
  clear hl
  go_enter Try.func36, Try.ntmps36
  go_wp2_with fail
  refine a90.mono ?_
  rintro en w1 ⟨rfl, hB⟩
  go_wp2
  go_ret
  exact ⟨rfl, hB⟩
theorem info52 : (Try.prog.info? 52).map (·.size) = some 2 := by kernel_rfl
theorem info54 : (Try.prog.info? 54).map (·.size) = some 2 := by kernel_rfl
theorem and32 {x : Int} (h0 : 0 ≤ x) (h1 : x < 2 ^ 62) : bits .and .i64 x 4294967295 = x % 4294967296 :=
  bits_mask .i64 62 (by decide) (fun n a b => by rw [IntKind.wrap_i64]; omega) 32 (by decide) x h0 h1
set_option maxHeartbeats 2000000 in
set_option maxRecDepth 100000 in
theorem ToNtp_ok (b u : Int) (A : Option Addr) (c : Nat) (l : List (Int × Int)) (s D : Int) (w : World) (hr : Kd.C kl w A l.length l) (hk : askE b l u s = 0) (hD : IsDay l u s D) :
    Calls Try.prog 33 #[tabV b A l.length c u, .int .i64 s] w fun e w' => e = .returned (.tuple #[.agg #[.int .i64 ((unixF l s D + 2208988800) / 4294967296), .int .i64 ((unixF l s D + 2208988800) % 4294967296)], .int .i64 0]) ∧ Below w.heap.size w w' := by
  have HR := Aside0.mk hr
  have a65 := fun w h => ask_calls b u A c l s w h
  have a83 := fun kb w hc => unix_calls kb b u A c l s D w hc (askE_zero hk).1 hD
  have hub : 0 ≤ unixF l s D ∧ unixF l s D ≤ 100000000000 := by
    obtain ⟨h1, h2, h3, h4, h5, h6⟩ := checkF_right (askE_zero hk).1
    have := hD.clock h6
    have := hD.d0
    have := hD.d1
    unfold unixF; omega
  rw [hk] at a65
  clear hr hD hk
  generalize unixF l s D = n at *
  go_enter Try.func33, Try.ntmps33
  go_wp2_with fail
  refine (a65 _ (Kd.C_below HR.out (((Below.refl _ w).alloc (Nat.le_refl _) _).alloc (by simp) _))).mono ?_
  rintro en w1 ⟨⟨p, rfl, h2⟩, hB⟩
  obtain ⟨kb, rfl, hct⟩ := (by first | exact h2 rfl | exact h2 trivial | exact h2)
  have hv : Below w.heap.size w w1 := (((Below.refl _ w).alloc (Nat.le_refl _) _).alloc (by simp) _).trans (hB.mono (by simp; omega))
  have kr : w1.heap[w.heap.size + 1]? = some (.cells #[.int .i64 0, .int .i64 0] 52 (0, 0)) := (hB.block _ (by simp)).trans (al_new _ _ _ (by simp))
  have HC := Aside0.mk hct
  clear hB a65 h2 hct
  go_wp2_with fail
  refine (a83 kb _ HC.out).mono ?_
  rintro en w2 ⟨rfl, hB⟩
  have hv2 := hv.trans (hB.mono hv.size)
  replace kr := (hB.block _ (Array.getElem?_eq_some_iff.1 kr).1).trans kr
  clear hB hv a83
  have r0 : w2.cell? ⟨w.heap.size + 1, 0, none⟩ = some (.int .i64 0) := blk_cell kr 0
  have r1 : w2.cell? ⟨w.heap.size + 1, 1, none⟩ = some (.int .i64 0) := blk_cell kr 1
  have z0 := blk_frozen kr 0
  have z1 := blk_frozen kr 1
  have hand : bits .and .i64 (n + 2208988800) 4294967295 = (n + 2208988800) % 4294967296 := and32 (by omega) (by omega)
  go_wp2

  exact bodyPost_ret (results_row_tmp rfl _ _ (w.heap.size+1) 52 _ (0,0) _ rfl (blk_put (blk_put kr 0 _ rfl) 1 _ rfl) Try.underlying52 rfl info52) rfl ⟨rfl, (hv2.setCell (p := ⟨w.heap.size + 1, 0, none⟩) (by simp) _).setCell (p := ⟨w.heap.size + 1, 1, none⟩) (by simp) _⟩
end Go.Proofs.Ytleipbanadnchaa.C
