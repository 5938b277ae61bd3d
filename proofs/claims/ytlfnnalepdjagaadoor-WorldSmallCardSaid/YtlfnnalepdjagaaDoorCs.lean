/- The contract of set. -/
import Derived.OwnWalk
import Derived.BigRegion
import Derived.WalkKit
import Derived.Great.Walk
import Derived.Deep.CutBlock
import Derived.Deep.RegionHeld3
import Derived.Test.YtlfnnalepdjagaaDoorKa
import Derived.Test.YtlfnnalepdjagaaDoorBd
namespace Go.Proofs.YtlfnnalepdjagaaDoor.C
open Go.RowKit Go.Shelf Go.Maps Go.Proofs.YtlfnnalepdjagaaDoorW.PrintWords Go.Proofs.YtlfnnalepdjagaaDoorW.PrintLast Go.Proofs.YtlfnnalepdjagaaDoorW.PrintMore
set_option linter.unusedVariables false
set_option linter.unusedSimpArgs false
/-- The memory that set finds. -/
structure SetMem (w : World) (P Bh Bk Be : Nat) (kd : Int) : Prop where
  p : w.heap[P]? = some (.cells #[.int .u64 0, .slice (some ⟨Bh, 0, none⟩) 1 1, .slice (some ⟨Bk, 0, none⟩) 2 2] 26 (0, 0))
  h : w.heap[Bh]? = some (.cells #[.int .i64 5, .int .i64 5, .int .i64 9] 85 (0, 0))
  k : w.heap[Bk]? = some (.cells #[.int .i64 1, .int .i64 0, .int .i64 0, .int .i64 0, .int .i64 0, .int .i64 0, .int .i64 0, .int .i64 0, .slice none 0 0, .int .i64 kd, .int .i64 0, .int .i64 0, .int .i64 0, .int .i64 0, .int .i64 0, .int .i64 0, .int .i64 0, .slice (some ⟨Be, 0, none⟩) 1 1] 88 (0, 0))
  e : w.heap[Be]? = some (.cells #[.int .i64 2, .int .i64 3, .int .i64 0] 90 (0, 0))
/-- What set leaves. -/
def SetDone (w w' : World) (b P Bh Bk : Nat) : Prop := (∃ (ch : T3) (c1 : Ck), WAt 90 w' (some ⟨Bh, 0, none⟩) (some ⟨Bk, 0, none⟩) [ch] [⟨1, 0, 0, 0, 0, 0, 0, 0, []⟩, c1] ∧ c1.es.length ≤ 40 ∧ ∀ ev ∈ c1.es, -9223372036854775808 ≤ ev.1 ∧ ev.1 ≤ 9223372036854775807) ∧ w'.heap[P]? = some (.cells #[.int .u64 0, .slice (some ⟨Bh, 0, none⟩) 1 1, .slice (some ⟨Bk, 0, none⟩) 2 2] 26 (0, 0)) ∧ Below b w w'
theorem set_done {w w' : World} {b P Bh Bk Be : Nat} {a0 a1 a2 x0 x1 x2 x3 x4 x5 x6 x7 e0 e1 e2 : Int} (he : -9223372036854775808 ≤ e0 ∧ e0 ≤ 9223372036854775807)
    (hp : w'.heap[P]? = some (.cells #[.int .u64 0, .slice (some ⟨Bh, 0, none⟩) 1 1, .slice (some ⟨Bk, 0, none⟩) 2 2] 26 (0, 0)))
    (hh : w'.heap[Bh]? = some (.cells #[.int .i64 a0, .int .i64 a1, .int .i64 a2] 85 (0, 0)))
    (hk : w'.heap[Bk]? = some (.cells #[.int .i64 1, .int .i64 0, .int .i64 0, .int .i64 0, .int .i64 0, .int .i64 0, .int .i64 0, .int .i64 0, .slice none 0 0, .int .i64 x0, .int .i64 x1, .int .i64 x2, .int .i64 x3, .int .i64 x4, .int .i64 x5, .int .i64 x6, .int .i64 x7, .slice (some ⟨Be, 0, none⟩) 1 1] 88 (0, 0)))
    (hE : w'.heap[Be]? = some (.cells #[.int .i64 e0, .int .i64 e1, .int .i64 e2] 90 (0, 0))) (hB : Below b w w') : SetDone w w' b P Bh Bk := by
  refine ⟨⟨(a0, a1, a2), ⟨x0, x1, x2, x3, x4, x5, x6, x7, [(e0, e1, e2)]⟩, ⟨?_, ?_⟩, by simp, fun ev hev => by simp at hev; subst hev; exact he⟩, hp, hB⟩
  · exact blk_C k3 ([((a0, a1, a2), [.int .i64 a0, .int .i64 a1, .int .i64 a2])] : List (T3 × List Value)) hh (by simp; rfl) (fun y hy => by simp at hy; subst hy; exact k3_mk _ (a0, a1, a2)) (by simp)
  · refine blk_C (kck 90) ([(⟨1, 0, 0, 0, 0, 0, 0, 0, []⟩, [.int .i64 1, .int .i64 0, .int .i64 0, .int .i64 0, .int .i64 0, .int .i64 0, .int .i64 0, .int .i64 0, .slice none 0 0]), (⟨x0, x1, x2, x3, x4, x5, x6, x7, [(e0, e1, e2)]⟩, [.int .i64 x0, .int .i64 x1, .int .i64 x2, .int .i64 x3, .int .i64 x4, .int .i64 x5, .int .i64 x6, .int .i64 x7, .slice (some ⟨Be, 0, none⟩) 1 1])] : List (Ck × List Value)) hk (fun z hz => by simp at hz; rcases hz with rfl | rfl <;> rfl) (fun z hz => by
      simp at hz
      rcases hz with rfl | rfl
      · exact ck_K ⟨1, 0, 0, 0, 0, 0, 0, 0, []⟩ none 0 (by simp) (C_nil _ _)
      · exact ck_K ⟨x0, x1, x2, x3, x4, x5, x6, x7, [(e0, e1, e2)]⟩ (some ⟨Be, 0, none⟩) 1 (by simp) (blk_C k3 ([((e0, e1, e2), [.int .i64 e0, .int .i64 e1, .int .i64 e2])] : List (T3 × List Value)) hE (by simp; rfl) (fun y hy => by simp at hy; subst hy; exact k3_mk _ (e0, e1, e2)) (by simp))) (by simp)
set_option maxHeartbeats 4000000 in
set_option maxRecDepth 100000 in
theorem set_small (n v kd : Int) (w : World) (b P Bh Bk Be : Nat) (hM : SetMem w P Bh Bk Be kd) (hn : 0 ≤ n ∧ n ≤ 12) (hv9 : -200000000000000 ≤ v ∧ v ≤ 200000000000000) (hb : b ≤ Bh ∧ b ≤ Bk ∧ b ≤ Be ∧ b ≤ w.heap.size) (hne : P ≠ Bh ∧ P ≠ Bk ∧ P ≠ Be ∧ Bh ≠ Bk ∧ Bh ≠ Be ∧ Bk ≠ Be) :
    Calls Tryd.prog 43 #[.pointer (some ⟨P, 0, none⟩), .int .i64 n, .int .i64 v] w fun e w' => (∃ r, e = .returned r) ∧ SetDone w w' b P Bh Bk := by
  have p1 : w.cell? ⟨P, 1, none⟩ = some (.slice (some ⟨Bh, 0, none⟩) 1 1) := blk_cell hM.p 1
  have p2 : w.cell? ⟨P, 2, none⟩ = some (.slice (some ⟨Bk, 0, none⟩) 2 2) := blk_cell hM.p 2
  have k17 : w.cell? ⟨Bk, 17, none⟩ = some (.slice (some ⟨Be, 0, none⟩) 1 1) := blk_cell hM.k 17
  have HM := Aside0.mk hM
  have HB := Aside0.mk (Below.refl b w)
  have HNE := Aside0.mk hne
  have HBB := Aside0.mk hb
  have HV := Aside0.mk hv9
  clear hM hne hb hv9
  have hc : n = 0 ∨ n = 1 ∨ n = 2 ∨ n = 3 ∨ n = 4 ∨ n = 5 ∨ n = 6 ∨ n = 7 ∨ n = 8 ∨ n = 9 ∨ n = 10 ∨ n = 11 ∨ n = 12 := by omega
  clear hn
  rcases hc with rfl | rfl | rfl | rfl | rfl | rfl | rfl | rfl | rfl | rfl | rfl | rfl | rfl
  · have q0 : w.cell? ⟨Bk, 10, none⟩ = some (.int .i64 0) := blk_cell HM.out.k 10
    have qf : w.frozen? ⟨Bk, 10, none⟩ = false := blk_frozen HM.out.k 10
    go_enter Tryd.func43, Tryd.ntmps43
    go_wp2
    refine Go.Great.bodyPost_end0 (P := Tryd.prog) rfl rfl ?_
    exact ⟨⟨_, rfl⟩, set_done ⟨by decide, by decide⟩ (blk_far HM.out.p (by simpa using HNE.out.2.1) _) (blk_far HM.out.h (by simpa using HNE.out.2.2.2.1) _) (blk_put HM.out.k 10 (.int .i64 v) rfl) (blk_far HM.out.e (by simpa using HNE.out.2.2.2.2.2.symm) _) (HB.out.setCell (by have := HBB.out; simp; omega) _)⟩
  · have q0 : w.cell? ⟨Bk, 11, none⟩ = some (.int .i64 0) := blk_cell HM.out.k 11
    have qf : w.frozen? ⟨Bk, 11, none⟩ = false := blk_frozen HM.out.k 11
    go_enter Tryd.func43, Tryd.ntmps43
    go_wp2
    refine Go.Great.bodyPost_end0 (P := Tryd.prog) rfl rfl ?_
    exact ⟨⟨_, rfl⟩, set_done ⟨by decide, by decide⟩ (blk_far HM.out.p (by simpa using HNE.out.2.1) _) (blk_far HM.out.h (by simpa using HNE.out.2.2.2.1) _) (blk_put HM.out.k 11 (.int .i64 v) rfl) (blk_far HM.out.e (by simpa using HNE.out.2.2.2.2.2.symm) _) (HB.out.setCell (by have := HBB.out; simp; omega) _)⟩
  · have q0 : w.cell? ⟨Bk, 12, none⟩ = some (.int .i64 0) := blk_cell HM.out.k 12
    have qf : w.frozen? ⟨Bk, 12, none⟩ = false := blk_frozen HM.out.k 12
    go_enter Tryd.func43, Tryd.ntmps43
    go_wp2
    refine Go.Great.bodyPost_end0 (P := Tryd.prog) rfl rfl ?_
    exact ⟨⟨_, rfl⟩, set_done ⟨by decide, by decide⟩ (blk_far HM.out.p (by simpa using HNE.out.2.1) _) (blk_far HM.out.h (by simpa using HNE.out.2.2.2.1) _) (blk_put HM.out.k 12 (.int .i64 v) rfl) (blk_far HM.out.e (by simpa using HNE.out.2.2.2.2.2.symm) _) (HB.out.setCell (by have := HBB.out; simp; omega) _)⟩
  · have q0 : w.cell? ⟨Bk, 13, none⟩ = some (.int .i64 0) := blk_cell HM.out.k 13
    have qf : w.frozen? ⟨Bk, 13, none⟩ = false := blk_frozen HM.out.k 13
    go_enter Tryd.func43, Tryd.ntmps43
    go_wp2
    refine Go.Great.bodyPost_end0 (P := Tryd.prog) rfl rfl ?_
    exact ⟨⟨_, rfl⟩, set_done ⟨by decide, by decide⟩ (blk_far HM.out.p (by simpa using HNE.out.2.1) _) (blk_far HM.out.h (by simpa using HNE.out.2.2.2.1) _) (blk_put HM.out.k 13 (.int .i64 v) rfl) (blk_far HM.out.e (by simpa using HNE.out.2.2.2.2.2.symm) _) (HB.out.setCell (by have := HBB.out; simp; omega) _)⟩
  · have q0 : w.cell? ⟨Bk, 14, none⟩ = some (.int .i64 0) := blk_cell HM.out.k 14
    have qf : w.frozen? ⟨Bk, 14, none⟩ = false := blk_frozen HM.out.k 14
    go_enter Tryd.func43, Tryd.ntmps43
    go_wp2
    refine Go.Great.bodyPost_end0 (P := Tryd.prog) rfl rfl ?_
    exact ⟨⟨_, rfl⟩, set_done ⟨by decide, by decide⟩ (blk_far HM.out.p (by simpa using HNE.out.2.1) _) (blk_far HM.out.h (by simpa using HNE.out.2.2.2.1) _) (blk_put HM.out.k 14 (.int .i64 v) rfl) (blk_far HM.out.e (by simpa using HNE.out.2.2.2.2.2.symm) _) (HB.out.setCell (by have := HBB.out; simp; omega) _)⟩
  · have q0 : w.cell? ⟨Bk, 15, none⟩ = some (.int .i64 0) := blk_cell HM.out.k 15
    have qf : w.frozen? ⟨Bk, 15, none⟩ = false := blk_frozen HM.out.k 15
    go_enter Tryd.func43, Tryd.ntmps43
    go_wp2
    refine Go.Great.bodyPost_end0 (P := Tryd.prog) rfl rfl ?_
    exact ⟨⟨_, rfl⟩, set_done ⟨by decide, by decide⟩ (blk_far HM.out.p (by simpa using HNE.out.2.1) _) (blk_far HM.out.h (by simpa using HNE.out.2.2.2.1) _) (blk_put HM.out.k 15 (.int .i64 v) rfl) (blk_far HM.out.e (by simpa using HNE.out.2.2.2.2.2.symm) _) (HB.out.setCell (by have := HBB.out; simp; omega) _)⟩
  · have q0 : w.cell? ⟨Bk, 16, none⟩ = some (.int .i64 0) := blk_cell HM.out.k 16
    have qf : w.frozen? ⟨Bk, 16, none⟩ = false := blk_frozen HM.out.k 16
    go_enter Tryd.func43, Tryd.ntmps43
    go_wp2
    refine Go.Great.bodyPost_end0 (P := Tryd.prog) rfl rfl ?_
    exact ⟨⟨_, rfl⟩, set_done ⟨by decide, by decide⟩ (blk_far HM.out.p (by simpa using HNE.out.2.1) _) (blk_far HM.out.h (by simpa using HNE.out.2.2.2.1) _) (blk_put HM.out.k 16 (.int .i64 v) rfl) (blk_far HM.out.e (by simpa using HNE.out.2.2.2.2.2.symm) _) (HB.out.setCell (by have := HBB.out; simp; omega) _)⟩
  · have q0 : w.cell? ⟨Bh, 0, none⟩ = some (.int .i64 5) := blk_cell HM.out.h 0
    have qf : w.frozen? ⟨Bh, 0, none⟩ = false := blk_frozen HM.out.h 0
    go_enter Tryd.func43, Tryd.ntmps43
    go_wp2
    refine Go.Great.bodyPost_end0 (P := Tryd.prog) rfl rfl ?_
    exact ⟨⟨_, rfl⟩, set_done ⟨by decide, by decide⟩ (blk_far HM.out.p (by simpa using HNE.out.1) _) (blk_put HM.out.h 0 (.int .i64 v) rfl) (blk_far HM.out.k (by simpa using HNE.out.2.2.2.1.symm) _) (blk_far HM.out.e (by simpa using HNE.out.2.2.2.2.1.symm) _) (HB.out.setCell (by have := HBB.out; simp; omega) _)⟩
  · have q0 : w.cell? ⟨Bh, 1, none⟩ = some (.int .i64 5) := blk_cell HM.out.h 1
    have qf : w.frozen? ⟨Bh, 1, none⟩ = false := blk_frozen HM.out.h 1
    go_enter Tryd.func43, Tryd.ntmps43
    go_wp2
    refine Go.Great.bodyPost_end0 (P := Tryd.prog) rfl rfl ?_
    exact ⟨⟨_, rfl⟩, set_done ⟨by decide, by decide⟩ (blk_far HM.out.p (by simpa using HNE.out.1) _) (blk_put HM.out.h 1 (.int .i64 v) rfl) (blk_far HM.out.k (by simpa using HNE.out.2.2.2.1.symm) _) (blk_far HM.out.e (by simpa using HNE.out.2.2.2.2.1.symm) _) (HB.out.setCell (by have := HBB.out; simp; omega) _)⟩
  · have q0 : w.cell? ⟨Bh, 2, none⟩ = some (.int .i64 9) := blk_cell HM.out.h 2
    have qf : w.frozen? ⟨Bh, 2, none⟩ = false := blk_frozen HM.out.h 2
    go_enter Tryd.func43, Tryd.ntmps43
    go_wp2
    refine Go.Great.bodyPost_end0 (P := Tryd.prog) rfl rfl ?_
    exact ⟨⟨_, rfl⟩, set_done ⟨by decide, by decide⟩ (blk_far HM.out.p (by simpa using HNE.out.1) _) (blk_put HM.out.h 2 (.int .i64 v) rfl) (blk_far HM.out.k (by simpa using HNE.out.2.2.2.1.symm) _) (blk_far HM.out.e (by simpa using HNE.out.2.2.2.2.1.symm) _) (HB.out.setCell (by have := HBB.out; simp; omega) _)⟩
  · have q0 : w.cell? ⟨Be, 1, none⟩ = some (.int .i64 3) := blk_cell HM.out.e 1
    have qf : w.frozen? ⟨Be, 1, none⟩ = false := blk_frozen HM.out.e 1
    go_enter Tryd.func43, Tryd.ntmps43
    go_wp2
    refine Go.Great.bodyPost_end0 (P := Tryd.prog) rfl rfl ?_
    exact ⟨⟨_, rfl⟩, set_done ⟨by decide, by decide⟩ (blk_far HM.out.p (by simpa using HNE.out.2.2.1) _) (blk_far HM.out.h (by simpa using HNE.out.2.2.2.2.1) _) (blk_far HM.out.k (by simpa using HNE.out.2.2.2.2.2) _) (blk_put HM.out.e 1 (.int .i64 v) rfl) (HB.out.setCell (by have := HBB.out; simp; omega) _)⟩
  · have q0 : w.cell? ⟨Be, 2, none⟩ = some (.int .i64 0) := blk_cell HM.out.e 2
    have qf : w.frozen? ⟨Be, 2, none⟩ = false := blk_frozen HM.out.e 2
    go_enter Tryd.func43, Tryd.ntmps43
    go_wp2
    refine Go.Great.bodyPost_end0 (P := Tryd.prog) rfl rfl ?_
    exact ⟨⟨_, rfl⟩, set_done ⟨by decide, by decide⟩ (blk_far HM.out.p (by simpa using HNE.out.2.2.1) _) (blk_far HM.out.h (by simpa using HNE.out.2.2.2.2.1) _) (blk_far HM.out.k (by simpa using HNE.out.2.2.2.2.2) _) (blk_put HM.out.e 2 (.int .i64 v) rfl) (HB.out.setCell (by have := HBB.out; simp; omega) _)⟩
  · have q0 : w.cell? ⟨Be, 0, none⟩ = some (.int .i64 2) := blk_cell HM.out.e 0
    have qf : w.frozen? ⟨Be, 0, none⟩ = false := blk_frozen HM.out.e 0
    go_enter Tryd.func43, Tryd.ntmps43
    go_wp2
    refine Go.Great.bodyPost_end0 (P := Tryd.prog) rfl rfl ?_
    exact ⟨⟨_, rfl⟩, set_done ⟨by have := HV.out; omega, by have := HV.out; omega⟩ (blk_far HM.out.p (by simpa using HNE.out.2.2.1) _) (blk_far HM.out.h (by simpa using HNE.out.2.2.2.2.1) _) (blk_far HM.out.k (by simpa using HNE.out.2.2.2.2.2) _) (blk_put HM.out.e 0 (.int .i64 v) rfl) (HB.out.setCell (by have := HBB.out; simp; omega) _)⟩
end Go.Proofs.YtlfnnalepdjagaaDoor.C
