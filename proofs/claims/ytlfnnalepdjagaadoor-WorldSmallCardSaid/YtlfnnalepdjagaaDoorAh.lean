/- The contract of Check, by hand. -/
import Derived.OwnWalk
import Derived.BigRegion
import Derived.Deep.Cut
import Derived.Deep.RegionHeld3
import Derived.Test.YtlfnnalepdjagaaDoorAg
namespace Go.Proofs.YtlfnnalepdjagaaDoor.C
open Go.RowKit Go.Shelf Go.Maps Go.Proofs.YtlfnnalepdjagaaDoorW.PrintWords Go.Proofs.YtlfnnalepdjagaaDoorW.PrintLast Go.Proofs.YtlfnnalepdjagaaDoorW.PrintMore
set_option linter.unusedVariables false
set_option linter.unusedSimpArgs false
/-- A world in memory; e: the type of the events. -/
structure WAt (e : Nat) (w : World) (Ah Ak : Option Addr) (chs : List T3) (cks : List Ck) : Prop where
  h : Kd.C k3 w Ah chs.length chs
  k : Kd.C (kck e) w Ak cks.length cks
theorem WAt.below {e : Nat} {w w' : World} {Ah Ak : Option Addr} {chs : List T3} {cks : List Ck} (h : WAt e w Ah Ak chs cks) (hB : Below w.heap.size w w') : WAt e w' Ah Ak chs cks := ⟨Kd.C_below h.h hB, Kd.C_below h.k hB⟩
/-- Numbers that are numbers. -/
def WfK (cks : List Ck) : Prop := ∀ x ∈ cks, ∀ ev ∈ x.es, -9223372036854775808 ≤ ev.1 ∧ ev.1 ≤ 9223372036854775807
abbrev woV (seed : Int) (Ah : Option Addr) (nh ch : Nat) (Ak : Option Addr) (nk ck : Nat) : Value := .agg #[.int .u64 seed, .slice Ah nh ch, .slice Ak nk ck]
/-- What Check answers. -/
def checkW (chs : List T3) (cks : List Ck) : Int :=
  if inW (chs.length : Int) 1 8 && inW (cks.length : Int) 1 16 then if chs.any badCh then 6 else if cks.any (badCk chs.length) then 20 else if cks.any (fun x => badEv x.es) then 21 else 0 else 2
set_option maxHeartbeats 4000000 in
set_option maxRecDepth 100000 in
theorem Check_calls (seed : Int) (Ah : Option Addr) (chc : Nat) (Ak : Option Addr) (ckc : Nat) (chs : List T3) (cks : List Ck) (w : World) (hL : Lim w) (hW : WAt 51 w Ah Ak chs cks) (hwf : WfK cks) :
    Calls Tryd.prog 24 #[woV seed Ah chs.length chc Ak cks.length ckc] w fun e w' => e = .returned (.int .i64 (checkW chs cks)) ∧ Below w.heap.size w w' := by
  have hlh : chs.length ≤ 9223372036854775807 := hW.h.2.1
  have hlk : cks.length ≤ 9223372036854775807 := hW.k.2.1
  obtain ⟨w1, hw1⟩ : ∃ w1, w.alloc (.cells #[.int .u64 seed, .slice Ah chs.length chc, .slice Ak cks.length ckc] 32) = w1 := ⟨_, rfl⟩
  have hB : Below w.heap.size w w1 := by rw [← hw1]; exact (Below.refl _ _).alloc (Nat.le_refl _) _
  have kb : w1.heap[w.heap.size]? = some (.cells #[.int .u64 seed, .slice Ah chs.length chc, .slice Ak cks.length ckc] 32 (0, 0)) := by rw [← hw1]; exact al_new _ _ _ rfl
  have c1 := fun w => inW_calls (chs.length : Int) 1 8 w
  have c2 := fun w => inW_calls (cks.length : Int) 1 16 w
  have c3 := fun (W : World) (hB2 : Below w.heap.size w W) => containsFuncH_calls Ah chc chs 61 #[] (enters_of Tryd.func61 (by kernel_rfl) rfl) badCh W (Kd.C_below hW.h hB2) (fun W' x _ _ => chamber_calls x.1 x.2.1 x.2.2 W')
  have c4 := fun (W : World) (hB2 : Below w.heap.size w W) (hk : W.heap[w.heap.size]? = some (.cells #[.int .u64 seed, .slice Ah chs.length chc, .slice Ak cks.length ckc] 32 (0, 0))) => containsFuncK_calls 51 Ak ckc cks 62 #[.pointer (some ⟨w.heap.size, 0, none⟩)] (enters_of Tryd.func62 (by kernel_rfl) rfl) (badCk chs.length) W (Kd.C_below hW.k hB2) (fun W' x Ae ce _ _ _ hB3 => clock_calls x Ae ce w.heap.size seed Ah chs.length chc (.slice Ak cks.length ckc) W' (hL.below (hB2.trans (hB3.mono hB2.size))) hlh (blk_on hB3 hk))
  have c5 := fun (W : World) (hB2 : Below w.heap.size w W) => containsFuncK_calls 51 Ak ckc cks 63 #[] (enters_of Tryd.func63 (by kernel_rfl) rfl) (fun x => badEv x.es) W (Kd.C_below hW.k hB2) (fun W' x Ae ce hx _ hC hB3 => events_calls x Ae ce W' hC (hwf x hx))
  have HKB := Aside0.mk kb
  have HV := Aside0.mk hB
  clear hL hW hwf kb hB
  unfold checkW woV
  generalize inW (chs.length : Int) 1 8 = r1 at *
  generalize inW (cks.length : Int) 1 16 = r2 at *
  generalize chs.any badCh = r3 at *
  generalize cks.any (badCk chs.length) = r4 at *
  generalize cks.any (fun x => badEv x.es) = r5 at *
  have x1 : w1.cell? ⟨w.heap.size, 1, none⟩ = some (.slice Ah chs.length chc) := blk_cell HKB.out 1
  cases r1
  · skip
    go_enter Tryd.func24, Tryd.ntmps24
    go_wp2_with fail
    try rw [hw1]
    refine (c1 _).mono ?_
    rintro en we1 ⟨rfl, hB⟩
    replace HKB := Aside0.mk (blk_on hB HKB.out)
    replace HV := Aside0.mk (HV.out.trans (hB.mono HV.out.size))
    clear hB c1
    go_wp2_with fail
    go_ret
    exact ⟨rfl, HV.out⟩
  · cases r2
    · skip
      go_enter Tryd.func24, Tryd.ntmps24
      go_wp2_with fail
      try rw [hw1]
      refine (c1 _).mono ?_
      rintro en we1 ⟨rfl, hB⟩
      replace HKB := Aside0.mk (blk_on hB HKB.out)
      replace HV := Aside0.mk (HV.out.trans (hB.mono HV.out.size))
      clear hB c1
      have y : we1.cell? ⟨w.heap.size, 2, none⟩ = some (.slice Ak cks.length ckc) := blk_cell HKB.out 2
      go_wp2_with fail
      clear y
      refine (c2 _).mono ?_
      rintro en we2 ⟨rfl, hB⟩
      replace HKB := Aside0.mk (blk_on hB HKB.out)
      replace HV := Aside0.mk (HV.out.trans (hB.mono HV.out.size))
      clear hB c2
      go_wp2_with fail
      go_ret
      exact ⟨rfl, HV.out⟩
    · cases r3
      rotate_left
      · skip
        go_enter Tryd.func24, Tryd.ntmps24
        go_wp2_with fail
        try rw [hw1]
        refine (c1 _).mono ?_
        rintro en we1 ⟨rfl, hB⟩
        replace HKB := Aside0.mk (blk_on hB HKB.out)
        replace HV := Aside0.mk (HV.out.trans (hB.mono HV.out.size))
        clear hB c1
        have y : we1.cell? ⟨w.heap.size, 2, none⟩ = some (.slice Ak cks.length ckc) := blk_cell HKB.out 2
        go_wp2_with fail
        clear y
        refine (c2 _).mono ?_
        rintro en we2 ⟨rfl, hB⟩
        replace HKB := Aside0.mk (blk_on hB HKB.out)
        replace HV := Aside0.mk (HV.out.trans (hB.mono HV.out.size))
        clear hB c2
        have y : we2.cell? ⟨w.heap.size, 1, none⟩ = some (.slice Ah chs.length chc) := blk_cell HKB.out 1
        go_wp2_with fail
        clear y
        refine (c3 _ HV.out).mono ?_
        rintro en we3 ⟨rfl, hB⟩
        replace HKB := Aside0.mk (blk_on hB HKB.out)
        replace HV := Aside0.mk (HV.out.trans (hB.mono HV.out.size))
        clear hB c3
        go_wp2_with fail
        go_ret
        exact ⟨rfl, HV.out⟩
      · cases r4
        rotate_left
        · skip
          go_enter Tryd.func24, Tryd.ntmps24
          go_wp2_with fail
          try rw [hw1]
          refine (c1 _).mono ?_
          rintro en we1 ⟨rfl, hB⟩
          replace HKB := Aside0.mk (blk_on hB HKB.out)
          replace HV := Aside0.mk (HV.out.trans (hB.mono HV.out.size))
          clear hB c1
          have y : we1.cell? ⟨w.heap.size, 2, none⟩ = some (.slice Ak cks.length ckc) := blk_cell HKB.out 2
          go_wp2_with fail
          clear y
          refine (c2 _).mono ?_
          rintro en we2 ⟨rfl, hB⟩
          replace HKB := Aside0.mk (blk_on hB HKB.out)
          replace HV := Aside0.mk (HV.out.trans (hB.mono HV.out.size))
          clear hB c2
          have y : we2.cell? ⟨w.heap.size, 1, none⟩ = some (.slice Ah chs.length chc) := blk_cell HKB.out 1
          go_wp2_with fail
          clear y
          refine (c3 _ HV.out).mono ?_
          rintro en we3 ⟨rfl, hB⟩
          replace HKB := Aside0.mk (blk_on hB HKB.out)
          replace HV := Aside0.mk (HV.out.trans (hB.mono HV.out.size))
          clear hB c3
          have y : we3.cell? ⟨w.heap.size, 2, none⟩ = some (.slice Ak cks.length ckc) := blk_cell HKB.out 2
          go_wp2_with fail
          clear y
          refine (c4 _ HV.out HKB.out).mono ?_
          rintro en we4 ⟨rfl, hB⟩
          replace HKB := Aside0.mk (blk_on hB HKB.out)
          replace HV := Aside0.mk (HV.out.trans (hB.mono HV.out.size))
          clear hB c4
          go_wp2_with fail
          go_ret
          exact ⟨rfl, HV.out⟩
        · cases r5
          · skip
            go_enter Tryd.func24, Tryd.ntmps24
            go_wp2_with fail
            try rw [hw1]
            refine (c1 _).mono ?_
            rintro en we1 ⟨rfl, hB⟩
            replace HKB := Aside0.mk (blk_on hB HKB.out)
            replace HV := Aside0.mk (HV.out.trans (hB.mono HV.out.size))
            clear hB c1
            have y : we1.cell? ⟨w.heap.size, 2, none⟩ = some (.slice Ak cks.length ckc) := blk_cell HKB.out 2
            go_wp2_with fail
            clear y
            refine (c2 _).mono ?_
            rintro en we2 ⟨rfl, hB⟩
            replace HKB := Aside0.mk (blk_on hB HKB.out)
            replace HV := Aside0.mk (HV.out.trans (hB.mono HV.out.size))
            clear hB c2
            have y : we2.cell? ⟨w.heap.size, 1, none⟩ = some (.slice Ah chs.length chc) := blk_cell HKB.out 1
            go_wp2_with fail
            clear y
            refine (c3 _ HV.out).mono ?_
            rintro en we3 ⟨rfl, hB⟩
            replace HKB := Aside0.mk (blk_on hB HKB.out)
            replace HV := Aside0.mk (HV.out.trans (hB.mono HV.out.size))
            clear hB c3
            have y : we3.cell? ⟨w.heap.size, 2, none⟩ = some (.slice Ak cks.length ckc) := blk_cell HKB.out 2
            go_wp2_with fail
            clear y
            refine (c4 _ HV.out HKB.out).mono ?_
            rintro en we4 ⟨rfl, hB⟩
            replace HKB := Aside0.mk (blk_on hB HKB.out)
            replace HV := Aside0.mk (HV.out.trans (hB.mono HV.out.size))
            clear hB c4
            have y : we4.cell? ⟨w.heap.size, 2, none⟩ = some (.slice Ak cks.length ckc) := blk_cell HKB.out 2
            go_wp2_with fail
            clear y
            refine (c5 _ HV.out).mono ?_
            rintro en we5 ⟨rfl, hB⟩
            replace HKB := Aside0.mk (blk_on hB HKB.out)
            replace HV := Aside0.mk (HV.out.trans (hB.mono HV.out.size))
            clear hB c5
            go_wp2_with fail
            go_ret
            exact ⟨rfl, HV.out⟩
          · skip
            go_enter Tryd.func24, Tryd.ntmps24
            go_wp2_with fail
            try rw [hw1]
            refine (c1 _).mono ?_
            rintro en we1 ⟨rfl, hB⟩
            replace HKB := Aside0.mk (blk_on hB HKB.out)
            replace HV := Aside0.mk (HV.out.trans (hB.mono HV.out.size))
            clear hB c1
            have y : we1.cell? ⟨w.heap.size, 2, none⟩ = some (.slice Ak cks.length ckc) := blk_cell HKB.out 2
            go_wp2_with fail
            clear y
            refine (c2 _).mono ?_
            rintro en we2 ⟨rfl, hB⟩
            replace HKB := Aside0.mk (blk_on hB HKB.out)
            replace HV := Aside0.mk (HV.out.trans (hB.mono HV.out.size))
            clear hB c2
            have y : we2.cell? ⟨w.heap.size, 1, none⟩ = some (.slice Ah chs.length chc) := blk_cell HKB.out 1
            go_wp2_with fail
            clear y
            refine (c3 _ HV.out).mono ?_
            rintro en we3 ⟨rfl, hB⟩
            replace HKB := Aside0.mk (blk_on hB HKB.out)
            replace HV := Aside0.mk (HV.out.trans (hB.mono HV.out.size))
            clear hB c3
            have y : we3.cell? ⟨w.heap.size, 2, none⟩ = some (.slice Ak cks.length ckc) := blk_cell HKB.out 2
            go_wp2_with fail
            clear y
            refine (c4 _ HV.out HKB.out).mono ?_
            rintro en we4 ⟨rfl, hB⟩
            replace HKB := Aside0.mk (blk_on hB HKB.out)
            replace HV := Aside0.mk (HV.out.trans (hB.mono HV.out.size))
            clear hB c4
            have y : we4.cell? ⟨w.heap.size, 2, none⟩ = some (.slice Ak cks.length ckc) := blk_cell HKB.out 2
            go_wp2_with fail
            clear y
            refine (c5 _ HV.out).mono ?_
            rintro en we5 ⟨rfl, hB⟩
            replace HKB := Aside0.mk (blk_on hB HKB.out)
            replace HV := Aside0.mk (HV.out.trans (hB.mono HV.out.size))
            clear hB c5
            go_wp2_with fail
            go_ret
            exact ⟨rfl, HV.out⟩
end Go.Proofs.YtlfnnalepdjagaaDoor.C
