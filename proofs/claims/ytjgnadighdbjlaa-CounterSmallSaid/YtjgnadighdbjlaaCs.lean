/- Contract of the reference's check of a net, by hand. -/
import Derived.OwnWalk
import Derived.Deep.RegionHeld3
import Derived.Test.YtjgnadighdbjlaaCr
namespace Go.Proofs.Ytjgnadighdbjlaa.C
open Go.RowKit Go.Shelf Go.Maps Go.Proofs.YtjgnadighdbjlaaW.PrintWords Go.Proofs.YtjgnadighdbjlaaW.PrintLast Go.Proofs.YtjgnadighdbjlaaW.PrintMore
set_option linter.unusedVariables false
set_option linter.unusedSimpArgs false
theorem badB_iff (n A B lo hi : Int) : badB n (A, B, lo, hi) = true ↔ A < 0 ∨ n ≤ A ∨ B < 0 ∨ n ≤ B ∨ A = B ∨ lo < -1000000000000000 ∨ 1000000000000000 < hi ∨ hi < lo := by
  unfold badB; simp; omega
theorem badB_no {n A B lo hi : Int} (h : ¬ (A < 0 ∨ n ≤ A ∨ B < 0 ∨ n ≤ B ∨ A = B ∨ lo < -1000000000000000 ∨ 1000000000000000 < hi ∨ hi < lo)) : badB n (A, B, lo, hi) = false := by
  rw [← badB_iff] at h; simpa using h
set_option maxHeartbeats 2000000 in
set_option maxRecDepth 100000 in
theorem rchecked_calls (n : Int) (A : Option Addr) (c : Nat) (l : List Bd) (w : World) (hr : Kd.C kb w A l.length l) :
    Calls Try.prog 33 #[.int .i64 n, .slice A l.length c] w fun e w' => e = .returned (.int .i64 (checkedF n l)) ∧ Below w.heap.size w w' := by
  have hv := Below.refl w.heap.size w
  have HR := Aside0.mk hr
  have hll : l.length ≤ 9223372036854775807 := hr.2.1
  clear hr
  by_cases hn : n < 1
  · have HE : Aside0 (checkedF n l = 1) := ⟨by unfold checkedF; rw [if_pos (Or.inl hn)]⟩
    go_enter Try.func33, Try.ntmps33
    go_wp2
    go_ret
    exact ⟨by rw [HE.out]; rfl, hv⟩
  by_cases hn2 : 16 < n
  · have HE : Aside0 (checkedF n l = 1) := ⟨by unfold checkedF; rw [if_pos (Or.inr hn2)]⟩
    go_enter Try.func33, Try.ntmps33
    go_wp2
    go_ret
    exact ⟨by rw [HE.out]; rfl, hv⟩
  by_cases hl : 240 < l.length
  · have HE : Aside0 (checkedF n l = 2) := ⟨by unfold checkedF; rw [if_neg (by omega), if_pos hl]⟩
    have hl2 : (240 : Int) < (l.length : Int) := by omega
    go_enter Try.func33, Try.ntmps33
    go_wp2
    go_ret
    exact ⟨by rw [HE.out]; rfl, hv⟩
  have hl2 : ¬ (240 : Int) < (l.length : Int) := by omega
  have HE : Aside0 (checkedF n l = if l.any (badB n) then 6 else 0) := ⟨by unfold checkedF; rw [if_neg (by omega), if_neg hl]⟩
  have HV := Aside0.mk hv
  clear hv
  go_enter Try.func33, Try.ntmps33
  go_wp2_with fail
  go_loopw [5] (fun v5 wr => ∃ i : Nat, i ≤ l.length ∧ v5 = .int .i64 i ∧ Aside0 (∀ j (hj : j < l.length), j < i → badB n l[j] = false) ∧ Aside0 (Below w.heap.size w wr)) (fun v _ => l.length - (intOf v).toNat)
  case atStart => exact ⟨0, by omega, rfl, ⟨fun j _ hj => absurd hj (by omega)⟩, HV⟩
  case round =>
    obtain ⟨i, hi, rfl, HN, HB⟩ := hrel
    by_cases hlt : i < l.length
    · obtain ⟨ad, rfl, hc0, hc1, hc2, hc3⟩ := C_bd (Kd.C_below HR.out HB.out) i hlt hlt
      have hd1 : (i : Int) < (l.length : Int) := by omega
      have hwi := wrp ((i : Int) + 1) (by omega) (by omega)
      have HG : Aside0 (badB n l[i] = false → ∀ j (hj : j < l.length), j < i + 1 → badB n l[j] = false) := ⟨fun hb j hj hji => by
        by_cases e : j = i
        · subst e; exact hb
        · exact HN.out j hj (by omega)⟩
      have HX : Aside0 (badB n l[i] = true → checkedF n l = 6) := ⟨fun hb => by rw [HE.out, if_pos (List.any_eq_true.2 ⟨_, List.getElem_mem hlt, hb⟩)]⟩
      generalize l[i] = x at *
      obtain ⟨a, b, lo, hi'⟩ := x
      simp only at hc0 hc1 hc2 hc3
      go_wp2
      all_goals
        first
          | (go_ret
             exact ⟨by rw [HX.out ((badB_iff n a b lo hi').2 (by first | omega | (simp_all; omega)))]; rfl, HB.out.alloc HB.out.size _⟩)
          | (go_roundw
             case rel => exact ⟨i + 1, by omega, by go_num, ⟨HG.out (badB_no (by first | omega | (simp_all; omega)))⟩, ⟨HB.out.alloc HB.out.size _⟩⟩
             case measure => simp [intOf]; omega)
    · obtain rfl : i = l.length := by omega
      have HX : Aside0 (checkedF n l = 0) := ⟨by
        rw [HE.out, if_neg]
        rw [List.any_eq_true]
        rintro ⟨x, hx, hb⟩
        obtain ⟨j, hj, rfl⟩ := List.getElem_of_mem hx
        rw [HN.out j hj hj] at hb
        cases hb⟩
      go_wp2
      go_ret
      exact ⟨by rw [HX.out]; rfl, HB.out⟩
end Go.Proofs.Ytjgnadighdbjlaa.C
