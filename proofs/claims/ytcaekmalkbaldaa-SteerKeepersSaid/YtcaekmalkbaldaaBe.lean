import Derived.Test.YtcaekmalkbaldaaM5
import Derived.Laws.ResultCell
namespace Go.Proofs.Ytcaekmalkbaldaa.M
open Go.RowKit Go.Proofs.YtcaekmalkbaldaaW.PrintWords Go.Proofs.YtcaekmalkbaldaaW.PrintLast Go.Proofs.YtcaekmalkbaldaaW.PrintMore
set_option linter.unusedVariables false
set_option linter.unusedSimpArgs false
section
open Go.Shelf
theorem C_ent {w : World} {A : Option Addr} {n : Nat} {l : List S59} (h : Kd.C k59 w A n l) (k : Nat) (hk : k < l.length) (hn : k < n) : ∃ ad, A = some ad ∧ w.cell? (ad.add (k * 2)) = some (.int .i64 l[k].f0) ∧ w.cell? ⟨(ad.add (k * 2)).block, (ad.add (k * 2)).off + 1, none⟩ = some (.int .i64 l[k].f1) := by
  have h1 := at_T59 h (k : Int) (by omega) (by omega)
  have h2 : rd_T59 l (k : Int) = l[k] := by simp [rd_T59, List.getElem?_eq_getElem hk]
  rw [h2] at h1
  simpa only [Int.toNat_natCast] using h1
set_option maxRecDepth 100000 in
set_option maxHeartbeats 4000000 in
theorem bestEnt_calls (A : Option Addr) (c : Nat) (l : List S59) (g : Nat) (cb : Array Value) (eg : ∀ args w, (callFunc g args).run Try.prog w = .ok (.enter g args) w) (f : S59 → Int) (w : World) (hr : Kd.C k59 w A l.length l)
    (HP : ∀ W x, x ∈ l → Below w.heap.size w W → Calls Try.prog g (#[.agg #[.int .i64 x.f0, .int .i64 x.f1]] ++ cb) W fun e W' => e = .returned (.int .i64 (f x)) ∧ Below W.heap.size W W') :
    Calls Try.prog 54 #[.slice A l.length c, .func (.func g) #[] cb] w fun e W' => e = .returned (.tuple #[.agg #[.int .i64 ((bestOf f l).getD z59).f0, .int .i64 ((bestOf f l).getD z59).f1], .bool (bestOf f l).isSome]) ∧ Below w.heap.size w W' := by
  have hlen : l.length ≤ 9223372036854775807 := hr.2.1
  have HR : Aside0 (Kd.C k59 w A l.length l) := ⟨hr⟩
  have H : Aside0 (∀ W x, x ∈ l → Below w.heap.size w W → Calls Try.prog g (#[.agg #[.int .i64 x.f0, .int .i64 x.f1]] ++ cb) W fun e W' => e = .returned (.int .i64 (f x)) ∧ Below W.heap.size W W') := ⟨HP⟩
  have hu59 := Try.underlying59
  clear hr HP
  go_enter Try.func54, Try.ntmps54
  go_wp2
  go_loopw [5, 10] (fun v5 v wr => ∃ (k : Nat) (o : Option S59), k ≤ l.length ∧ v = .int .i64 k ∧ v5 = .bool o.isSome ∧ Aside0 (wr.heap[w.heap.size]? = some (.cells #[.int .i64 (o.getD z59).f0, .int .i64 (o.getD z59).f1] 59 (0, 0))) ∧ Aside0 (bestOf f (l.take k) = o) ∧ Aside0 (Below w.heap.size w wr))
    (fun _ v _ => l.length - (intOf v).toNat)
  case atStart => exact ⟨0, none, Nat.zero_le _, rfl, rfl, ⟨World.alloc_heap_new _ _⟩, ⟨rfl⟩, ⟨(Below.refl _ _).alloc (Nat.le_refl _) _⟩⟩
  case round =>
    obtain ⟨k, o, hk, rfl, rfl, HK, HO, HB⟩ := hrel
    by_cases hlt : k < l.length
    · obtain ⟨ad, rfl, hc0, hc1⟩ := C_ent (Kd.C_below HR.out HB.out) k hlt hlt
      have HT : Aside0 (bestOf f (l.take (k + 1)) = bestStep f o l[k]) := ⟨by rw [take_snoc l k hlt, bestOf_snoc, HO.out]⟩
      have HM : Aside0 (l[k] ∈ l) := ⟨List.getElem_mem _⟩
      have hsz : w.heap.size < wr.heap.size := (Array.getElem?_eq_some_iff.1 HK.out).1
      have b0 : wr.cell? ⟨w.heap.size, 0, none⟩ = some (.int .i64 (o.getD z59).f0) := blk_cell HK.out 0
      have b1 : wr.cell? ⟨w.heap.size, 1, none⟩ = some (.int .i64 (o.getD z59).f1) := blk_cell HK.out 1
      have g0 := blk_frozen HK.out 0
      have g1 := blk_frozen HK.out 1
      generalize l[k] = y at hc0 hc1 HT HM
      cases o with
      | none =>
        simp only [Option.isSome_none]
        go_wp2
        repeat (go_quiet (fail); try go_wp2)
        go_roundw
        case rel =>
          have hK2 := blk_alloc HK.out (Obj.cells #[Value.int IntKind.i64 y.f0, Value.int IntKind.i64 y.f1] 59)
          exact ⟨k + 1, some y, by omega, by go_num, rfl, ⟨blk_set (blk_set (blk_drewN hK2 _) 0 _) 1 _⟩, HT, ⟨below_set (below_set (pw_below_drewN (HB.out.alloc (HB.out.size) _) _) (Nat.le_refl _)) (Nat.le_refl _)⟩⟩
        case measure => simp [intOf]; omega
      | some x =>
        have HX : Aside0 (x ∈ l) := ⟨List.mem_of_mem_take (bestOf_mem HO.out)⟩
        have cy : ∀ W, Below w.heap.size w W → Calls Try.prog g (#[.agg #[.int .i64 y.f0, .int .i64 y.f1]] ++ cb) W fun e W' => e = .returned (.int .i64 (f y)) ∧ Below W.heap.size W W' := fun W hB => H.out W y HM.out hB
        have cx : ∀ W, Below w.heap.size w W → Calls Try.prog g (#[.agg #[.int .i64 x.f0, .int .i64 x.f1]] ++ cb) W fun e W' => e = .returned (.int .i64 (f x)) ∧ Below W.heap.size W W' := fun W hB => H.out W x HX.out hB
        have HFF : Aside0 (bestStep f (some x) y = if f y < f x then some y else some x) := ⟨rfl⟩
        generalize hfy : f y = fy at cy HFF
        generalize hfx : f x = fx at cx HFF
        clear hfy hfx
        simp only [Option.getD_some, Option.isSome_some] at b0 b1 HK ⊢
        go_wp2_with fail
        have hsz2 : w.heap.size < (wr.alloc (Obj.cells #[Value.int IntKind.i64 y.f0, Value.int IntKind.i64 y.f1] 59)).heap.size := by simp; omega
        have HK1 := blk_alloc HK.out (Obj.cells #[Value.int IntKind.i64 y.f0, Value.int IntKind.i64 y.f1] 59)
        have HY1 : (wr.alloc (Obj.cells #[Value.int IntKind.i64 y.f0, Value.int IntKind.i64 y.f1] 59)).heap[wr.heap.size]? = some (.cells #[Value.int IntKind.i64 y.f0, Value.int IntKind.i64 y.f1] 59 (0, 0)) := World.alloc_heap_new _ _
        have HB1 : Below w.heap.size w (wr.alloc (Obj.cells #[Value.int IntKind.i64 y.f0, Value.int IntKind.i64 y.f1] 59)) := HB.out.alloc (HB.out.size) _
        generalize (wr.alloc (Obj.cells #[Value.int IntKind.i64 y.f0, Value.int IntKind.i64 y.f1] 59)) = W0 at *
        have hyl : wr.heap.size < W0.heap.size := (Array.getElem?_eq_some_iff.1 HY1).1
        have hcy : ∀ W, Below W0.heap.size W0 W → Calls Try.prog g (#[.agg #[.int .i64 y.f0, .int .i64 y.f1]] ++ cb) W fun e W' => e = .returned (.int .i64 fy) ∧ Below W.heap.size W W' := fun W hB => cy W (HB1.trans (hB.mono HB1.size))
        have hcx : ∀ W, Below W0.heap.size W0 W → Calls Try.prog g (#[.agg #[.int .i64 x.f0, .int .i64 x.f1]] ++ cb) W fun e W' => e = .returned (.int .i64 fx) ∧ Below W.heap.size W W' := fun W hB => cx W (HB1.trans (hB.mono HB1.size))
        have hS : ∀ w', Below W0.heap.size W0 w' → ((w'.cell? ⟨w.heap.size, 0, none⟩ = some (.int .i64 x.f0) ∧ w'.cell? ⟨w.heap.size, 1, none⟩ = some (.int .i64 x.f1) ∧ w'.cell? ⟨wr.heap.size, 0, none⟩ = some (.int .i64 y.f0) ∧ w'.cell? ⟨wr.heap.size, 1, none⟩ = some (.int .i64 y.f1)) ∧ Below W0.heap.size W0 w') := fun w' hB =>
          have h1 := (hB.block _ hsz2).trans HK1
          have h2 := (hB.block _ hyl).trans HY1
          ⟨⟨blk_cell h1 0, blk_cell h1 1, blk_cell h2 0, blk_cell h2 1⟩, hB⟩
        clear cy cx b0 b1 hc0 hc1
        go_region_held3 (fun w' => (w'.cell? ⟨w.heap.size, 0, none⟩ = some (.int .i64 x.f0) ∧ w'.cell? ⟨w.heap.size, 1, none⟩ = some (.int .i64 x.f1) ∧ w'.cell? ⟨wr.heap.size, 0, none⟩ = some (.int .i64 y.f0) ∧ w'.cell? ⟨wr.heap.size, 1, none⟩ = some (.int .i64 y.f1)) ∧ Below W0.heap.size W0 w') (first | exact hS _ (Below.refl _ _).drew | (have hh := ‹(_ ∧ _ ∧ _ ∧ _) ∧ Below W0.heap.size W0 _›; exact hS _ (hh.2.trans (hB.mono hh.2.size))))
          (first | (refine (hcy _ (by have hh := ‹(_ ∧ _ ∧ _ ∧ _) ∧ Below W0.heap.size W0 _›; exact hh.2)).mono ?_; rintro e w' ⟨rfl, hB⟩) | (refine (hcx _ (by have hh := ‹(_ ∧ _ ∧ _ ∧ _) ∧ Below W0.heap.size W0 _›; exact hh.2)).mono ?_; rintro e w' ⟨rfl, hB⟩))
        rename_i hHeld
        have hT := hHeld.2
        clear hHeld hS hcy hcx
        rename World => w5
        have hK5 := (hT.block _ hsz2).trans HK1
        have hY5 := (hT.block _ hyl).trans HY1
        have hB5 : Below w.heap.size w w5 := HB1.trans (hT.mono HB1.size)
        have b0 : w5.cell? ⟨w.heap.size, 0, none⟩ = some (.int .i64 x.f0) := blk_cell hK5 0
        have b1 : w5.cell? ⟨w.heap.size, 1, none⟩ = some (.int .i64 x.f1) := blk_cell hK5 1
        have h0 := blk_frozen hK5 0
        have h1 := blk_frozen hK5 1
        have y0 : w5.cell? ⟨wr.heap.size, 0, none⟩ = some (.int .i64 y.f0) := blk_cell hY5 0
        have y1 : w5.cell? ⟨wr.heap.size, 1, none⟩ = some (.int .i64 y.f1) := blk_cell hY5 1
        clear g0 g1 hT HK1 HY1 HB1
        by_cases hff : fy < fx
        · have HT2 : Aside0 (bestOf f (l.take (k + 1)) = some y) := ⟨by rw [HT.out, HFF.out, if_pos hff]⟩
          have hd : decide (fy < fx) = true := by simpa using hff
          clear hff
          rw [hd]
          clear hd
          go_wp2
          repeat (go_quiet (fail); try go_wp2)
          go_roundw
          case rel => exact ⟨k + 1, some y, by omega, by go_num, rfl, ⟨blk_set (blk_set hK5 0 _) 1 _⟩, HT2, ⟨below_set (below_set hB5 (Nat.le_refl _)) (Nat.le_refl _)⟩⟩
          case measure => simp [intOf]; omega
        · have HT2 : Aside0 (bestOf f (l.take (k + 1)) = some x) := ⟨by rw [HT.out, HFF.out, if_neg hff]⟩
          have hd : decide (fy < fx) = false := by simpa using hff
          clear hff
          rw [hd]
          clear hd
          go_wp2
          go_roundw
          case rel => exact ⟨k + 1, some x, by omega, by go_num, rfl, ⟨hK5⟩, HT2, ⟨hB5⟩⟩
          case measure => simp [intOf]; omega
    · obtain rfl : k = l.length := by omega
      have HT2 : Aside0 (bestOf f l = o) := ⟨by have := HO.out; rwa [List.take_length] at this⟩
      have b0 : wr.cell? ⟨w.heap.size, 0, none⟩ = some (.int .i64 (o.getD z59).f0) := blk_cell HK.out 0
      have b1 : wr.cell? ⟨w.heap.size, 1, none⟩ = some (.int .i64 (o.getD z59).f1) := blk_cell HK.out 1
      have g0 := blk_frozen HK.out 0
      have g1 := blk_frozen HK.out 1
      go_wp2
      (try simp only [Exit.inBlock, Exit.then])
      refine bodyPost_ret (v := .tuple #[.agg #[.int .i64 (o.getD z59).f0, .int .i64 (o.getD z59).f1], .bool o.isSome]) ?_ rfl ⟨by rw [HT2.out], ?_⟩
      · rw [results_cell_tmp rfl]
        go_simp
      · exact below_set (below_set HB.out (Nat.le_refl _)) (Nat.le_refl _)
end
end Go.Proofs.Ytcaekmalkbaldaa.M
