/-
  The layout: the example that every statement asks first.
-/
import Derived.Test.YteeamlidmkpohaaLd
set_option linter.unusedVariables false
set_option linter.unusedSimpArgs false
namespace Go.Proofs.Yteeamlidmkpohaa
open Go.RowKit Go.Sort

theorem ex_right : rightW 64 4 32 1 8 = true := by decide +kernel
theorem ex_in : inW 64 4 32 1 8 267 = some 1 := by decide +kernel
theorem ex_pages : pagesT 64 4 32 1 8 = 54 := by decide +kernel
theorem ex_sectors : sectorsW 64 4 32 1 8 = 362 := by decide +kernel
theorem ex_half : oneW 64 4 32 1 8 1 2 8 = 10 := by decide +kernel
theorem ex_area : oneW 64 4 32 1 8 2 (plan1 8) (wrap64 (2 * pagesW 64 4 32)) = 18 := by decide +kernel
theorem ex_seg : segW 64 4 32 1 8 0 = 234 := by decide +kernel
theorem ex_none : rightW 0 0 0 0 0 = false := by decide +kernel

set_option maxRecDepth 100000 in
set_option maxHeartbeats 1000000 in
theorem small_any (w : World) :
    Calls Try.prog 30 #[] w fun e w' => e = .returned (.agg #[.int .i64 64, .int .i64 4, .int .i64 32, .int .i64 1, .int .i64 8]) ∧ Below w.heap.size w w' := by
  go_enter Try.func30, Try.ntmps30
  go_wp2
  exact bodyPost_ret (v := .agg #[.int .i64 64, .int .i64 4, .int .i64 32, .int .i64 1, .int .i64 8]) (by simp [results, Try.results30, go_sem]) rfl ⟨rfl, below_alloc' (Below.refl _ _) _⟩

theorem below_eq {w w1 : World} (h : w = w1) : Below w.heap.size w w1 := h ▸ Below.refl _ _

set_option maxRecDepth 100000 in
set_option maxHeartbeats 2000000 in
theorem awake11 (w : World) : Calls Try.prog 29 #[] w fun e w' => e = .returned (.bool true) ∧ Below w.heap.size w w' := by
  have x1 := ex_right; have x2 := ex_in; have x3 := ex_pages; have x4 := ex_sectors; have x5 := ex_half; have x6 := ex_area; have x7 := ex_seg; have x8 := ex_none
  go_enter Try.func29, Try.ntmps29
  go_wp2_with (go_at_call 30; refine (small_any _).mono ?_; rintro e w1 ⟨rfl, hb1⟩)
  have hbx := BoxG.new 64 4 32 1 8 w1
  have hbe : Below w.heap.size w (w1.alloc (.cells #[.int .i64 64, .int .i64 4, .int .i64 32, .int .i64 1, .int .i64 8] 24)) := below_alloc' hb1 _
  clear hb1
  generalize w1.alloc (.cells #[.int .i64 64, .int .i64 4, .int .i64 32, .int .i64 1, .int .i64 8] 24) = wa at hbx hbe ⊢
  obtain ⟨d0, d1, d2, d3, d4⟩ := id hbx
  go_wp2_with (first | (go_at_call 36; refine (in_any _ _ _ _ _ _ _).mono ?_; rintro e w2 ⟨rfl, hb⟩; replace hbx := hbx.below hb; replace hbe := below_trans' hbe hb; clear d0 d1 d2 d3 d4; obtain ⟨d0, d1, d2, d3, d4⟩ := id hbx; clear hb) | (go_at_call 32; refine (right_any _ _ _ _ _ _).mono ?_; rintro e w2 ⟨rfl, hb⟩; replace hbx := hbx.below hb; replace hbe := below_trans' hbe hb; clear d0 d1 d2 d3 d4; obtain ⟨d0, d1, d2, d3, d4⟩ := id hbx; clear hb) | (go_at_call 39; refine (pagesT_any _ _ _ _ _ _).mono ?_; rintro e w2 ⟨rfl, hb⟩; replace hbx := hbx.below hb; replace hbe := below_trans' hbe hb; clear d0 d1 d2 d3 d4; obtain ⟨d0, d1, d2, d3, d4⟩ := id hbx; clear hb) | (go_at_call 34; refine (sectors_any _ _ _ _ _ _).mono ?_; rintro e w2 ⟨rfl, hb⟩; replace hbx := hbx.below hb; replace hbe := below_trans' hbe hb; clear d0 d1 d2 d3 d4; obtain ⟨d0, d1, d2, d3, d4⟩ := id hbx; clear hb) | (go_at_call 43; refine (half_any _ _ _ _ _ _ _).mono ?_; rintro e w2 ⟨rfl, hb⟩; replace hbx := hbx.below hb; replace hbe := below_trans' hbe hb; clear d0 d1 d2 d3 d4; obtain ⟨d0, d1, d2, d3, d4⟩ := id hbx; clear hb) | (go_at_call 45; refine (area_any _ _ _ _ _ _ _).mono ?_; rintro e w2 ⟨rfl, hb⟩; replace hbx := hbx.below hb; replace hbe := below_trans' hbe hb; clear d0 d1 d2 d3 d4; obtain ⟨d0, d1, d2, d3, d4⟩ := id hbx; clear hb) | (go_at_call 37; refine (seg_any _ _ _ _ _ _ _).mono ?_; rintro e w2 ⟨rfl, hb⟩; replace hbx := hbx.below hb; replace hbe := below_trans' hbe hb; clear d0 d1 d2 d3 d4; obtain ⟨d0, d1, d2, d3, d4⟩ := id hbx; clear hb))
  go_ret
  exact ⟨rfl, hbe⟩
end Go.Proofs.Yteeamlidmkpohaa
