/-
  The layout: the functions of the package layout, by contract.
-/
import Derived.Test.YteeamlidmkpohaaLa
set_option linter.unusedVariables false
set_option linter.unusedSimpArgs false
namespace Go.Proofs.Yteeamlidmkpohaa
open Go.RowKit Go.Sort

def sectorsW (v s m u j : Int) : Int := if rightW v s m u j = true then plan3 v s m j else 0
def pagesT (v s m u j : Int) : Int := if rightW v s m u j = true then pagesW v s m else 0
def oneW (v s m u j i at_ size : Int) : Int := if rightW v s m u j = true then (if i < 0 then -1 else wrap64 (at_ + wrap64 (i % 2 * size))) else -1
def segW (v s m u j k : Int) : Int := if rightW v s m u j = true then (if k < 0 then -1 else if s ≤ k then -1 else wrap64 (plan2 v s m j + wrap64 (k * m))) else -1
def inW (v s m u j at_ : Int) : Option Int := if rightW v s m u j = true then (if at_ < plan2 v s m j then none else if plan3 v s m j ≤ at_ then none else some (wrap64 ((wrap64 (at_ - plan2 v s m j)).tdiv m))) else none

theorem right_m {v s m u j : Int} (h : rightW v s m u j = true) : 16 ≤ m := by
  simp only [rightW, Bool.and_eq_true, fromB, decide_eq_true_eq] at h
  obtain ⟨⟨⟨_, hm, _⟩, _⟩, _⟩ := h
  split at hm <;> omega

set_option maxRecDepth 100000 in
set_option maxHeartbeats 1000000 in
theorem sectors_true (v s m u j : Int) (w : World) (hR : rightW v s m u j = true) :
    Calls Try.prog 34 #[.agg #[.int .i64 v, .int .i64 s, .int .i64 m, .int .i64 u, .int .i64 j]] w fun e w' => e = .returned (.int .i64 (sectorsW v s m u j)) ∧ Below w.heap.size w w' := by
  have y := idx4_3
  go_enter Try.func34, Try.ntmps34
  go_wp2_with (first | (go_at_call 32; refine (right_any _ _ _ _ _ _).mono ?_; rintro e w1 ⟨rfl, hb1⟩; obtain ⟨hc1, hf1⟩ := bcell hb1; have hz1 := hb1.size; simp only [World.size_alloc] at hc1 hf1 hz1) | (go_at_call 124; refine (plan_any _ _ _ _ _ _).mono ?_; rintro e w2 ⟨rfl, hb2⟩))
  go_ret
  refine ⟨congrArg (fun b => Ending.returned (.int .i64 b)) ?_, ?_⟩
  · simp [sectorsW, hR]
  · (first | (with_reducible exact below_trans' (below_trans' (below_alloc' (Below.refl _ _) _) hb1) hb2) | (with_reducible exact below_trans' (below_alloc' (Below.refl _ _) _) hb1))

set_option maxRecDepth 100000 in
set_option maxHeartbeats 1000000 in
theorem sectors_false (v s m u j : Int) (w : World) (hR : rightW v s m u j = false) :
    Calls Try.prog 34 #[.agg #[.int .i64 v, .int .i64 s, .int .i64 m, .int .i64 u, .int .i64 j]] w fun e w' => e = .returned (.int .i64 (sectorsW v s m u j)) ∧ Below w.heap.size w w' := by
  have y := idx4_3
  go_enter Try.func34, Try.ntmps34
  go_wp2_with (first | (go_at_call 32; refine (right_any _ _ _ _ _ _).mono ?_; rintro e w1 ⟨rfl, hb1⟩; obtain ⟨hc1, hf1⟩ := bcell hb1; have hz1 := hb1.size; simp only [World.size_alloc] at hc1 hf1 hz1) | (go_at_call 124; refine (plan_any _ _ _ _ _ _).mono ?_; rintro e w2 ⟨rfl, hb2⟩))
  go_ret
  refine ⟨congrArg (fun b => Ending.returned (.int .i64 b)) ?_, ?_⟩
  · simp [sectorsW, hR]
  · (first | (with_reducible exact below_trans' (below_trans' (below_alloc' (Below.refl _ _) _) hb1) hb2) | (with_reducible exact below_trans' (below_alloc' (Below.refl _ _) _) hb1))

theorem sectors_any (v s m u j : Int) (w : World) :
    Calls Try.prog 34 #[.agg #[.int .i64 v, .int .i64 s, .int .i64 m, .int .i64 u, .int .i64 j]] w fun e w' => e = .returned (.int .i64 (sectorsW v s m u j)) ∧ Below w.heap.size w w' := by
  cases hR : rightW v s m u j
  · exact sectors_false v s m u j w hR
  · exact sectors_true v s m u j w hR

set_option maxRecDepth 100000 in
set_option maxHeartbeats 1000000 in
theorem pagesT_true (v s m u j : Int) (w : World) (hR : rightW v s m u j = true) :
    Calls Try.prog 39 #[.agg #[.int .i64 v, .int .i64 s, .int .i64 m, .int .i64 u, .int .i64 j]] w fun e w' => e = .returned (.int .i64 (pagesT v s m u j)) ∧ Below w.heap.size w w' := by
  have y := idx4_3
  go_enter Try.func39, Try.ntmps39
  go_wp2_with (first | (go_at_call 32; refine (right_any _ _ _ _ _ _).mono ?_; rintro e w1 ⟨rfl, hb1⟩; obtain ⟨hc1, hf1⟩ := bcell hb1; have hz1 := hb1.size; simp only [World.size_alloc] at hc1 hf1 hz1) | (go_at_call 127; refine (pages_any _ _ _ _ _ _).mono ?_; rintro e w2 ⟨rfl, hb2⟩))
  go_ret
  refine ⟨congrArg (fun b => Ending.returned (.int .i64 b)) ?_, ?_⟩
  · simp [pagesT, hR]
  · (first | (with_reducible exact below_trans' (below_trans' (below_alloc' (Below.refl _ _) _) hb1) hb2) | (with_reducible exact below_trans' (below_alloc' (Below.refl _ _) _) hb1))

set_option maxRecDepth 100000 in
set_option maxHeartbeats 1000000 in
theorem pagesT_false (v s m u j : Int) (w : World) (hR : rightW v s m u j = false) :
    Calls Try.prog 39 #[.agg #[.int .i64 v, .int .i64 s, .int .i64 m, .int .i64 u, .int .i64 j]] w fun e w' => e = .returned (.int .i64 (pagesT v s m u j)) ∧ Below w.heap.size w w' := by
  have y := idx4_3
  go_enter Try.func39, Try.ntmps39
  go_wp2_with (first | (go_at_call 32; refine (right_any _ _ _ _ _ _).mono ?_; rintro e w1 ⟨rfl, hb1⟩; obtain ⟨hc1, hf1⟩ := bcell hb1; have hz1 := hb1.size; simp only [World.size_alloc] at hc1 hf1 hz1) | (go_at_call 127; refine (pages_any _ _ _ _ _ _).mono ?_; rintro e w2 ⟨rfl, hb2⟩))
  go_ret
  refine ⟨congrArg (fun b => Ending.returned (.int .i64 b)) ?_, ?_⟩
  · simp [pagesT, hR]
  · (first | (with_reducible exact below_trans' (below_trans' (below_alloc' (Below.refl _ _) _) hb1) hb2) | (with_reducible exact below_trans' (below_alloc' (Below.refl _ _) _) hb1))

theorem pagesT_any (v s m u j : Int) (w : World) :
    Calls Try.prog 39 #[.agg #[.int .i64 v, .int .i64 s, .int .i64 m, .int .i64 u, .int .i64 j]] w fun e w' => e = .returned (.int .i64 (pagesT v s m u j)) ∧ Below w.heap.size w w' := by
  cases hR : rightW v s m u j
  · exact pagesT_false v s m u j w hR
  · exact pagesT_true v s m u j w hR

set_option maxRecDepth 100000 in
set_option maxHeartbeats 1000000 in
theorem one_false (v s m u j : Int) (i at_ size : Int) (w : World) (hR : rightW v s m u j = false)  :
    Calls Try.prog 129 #[.agg #[.int .i64 v, .int .i64 s, .int .i64 m, .int .i64 u, .int .i64 j], .int .i64 i, .int .i64 at_, .int .i64 size] w fun e w' => e = .returned (.int .i64 (oneW v s m u j i at_ size)) ∧ Below w.heap.size w w' := by
  go_enter Try.func129, Try.ntmps129
  go_wp2_with (go_at_call 32; refine (right_any _ _ _ _ _ _).mono ?_; rintro e w1 ⟨rfl, hb1⟩; obtain ⟨hc1, hf1⟩ := bcell hb1; have hz1 := hb1.size; simp only [World.size_alloc] at hc1 hf1 hz1)
  go_ret
  refine ⟨congrArg (fun b => Ending.returned (.int .i64 b)) ?_, ?_⟩
  · (simp [oneW, hR, *]) <;> omega
  · (with_reducible exact below_trans' (below_alloc' (Below.refl _ _) _) hb1)

set_option maxRecDepth 100000 in
set_option maxHeartbeats 1000000 in
theorem one_trueneg (v s m u j : Int) (i at_ size : Int) (w : World) (hR : rightW v s m u j = true) (h : i < 0) :
    Calls Try.prog 129 #[.agg #[.int .i64 v, .int .i64 s, .int .i64 m, .int .i64 u, .int .i64 j], .int .i64 i, .int .i64 at_, .int .i64 size] w fun e w' => e = .returned (.int .i64 (oneW v s m u j i at_ size)) ∧ Below w.heap.size w w' := by
  go_enter Try.func129, Try.ntmps129
  go_wp2_with (go_at_call 32; refine (right_any _ _ _ _ _ _).mono ?_; rintro e w1 ⟨rfl, hb1⟩; obtain ⟨hc1, hf1⟩ := bcell hb1; have hz1 := hb1.size; simp only [World.size_alloc] at hc1 hf1 hz1)
  go_ret
  refine ⟨congrArg (fun b => Ending.returned (.int .i64 b)) ?_, ?_⟩
  · (simp [oneW, hR, *]) <;> omega
  · (with_reducible exact below_trans' (below_alloc' (Below.refl _ _) _) hb1)

set_option maxRecDepth 100000 in
set_option maxHeartbeats 1000000 in
theorem one_truepos (v s m u j : Int) (i at_ size : Int) (w : World) (hR : rightW v s m u j = true) (h : 0 ≤ i) :
    Calls Try.prog 129 #[.agg #[.int .i64 v, .int .i64 s, .int .i64 m, .int .i64 u, .int .i64 j], .int .i64 i, .int .i64 at_, .int .i64 size] w fun e w' => e = .returned (.int .i64 (oneW v s m u j i at_ size)) ∧ Below w.heap.size w w' := by
  go_enter Try.func129, Try.ntmps129
  go_wp2_with (go_at_call 32; refine (right_any _ _ _ _ _ _).mono ?_; rintro e w1 ⟨rfl, hb1⟩; obtain ⟨hc1, hf1⟩ := bcell hb1; have hz1 := hb1.size; simp only [World.size_alloc] at hc1 hf1 hz1)
  go_ret
  refine ⟨congrArg (fun b => Ending.returned (.int .i64 b)) ?_, ?_⟩
  · (simp [oneW, hR, *]) <;> omega
  · (with_reducible exact below_trans' (below_alloc' (Below.refl _ _) _) hb1)

theorem one_any (v s m u j i at_ size : Int) (w : World) :
    Calls Try.prog 129 #[.agg #[.int .i64 v, .int .i64 s, .int .i64 m, .int .i64 u, .int .i64 j], .int .i64 i, .int .i64 at_, .int .i64 size] w fun e w' => e = .returned (.int .i64 (oneW v s m u j i at_ size)) ∧ Below w.heap.size w w' := by
  cases hR : rightW v s m u j
  · exact one_false v s m u j i at_ size w hR
  · by_cases h : i < 0
    · exact one_trueneg v s m u j i at_ size w hR h
    · exact one_truepos v s m u j i at_ size w hR (by omega)

set_option maxRecDepth 100000 in
set_option maxHeartbeats 1000000 in
theorem seg_false (v s m u j : Int) (k : Int) (w : World) (hR : rightW v s m u j = false) :
    Calls Try.prog 37 #[.agg #[.int .i64 v, .int .i64 s, .int .i64 m, .int .i64 u, .int .i64 j], .int .i64 k] w fun e w' => e = .returned (.int .i64 (segW v s m u j k)) ∧ Below w.heap.size w w' := by
  have y := idx4_2
  go_enter Try.func37, Try.ntmps37
  go_wp2_with (go_at_call 32; refine (right_any _ _ _ _ _ _).mono ?_; rintro e w1 ⟨rfl, hb1⟩; obtain ⟨hc1, hf1⟩ := bcell hb1; have hz1 := hb1.size; simp only [World.size_alloc] at hc1 hf1 hz1)
  go_ret
  refine ⟨congrArg (fun b => Ending.returned (.int .i64 b)) ?_, ?_⟩
  · (simp [segW, hR, *]) <;> omega
  · (with_reducible exact below_trans' (below_alloc' (Below.refl _ _) _) hb1)

set_option maxRecDepth 100000 in
set_option maxHeartbeats 1000000 in
theorem seg_neg (v s m u j : Int) (k : Int) (w : World) (hR : rightW v s m u j = true) (h : k < 0) :
    Calls Try.prog 37 #[.agg #[.int .i64 v, .int .i64 s, .int .i64 m, .int .i64 u, .int .i64 j], .int .i64 k] w fun e w' => e = .returned (.int .i64 (segW v s m u j k)) ∧ Below w.heap.size w w' := by
  have y := idx4_2
  go_enter Try.func37, Try.ntmps37
  go_wp2_with (go_at_call 32; refine (right_any _ _ _ _ _ _).mono ?_; rintro e w1 ⟨rfl, hb1⟩; obtain ⟨hc1, hf1⟩ := bcell hb1; have hz1 := hb1.size; simp only [World.size_alloc] at hc1 hf1 hz1)
  go_ret
  refine ⟨congrArg (fun b => Ending.returned (.int .i64 b)) ?_, ?_⟩
  · (simp [segW, hR, *]) <;> omega
  · (with_reducible exact below_trans' (below_alloc' (Below.refl _ _) _) hb1)

set_option maxRecDepth 100000 in
set_option maxHeartbeats 1000000 in
theorem seg_over (v s m u j : Int) (k : Int) (w : World) (hR : rightW v s m u j = true) (h : 0 ≤ k) (h' : s ≤ k) :
    Calls Try.prog 37 #[.agg #[.int .i64 v, .int .i64 s, .int .i64 m, .int .i64 u, .int .i64 j], .int .i64 k] w fun e w' => e = .returned (.int .i64 (segW v s m u j k)) ∧ Below w.heap.size w w' := by
  have y := idx4_2
  go_enter Try.func37, Try.ntmps37
  go_wp2_with (go_at_call 32; refine (right_any _ _ _ _ _ _).mono ?_; rintro e w1 ⟨rfl, hb1⟩; obtain ⟨hc1, hf1⟩ := bcell hb1; have hz1 := hb1.size; simp only [World.size_alloc] at hc1 hf1 hz1)
  go_ret
  refine ⟨congrArg (fun b => Ending.returned (.int .i64 b)) ?_, ?_⟩
  · (simp [segW, hR, *]) <;> omega
  · (with_reducible exact below_trans' (below_alloc' (Below.refl _ _) _) hb1)

set_option maxRecDepth 100000 in
set_option maxHeartbeats 1000000 in
theorem seg_ok (v s m u j : Int) (k : Int) (w : World) (hR : rightW v s m u j = true) (h : 0 ≤ k) (h' : k < s) :
    Calls Try.prog 37 #[.agg #[.int .i64 v, .int .i64 s, .int .i64 m, .int .i64 u, .int .i64 j], .int .i64 k] w fun e w' => e = .returned (.int .i64 (segW v s m u j k)) ∧ Below w.heap.size w w' := by
  have y := idx4_2
  go_enter Try.func37, Try.ntmps37
  go_wp2_with (go_at_call 32; refine (right_any _ _ _ _ _ _).mono ?_; rintro e w1 ⟨rfl, hb1⟩; obtain ⟨hc1, hf1⟩ := bcell hb1; have hz1 := hb1.size; simp only [World.size_alloc] at hc1 hf1 hz1)
  have c0 := cell_regrown (show w1.cell? ⟨w.heap.size, 0, none⟩ = some (.int .i64 v) by rw [hc1 _ _ (by omega)]; go_simp)
  have c1 := cell_regrown (show w1.cell? ⟨w.heap.size, 1, none⟩ = some (.int .i64 s) by rw [hc1 _ _ (by omega)]; go_simp)
  have c2 := cell_regrown (show w1.cell? ⟨w.heap.size, 2, none⟩ = some (.int .i64 m) by rw [hc1 _ _ (by omega)]; go_simp)
  have c3 := cell_regrown (show w1.cell? ⟨w.heap.size, 3, none⟩ = some (.int .i64 u) by rw [hc1 _ _ (by omega)]; go_simp)
  have c4 := cell_regrown (show w1.cell? ⟨w.heap.size, 4, none⟩ = some (.int .i64 j) by rw [hc1 _ _ (by omega)]; go_simp)
  refine wp_region_quiet_below (by kernel_rfl) (by kernel_rfl) ?_
  repeat (go_big_quiet_step (exact Calls.regrown_of (plan_any _ _ _ _ _ _)))
  refine wpQuiet_nil ?_
  intro _ hw'
  obtain ⟨⟨dq, osq⟩, hw''⟩ := hw'
  subst hw''
  have hb2 := below_regrown w1 dq osq
  generalize grow (redrawn w1 dq) osq = W2 at hb2 ⊢
  clear c0 c1 c2 c3 c4
  go_wp2
  go_ret
  refine ⟨congrArg (fun b => Ending.returned (.int .i64 b)) ?_, ?_⟩
  · (simp [segW, hR, *]) <;> omega
  · (first | (with_reducible exact below_trans' (below_trans' (below_alloc' (Below.refl _ _) _) hb1) hb2) | (with_reducible exact below_trans' (below_alloc' (Below.refl _ _) _) hb1))

theorem seg_any (v s m u j k : Int) (w : World) :
    Calls Try.prog 37 #[.agg #[.int .i64 v, .int .i64 s, .int .i64 m, .int .i64 u, .int .i64 j], .int .i64 k] w fun e w' => e = .returned (.int .i64 (segW v s m u j k)) ∧ Below w.heap.size w w' := by
  cases hR : rightW v s m u j
  · exact seg_false v s m u j k w hR
  · by_cases h : k < 0
    · exact seg_neg v s m u j k w hR h
    · by_cases h' : s ≤ k
      · exact seg_over v s m u j k w hR (by omega) h'
      · exact seg_ok v s m u j k w hR (by omega) (by omega)

set_option maxRecDepth 100000 in
set_option maxHeartbeats 1000000 in
theorem in_false (v s m u j : Int) (at_ : Int) (w : World) (hR : rightW v s m u j = false) :
    Calls Try.prog 36 #[.agg #[.int .i64 v, .int .i64 s, .int .i64 m, .int .i64 u, .int .i64 j], .int .i64 at_] w fun e w' => e = .returned (.tuple #[.int .i64 ((inW v s m u j at_).getD 0), .bool (inW v s m u j at_).isSome]) ∧ Below w.heap.size w w' := by
  skip
  go_enter Try.func36, Try.ntmps36
  go_wp2_with (first | (go_at_call 32; refine (right_any _ _ _ _ _ _).mono ?_; rintro e w1 ⟨rfl, hb1⟩; obtain ⟨hc1, hf1⟩ := bcell hb1; have hz1 := hb1.size; simp only [World.size_alloc] at hc1 hf1 hz1) | (go_at_call 124; refine (plan_any _ _ _ _ _ _).mono ?_; rintro e w2 ⟨rfl, hb2⟩; obtain ⟨hc2, hf2⟩ := bcell hb2; have hz2 := hb2.size; go_loud (have hz3 : w.heap.size < w1.heap.size := by omega); have hz4 : w.heap.size < w2.heap.size := by omega))
  go_ret2
  refine ⟨ret_ib ?_ ?_, ?_⟩
  · (simp [inW, hR, *]) <;> omega
  · (simp [inW, hR, *]) <;> omega
  · (with_reducible exact below_trans' (below_alloc' (Below.refl _ _) _) hb1)

set_option maxRecDepth 100000 in
set_option maxHeartbeats 1000000 in
theorem in_low (v s m u j : Int) (at_ : Int) (w : World) (hR : rightW v s m u j = true) (h : at_ < plan2 v s m j) :
    Calls Try.prog 36 #[.agg #[.int .i64 v, .int .i64 s, .int .i64 m, .int .i64 u, .int .i64 j], .int .i64 at_] w fun e w' => e = .returned (.tuple #[.int .i64 ((inW v s m u j at_).getD 0), .bool (inW v s m u j at_).isSome]) ∧ Below w.heap.size w w' := by
  skip
  go_enter Try.func36, Try.ntmps36
  go_wp2_with (first | (go_at_call 32; refine (right_any _ _ _ _ _ _).mono ?_; rintro e w1 ⟨rfl, hb1⟩; obtain ⟨hc1, hf1⟩ := bcell hb1; have hz1 := hb1.size; simp only [World.size_alloc] at hc1 hf1 hz1) | (go_at_call 124; refine (plan_any _ _ _ _ _ _).mono ?_; rintro e w2 ⟨rfl, hb2⟩; obtain ⟨hc2, hf2⟩ := bcell hb2; have hz2 := hb2.size; go_loud (have hz3 : w.heap.size < w1.heap.size := by omega); have hz4 : w.heap.size < w2.heap.size := by omega))
  go_ret2
  refine ⟨ret_ib ?_ ?_, ?_⟩
  · (simp [inW, hR, *]) <;> omega
  · (simp [inW, hR, *]) <;> omega
  · (with_reducible exact below_alloc' (below_trans' (below_trans' (below_alloc' (Below.refl _ _) _) hb1) hb2) _)

set_option maxRecDepth 100000 in
set_option maxHeartbeats 1000000 in
theorem in_high (v s m u j : Int) (at_ : Int) (w : World) (hR : rightW v s m u j = true) (h : plan2 v s m j ≤ at_) (h' : plan3 v s m j ≤ at_) :
    Calls Try.prog 36 #[.agg #[.int .i64 v, .int .i64 s, .int .i64 m, .int .i64 u, .int .i64 j], .int .i64 at_] w fun e w' => e = .returned (.tuple #[.int .i64 ((inW v s m u j at_).getD 0), .bool (inW v s m u j at_).isSome]) ∧ Below w.heap.size w w' := by
  skip
  go_enter Try.func36, Try.ntmps36
  go_wp2_with (first | (go_at_call 32; refine (right_any _ _ _ _ _ _).mono ?_; rintro e w1 ⟨rfl, hb1⟩; obtain ⟨hc1, hf1⟩ := bcell hb1; have hz1 := hb1.size; simp only [World.size_alloc] at hc1 hf1 hz1) | (go_at_call 124; refine (plan_any _ _ _ _ _ _).mono ?_; rintro e w2 ⟨rfl, hb2⟩; obtain ⟨hc2, hf2⟩ := bcell hb2; have hz2 := hb2.size; go_loud (have hz3 : w.heap.size < w1.heap.size := by omega); have hz4 : w.heap.size < w2.heap.size := by omega))
  go_ret2
  refine ⟨ret_ib ?_ ?_, ?_⟩
  · (simp [inW, hR, *]) <;> omega
  · (simp [inW, hR, *]) <;> omega
  · (with_reducible exact below_alloc' (below_trans' (below_trans' (below_alloc' (Below.refl _ _) _) hb1) hb2) _)

set_option maxRecDepth 100000 in
set_option maxHeartbeats 1000000 in
theorem in_ok (v s m u j : Int) (at_ : Int) (w : World) (hR : rightW v s m u j = true) (h : plan2 v s m j ≤ at_) (h' : at_ < plan3 v s m j) :
    Calls Try.prog 36 #[.agg #[.int .i64 v, .int .i64 s, .int .i64 m, .int .i64 u, .int .i64 j], .int .i64 at_] w fun e w' => e = .returned (.tuple #[.int .i64 ((inW v s m u j at_).getD 0), .bool (inW v s m u j at_).isSome]) ∧ Below w.heap.size w w' := by
  have hm := right_m hR
  go_enter Try.func36, Try.ntmps36
  go_wp2_with (first | (go_at_call 32; refine (right_any _ _ _ _ _ _).mono ?_; rintro e w1 ⟨rfl, hb1⟩; obtain ⟨hc1, hf1⟩ := bcell hb1; have hz1 := hb1.size; simp only [World.size_alloc] at hc1 hf1 hz1) | (go_at_call 124; refine (plan_any _ _ _ _ _ _).mono ?_; rintro e w2 ⟨rfl, hb2⟩; obtain ⟨hc2, hf2⟩ := bcell hb2; have hz2 := hb2.size; go_loud (have hz3 : w.heap.size < w1.heap.size := by omega); have hz4 : w.heap.size < w2.heap.size := by omega))
  go_ret2
  refine ⟨ret_ib ?_ ?_, ?_⟩
  · simp only [inW, hR, if_true]; rw [if_neg (by omega), if_neg (by omega)]; rfl
  · simp only [inW, hR, if_true]; rw [if_neg (by omega), if_neg (by omega)]; rfl
  · (with_reducible exact below_alloc' (below_trans' (below_trans' (below_alloc' (Below.refl _ _) _) hb1) hb2) _)

theorem in_any (v s m u j at_ : Int) (w : World) :
    Calls Try.prog 36 #[.agg #[.int .i64 v, .int .i64 s, .int .i64 m, .int .i64 u, .int .i64 j], .int .i64 at_] w fun e w' => e = .returned (.tuple #[.int .i64 ((inW v s m u j at_).getD 0), .bool (inW v s m u j at_).isSome]) ∧ Below w.heap.size w w' := by
  cases hR : rightW v s m u j
  · exact in_false v s m u j at_ w hR
  · by_cases h : at_ < plan2 v s m j
    · exact in_low v s m u j at_ w hR h
    · by_cases h' : plan3 v s m j ≤ at_
      · exact in_high v s m u j at_ w hR (by omega) h'
      · exact in_ok v s m u j at_ w hR (by omega) (by omega)

set_option maxRecDepth 100000 in
set_option maxHeartbeats 1000000 in
theorem slot_any (v s m u j : Int) (i : Int) (w : World) :
    Calls Try.prog 41 #[.agg #[.int .i64 v, .int .i64 s, .int .i64 m, .int .i64 u, .int .i64 j], .int .i64 i] w fun e w' => e = .returned (.int .i64 (oneW v s m u j i 0 1)) ∧ Below w.heap.size w w' := by
  go_enter Try.func41, Try.ntmps41
  go_wp2_with (go_at_call 129; refine (one_any _ _ _ _ _ _ _ _ _).mono ?_; rintro e w1 ⟨rfl, hb1⟩; obtain ⟨hc1, hf1⟩ := bcell hb1; have hz1 := hb1.size; simp only [World.size_alloc] at hc1 hf1 hz1)
  go_ret
  exact ⟨rfl, below_trans' (below_alloc' (Below.refl _ _) _) hb1⟩

set_option maxRecDepth 100000 in
set_option maxHeartbeats 1000000 in
theorem half_any (v s m u j : Int) (i : Int) (w : World) :
    Calls Try.prog 43 #[.agg #[.int .i64 v, .int .i64 s, .int .i64 m, .int .i64 u, .int .i64 j], .int .i64 i] w fun e w' => e = .returned (.int .i64 (oneW v s m u j i 2 j)) ∧ Below w.heap.size w w' := by
  go_enter Try.func43, Try.ntmps43
  go_wp2_with (go_at_call 129; refine (one_any _ _ _ _ _ _ _ _ _).mono ?_; rintro e w1 ⟨rfl, hb1⟩; obtain ⟨hc1, hf1⟩ := bcell hb1; have hz1 := hb1.size; simp only [World.size_alloc] at hc1 hf1 hz1)
  go_ret
  exact ⟨rfl, below_trans' (below_alloc' (Below.refl _ _) _) hb1⟩

set_option maxRecDepth 100000 in
set_option maxHeartbeats 1000000 in
theorem area_any (v s m u j : Int) (i : Int) (w : World) :
    Calls Try.prog 45 #[.agg #[.int .i64 v, .int .i64 s, .int .i64 m, .int .i64 u, .int .i64 j], .int .i64 i] w fun e w' => e = .returned (.int .i64 (oneW v s m u j i (plan1 j) (wrap64 (2 * pagesW v s m)))) ∧ Below w.heap.size w w' := by
  have y := idx4_1
  go_enter Try.func45, Try.ntmps45
  go_wp2_with fail
  obtain ⟨w1, hw1⟩ : ∃ w1, w1 = w.alloc (.cells #[.int .i64 v, .int .i64 s, .int .i64 m, .int .i64 u, .int .i64 j] 24) := ⟨_, rfl⟩
  have hb1 : Below w.heap.size w w1 := by rw [hw1]; exact below_alloc' (Below.refl _ _) _
  have hcc : ∀ b o, b < w.heap.size + 1 → w1.cell? ⟨b, o, none⟩ = (w.alloc (.cells #[.int .i64 v, .int .i64 s, .int .i64 m, .int .i64 u, .int .i64 j] 24)).cell? ⟨b, o, none⟩ := by intro b o _; rw [hw1]
  rw [← hw1]
  clear hw1
  have c0 := cell_regrown (show w1.cell? ⟨w.heap.size, 0, none⟩ = some (.int .i64 v) by rw [hcc _ _ (by omega)]; go_simp)
  have c1 := cell_regrown (show w1.cell? ⟨w.heap.size, 1, none⟩ = some (.int .i64 s) by rw [hcc _ _ (by omega)]; go_simp)
  have c2 := cell_regrown (show w1.cell? ⟨w.heap.size, 2, none⟩ = some (.int .i64 m) by rw [hcc _ _ (by omega)]; go_simp)
  have c3 := cell_regrown (show w1.cell? ⟨w.heap.size, 3, none⟩ = some (.int .i64 u) by rw [hcc _ _ (by omega)]; go_simp)
  have c4 := cell_regrown (show w1.cell? ⟨w.heap.size, 4, none⟩ = some (.int .i64 j) by rw [hcc _ _ (by omega)]; go_simp)
  clear hcc; refine wp_region_quiet_below (by kernel_rfl) (by kernel_rfl) ?_
  repeat (go_big_quiet_step (first | exact Calls.regrown_of (plan_any _ _ _ _ _ _) | exact Calls.regrown_of (pages_any _ _ _ _ _ _) | exact Calls.regrown_of (one_any _ _ _ _ _ _ _ _ _)))
  refine wpQuiet_nil ?_
  intro _ hw'
  obtain ⟨⟨dq, osq⟩, hw''⟩ := hw'
  subst hw''
  have hb2 := below_regrown w1 dq osq
  generalize grow (redrawn w1 dq) osq = W2 at hb2 ⊢
  clear c0 c1 c2 c3 c4
  go_wp2
  go_ret
  exact ⟨rfl, below_trans' hb1 hb2⟩

end Go.Proofs.Yteeamlidmkpohaa
