/-
  The layout: the functions of the reference, by contract; and that both agree.
-/
import Derived.Test.YteeamlidmkpohaaLb
set_option linter.unusedVariables false
set_option linter.unusedSimpArgs false
namespace Go.Proofs.Yteeamlidmkpohaa
open Go.RowKit Go.Sort

def fieldsW (v s m u j : Int) : Bool :=
  if v < 8 then false else if 4096 < v then false else if v % 8 ≠ 0 then false else if s < 2 then false else if 256 < s then false
  else if u < 1 then false else if 16 < u then false else if m < 16 then false else if 1024 < m then false else if m < 2 * (8 * u + 1) then false
  else decide (8 ≤ j ∧ j ≤ 64)
def rrightW (v s m u j : Int) : Bool := fieldsW v s m u j && decide (plan3 v s m j ≤ 262144)

theorem rright_eq (v s m u j : Int) : rrightW v s m u j = rightW v s m u j := by
  unfold rrightW rightW fieldsW fromB
  by_cases h1 : 8 ≤ v ∧ v ≤ 4096 ∧ v % 8 = 0 ∧ 2 ≤ s ∧ s ≤ 256 ∧ 1 ≤ u ∧ u ≤ 16
  · obtain ⟨a1, a2, a3, a4, a5, a6, a7⟩ := h1
    have e1 : v.tmod 8 = 0 := by rw [Int.tmod_eq_emod_of_nonneg (by omega)]; exact a3
    have e2 : wrap64 (2 * wrap64 (wrap64 (8 * u) + 1)) = 2 * (8 * u + 1) := by unfold wrap64; omega
    rw [e1, e2, if_neg (by omega), if_neg (by omega), if_neg (by omega), if_neg (by omega), if_neg (by omega), if_neg (by omega), if_neg (by omega)]
    by_cases h2 : 16 ≤ m ∧ m ≤ 1024 ∧ 2 * (8 * u + 1) ≤ m
    · rw [if_neg (by omega), if_neg (by omega), if_neg (by omega)]
      have e3 : (decide ((if 16 < 2 * (8 * u + 1) then 2 * (8 * u + 1) else 16) ≤ m) && decide (m ≤ 1024)) = true := by split <;> simp <;> omega
      rw [e3]
      have e4 : (decide (8 ≤ v) && decide (v ≤ 4096)) = true := by simp; omega
      have e5 : (decide (2 ≤ s) && decide (s ≤ 256)) = true := by simp; omega
      have e6 : (decide (1 ≤ u) && decide (u ≤ 16)) = true := by simp; omega
      rw [e4, e5, e6]
      simp
    · have e3 : (decide ((if 16 < 2 * (8 * u + 1) then 2 * (8 * u + 1) else 16) ≤ m) && decide (m ≤ 1024)) = false := by split <;> simp <;> omega
      rw [e3]
      simp only [Bool.and_false, Bool.false_and]
      rw [Bool.and_eq_false_iff]
      left
      by_cases k1 : m < 16
      · rw [if_pos k1]
      · rw [if_neg k1]
        by_cases k2 : 1024 < m
        · rw [if_pos k2]
        · rw [if_neg k2, if_pos (by omega)]
  · have e0 : ((decide (8 ≤ v) && decide (v ≤ 4096)) && (v.tmod 8 == 0) && (decide (2 ≤ s) && decide (s ≤ 256)) && (decide (1 ≤ u) && decide (u ≤ 16))) = false := by
      by_cases hv : 8 ≤ v
      · rw [Int.tmod_eq_emod_of_nonneg (by omega)]
        simp
        omega
      · simp [hv]
    rw [e0]
    simp only [Bool.false_and]
    rw [Bool.and_eq_false_iff]
    left
    by_cases k1 : v < 8
    · rw [if_pos k1]
    rw [if_neg k1]
    by_cases k2 : 4096 < v
    · rw [if_pos k2]
    rw [if_neg k2]
    by_cases k3 : v % 8 ≠ 0
    · rw [if_pos k3]
    rw [if_neg k3]
    by_cases k4 : s < 2
    · rw [if_pos k4]
    rw [if_neg k4]
    by_cases k5 : 256 < s
    · rw [if_pos k5]
    rw [if_neg k5]
    by_cases k6 : u < 1
    · rw [if_pos k6]
    rw [if_neg k6, if_pos (by omega)]

set_option maxRecDepth 100000 in
set_option maxHeartbeats 1000000 in
theorem fields_any (v s m u j : Int) (w : World) :
    Calls Try.prog 125 #[.agg #[.int .i64 v, .int .i64 s, .int .i64 m, .int .i64 u, .int .i64 j]] w fun e w' => e = .returned (.bool (fieldsW v s m u j)) ∧ Below w.heap.size w w' := by
  go_enter Try.func125, Try.ntmps125
  go_wp2
  all_goals go_ret
  all_goals refine ⟨ret_b ?_, below_alloc' (Below.refl _ _) _⟩
  all_goals (unfold fieldsW; repeat (first | rw [if_pos (by omega)] | rw [if_neg (by omega)]))
  all_goals first | rfl | (simp; omega)

set_option maxRecDepth 100000 in
set_option maxHeartbeats 1000000 in
theorem rsectors_any (v s m u j : Int)  (w : World)  :
    Calls Try.prog 126 #[.agg #[.int .i64 v, .int .i64 s, .int .i64 m, .int .i64 u, .int .i64 j]] w fun e w' => e = .returned (.int .i64 (plan3 v s m j)) ∧ Below w.heap.size w w' := by
  go_enter Try.func126, Try.ntmps126
  go_wp2_with fail
  obtain ⟨w1, hw1⟩ : ∃ w1, w1 = w.alloc (.cells #[.int .i64 v, .int .i64 s, .int .i64 m, .int .i64 u, .int .i64 j] 24) := ⟨_, rfl⟩
  have hb1 : Below w.heap.size w w1 := by rw [hw1]; exact below_alloc' (Below.refl _ _) _
  have hcc : ∀ b o, b < w.heap.size + 1 → w1.cell? ⟨b, o, none⟩ = (w.alloc (.cells #[.int .i64 v, .int .i64 s, .int .i64 m, .int .i64 u, .int .i64 j] 24)).cell? ⟨b, o, none⟩ := by intro b o _; rw [hw1]
  rw [← hw1]
  clear hw1
  have c0 := cell_regrown (show w1.cell? ⟨w.heap.size, 0, none⟩ = some (.int .i64 v) by rw [hcc _ _ (by omega)]; go_simp)
  have c1 := cell_regrown (show w1.cell? ⟨w.heap.size, 1, none⟩ = some (.int .i64 s) by rw [hcc _ _ (by omega)]; go_simp)
  have c2 := cell_regrown (show w1.cell? ⟨w.heap.size, 2, none⟩ = some (.int .i64 m) by rw [hcc _ _ (by omega)]; go_simp)
  have c3 := cell_regrown (show w1.cell? ⟨w.heap.size, 3, none⟩ = some (.int .i64 u) by rw [hcc _ _ (by omega)]; go_simp)
  have c4 := cell_regrown (show w1.cell? ⟨w.heap.size, 4, none⟩ = some (.int .i64 j) by rw [hcc _ _ (by omega)]; go_simp)
  clear hcc; refine wp_region_quiet_below (by kernel_rfl) (by kernel_rfl) ?_
  repeat (go_big_quiet_step (exact Calls.regrown_of (rpages_any _ _ _ _ _ _)))
  refine wpQuiet_nil ?_
  intro _ hw'
  obtain ⟨⟨dq, osq⟩, hw''⟩ := hw'
  subst hw''
  have hb2 := below_regrown w1 dq osq
  generalize grow (redrawn w1 dq) osq = W2 at hb2 ⊢
  clear c0 c1 c2 c3 c4
  go_wp2
  go_ret
  exact ⟨rfl, below_trans' hb1 hb2⟩

set_option maxRecDepth 100000 in
set_option maxHeartbeats 1000000 in
theorem rright_true (v s m u j : Int)  (w : World) (hF : fieldsW v s m u j = true) :
    Calls Try.prog 33 #[.agg #[.int .i64 v, .int .i64 s, .int .i64 m, .int .i64 u, .int .i64 j]] w fun e w' => e = .returned (.bool (rrightW v s m u j)) ∧ Below w.heap.size w w' := by
  go_enter Try.func33, Try.ntmps33
  go_wp2_with (first | (go_at_call 125; refine (fields_any _ _ _ _ _ _).mono ?_; rintro e w1 ⟨rfl, hb1⟩; obtain ⟨hc1, hf1⟩ := bcell hb1; have hz1 := hb1.size; try simp only [World.size_alloc] at hc1 hf1 hz1) | (go_at_call 126; refine (rsectors_any _ _ _ _ _ _).mono ?_; rintro e w2 ⟨rfl, hb2⟩; obtain ⟨hc2, hf2⟩ := bcell hb2; have hz2 := hb2.size; try simp only [World.size_alloc] at hc2 hf2 hz2))
  go_ret
  refine ⟨ret_b ?_, ?_⟩
  · simp [rrightW, hF]
  · (first | (with_reducible exact below_trans' (below_trans' (below_alloc' (Below.refl _ _) _) hb1) hb2) | (with_reducible exact below_trans' (below_alloc' (Below.refl _ _) _) hb1))

set_option maxRecDepth 100000 in
set_option maxHeartbeats 1000000 in
theorem rright_false (v s m u j : Int)  (w : World) (hF : fieldsW v s m u j = false) :
    Calls Try.prog 33 #[.agg #[.int .i64 v, .int .i64 s, .int .i64 m, .int .i64 u, .int .i64 j]] w fun e w' => e = .returned (.bool (rrightW v s m u j)) ∧ Below w.heap.size w w' := by
  go_enter Try.func33, Try.ntmps33
  go_wp2_with (first | (go_at_call 125; refine (fields_any _ _ _ _ _ _).mono ?_; rintro e w1 ⟨rfl, hb1⟩; obtain ⟨hc1, hf1⟩ := bcell hb1; have hz1 := hb1.size; try simp only [World.size_alloc] at hc1 hf1 hz1) | (go_at_call 126; refine (rsectors_any _ _ _ _ _ _).mono ?_; rintro e w2 ⟨rfl, hb2⟩; obtain ⟨hc2, hf2⟩ := bcell hb2; have hz2 := hb2.size; try simp only [World.size_alloc] at hc2 hf2 hz2))
  go_ret
  refine ⟨ret_b ?_, ?_⟩
  · simp [rrightW, hF]
  · (first | (with_reducible exact below_trans' (below_trans' (below_alloc' (Below.refl _ _) _) hb1) hb2) | (with_reducible exact below_trans' (below_alloc' (Below.refl _ _) _) hb1))

set_option maxRecDepth 100000 in
set_option maxHeartbeats 1000000 in
theorem rright_any (v s m u j : Int)  (w : World)  :
    Calls Try.prog 33 #[.agg #[.int .i64 v, .int .i64 s, .int .i64 m, .int .i64 u, .int .i64 j]] w fun e w' => e = .returned (.bool (rightW v s m u j)) ∧ Below w.heap.size w w' := by
  rw [← rright_eq]
  cases hF : fieldsW v s m u j
  · exact rright_false v s m u j w hF
  · exact rright_true v s m u j w hF

set_option maxRecDepth 100000 in
set_option maxHeartbeats 1000000 in
theorem rsectorsT_true (v s m u j : Int)  (w : World) (hR : rightW v s m u j = true) :
    Calls Try.prog 35 #[.agg #[.int .i64 v, .int .i64 s, .int .i64 m, .int .i64 u, .int .i64 j]] w fun e w' => e = .returned (.int .i64 (sectorsW v s m u j)) ∧ Below w.heap.size w w' := by
  go_enter Try.func35, Try.ntmps35
  go_wp2_with (first | (go_at_call 33; refine (rright_any _ _ _ _ _ _).mono ?_; rintro e w1 ⟨rfl, hb1⟩; obtain ⟨hc1, hf1⟩ := bcell hb1; have hz1 := hb1.size; try simp only [World.size_alloc] at hc1 hf1 hz1) | (go_at_call 126; refine (rsectors_any _ _ _ _ _ _).mono ?_; rintro e w2 ⟨rfl, hb2⟩; obtain ⟨hc2, hf2⟩ := bcell hb2; have hz2 := hb2.size; try simp only [World.size_alloc] at hc2 hf2 hz2))
  go_ret
  refine ⟨ret_i ?_, ?_⟩
  · simp [sectorsW, hR]
  · (first | (with_reducible exact below_trans' (below_trans' (below_alloc' (Below.refl _ _) _) hb1) hb2) | (with_reducible exact below_trans' (below_alloc' (Below.refl _ _) _) hb1))

set_option maxRecDepth 100000 in
set_option maxHeartbeats 1000000 in
theorem rsectorsT_false (v s m u j : Int)  (w : World) (hR : rightW v s m u j = false) :
    Calls Try.prog 35 #[.agg #[.int .i64 v, .int .i64 s, .int .i64 m, .int .i64 u, .int .i64 j]] w fun e w' => e = .returned (.int .i64 (sectorsW v s m u j)) ∧ Below w.heap.size w w' := by
  go_enter Try.func35, Try.ntmps35
  go_wp2_with (first | (go_at_call 33; refine (rright_any _ _ _ _ _ _).mono ?_; rintro e w1 ⟨rfl, hb1⟩; obtain ⟨hc1, hf1⟩ := bcell hb1; have hz1 := hb1.size; try simp only [World.size_alloc] at hc1 hf1 hz1) | (go_at_call 126; refine (rsectors_any _ _ _ _ _ _).mono ?_; rintro e w2 ⟨rfl, hb2⟩; obtain ⟨hc2, hf2⟩ := bcell hb2; have hz2 := hb2.size; try simp only [World.size_alloc] at hc2 hf2 hz2))
  go_ret
  refine ⟨ret_i ?_, ?_⟩
  · simp [sectorsW, hR]
  · (first | (with_reducible exact below_trans' (below_trans' (below_alloc' (Below.refl _ _) _) hb1) hb2) | (with_reducible exact below_trans' (below_alloc' (Below.refl _ _) _) hb1))

set_option maxRecDepth 100000 in
set_option maxHeartbeats 1000000 in
theorem rsectorsT_any (v s m u j : Int)  (w : World)  :
    Calls Try.prog 35 #[.agg #[.int .i64 v, .int .i64 s, .int .i64 m, .int .i64 u, .int .i64 j]] w fun e w' => e = .returned (.int .i64 (sectorsW v s m u j)) ∧ Below w.heap.size w w' := by
  cases hR : rightW v s m u j
  · exact rsectorsT_false v s m u j w hR
  · exact rsectorsT_true v s m u j w hR

set_option maxRecDepth 100000 in
set_option maxHeartbeats 1000000 in
theorem rpagesT_true (v s m u j : Int)  (w : World) (hR : rightW v s m u j = true) :
    Calls Try.prog 40 #[.agg #[.int .i64 v, .int .i64 s, .int .i64 m, .int .i64 u, .int .i64 j]] w fun e w' => e = .returned (.int .i64 (pagesT v s m u j)) ∧ Below w.heap.size w w' := by
  go_enter Try.func40, Try.ntmps40
  go_wp2_with (first | (go_at_call 33; refine (rright_any _ _ _ _ _ _).mono ?_; rintro e w1 ⟨rfl, hb1⟩; obtain ⟨hc1, hf1⟩ := bcell hb1; have hz1 := hb1.size; try simp only [World.size_alloc] at hc1 hf1 hz1) | (go_at_call 128; refine (rpages_any _ _ _ _ _ _).mono ?_; rintro e w2 ⟨rfl, hb2⟩; obtain ⟨hc2, hf2⟩ := bcell hb2; have hz2 := hb2.size; try simp only [World.size_alloc] at hc2 hf2 hz2))
  go_ret
  refine ⟨ret_i ?_, ?_⟩
  · simp [pagesT, hR]
  · (first | (with_reducible exact below_trans' (below_trans' (below_alloc' (Below.refl _ _) _) hb1) hb2) | (with_reducible exact below_trans' (below_alloc' (Below.refl _ _) _) hb1))

set_option maxRecDepth 100000 in
set_option maxHeartbeats 1000000 in
theorem rpagesT_false (v s m u j : Int)  (w : World) (hR : rightW v s m u j = false) :
    Calls Try.prog 40 #[.agg #[.int .i64 v, .int .i64 s, .int .i64 m, .int .i64 u, .int .i64 j]] w fun e w' => e = .returned (.int .i64 (pagesT v s m u j)) ∧ Below w.heap.size w w' := by
  go_enter Try.func40, Try.ntmps40
  go_wp2_with (first | (go_at_call 33; refine (rright_any _ _ _ _ _ _).mono ?_; rintro e w1 ⟨rfl, hb1⟩; obtain ⟨hc1, hf1⟩ := bcell hb1; have hz1 := hb1.size; try simp only [World.size_alloc] at hc1 hf1 hz1) | (go_at_call 128; refine (rpages_any _ _ _ _ _ _).mono ?_; rintro e w2 ⟨rfl, hb2⟩; obtain ⟨hc2, hf2⟩ := bcell hb2; have hz2 := hb2.size; try simp only [World.size_alloc] at hc2 hf2 hz2))
  go_ret
  refine ⟨ret_i ?_, ?_⟩
  · simp [pagesT, hR]
  · (first | (with_reducible exact below_trans' (below_trans' (below_alloc' (Below.refl _ _) _) hb1) hb2) | (with_reducible exact below_trans' (below_alloc' (Below.refl _ _) _) hb1))

set_option maxRecDepth 100000 in
set_option maxHeartbeats 1000000 in
theorem rpagesT_any (v s m u j : Int)  (w : World)  :
    Calls Try.prog 40 #[.agg #[.int .i64 v, .int .i64 s, .int .i64 m, .int .i64 u, .int .i64 j]] w fun e w' => e = .returned (.int .i64 (pagesT v s m u j)) ∧ Below w.heap.size w w' := by
  cases hR : rightW v s m u j
  · exact rpagesT_false v s m u j w hR
  · exact rpagesT_true v s m u j w hR

set_option maxRecDepth 100000 in
set_option maxHeartbeats 1000000 in
theorem rslot_false (v s m u j : Int) (i : Int) (w : World) (hR : rightW v s m u j = false) :
    Calls Try.prog 42 #[.agg #[.int .i64 v, .int .i64 s, .int .i64 m, .int .i64 u, .int .i64 j], .int .i64 i] w fun e w' => e = .returned (.int .i64 (oneW v s m u j i 0 1)) ∧ Below w.heap.size w w' := by
  go_enter Try.func42, Try.ntmps42
  go_wp2_with (go_at_call 33; refine (rright_any _ _ _ _ _ _).mono ?_; rintro e w1 ⟨rfl, hb1⟩; obtain ⟨hc1, hf1⟩ := bcell hb1; have hz1 := hb1.size; try simp only [World.size_alloc] at hc1 hf1 hz1)
  go_ret
  refine ⟨ret_i ?_, ?_⟩
  · (simp [oneW, hR, *]) <;> omega
  · (with_reducible exact below_trans' (below_alloc' (Below.refl _ _) _) hb1)

set_option maxRecDepth 100000 in
set_option maxHeartbeats 1000000 in
theorem rslot_neg (v s m u j : Int) (i : Int) (w : World) (hR : rightW v s m u j = true) (h : i < 0) :
    Calls Try.prog 42 #[.agg #[.int .i64 v, .int .i64 s, .int .i64 m, .int .i64 u, .int .i64 j], .int .i64 i] w fun e w' => e = .returned (.int .i64 (oneW v s m u j i 0 1)) ∧ Below w.heap.size w w' := by
  go_enter Try.func42, Try.ntmps42
  go_wp2_with (go_at_call 33; refine (rright_any _ _ _ _ _ _).mono ?_; rintro e w1 ⟨rfl, hb1⟩; obtain ⟨hc1, hf1⟩ := bcell hb1; have hz1 := hb1.size; try simp only [World.size_alloc] at hc1 hf1 hz1)
  go_ret
  refine ⟨ret_i ?_, ?_⟩
  · (simp [oneW, hR, *]) <;> omega
  · (with_reducible exact below_trans' (below_alloc' (Below.refl _ _) _) hb1)

set_option maxRecDepth 100000 in
set_option maxHeartbeats 1000000 in
theorem rslot_pos (v s m u j : Int) (i : Int) (w : World) (hR : rightW v s m u j = true) (h : 0 ≤ i) :
    Calls Try.prog 42 #[.agg #[.int .i64 v, .int .i64 s, .int .i64 m, .int .i64 u, .int .i64 j], .int .i64 i] w fun e w' => e = .returned (.int .i64 (oneW v s m u j i 0 1)) ∧ Below w.heap.size w w' := by
  go_enter Try.func42, Try.ntmps42
  go_wp2_with (go_at_call 33; refine (rright_any _ _ _ _ _ _).mono ?_; rintro e w1 ⟨rfl, hb1⟩; obtain ⟨hc1, hf1⟩ := bcell hb1; have hz1 := hb1.size; try simp only [World.size_alloc] at hc1 hf1 hz1)
  go_ret
  refine ⟨ret_i ?_, ?_⟩
  · rw [oneW, if_pos hR, if_neg (by omega)]; unfold wrap64; omega
  · (with_reducible exact below_trans' (below_alloc' (Below.refl _ _) _) hb1)

set_option maxRecDepth 100000 in
set_option maxHeartbeats 1000000 in
theorem rslot_any (v s m u j : Int) (i : Int) (w : World)  :
    Calls Try.prog 42 #[.agg #[.int .i64 v, .int .i64 s, .int .i64 m, .int .i64 u, .int .i64 j], .int .i64 i] w fun e w' => e = .returned (.int .i64 (oneW v s m u j i 0 1)) ∧ Below w.heap.size w w' := by
  cases hR : rightW v s m u j
  · exact rslot_false v s m u j i w hR
  · by_cases h : i < 0
    · exact rslot_neg v s m u j i w hR h
    · exact rslot_pos v s m u j i w hR (by omega)

set_option maxRecDepth 100000 in
set_option maxHeartbeats 1000000 in
theorem rhalf_false (v s m u j : Int) (i : Int) (w : World) (hR : rightW v s m u j = false) :
    Calls Try.prog 44 #[.agg #[.int .i64 v, .int .i64 s, .int .i64 m, .int .i64 u, .int .i64 j], .int .i64 i] w fun e w' => e = .returned (.int .i64 (oneW v s m u j i 2 j)) ∧ Below w.heap.size w w' := by
  go_enter Try.func44, Try.ntmps44
  go_wp2_with (go_at_call 33; refine (rright_any _ _ _ _ _ _).mono ?_; rintro e w1 ⟨rfl, hb1⟩; obtain ⟨hc1, hf1⟩ := bcell hb1; have hz1 := hb1.size; try simp only [World.size_alloc] at hc1 hf1 hz1)
  go_ret
  refine ⟨ret_i ?_, ?_⟩
  · (simp [oneW, hR, *]) <;> omega
  · (with_reducible exact below_trans' (below_alloc' (Below.refl _ _) _) hb1)

set_option maxRecDepth 100000 in
set_option maxHeartbeats 1000000 in
theorem rhalf_neg (v s m u j : Int) (i : Int) (w : World) (hR : rightW v s m u j = true) (h : i < 0) :
    Calls Try.prog 44 #[.agg #[.int .i64 v, .int .i64 s, .int .i64 m, .int .i64 u, .int .i64 j], .int .i64 i] w fun e w' => e = .returned (.int .i64 (oneW v s m u j i 2 j)) ∧ Below w.heap.size w w' := by
  go_enter Try.func44, Try.ntmps44
  go_wp2_with (go_at_call 33; refine (rright_any _ _ _ _ _ _).mono ?_; rintro e w1 ⟨rfl, hb1⟩; obtain ⟨hc1, hf1⟩ := bcell hb1; have hz1 := hb1.size; try simp only [World.size_alloc] at hc1 hf1 hz1)
  go_ret
  refine ⟨ret_i ?_, ?_⟩
  · (simp [oneW, hR, *]) <;> omega
  · (with_reducible exact below_trans' (below_alloc' (Below.refl _ _) _) hb1)

set_option maxRecDepth 100000 in
set_option maxHeartbeats 1000000 in
theorem rhalf_pos (v s m u j : Int) (i : Int) (w : World) (hR : rightW v s m u j = true) (h : 0 ≤ i) :
    Calls Try.prog 44 #[.agg #[.int .i64 v, .int .i64 s, .int .i64 m, .int .i64 u, .int .i64 j], .int .i64 i] w fun e w' => e = .returned (.int .i64 (oneW v s m u j i 2 j)) ∧ Below w.heap.size w w' := by
  go_enter Try.func44, Try.ntmps44
  go_wp2_with (go_at_call 33; refine (rright_any _ _ _ _ _ _).mono ?_; rintro e w1 ⟨rfl, hb1⟩; obtain ⟨hc1, hf1⟩ := bcell hb1; have hz1 := hb1.size; try simp only [World.size_alloc] at hc1 hf1 hz1)
  go_ret
  refine ⟨ret_i ?_, ?_⟩
  · rw [oneW, if_pos hR, if_neg (by omega)]
  · (with_reducible exact below_trans' (below_alloc' (Below.refl _ _) _) hb1)

set_option maxRecDepth 100000 in
set_option maxHeartbeats 1000000 in
theorem rhalf_any (v s m u j : Int) (i : Int) (w : World)  :
    Calls Try.prog 44 #[.agg #[.int .i64 v, .int .i64 s, .int .i64 m, .int .i64 u, .int .i64 j], .int .i64 i] w fun e w' => e = .returned (.int .i64 (oneW v s m u j i 2 j)) ∧ Below w.heap.size w w' := by
  cases hR : rightW v s m u j
  · exact rhalf_false v s m u j i w hR
  · by_cases h : i < 0
    · exact rhalf_neg v s m u j i w hR h
    · exact rhalf_pos v s m u j i w hR (by omega)

set_option maxRecDepth 100000 in
set_option maxHeartbeats 1000000 in
theorem rarea_false (v s m u j : Int) (i : Int) (w : World) (hR : rightW v s m u j = false) :
    Calls Try.prog 46 #[.agg #[.int .i64 v, .int .i64 s, .int .i64 m, .int .i64 u, .int .i64 j], .int .i64 i] w fun e w' => e = .returned (.int .i64 (oneW v s m u j i (plan1 j) (wrap64 (2 * pagesW v s m)))) ∧ Below w.heap.size w w' := by
  go_enter Try.func46, Try.ntmps46
  go_wp2_with (go_at_call 33; refine (rright_any _ _ _ _ _ _).mono ?_; rintro e w1 ⟨rfl, hb1⟩; obtain ⟨hc1, hf1⟩ := bcell hb1; have hz1 := hb1.size; try simp only [World.size_alloc] at hc1 hf1 hz1)
  go_ret
  refine ⟨ret_i ?_, ?_⟩
  · (simp [oneW, hR, *]) <;> omega
  · (with_reducible exact below_trans' (below_alloc' (Below.refl _ _) _) hb1)

set_option maxRecDepth 100000 in
set_option maxHeartbeats 1000000 in
theorem rarea_neg (v s m u j : Int) (i : Int) (w : World) (hR : rightW v s m u j = true) (h : i < 0) :
    Calls Try.prog 46 #[.agg #[.int .i64 v, .int .i64 s, .int .i64 m, .int .i64 u, .int .i64 j], .int .i64 i] w fun e w' => e = .returned (.int .i64 (oneW v s m u j i (plan1 j) (wrap64 (2 * pagesW v s m)))) ∧ Below w.heap.size w w' := by
  go_enter Try.func46, Try.ntmps46
  go_wp2_with (go_at_call 33; refine (rright_any _ _ _ _ _ _).mono ?_; rintro e w1 ⟨rfl, hb1⟩; obtain ⟨hc1, hf1⟩ := bcell hb1; have hz1 := hb1.size; try simp only [World.size_alloc] at hc1 hf1 hz1)
  go_ret
  refine ⟨ret_i ?_, ?_⟩
  · (simp [oneW, hR, *]) <;> omega
  · (with_reducible exact below_trans' (below_alloc' (Below.refl _ _) _) hb1)

set_option maxRecDepth 100000 in
set_option maxHeartbeats 1000000 in
theorem rarea_pos (v s m u j : Int) (i : Int) (w : World) (hR : rightW v s m u j = true) (h : 0 ≤ i) :
    Calls Try.prog 46 #[.agg #[.int .i64 v, .int .i64 s, .int .i64 m, .int .i64 u, .int .i64 j], .int .i64 i] w fun e w' => e = .returned (.int .i64 (oneW v s m u j i (plan1 j) (wrap64 (2 * pagesW v s m)))) ∧ Below w.heap.size w w' := by
  go_enter Try.func46, Try.ntmps46
  go_wp2_with (go_at_call 33; refine (rright_any _ _ _ _ _ _).mono ?_; rintro e w1 ⟨rfl, hb1⟩; obtain ⟨hc1, hf1⟩ := bcell hb1; have hz1 := hb1.size; try simp only [World.size_alloc] at hc1 hf1 hz1)
  have c0 := cell_regrown (show w1.cell? ⟨w.heap.size, 0, none⟩ = some (.int .i64 v) by rw [hc1 _ _ (by omega)]; go_simp)
  have c1 := cell_regrown (show w1.cell? ⟨w.heap.size, 1, none⟩ = some (.int .i64 s) by rw [hc1 _ _ (by omega)]; go_simp)
  have c2 := cell_regrown (show w1.cell? ⟨w.heap.size, 2, none⟩ = some (.int .i64 m) by rw [hc1 _ _ (by omega)]; go_simp)
  have c3 := cell_regrown (show w1.cell? ⟨w.heap.size, 3, none⟩ = some (.int .i64 u) by rw [hc1 _ _ (by omega)]; go_simp)
  have c4 := cell_regrown (show w1.cell? ⟨w.heap.size, 4, none⟩ = some (.int .i64 j) by rw [hc1 _ _ (by omega)]; go_simp)
  refine wp_region_quiet_below (by kernel_rfl) (by kernel_rfl) ?_
  repeat (go_big_quiet_step (exact Calls.regrown_of (rpages_any _ _ _ _ _ _)))
  refine wpQuiet_nil ?_
  intro _ hw'
  obtain ⟨⟨dq, osq⟩, hw''⟩ := hw'
  subst hw''
  have hb2 := below_regrown w1 dq osq
  generalize grow (redrawn w1 dq) osq = W2 at hb2 ⊢
  clear c0 c1 c2 c3 c4
  go_wp2
  go_ret
  refine ⟨ret_i ?_, ?_⟩
  · rw [oneW, if_pos hR, if_neg (by omega)]; rcases (show i % 2 = 0 ∨ i % 2 = 1 by omega) with e | e <;> rw [e] <;> unfold plan1 wrap64 <;> omega
  · (first | (with_reducible exact below_trans' (below_trans' (below_alloc' (Below.refl _ _) _) hb1) hb2) | (with_reducible exact below_trans' (below_alloc' (Below.refl _ _) _) hb1))

set_option maxRecDepth 100000 in
set_option maxHeartbeats 1000000 in
theorem rarea_any (v s m u j : Int) (i : Int) (w : World)  :
    Calls Try.prog 46 #[.agg #[.int .i64 v, .int .i64 s, .int .i64 m, .int .i64 u, .int .i64 j], .int .i64 i] w fun e w' => e = .returned (.int .i64 (oneW v s m u j i (plan1 j) (wrap64 (2 * pagesW v s m)))) ∧ Below w.heap.size w w' := by
  cases hR : rightW v s m u j
  · exact rarea_false v s m u j i w hR
  · by_cases h : i < 0
    · exact rarea_neg v s m u j i w hR h
    · exact rarea_pos v s m u j i w hR (by omega)

set_option maxRecDepth 100000 in
set_option maxHeartbeats 1000000 in
theorem rseg_false (v s m u j : Int) (k : Int) (w : World) (hR : rightW v s m u j = false) :
    Calls Try.prog 47 #[.agg #[.int .i64 v, .int .i64 s, .int .i64 m, .int .i64 u, .int .i64 j], .int .i64 k] w fun e w' => e = .returned (.int .i64 (segW v s m u j k)) ∧ Below w.heap.size w w' := by
  go_enter Try.func47, Try.ntmps47
  go_wp2_with (go_at_call 33; refine (rright_any _ _ _ _ _ _).mono ?_; rintro e w1 ⟨rfl, hb1⟩; obtain ⟨hc1, hf1⟩ := bcell hb1; have hz1 := hb1.size; try simp only [World.size_alloc] at hc1 hf1 hz1)
  go_ret
  refine ⟨ret_i ?_, ?_⟩
  · (simp [segW, hR, *]) <;> omega
  · (with_reducible exact below_trans' (below_alloc' (Below.refl _ _) _) hb1)

set_option maxRecDepth 100000 in
set_option maxHeartbeats 1000000 in
theorem rseg_neg (v s m u j : Int) (k : Int) (w : World) (hR : rightW v s m u j = true) (h : k < 0) :
    Calls Try.prog 47 #[.agg #[.int .i64 v, .int .i64 s, .int .i64 m, .int .i64 u, .int .i64 j], .int .i64 k] w fun e w' => e = .returned (.int .i64 (segW v s m u j k)) ∧ Below w.heap.size w w' := by
  go_enter Try.func47, Try.ntmps47
  go_wp2_with (go_at_call 33; refine (rright_any _ _ _ _ _ _).mono ?_; rintro e w1 ⟨rfl, hb1⟩; obtain ⟨hc1, hf1⟩ := bcell hb1; have hz1 := hb1.size; try simp only [World.size_alloc] at hc1 hf1 hz1)
  go_ret
  refine ⟨ret_i ?_, ?_⟩
  · (simp [segW, hR, *]) <;> omega
  · (with_reducible exact below_trans' (below_alloc' (Below.refl _ _) _) hb1)

set_option maxRecDepth 100000 in
set_option maxHeartbeats 1000000 in
theorem rseg_over (v s m u j : Int) (k : Int) (w : World) (hR : rightW v s m u j = true) (h : 0 ≤ k) (h' : s ≤ k) :
    Calls Try.prog 47 #[.agg #[.int .i64 v, .int .i64 s, .int .i64 m, .int .i64 u, .int .i64 j], .int .i64 k] w fun e w' => e = .returned (.int .i64 (segW v s m u j k)) ∧ Below w.heap.size w w' := by
  go_enter Try.func47, Try.ntmps47
  go_wp2_with (go_at_call 33; refine (rright_any _ _ _ _ _ _).mono ?_; rintro e w1 ⟨rfl, hb1⟩; obtain ⟨hc1, hf1⟩ := bcell hb1; have hz1 := hb1.size; try simp only [World.size_alloc] at hc1 hf1 hz1)
  go_ret
  refine ⟨ret_i ?_, ?_⟩
  · (simp [segW, hR, *]) <;> omega
  · (with_reducible exact below_trans' (below_alloc' (Below.refl _ _) _) hb1)

set_option maxRecDepth 100000 in
set_option maxHeartbeats 1000000 in
theorem rseg_ok (v s m u j : Int) (k : Int) (w : World) (hR : rightW v s m u j = true) (h : 0 ≤ k) (h' : k < s) :
    Calls Try.prog 47 #[.agg #[.int .i64 v, .int .i64 s, .int .i64 m, .int .i64 u, .int .i64 j], .int .i64 k] w fun e w' => e = .returned (.int .i64 (segW v s m u j k)) ∧ Below w.heap.size w w' := by
  go_enter Try.func47, Try.ntmps47
  go_wp2_with (go_at_call 33; refine (rright_any _ _ _ _ _ _).mono ?_; rintro e w1 ⟨rfl, hb1⟩; obtain ⟨hc1, hf1⟩ := bcell hb1; have hz1 := hb1.size; try simp only [World.size_alloc] at hc1 hf1 hz1)
  have c0 := cell_regrown (show w1.cell? ⟨w.heap.size, 0, none⟩ = some (.int .i64 v) by rw [hc1 _ _ (by omega)]; go_simp)
  have c1 := cell_regrown (show w1.cell? ⟨w.heap.size, 1, none⟩ = some (.int .i64 s) by rw [hc1 _ _ (by omega)]; go_simp)
  have c2 := cell_regrown (show w1.cell? ⟨w.heap.size, 2, none⟩ = some (.int .i64 m) by rw [hc1 _ _ (by omega)]; go_simp)
  have c3 := cell_regrown (show w1.cell? ⟨w.heap.size, 3, none⟩ = some (.int .i64 u) by rw [hc1 _ _ (by omega)]; go_simp)
  have c4 := cell_regrown (show w1.cell? ⟨w.heap.size, 4, none⟩ = some (.int .i64 j) by rw [hc1 _ _ (by omega)]; go_simp)
  refine wp_region_quiet_below (by kernel_rfl) (by kernel_rfl) ?_
  repeat (go_big_quiet_step (exact Calls.regrown_of (rpages_any _ _ _ _ _ _)))
  refine wpQuiet_nil ?_
  intro _ hw'
  obtain ⟨⟨dq, osq⟩, hw''⟩ := hw'
  subst hw''
  have hb2 := below_regrown w1 dq osq
  generalize grow (redrawn w1 dq) osq = W2 at hb2 ⊢
  clear c0 c1 c2 c3 c4
  go_wp2
  go_ret
  refine ⟨ret_i ?_, ?_⟩
  · rw [segW, if_pos hR, if_neg (by omega), if_neg (by omega)]; rfl
  · (first | (with_reducible exact below_trans' (below_trans' (below_alloc' (Below.refl _ _) _) hb1) hb2) | (with_reducible exact below_trans' (below_alloc' (Below.refl _ _) _) hb1))

set_option maxRecDepth 100000 in
set_option maxHeartbeats 1000000 in
theorem rseg_any (v s m u j : Int) (k : Int) (w : World)  :
    Calls Try.prog 47 #[.agg #[.int .i64 v, .int .i64 s, .int .i64 m, .int .i64 u, .int .i64 j], .int .i64 k] w fun e w' => e = .returned (.int .i64 (segW v s m u j k)) ∧ Below w.heap.size w w' := by
  cases hR : rightW v s m u j
  · exact rseg_false v s m u j k w hR
  · by_cases h : k < 0
    · exact rseg_neg v s m u j k w hR h
    · by_cases h' : s ≤ k
      · exact rseg_over v s m u j k w hR (by omega) h'
      · exact rseg_ok v s m u j k w hR (by omega) (by omega)

end Go.Proofs.Yteeamlidmkpohaa
