/-
  The layout: the functions of the reference, by contract; and that both agree.
-/
import Derived.Test.YteeamlidmkpohaaZad
import Derived.Test.YteeamlidmkpohaaProg
import Derived.Test.YteeamlidmkpohaaZaa
import Derived.ProofKit
import Derived.OpenShut
import Derived.Test.YteeamlidmkpohaaZab
import Derived.Test.YteeamlidmkpohaaZac
import Derived.Deep.RegionHeld3
set_option linter.unusedVariables false
set_option linter.unusedSimpArgs false
namespace Go.Proofs.Yteeamlidmkpohaa
open Go.RowKit Go.Sort

def fieldsW (v s m u j : Int) : Bool :=
  if v < 8 then false else if 4096 < v then false else if v % 8 ≠ 0 then false else if s < 2 then false else if 256 < s then false
  else if u < 1 then false else if 16 < u then false else if m < 16 then false else if 1024 < m then false else if m < 2 * (8 * u + 1) then false
  else decide (8 ≤ j ∧ j ≤ 64)
def rrightW (v s m u j : Int) : Bool := fieldsW v s m u j && decide (plan3 v s m j ≤ 262144)

theorem rright_eq (v s m u j : Int) : rrightW v s m u j = rightW v s m u j := by
  unfold rrightW rightW fieldsW fromB
  by_cases h1 : 8 ≤ v ∧ v ≤ 4096 ∧ v % 8 = 0 ∧ 2 ≤ s ∧ s ≤ 256 ∧ 1 ≤ u ∧ u ≤ 16
  · obtain ⟨a1, a2, a3, a4, a5, a6, a7⟩ := h1
    have e1 : v.tmod 8 = 0 := by rw [Int.tmod_eq_emod_of_nonneg (by omega)]; exact a3
    have e2 : wrap64 (2 * wrap64 (wrap64 (8 * u) + 1)) = 2 * (8 * u + 1) := by unfold wrap64; omega
    rw [e1, e2, if_neg (by omega), if_neg (by omega), if_neg (by omega), if_neg (by omega), if_neg (by omega), if_neg (by omega), if_neg (by omega)]
    by_cases h2 : 16 ≤ m ∧ m ≤ 1024 ∧ 2 * (8 * u + 1) ≤ m
    · rw [if_neg (by omega), if_neg (by omega), if_neg (by omega)]
      have e3 : (decide ((if 16 < 2 * (8 * u + 1) then 2 * (8 * u + 1) else 16) ≤ m) && decide (m ≤ 1024)) = true := by split <;> simp <;> omega
      rw [e3]
      have e4 : (decide (8 ≤ v) && decide (v ≤ 4096)) = true := by simp; omega
      have e5 : (decide (2 ≤ s) && decide (s ≤ 256)) = true := by simp; omega
      have e6 : (decide (1 ≤ u) && decide (u ≤ 16)) = true := by simp; omega
      rw [e4, e5, e6]
      simp
    · have e3 : (decide ((if 16 < 2 * (8 * u + 1) then 2 * (8 * u + 1) else 16) ≤ m) && decide (m ≤ 1024)) = false := by split <;> simp <;> omega
      rw [e3]
      simp only [Bool.and_false, Bool.false_and]
      rw [Bool.and_eq_false_iff]
      left
      by_cases k1 : m < 16
      · rw [if_pos k1]
      · rw [if_neg k1]
        by_cases k2 : 1024 < m
        · rw [if_pos k2]
        · rw [if_neg k2, if_pos (by omega)]
  · have e0 : ((decide (8 ≤ v) && decide (v ≤ 4096)) && (v.tmod 8 == 0) && (decide (2 ≤ s) && decide (s ≤ 256)) && (decide (1 ≤ u) && decide (u ≤ 16))) = false := by
      by_cases hv : 8 ≤ v
      · rw [Int.tmod_eq_emod_of_nonneg (by omega)]
        simp
        omega
      · simp [hv]
    rw [e0]
    simp only [Bool.false_and]
    rw [Bool.and_eq_false_iff]
    left
    by_cases k1 : v < 8
    · rw [if_pos k1]
    rw [if_neg k1]
    by_cases k2 : 4096 < v
    · rw [if_pos k2]
    rw [if_neg k2]
    by_cases k3 : v % 8 ≠ 0
    · rw [if_pos k3]
    rw [if_neg k3]
    by_cases k4 : s < 2
    · rw [if_pos k4]
    rw [if_neg k4]
    by_cases k5 : 256 < s
    · rw [if_pos k5]
    rw [if_neg k5]
    by_cases k6 : u < 1
    · rw [if_pos k6]
    rw [if_neg k6, if_pos (by omega)]

set_option maxRecDepth 100000 in
set_option maxHeartbeats 1000000 in
theorem fields_any (v s m u j : Int) (w : World) :
    Calls Try.prog 125 #[.agg #[.int .i64 v, .int .i64 s, .int .i64 m, .int .i64 u, .int .i64 j]] w fun e w' => e = .returned (.bool (fieldsW v s m u j)) ∧ Below w.heap.size w w' := by
  go_enter Try.func125, Try.ntmps125
  go_wp2
  all_goals go_ret
  all_goals refine ⟨ret_b ?_, below_alloc' (Below.refl _ _) _⟩
  all_goals (unfold fieldsW; repeat (first | rw [if_pos (by omega)] | rw [if_neg (by omega)]))
  all_goals first | rfl | (simp; omega)

set_option maxRecDepth 100000 in
set_option maxHeartbeats 1000000 in
theorem rsectors_any (v s m u j : Int)  (w : World)  :
    Calls Try.prog 126 #[.agg #[.int .i64 v, .int .i64 s, .int .i64 m, .int .i64 u, .int .i64 j]] w fun e w' => e = .returned (.int .i64 (plan3 v s m j)) ∧ Below w.heap.size w w' := by
  go_enter Try.func126, Try.ntmps126
  go_wp2_with fail
  obtain ⟨w1, hw1⟩ : ∃ w1, w1 = w.alloc (.cells #[.int .i64 v, .int .i64 s, .int .i64 m, .int .i64 u, .int .i64 j] 24) := ⟨_, rfl⟩
  have hb1 : Below w.heap.size w w1 := by rw [hw1]; exact below_alloc' (Below.refl _ _) _
  have hcc : ∀ b o, b < w.heap.size + 1 → w1.cell? ⟨b, o, none⟩ = (w.alloc (.cells #[.int .i64 v, .int .i64 s, .int .i64 m, .int .i64 u, .int .i64 j] 24)).cell? ⟨b, o, none⟩ := by intro b o _; rw [hw1]
  rw [← hw1]
  clear hw1
  have c0 := cell_regrown (show w1.cell? ⟨w.heap.size, 0, none⟩ = some (.int .i64 v) by rw [hcc _ _ (by omega)]; go_simp)
  have c1 := cell_regrown (show w1.cell? ⟨w.heap.size, 1, none⟩ = some (.int .i64 s) by rw [hcc _ _ (by omega)]; go_simp)
  have c2 := cell_regrown (show w1.cell? ⟨w.heap.size, 2, none⟩ = some (.int .i64 m) by rw [hcc _ _ (by omega)]; go_simp)
  have c3 := cell_regrown (show w1.cell? ⟨w.heap.size, 3, none⟩ = some (.int .i64 u) by rw [hcc _ _ (by omega)]; go_simp)
  have c4 := cell_regrown (show w1.cell? ⟨w.heap.size, 4, none⟩ = some (.int .i64 j) by rw [hcc _ _ (by omega)]; go_simp)
  clear hcc; refine wp_region_quiet_below (by kernel_rfl) (by kernel_rfl) ?_
  repeat (go_big_quiet_step (exact Calls.regrown_of (rpages_any _ _ _ _ _ _)))
  refine wpQuiet_nil ?_
  intro _ hw'
  obtain ⟨⟨dq, osq⟩, hw''⟩ := hw'
  subst hw''
  have hb2 := below_regrown w1 dq osq
  generalize grow (redrawn w1 dq) osq = W2 at hb2 ⊢
  clear c0 c1 c2 c3 c4
  go_wp2
  go_ret
  exact ⟨rfl, below_trans' hb1 hb2⟩

set_option maxRecDepth 100000 in
set_option maxHeartbeats 1000000 in
theorem rright_true (v s m u j : Int)  (w : World) (hF : fieldsW v s m u j = true) :
    Calls Try.prog 33 #[.agg #[.int .i64 v, .int .i64 s, .int .i64 m, .int .i64 u, .int .i64 j]] w fun e w' => e = .returned (.bool (rrightW v s m u j)) ∧ Below w.heap.size w w' := by
  go_enter Try.func33, Try.ntmps33
  go_wp2_with (first | (go_at_call 125; refine (fields_any _ _ _ _ _ _).mono ?_; rintro e w1 ⟨rfl, hb1⟩; obtain ⟨hc1, hf1⟩ := bcell hb1; have hz1 := hb1.size; try simp only [World.size_alloc] at hc1 hf1 hz1) | (go_at_call 126; refine (rsectors_any _ _ _ _ _ _).mono ?_; rintro e w2 ⟨rfl, hb2⟩; obtain ⟨hc2, hf2⟩ := bcell hb2; have hz2 := hb2.size; try simp only [World.size_alloc] at hc2 hf2 hz2))
  go_ret
  refine ⟨ret_b ?_, ?_⟩
  · simp [rrightW, hF]
  · (first | (with_reducible exact below_trans' (below_trans' (below_alloc' (Below.refl _ _) _) hb1) hb2) | (with_reducible exact below_trans' (below_alloc' (Below.refl _ _) _) hb1))

set_option maxRecDepth 100000 in
set_option maxHeartbeats 1000000 in
theorem rright_false (v s m u j : Int)  (w : World) (hF : fieldsW v s m u j = false) :
    Calls Try.prog 33 #[.agg #[.int .i64 v, .int .i64 s, .int .i64 m, .int .i64 u, .int .i64 j]] w fun e w' => e = .returned (.bool (rrightW v s m u j)) ∧ Below w.heap.size w w' := by
  go_enter Try.func33, Try.ntmps33
  go_wp2_with (first | (go_at_call 125; refine (fields_any _ _ _ _ _ _).mono ?_; rintro e w1 ⟨rfl, hb1⟩; obtain ⟨hc1, hf1⟩ := bcell hb1; have hz1 := hb1.size; try simp only [World.size_alloc] at hc1 hf1 hz1) | (go_at_call 126; refine (rsectors_any _ _ _ _ _ _).mono ?_; rintro e w2 ⟨rfl, hb2⟩; obtain ⟨hc2, hf2⟩ := bcell hb2; have hz2 := hb2.size; try simp only [World.size_alloc] at hc2 hf2 hz2))
  go_ret
  refine ⟨ret_b ?_, ?_⟩
  · simp [rrightW, hF]
  · (first | (with_reducible exact below_trans' (below_trans' (below_alloc' (Below.refl _ _) _) hb1) hb2) | (with_reducible exact below_trans' (below_alloc' (Below.refl _ _) _) hb1))

set_option maxRecDepth 100000 in
set_option maxHeartbeats 1000000 in
theorem rright_any (v s m u j : Int)  (w : World)  :
    Calls Try.prog 33 #[.agg #[.int .i64 v, .int .i64 s, .int .i64 m, .int .i64 u, .int .i64 j]] w fun e w' => e = .returned (.bool (rightW v s m u j)) ∧ Below w.heap.size w w' := by
  rw [← rright_eq]
  cases hF : fieldsW v s m u j
  · exact rright_false v s m u j w hF
  · exact rright_true v s m u j w hF

set_option maxRecDepth 100000 in
set_option maxHeartbeats 1000000 in
theorem rsectorsT_true (v s m u j : Int)  (w : World) (hR : rightW v s m u j = true) :
    Calls Try.prog 35 #[.agg #[.int .i64 v, .int .i64 s, .int .i64 m, .int .i64 u, .int .i64 j]] w fun e w' => e = .returned (.int .i64 (sectorsW v s m u j)) ∧ Below w.heap.size w w' := by
  go_enter Try.func35, Try.ntmps35
  go_wp2_with (first | (go_at_call 33; refine (rright_any _ _ _ _ _ _).mono ?_; rintro e w1 ⟨rfl, hb1⟩; obtain ⟨hc1, hf1⟩ := bcell hb1; have hz1 := hb1.size; try simp only [World.size_alloc] at hc1 hf1 hz1) | (go_at_call 126; refine (rsectors_any _ _ _ _ _ _).mono ?_; rintro e w2 ⟨rfl, hb2⟩; obtain ⟨hc2, hf2⟩ := bcell hb2; have hz2 := hb2.size; try simp only [World.size_alloc] at hc2 hf2 hz2))
  go_ret
  refine ⟨ret_i ?_, ?_⟩
  · simp [sectorsW, hR]
  · (first | (with_reducible exact below_trans' (below_trans' (below_alloc' (Below.refl _ _) _) hb1) hb2) | (with_reducible exact below_trans' (below_alloc' (Below.refl _ _) _) hb1))

set_option maxRecDepth 100000 in
set_option maxHeartbeats 1000000 in
theorem rsectorsT_false (v s m u j : Int)  (w : World) (hR : rightW v s m u j = false) :
    Calls Try.prog 35 #[.agg #[.int .i64 v, .int .i64 s, .int .i64 m, .int .i64 u, .int .i64 j]] w fun e w' => e = .returned (.int .i64 (sectorsW v s m u j)) ∧ Below w.heap.size w w' := by
  go_enter Try.func35, Try.ntmps35
  go_wp2_with (first | (go_at_call 33; refine (rright_any _ _ _ _ _ _).mono ?_; rintro e w1 ⟨rfl, hb1⟩; obtain ⟨hc1, hf1⟩ := bcell hb1; have hz1 := hb1.size; try simp only [World.size_alloc] at hc1 hf1 hz1) | (go_at_call 126; refine (rsectors_any _ _ _ _ _ _).mono ?_; rintro e w2 ⟨rfl, hb2⟩; obtain ⟨hc2, hf2⟩ := bcell hb2; have hz2 := hb2.size; try simp only [World.size_alloc] at hc2 hf2 hz2))
  go_ret
  refine ⟨ret_i ?_, ?_⟩
  · simp [sectorsW, hR]
  · (first | (with_reducible exact below_trans' (below_trans' (below_alloc' (Below.refl _ _) _) hb1) hb2) | (with_reducible exact below_trans' (below_alloc' (Below.refl _ _) _) hb1))

set_option maxRecDepth 100000 in
set_option maxHeartbeats 1000000 in
theorem rsectorsT_any (v s m u j : Int)  (w : World)  :
    Calls Try.prog 35 #[.agg #[.int .i64 v, .int .i64 s, .int .i64 m, .int .i64 u, .int .i64 j]] w fun e w' => e = .returned (.int .i64 (sectorsW v s m u j)) ∧ Below w.heap.size w w' := by
  cases hR : rightW v s m u j
  · exact rsectorsT_false v s m u j w hR
  · exact rsectorsT_true v s m u j w hR

set_option maxRecDepth 100000 in
set_option maxHeartbeats 1000000 in
theorem rpagesT_true (v s m u j : Int)  (w : World) (hR : rightW v s m u j = true) :
    Calls Try.prog 40 #[.agg #[.int .i64 v, .int .i64 s, .int .i64 m, .int .i64 u, .int .i64 j]] w fun e w' => e = .returned (.int .i64 (pagesT v s m u j)) ∧ Below w.heap.size w w' := by
  go_enter Try.func40, Try.ntmps40
  go_wp2_with (first | (go_at_call 33; refine (rright_any _ _ _ _ _ _).mono ?_; rintro e w1 ⟨rfl, hb1⟩; obtain ⟨hc1, hf1⟩ := bcell hb1; have hz1 := hb1.size; try simp only [World.size_alloc] at hc1 hf1 hz1) | (go_at_call 128; refine (rpages_any _ _ _ _ _ _).mono ?_; rintro e w2 ⟨rfl, hb2⟩; obtain ⟨hc2, hf2⟩ := bcell hb2; have hz2 := hb2.size; try simp only [World.size_alloc] at hc2 hf2 hz2))
  go_ret
  refine ⟨ret_i ?_, ?_⟩
  · simp [pagesT, hR]
  · (first | (with_reducible exact below_trans' (below_trans' (below_alloc' (Below.refl _ _) _) hb1) hb2) | (with_reducible exact below_trans' (below_alloc' (Below.refl _ _) _) hb1))

set_option maxRecDepth 100000 in
set_option maxHeartbeats 1000000 in
theorem rpagesT_false (v s m u j : Int)  (w : World) (hR : rightW v s m u j = false) :
    Calls Try.prog 40 #[.agg #[.int .i64 v, .int .i64 s, .int .i64 m, .int .i64 u, .int .i64 j]] w fun e w' => e = .returned (.int .i64 (pagesT v s m u j)) ∧ Below w.heap.size w w' := by
  go_enter Try.func40, Try.ntmps40
  go_wp2_with (first | (go_at_call 33; refine (rright_any _ _ _ _ _ _).mono ?_; rintro e w1 ⟨rfl, hb1⟩; obtain ⟨hc1, hf1⟩ := bcell hb1; have hz1 := hb1.size; try simp only [World.size_alloc] at hc1 hf1 hz1) | (go_at_call 128; refine (rpages_any _ _ _ _ _ _).mono ?_; rintro e w2 ⟨rfl, hb2⟩; obtain ⟨hc2, hf2⟩ := bcell hb2; have hz2 := hb2.size; try simp only [World.size_alloc] at hc2 hf2 hz2))
  go_ret
  refine ⟨ret_i ?_, ?_⟩
  · simp [pagesT, hR]
  · (first | (with_reducible exact below_trans' (below_trans' (below_alloc' (Below.refl _ _) _) hb1) hb2) | (with_reducible exact below_trans' (below_alloc' (Below.refl _ _) _) hb1))

set_option maxRecDepth 100000 in
set_option maxHeartbeats 1000000 in
theorem rpagesT_any (v s m u j : Int)  (w : World)  :
    Calls Try.prog 40 #[.agg #[.int .i64 v, .int .i64 s, .int .i64 m, .int .i64 u, .int .i64 j]] w fun e w' => e = .returned (.int .i64 (pagesT v s m u j)) ∧ Below w.heap.size w w' := by
  cases hR : rightW v s m u j
  · exact rpagesT_false v s m u j w hR
  · exact rpagesT_true v s m u j w hR

set_option maxRecDepth 100000 in
set_option maxHeartbeats 1000000 in
theorem rslot_false (v s m u j : Int) (i : Int) (w : World) (hR : rightW v s m u j = false) :
    Calls Try.prog 42 #[.agg #[.int .i64 v, .int .i64 s, .int .i64 m, .int .i64 u, .int .i64 j], .int .i64 i] w fun e w' => e = .returned (.int .i64 (oneW v s m u j i 0 1)) ∧ Below w.heap.size w w' := by
  go_enter Try.func42, Try.ntmps42
  go_wp2_with (go_at_call 33; refine (rright_any _ _ _ _ _ _).mono ?_; rintro e w1 ⟨rfl, hb1⟩; obtain ⟨hc1, hf1⟩ := bcell hb1; have hz1 := hb1.size; try simp only [World.size_alloc] at hc1 hf1 hz1)
  go_ret
  refine ⟨ret_i ?_, ?_⟩
  · (simp [oneW, hR, *]) <;> omega
  · (with_reducible exact below_trans' (below_alloc' (Below.refl _ _) _) hb1)

set_option maxRecDepth 100000 in
set_option maxHeartbeats 1000000 in
theorem rslot_neg (v s m u j : Int) (i : Int) (w : World) (hR : rightW v s m u j = true) (h : i < 0) :
    Calls Try.prog 42 #[.agg #[.int .i64 v, .int .i64 s, .int .i64 m, .int .i64 u, .int .i64 j], .int .i64 i] w fun e w' => e = .returned (.int .i64 (oneW v s m u j i 0 1)) ∧ Below w.heap.size w w' := by
  go_enter Try.func42, Try.ntmps42
  go_wp2_with (go_at_call 33; refine (rright_any _ _ _ _ _ _).mono ?_; rintro e w1 ⟨rfl, hb1⟩; obtain ⟨hc1, hf1⟩ := bcell hb1; have hz1 := hb1.size; try simp only [World.size_alloc] at hc1 hf1 hz1)
  go_ret
  refine ⟨ret_i ?_, ?_⟩
  · (simp [oneW, hR, *]) <;> omega
  · (with_reducible exact below_trans' (below_alloc' (Below.refl _ _) _) hb1)

set_option maxRecDepth 100000 in
set_option maxHeartbeats 1000000 in
theorem rslot_pos (v s m u j : Int) (i : Int) (w : World) (hR : rightW v s m u j = true) (h : 0 ≤ i) :
    Calls Try.prog 42 #[.agg #[.int .i64 v, .int .i64 s, .int .i64 m, .int .i64 u, .int .i64 j], .int .i64 i] w fun e w' => e = .returned (.int .i64 (oneW v s m u j i 0 1)) ∧ Below w.heap.size w w' := by
  go_enter Try.func42, Try.ntmps42
  go_wp2_with (go_at_call 33; refine (rright_any _ _ _ _ _ _).mono ?_; rintro e w1 ⟨rfl, hb1⟩; obtain ⟨hc1, hf1⟩ := bcell hb1; have hz1 := hb1.size; try simp only [World.size_alloc] at hc1 hf1 hz1)
  go_ret
  refine ⟨ret_i ?_, ?_⟩
  · rw [oneW, if_pos hR, if_neg (by omega)]; unfold wrap64; omega
  · (with_reducible exact below_trans' (below_alloc' (Below.refl _ _) _) hb1)

set_option maxRecDepth 100000 in
set_option maxHeartbeats 1000000 in
theorem rslot_any (v s m u j : Int) (i : Int) (w : World)  :
    Calls Try.prog 42 #[.agg #[.int .i64 v, .int .i64 s, .int .i64 m, .int .i64 u, .int .i64 j], .int .i64 i] w fun e w' => e = .returned (.int .i64 (oneW v s m u j i 0 1)) ∧ Below w.heap.size w w' := by
  cases hR : rightW v s m u j
  · exact rslot_false v s m u j i w hR
  · by_cases h : i < 0
    · exact rslot_neg v s m u j i w hR h
    · exact rslot_pos v s m u j i w hR (by omega)

set_option maxRecDepth 100000 in
set_option maxHeartbeats 1000000 in
theorem rhalf_false (v s m u j : Int) (i : Int) (w : World) (hR : rightW v s m u j = false) :
    Calls Try.prog 44 #[.agg #[.int .i64 v, .int .i64 s, .int .i64 m, .int .i64 u, .int .i64 j], .int .i64 i] w fun e w' => e = .returned (.int .i64 (oneW v s m u j i 2 j)) ∧ Below w.heap.size w w' := by
  go_enter Try.func44, Try.ntmps44
  go_wp2_with (go_at_call 33; refine (rright_any _ _ _ _ _ _).mono ?_; rintro e w1 ⟨rfl, hb1⟩; obtain ⟨hc1, hf1⟩ := bcell hb1; have hz1 := hb1.size; try simp only [World.size_alloc] at hc1 hf1 hz1)
  go_ret
  refine ⟨ret_i ?_, ?_⟩
  · (simp [oneW, hR, *]) <;> omega
  · (with_reducible exact below_trans' (below_alloc' (Below.refl _ _) _) hb1)

set_option maxRecDepth 100000 in
set_option maxHeartbeats 1000000 in
theorem rhalf_neg (v s m u j : Int) (i : Int) (w : World) (hR : rightW v s m u j = true) (h : i < 0) :
    Calls Try.prog 44 #[.agg #[.int .i64 v, .int .i64 s, .int .i64 m, .int .i64 u, .int .i64 j], .int .i64 i] w fun e w' => e = .returned (.int .i64 (oneW v s m u j i 2 j)) ∧ Below w.heap.size w w' := by
  go_enter Try.func44, Try.ntmps44
  go_wp2_with (go_at_call 33; refine (rright_any _ _ _ _ _ _).mono ?_; rintro e w1 ⟨rfl, hb1⟩; obtain ⟨hc1, hf1⟩ := bcell hb1; have hz1 := hb1.size; try simp only [World.size_alloc] at hc1 hf1 hz1)
  go_ret
  refine ⟨ret_i ?_, ?_⟩
  · (simp [oneW, hR, *]) <;> omega
  · (with_reducible exact below_trans' (below_alloc' (Below.refl _ _) _) hb1)

set_option maxRecDepth 100000 in
set_option maxHeartbeats 1000000 in
theorem rhalf_pos (v s m u j : Int) (i : Int) (w : World) (hR : rightW v s m u j = true) (h : 0 ≤ i) :
    Calls Try.prog 44 #[.agg #[.int .i64 v, .int .i64 s, .int .i64 m, .int .i64 u, .int .i64 j], .int .i64 i] w fun e w' => e = .returned (.int .i64 (oneW v s m u j i 2 j)) ∧ Below w.heap.size w w' := by
  go_enter Try.func44, Try.ntmps44
  go_wp2_with (go_at_call 33; refine (rright_any _ _ _ _ _ _).mono ?_; rintro e w1 ⟨rfl, hb1⟩; obtain ⟨hc1, hf1⟩ := bcell hb1; have hz1 := hb1.size; try simp only [World.size_alloc] at hc1 hf1 hz1)
  go_ret
  refine ⟨ret_i ?_, ?_⟩
  · rw [oneW, if_pos hR, if_neg (by omega)]
  · (with_reducible exact below_trans' (below_alloc' (Below.refl _ _) _) hb1)

set_option maxRecDepth 100000 in
set_option maxHeartbeats 1000000 in
theorem rhalf_any (v s m u j : Int) (i : Int) (w : World)  :
    Calls Try.prog 44 #[.agg #[.int .i64 v, .int .i64 s, .int .i64 m, .int .i64 u, .int .i64 j], .int .i64 i] w fun e w' => e = .returned (.int .i64 (oneW v s m u j i 2 j)) ∧ Below w.heap.size w w' := by
  cases hR : rightW v s m u j
  · exact rhalf_false v s m u j i w hR
  · by_cases h : i < 0
    · exact rhalf_neg v s m u j i w hR h
    · exact rhalf_pos v s m u j i w hR (by omega)

set_option maxRecDepth 100000 in
set_option maxHeartbeats 1000000 in
theorem rarea_false (v s m u j : Int) (i : Int) (w : World) (hR : rightW v s m u j = false) :
    Calls Try.prog 46 #[.agg #[.int .i64 v, .int .i64 s, .int .i64 m, .int .i64 u, .int .i64 j], .int .i64 i] w fun e w' => e = .returned (.int .i64 (oneW v s m u j i (plan1 j) (wrap64 (2 * pagesW v s m)))) ∧ Below w.heap.size w w' := by
  go_enter Try.func46, Try.ntmps46
  go_wp2_with (go_at_call 33; refine (rright_any _ _ _ _ _ _).mono ?_; rintro e w1 ⟨rfl, hb1⟩; obtain ⟨hc1, hf1⟩ := bcell hb1; have hz1 := hb1.size; try simp only [World.size_alloc] at hc1 hf1 hz1)
  go_ret
  refine ⟨ret_i ?_, ?_⟩
  · (simp [oneW, hR, *]) <;> omega
  · (with_reducible exact below_trans' (below_alloc' (Below.refl _ _) _) hb1)

set_option maxRecDepth 100000 in
set_option maxHeartbeats 1000000 in
theorem rarea_neg (v s m u j : Int) (i : Int) (w : World) (hR : rightW v s m u j = true) (h : i < 0) :
    Calls Try.prog 46 #[.agg #[.int .i64 v, .int .i64 s, .int .i64 m, .int .i64 u, .int .i64 j], .int .i64 i] w fun e w' => e = .returned (.int .i64 (oneW v s m u j i (plan1 j) (wrap64 (2 * pagesW v s m)))) ∧ Below w.heap.size w w' := by
  go_enter Try.func46, Try.ntmps46
  go_wp2_with (go_at_call 33; refine (rright_any _ _ _ _ _ _).mono ?_; rintro e w1 ⟨rfl, hb1⟩; obtain ⟨hc1, hf1⟩ := bcell hb1; have hz1 := hb1.size; try simp only [World.size_alloc] at hc1 hf1 hz1)
  go_ret
  refine ⟨ret_i ?_, ?_⟩
  · (simp [oneW, hR, *]) <;> omega
  · (with_reducible exact below_trans' (below_alloc' (Below.refl _ _) _) hb1)

set_option maxRecDepth 100000 in
set_option maxHeartbeats 1000000 in
theorem rarea_pos (v s m u j : Int) (i : Int) (w : World) (hR : rightW v s m u j = true) (h : 0 ≤ i) :
    Calls Try.prog 46 #[.agg #[.int .i64 v, .int .i64 s, .int .i64 m, .int .i64 u, .int .i64 j], .int .i64 i] w fun e w' => e = .returned (.int .i64 (oneW v s m u j i (plan1 j) (wrap64 (2 * pagesW v s m)))) ∧ Below w.heap.size w w' := by
  go_enter Try.func46, Try.ntmps46
  go_wp2_with (go_at_call 33; refine (rright_any _ _ _ _ _ _).mono ?_; rintro e w1 ⟨rfl, hb1⟩; obtain ⟨hc1, hf1⟩ := bcell hb1; have hz1 := hb1.size; try simp only [World.size_alloc] at hc1 hf1 hz1)
  have c0 := cell_regrown (show w1.cell? ⟨w.heap.size, 0, none⟩ = some (.int .i64 v) by rw [hc1 _ _ (by omega)]; go_simp)
  have c1 := cell_regrown (show w1.cell? ⟨w.heap.size, 1, none⟩ = some (.int .i64 s) by rw [hc1 _ _ (by omega)]; go_simp)
  have c2 := cell_regrown (show w1.cell? ⟨w.heap.size, 2, none⟩ = some (.int .i64 m) by rw [hc1 _ _ (by omega)]; go_simp)
  have c3 := cell_regrown (show w1.cell? ⟨w.heap.size, 3, none⟩ = some (.int .i64 u) by rw [hc1 _ _ (by omega)]; go_simp)
  have c4 := cell_regrown (show w1.cell? ⟨w.heap.size, 4, none⟩ = some (.int .i64 j) by rw [hc1 _ _ (by omega)]; go_simp)
  refine wp_region_quiet_below (by kernel_rfl) (by kernel_rfl) ?_
  repeat (go_big_quiet_step (exact Calls.regrown_of (rpages_any _ _ _ _ _ _)))
  refine wpQuiet_nil ?_
  intro _ hw'
  obtain ⟨⟨dq, osq⟩, hw''⟩ := hw'
  subst hw''
  have hb2 := below_regrown w1 dq osq
  generalize grow (redrawn w1 dq) osq = W2 at hb2 ⊢
  clear c0 c1 c2 c3 c4
  go_wp2
  go_ret
  refine ⟨ret_i ?_, ?_⟩
  · rw [oneW, if_pos hR, if_neg (by omega)]; rcases (show i % 2 = 0 ∨ i % 2 = 1 by omega) with e | e <;> rw [e] <;> unfold plan1 wrap64 <;> omega
  · (first | (with_reducible exact below_trans' (below_trans' (below_alloc' (Below.refl _ _) _) hb1) hb2) | (with_reducible exact below_trans' (below_alloc' (Below.refl _ _) _) hb1))

set_option maxRecDepth 100000 in
set_option maxHeartbeats 1000000 in
theorem rarea_any (v s m u j : Int) (i : Int) (w : World)  :
    Calls Try.prog 46 #[.agg #[.int .i64 v, .int .i64 s, .int .i64 m, .int .i64 u, .int .i64 j], .int .i64 i] w fun e w' => e = .returned (.int .i64 (oneW v s m u j i (plan1 j) (wrap64 (2 * pagesW v s m)))) ∧ Below w.heap.size w w' := by
  cases hR : rightW v s m u j
  · exact rarea_false v s m u j i w hR
  · by_cases h : i < 0
    · exact rarea_neg v s m u j i w hR h
    · exact rarea_pos v s m u j i w hR (by omega)

set_option maxRecDepth 100000 in
set_option maxHeartbeats 1000000 in
theorem rseg_false (v s m u j : Int) (k : Int) (w : World) (hR : rightW v s m u j = false) :
    Calls Try.prog 47 #[.agg #[.int .i64 v, .int .i64 s, .int .i64 m, .int .i64 u, .int .i64 j], .int .i64 k] w fun e w' => e = .returned (.int .i64 (segW v s m u j k)) ∧ Below w.heap.size w w' := by
  go_enter Try.func47, Try.ntmps47
  go_wp2_with (go_at_call 33; refine (rright_any _ _ _ _ _ _).mono ?_; rintro e w1 ⟨rfl, hb1⟩; obtain ⟨hc1, hf1⟩ := bcell hb1; have hz1 := hb1.size; try simp only [World.size_alloc] at hc1 hf1 hz1)
  go_ret
  refine ⟨ret_i ?_, ?_⟩
  · (simp [segW, hR, *]) <;> omega
  · (with_reducible exact below_trans' (below_alloc' (Below.refl _ _) _) hb1)

set_option maxRecDepth 100000 in
set_option maxHeartbeats 1000000 in
theorem rseg_neg (v s m u j : Int) (k : Int) (w : World) (hR : rightW v s m u j = true) (h : k < 0) :
    Calls Try.prog 47 #[.agg #[.int .i64 v, .int .i64 s, .int .i64 m, .int .i64 u, .int .i64 j], .int .i64 k] w fun e w' => e = .returned (.int .i64 (segW v s m u j k)) ∧ Below w.heap.size w w' := by
  go_enter Try.func47, Try.ntmps47
  go_wp2_with (go_at_call 33; refine (rright_any _ _ _ _ _ _).mono ?_; rintro e w1 ⟨rfl, hb1⟩; obtain ⟨hc1, hf1⟩ := bcell hb1; have hz1 := hb1.size; try simp only [World.size_alloc] at hc1 hf1 hz1)
  go_ret
  refine ⟨ret_i ?_, ?_⟩
  · (simp [segW, hR, *]) <;> omega
  · (with_reducible exact below_trans' (below_alloc' (Below.refl _ _) _) hb1)

set_option maxRecDepth 100000 in
set_option maxHeartbeats 1000000 in
theorem rseg_over (v s m u j : Int) (k : Int) (w : World) (hR : rightW v s m u j = true) (h : 0 ≤ k) (h' : s ≤ k) :
    Calls Try.prog 47 #[.agg #[.int .i64 v, .int .i64 s, .int .i64 m, .int .i64 u, .int .i64 j], .int .i64 k] w fun e w' => e = .returned (.int .i64 (segW v s m u j k)) ∧ Below w.heap.size w w' := by
  go_enter Try.func47, Try.ntmps47
  go_wp2_with (go_at_call 33; refine (rright_any _ _ _ _ _ _).mono ?_; rintro e w1 ⟨rfl, hb1⟩; obtain ⟨hc1, hf1⟩ := bcell hb1; have hz1 := hb1.size; try simp only [World.size_alloc] at hc1 hf1 hz1)
  go_ret
  refine ⟨ret_i ?_, ?_⟩
  · (simp [segW, hR, *]) <;> omega
  · (with_reducible exact below_trans' (below_alloc' (Below.refl _ _) _) hb1)

set_option maxRecDepth 100000 in
set_option maxHeartbeats 1000000 in
theorem rseg_ok (v s m u j : Int) (k : Int) (w : World) (hR : rightW v s m u j = true) (h : 0 ≤ k) (h' : k < s) :
    Calls Try.prog 47 #[.agg #[.int .i64 v, .int .i64 s, .int .i64 m, .int .i64 u, .int .i64 j], .int .i64 k] w fun e w' => e = .returned (.int .i64 (segW v s m u j k)) ∧ Below w.heap.size w w' := by
  go_enter Try.func47, Try.ntmps47
  go_wp2_with (go_at_call 33; refine (rright_any _ _ _ _ _ _).mono ?_; rintro e w1 ⟨rfl, hb1⟩; obtain ⟨hc1, hf1⟩ := bcell hb1; have hz1 := hb1.size; try simp only [World.size_alloc] at hc1 hf1 hz1)
  have c0 := cell_regrown (show w1.cell? ⟨w.heap.size, 0, none⟩ = some (.int .i64 v) by rw [hc1 _ _ (by omega)]; go_simp)
  have c1 := cell_regrown (show w1.cell? ⟨w.heap.size, 1, none⟩ = some (.int .i64 s) by rw [hc1 _ _ (by omega)]; go_simp)
  have c2 := cell_regrown (show w1.cell? ⟨w.heap.size, 2, none⟩ = some (.int .i64 m) by rw [hc1 _ _ (by omega)]; go_simp)
  have c3 := cell_regrown (show w1.cell? ⟨w.heap.size, 3, none⟩ = some (.int .i64 u) by rw [hc1 _ _ (by omega)]; go_simp)
  have c4 := cell_regrown (show w1.cell? ⟨w.heap.size, 4, none⟩ = some (.int .i64 j) by rw [hc1 _ _ (by omega)]; go_simp)
  refine wp_region_quiet_below (by kernel_rfl) (by kernel_rfl) ?_
  repeat (go_big_quiet_step (exact Calls.regrown_of (rpages_any _ _ _ _ _ _)))
  refine wpQuiet_nil ?_
  intro _ hw'
  obtain ⟨⟨dq, osq⟩, hw''⟩ := hw'
  subst hw''
  have hb2 := below_regrown w1 dq osq
  generalize grow (redrawn w1 dq) osq = W2 at hb2 ⊢
  clear c0 c1 c2 c3 c4
  go_wp2
  go_ret
  refine ⟨ret_i ?_, ?_⟩
  · rw [segW, if_pos hR, if_neg (by omega), if_neg (by omega)]; rfl
  · (first | (with_reducible exact below_trans' (below_trans' (below_alloc' (Below.refl _ _) _) hb1) hb2) | (with_reducible exact below_trans' (below_alloc' (Below.refl _ _) _) hb1))

set_option maxRecDepth 100000 in
set_option maxHeartbeats 1000000 in
theorem rseg_any (v s m u j : Int) (k : Int) (w : World)  :
    Calls Try.prog 47 #[.agg #[.int .i64 v, .int .i64 s, .int .i64 m, .int .i64 u, .int .i64 j], .int .i64 k] w fun e w' => e = .returned (.int .i64 (segW v s m u j k)) ∧ Below w.heap.size w w' := by
  cases hR : rightW v s m u j
  · exact rseg_false v s m u j k w hR
  · by_cases h : k < 0
    · exact rseg_neg v s m u j k w hR h
    · by_cases h' : s ≤ k
      · exact rseg_over v s m u j k w hR (by omega) h'
      · exact rseg_ok v s m u j k w hR (by omega) (by omega)

end Go.Proofs.Yteeamlidmkpohaa


/-
  The layout: the reference's In, which goes through the segments, tells what In of the package tells.
-/
set_option linter.unusedVariables false
set_option linter.unusedSimpArgs false
namespace Go.Proofs.Yteeamlidmkpohaa
open Go.RowKit Go.Sort

/-- what a right geometry is, in plain numbers -/
structure Right (v s m u j : Int) : Prop where
  v1 : 8 ≤ v
  v2 : v ≤ 4096
  s1 : 2 ≤ s
  s2 : s ≤ 256
  m1 : 16 ≤ m
  m2 : m ≤ 1024
  j1 : 8 ≤ j
  j2 : j ≤ 64
  sm : 0 ≤ s * m
  pg : pagesW v s m = pagesI v s m
  pg2 : 2 ≤ pagesI v s m
  p1 : plan1 j = 2 + 2 * j
  p2 : plan2 v s m j = 2 + 2 * j + 4 * pagesI v s m
  p3 : plan3 v s m j = 2 + 2 * j + 4 * pagesI v s m + s * m
  le : plan3 v s m j ≤ 262144

theorem right_plain {v s m u j : Int} (h : rightW v s m u j = true) : Right v s m u j := by
  have hm := right_m h
  rw [← rright_eq] at h
  simp only [rrightW, Bool.and_eq_true, decide_eq_true_eq] at h
  obtain ⟨hf, hle⟩ := h
  unfold fieldsW at hf
  by_cases k1 : v < 8
  · rw [if_pos k1] at hf; cases hf
  rw [if_neg k1] at hf
  by_cases k2 : 4096 < v
  · rw [if_pos k2] at hf; cases hf
  rw [if_neg k2] at hf
  by_cases k3 : v % 8 ≠ 0
  · rw [if_pos k3] at hf; cases hf
  rw [if_neg k3] at hf
  by_cases k4 : s < 2
  · rw [if_pos k4] at hf; cases hf
  rw [if_neg k4] at hf
  by_cases k5 : 256 < s
  · rw [if_pos k5] at hf; cases hf
  rw [if_neg k5] at hf
  by_cases k6 : u < 1
  · rw [if_pos k6] at hf; cases hf
  rw [if_neg k6] at hf
  by_cases k7 : 16 < u
  · rw [if_pos k7] at hf; cases hf
  rw [if_neg k7] at hf
  by_cases k8 : m < 16
  · rw [if_pos k8] at hf; cases hf
  rw [if_neg k8] at hf
  by_cases k9 : 1024 < m
  · rw [if_pos k9] at hf; cases hf
  rw [if_neg k9] at hf
  by_cases k10 : m < 2 * (8 * u + 1)
  · rw [if_pos k10] at hf; cases hf
  rw [if_neg k10] at hf
  simp only [decide_eq_true_eq] at hf
  have sm0 : 0 ≤ s * m := Int.mul_nonneg (by omega) (by omega)
  have sm1 : s * m ≤ 256 * 1024 := Int.mul_le_mul (by omega) (by omega) (by omega) (by omega)
  have hv : v.tdiv 8 = v / 8 := Int.tdiv_eq_ediv_of_nonneg (by omega)
  have e0 : wrap64 (wrap64 (s * m) + wrap64 (9 * wrap64 (v.tdiv 8))) = s * m + 9 * (v / 8) := by rw [hv]; unfold wrap64; omega
  have e1 : wrap64 (s * m + 9 * (v / 8) + 8) = s * m + 9 * (v / 8) + 8 := by unfold wrap64; omega
  have e2 : (s * m + 9 * (v / 8) + 8).tdiv 4 = (s * m + 9 * (v / 8) + 8) / 4 := Int.tdiv_eq_ediv_of_nonneg (by omega)
  have pg : pagesW v s m = pagesI v s m := by
    unfold pagesW pagesI
    rw [e0, e1, e2]
    unfold wrap64
    omega
  have pg2 : 2 ≤ pagesI v s m := by unfold pagesI; omega
  have pg3 : pagesI v s m ≤ 70000 := by unfold pagesI; omega
  have p1 : plan1 j = 2 + 2 * j := by unfold plan1 wrap64; omega
  have p2 : plan2 v s m j = 2 + 2 * j + 4 * pagesI v s m := by unfold plan2; rw [p1, pg]; unfold wrap64; omega
  have p3 : plan3 v s m j = 2 + 2 * j + 4 * pagesI v s m + s * m := by unfold plan3; rw [p2]; unfold wrap64; omega
  exact ⟨by omega, by omega, by omega, by omega, by omega, by omega, by omega, by omega, sm0, pg, pg2, p1, p2, p3, hle⟩

theorem seg_plain {v s m u j : Int} (hR : rightW v s m u j = true) {k : Int} (h : 0 ≤ k) (h' : k < s) : segW v s m u j k = 2 + 2 * j + 4 * pagesI v s m + k * m ∧ 0 ≤ k * m ∧ k * m + m ≤ s * m := by
  have R := right_plain hR
  have a1 : 0 ≤ k * m := Int.mul_nonneg h (by have := R.m1; omega)
  have a2 : (k + 1) * m ≤ s * m := Int.mul_le_mul_of_nonneg_right (by omega) (by have := R.m1; omega)
  rw [Int.add_mul, Int.one_mul] at a2
  have := R.m1
  have := R.le
  have := R.p3
  have := R.p2
  have := R.j1
  have := R.pg2
  refine ⟨?_, a1, a2⟩
  rw [segW, if_pos hR, if_neg (by omega), if_neg (by omega), R.p2]
  unfold wrap64
  omega

theorem in_plain {v s m u j : Int} (hR : rightW v s m u j = true) (at_ : Int) :
    inW v s m u j at_ = if at_ < 2 + 2 * j + 4 * pagesI v s m then none else if 2 + 2 * j + 4 * pagesI v s m + s * m ≤ at_ then none else some ((at_ - (2 + 2 * j + 4 * pagesI v s m)) / m) := by
  have R := right_plain hR
  have := R.le; have := R.p3; have := R.j1; have := R.pg2; have := R.m1; have := R.sm
  rw [inW, if_pos hR, R.p2, R.p3]
  by_cases h1 : at_ < 2 + 2 * j + 4 * pagesI v s m
  · rw [if_pos h1, if_pos h1]
  rw [if_neg h1, if_neg h1]
  by_cases h2 : 2 + 2 * j + 4 * pagesI v s m + s * m ≤ at_
  · rw [if_pos h2, if_pos h2]
  rw [if_neg h2, if_neg h2]
  have e1 : wrap64 (at_ - (2 + 2 * j + 4 * pagesI v s m)) = at_ - (2 + 2 * j + 4 * pagesI v s m) := by unfold wrap64; omega
  have e2 : (at_ - (2 + 2 * j + 4 * pagesI v s m)).tdiv m = (at_ - (2 + 2 * j + 4 * pagesI v s m)) / m := Int.tdiv_eq_ediv_of_nonneg (by omega)
  rw [e1, e2]
  have a := Int.ediv_nonneg (a := at_ - (2 + 2 * j + 4 * pagesI v s m)) (b := m) (by omega) (by omega)
  have b := Int.ediv_le_self (a := at_ - (2 + 2 * j + 4 * pagesI v s m)) m (by omega)
  congr 1
  unfold wrap64
  omega

/-- the segment of a place is the first that reaches it -/
theorem in_found {v s m u j : Int} (hR : rightW v s m u j = true) {k at_ : Int} (h : 0 ≤ k) (h' : k < s) (h1 : segW v s m u j k ≤ at_) (h2 : at_ - segW v s m u j k < m) : inW v s m u j at_ = some k := by
  have R := right_plain hR
  have := R.m1
  obtain ⟨e, a1, a2⟩ := seg_plain hR h h'
  rw [in_plain hR, if_neg (by omega), if_neg (by omega)]
  congr 1
  have e3 : at_ - (2 + 2 * j + 4 * pagesI v s m) = (at_ - segW v s m u j k) + k * m := by omega
  rw [e3, Int.add_mul_ediv_right _ _ (by omega), Int.ediv_eq_zero_of_lt (by omega) h2]
  omega
theorem in_nowhere {v s m u j : Int} (hR : rightW v s m u j = true) {at_ : Int} (h : ∀ k : Int, 0 ≤ k → k < s → segW v s m u j k ≤ at_ → m ≤ at_ - segW v s m u j k) : inW v s m u j at_ = none := by
  have R := right_plain hR
  have := R.m1
  rw [in_plain hR]
  by_cases h1 : at_ < 2 + 2 * j + 4 * pagesI v s m
  · rw [if_pos h1]
  rw [if_neg h1]
  by_cases h2 : 2 + 2 * j + 4 * pagesI v s m + s * m ≤ at_
  · rw [if_pos h2]
  exfalso
  have q0 : 0 ≤ (at_ - (2 + 2 * j + 4 * pagesI v s m)) / m := Int.ediv_nonneg (by omega) (by omega)
  have q1 : (at_ - (2 + 2 * j + 4 * pagesI v s m)) / m < s := by
    rw [Int.ediv_lt_iff_lt_mul (by omega)]; omega
  obtain ⟨e, a1, a2⟩ := seg_plain hR q0 q1
  have r := Int.emod_add_mul_ediv (at_ - (2 + 2 * j + 4 * pagesI v s m)) m
  have r1 := Int.emod_nonneg (at_ - (2 + 2 * j + 4 * pagesI v s m)) (show m ≠ 0 by omega)
  have r2 := Int.emod_lt_of_pos (at_ - (2 + 2 * j + 4 * pagesI v s m)) (show 0 < m by omega)
  have hc := h _ q0 q1
  rw [e, Int.mul_comm _ m] at hc
  have := hc (by omega)
  omega

set_option maxRecDepth 100000 in
set_option maxHeartbeats 1000000 in
theorem rin_false (v s m u j : Int) (at_ : Int) (w : World) (hR : rightW v s m u j = false) :
    Calls Try.prog 38 #[.agg #[.int .i64 v, .int .i64 s, .int .i64 m, .int .i64 u, .int .i64 j], .int .i64 at_] w fun e w' => e = .returned (.tuple #[.int .i64 ((inW v s m u j at_).getD 0), .bool (inW v s m u j at_).isSome]) ∧ Below w.heap.size w w' := by
  by_cases hs : 0 < s
  all_goals
    go_enter Try.func38, Try.ntmps38
    go_wp2
    refine wp_loop_once ?_
    go_wp2_with (go_at_call 33; refine (rright_any _ _ _ _ _ _).mono ?_; rintro e w1 ⟨rfl, hb1⟩; obtain ⟨hc1, hf1⟩ := bcell hb1; have hz1 := hb1.size; simp only [World.size_alloc] at hc1 hf1 hz1)
    go_ret2
    refine ⟨ret_ib ?_ ?_, ?_⟩
    · simp [inW, hR]
    · simp [inW, hR]
    · first | (with_reducible exact below_trans' (below_alloc' (Below.refl _ _) _) hb1) | (with_reducible exact below_alloc' (Below.refl _ _) _)

/-- The box of a geometry lies where it lay. -/
def BoxG (v s m u j : Int) (b : Nat) (w : World) : Prop :=
  w.cell? ⟨b, 0, none⟩ = some (.int .i64 v) ∧ w.cell? ⟨b, 1, none⟩ = some (.int .i64 s) ∧ w.cell? ⟨b, 2, none⟩ = some (.int .i64 m) ∧ w.cell? ⟨b, 3, none⟩ = some (.int .i64 u) ∧ w.cell? ⟨b, 4, none⟩ = some (.int .i64 j)
theorem BoxG.new (v s m u j : Int) (w : World) : BoxG v s m u j w.heap.size (w.alloc (.cells #[.int .i64 v, .int .i64 s, .int .i64 m, .int .i64 u, .int .i64 j] 24)) := by
  refine ⟨?_, ?_, ?_, ?_, ?_⟩ <;> go_simp
theorem BoxG.lt {v s m u j : Int} {b : Nat} {w : World} (h : BoxG v s m u j b w) : b < w.heap.size := World.block_lt_of_cell? w ⟨b, 0, none⟩ h.1
theorem BoxG.below {v s m u j : Int} {b : Nat} {w w' : World} (h : BoxG v s m u j b w) (hb : Below w.heap.size w w') : BoxG v s m u j b w' := by
  have hl := h.lt
  obtain ⟨h0, h1, h2, h3, h4⟩ := h
  obtain ⟨hc, _⟩ := bcell hb
  exact ⟨(hc _ _ hl).trans h0, (hc _ _ hl).trans h1, (hc _ _ hl).trans h2, (hc _ _ hl).trans h3, (hc _ _ hl).trans h4⟩
theorem BoxG.alloc {v s m u j : Int} {b : Nat} {w : World} (h : BoxG v s m u j b w) (o : Obj) : BoxG v s m u j b (w.alloc o) := h.below (below_alloc' (Below.refl _ _) o)

set_option maxRecDepth 100000 in
set_option maxHeartbeats 2000000 in
theorem rin_true (v s m u j : Int) (at_ : Int) (w : World) (hR : rightW v s m u j = true) (ha : -9223372036854775808 ≤ at_) (ha' : at_ ≤ 9223372036854775807) :
    Calls Try.prog 38 #[.agg #[.int .i64 v, .int .i64 s, .int .i64 m, .int .i64 u, .int .i64 j], .int .i64 at_] w fun e w' => e = .returned (.tuple #[.int .i64 ((inW v s m u j at_).getD 0), .bool (inW v s m u j at_).isSome]) ∧ Below w.heap.size w w' := by
  have R := right_plain hR
  have hs1 := R.s1
  have hs2 := R.s2
  have HR := Lib.hid hR
  clear R
  go_enter Try.func38, Try.ntmps38
  go_wp2
  have hbox := BoxG.new v s m u j w
  have hbw : Below w.heap.size w (w.alloc (.cells #[.int .i64 v, .int .i64 s, .int .i64 m, .int .i64 u, .int .i64 j] 24)) := below_alloc' (Below.refl _ _) _
  generalize w.alloc (.cells #[.int .i64 v, .int .i64 s, .int .i64 m, .int .i64 u, .int .i64 j] 24) = wa at hbox hbw ⊢
  go_loopw [6] (fun x wr => ∃ k : Nat, (k : Int) ≤ s ∧ x = .int .i64 k ∧ (∀ i : Int, 0 ≤ i → i < k → segW v s m u j i ≤ at_ → m ≤ at_ - segW v s m u j i) ∧ BoxG v s m u j w.heap.size wr ∧ Below w.heap.size w wr) (fun x _ => (s - intOf x).toNat)
  case atStart => exact ⟨0, by omega, rfl, fun i h1 h2 => by omega, hbox, hbw⟩
  case round =>
    obtain ⟨k, hk, rfl, hno, hbx, hbe⟩ := hrel
    have HN := Lib.hid hno
    clear hno hbox hbw
    obtain ⟨c0, c1, c2, c3, c4⟩ := id hbx
    have hR := HR.out
    by_cases hlt : (k : Int) < s
    · by_cases h1 : segW v s m u j k ≤ at_
      · have hw : wrap64 (at_ - segW v s m u j k) = at_ - segW v s m u j k := by
          obtain ⟨e, a1, a2⟩ := seg_plain hR (k := k) (by omega) hlt
          have R := right_plain hR
          have := R.pg2; have := R.j1
          rw [e] at h1 ⊢
          unfold wrap64
          omega
        by_cases h2 : at_ - segW v s m u j k < m
        · go_wp2_with (first | (go_at_call 33; refine (rright_any _ _ _ _ _ _).mono ?_; rintro e w1 ⟨rfl, hb1⟩; obtain ⟨d0, d1, d2, d3, d4⟩ := hbx.below hb1) | (go_at_call 47; refine (rseg_any _ _ _ _ _ _ _).mono ?_; rintro e w2 ⟨rfl, hb2⟩; obtain ⟨e0, e1, e2, e3, e4⟩ := (hbx.below hb1).below hb2))
          go_ret2
          have hf := in_found hR (by omega) hlt h1 h2
          refine ⟨ret_ib ?_ ?_, ?_⟩
          · rw [hf]; rfl
          · rw [hf]; rfl
          · exact below_trans' (below_trans' hbe hb1) hb2
        · have h2' : m ≤ at_ - segW v s m u j k := by omega
          go_wp2_with (first | (go_at_call 33; refine (rright_any _ _ _ _ _ _).mono ?_; rintro e w1 ⟨rfl, hb1⟩; obtain ⟨d0, d1, d2, d3, d4⟩ := hbx.below hb1) | (go_at_call 47; refine (rseg_any _ _ _ _ _ _ _).mono ?_; rintro e w2 ⟨rfl, hb2⟩; obtain ⟨e0, e1, e2, e3, e4⟩ := (hbx.below hb1).below hb2))
          go_roundw
          case rel => exact ⟨k + 1, by omega, by go_num, fun i i1 i2 i3 => (if e : i = k then by rw [e]; exact h2' else HN.out i i1 (by omega) i3), (hbx.below hb1).below hb2, below_trans' (below_trans' hbe hb1) hb2⟩
          case measure => simp [intOf]; omega
      · have h1' : at_ < segW v s m u j k := by omega
        go_wp2_with (first | (go_at_call 33; refine (rright_any _ _ _ _ _ _).mono ?_; rintro e w1 ⟨rfl, hb1⟩; obtain ⟨d0, d1, d2, d3, d4⟩ := hbx.below hb1) | (go_at_call 47; refine (rseg_any _ _ _ _ _ _ _).mono ?_; rintro e w2 ⟨rfl, hb2⟩; obtain ⟨e0, e1, e2, e3, e4⟩ := (hbx.below hb1).below hb2))
        go_roundw
        case rel => exact ⟨k + 1, by omega, by go_num, fun i i1 i2 i3 => (if e : i = k then by rw [e] at i3; omega else HN.out i i1 (by omega) i3), (hbx.below hb1).below hb2, below_trans' (below_trans' hbe hb1) hb2⟩
        case measure => simp [intOf]; omega
    · go_wp2_with (first | (go_at_call 33; refine (rright_any _ _ _ _ _ _).mono ?_; rintro e w1 ⟨rfl, hb1⟩; obtain ⟨d0, d1, d2, d3, d4⟩ := hbx.below hb1) | (go_at_call 47; refine (rseg_any _ _ _ _ _ _ _).mono ?_; rintro e w2 ⟨rfl, hb2⟩; obtain ⟨e0, e1, e2, e3, e4⟩ := (hbx.below hb1).below hb2))
      go_ret2
      have hf := in_nowhere hR (at_ := at_) (fun i i1 i2 i3 => HN.out i i1 (by omega) i3)
      refine ⟨ret_ib ?_ ?_, ?_⟩
      · rw [hf]; rfl
      · rw [hf]; rfl
      · exact hbe

theorem rin_any (v s m u j : Int) (at_ : Int) (w : World) (ha : -9223372036854775808 ≤ at_) (ha' : at_ ≤ 9223372036854775807) :
    Calls Try.prog 38 #[.agg #[.int .i64 v, .int .i64 s, .int .i64 m, .int .i64 u, .int .i64 j], .int .i64 at_] w fun e w' => e = .returned (.tuple #[.int .i64 ((inW v s m u j at_).getD 0), .bool (inW v s m u j at_).isSome]) ∧ Below w.heap.size w w' := by
  cases hR : rightW v s m u j
  · exact rin_false v s m u j at_ w hR
  · exact rin_true v s m u j at_ w hR ha ha'
end Go.Proofs.Yteeamlidmkpohaa


/-
  The layout: the example that every statement asks first.
-/
set_option linter.unusedVariables false
set_option linter.unusedSimpArgs false
namespace Go.Proofs.Yteeamlidmkpohaa
open Go.RowKit Go.Sort

theorem ex_right : rightW 64 4 32 1 8 = true := by decide +kernel
theorem ex_in : inW 64 4 32 1 8 267 = some 1 := by decide +kernel
theorem ex_pages : pagesT 64 4 32 1 8 = 54 := by decide +kernel
theorem ex_sectors : sectorsW 64 4 32 1 8 = 362 := by decide +kernel
theorem ex_half : oneW 64 4 32 1 8 1 2 8 = 10 := by decide +kernel
theorem ex_area : oneW 64 4 32 1 8 2 (plan1 8) (wrap64 (2 * pagesW 64 4 32)) = 18 := by decide +kernel
theorem ex_seg : segW 64 4 32 1 8 0 = 234 := by decide +kernel
theorem ex_none : rightW 0 0 0 0 0 = false := by decide +kernel

set_option maxRecDepth 100000 in
set_option maxHeartbeats 1000000 in
theorem small_any (w : World) :
    Calls Try.prog 30 #[] w fun e w' => e = .returned (.agg #[.int .i64 64, .int .i64 4, .int .i64 32, .int .i64 1, .int .i64 8]) ∧ Below w.heap.size w w' := by
  go_enter Try.func30, Try.ntmps30
  go_wp2
  exact bodyPost_ret (v := .agg #[.int .i64 64, .int .i64 4, .int .i64 32, .int .i64 1, .int .i64 8]) (by simp [results, Try.results30, go_sem]) rfl ⟨rfl, below_alloc' (Below.refl _ _) _⟩

theorem below_eq {w w1 : World} (h : w = w1) : Below w.heap.size w w1 := h ▸ Below.refl _ _

set_option maxRecDepth 100000 in
set_option maxHeartbeats 2000000 in
theorem awake11 (w : World) : Calls Try.prog 29 #[] w fun e w' => e = .returned (.bool true) ∧ Below w.heap.size w w' := by
  have x1 := ex_right; have x2 := ex_in; have x3 := ex_pages; have x4 := ex_sectors; have x5 := ex_half; have x6 := ex_area; have x7 := ex_seg; have x8 := ex_none
  go_enter Try.func29, Try.ntmps29
  go_wp2_with (go_at_call 30; refine (small_any _).mono ?_; rintro e w1 ⟨rfl, hb1⟩)
  have hbx := BoxG.new 64 4 32 1 8 w1
  have hbe : Below w.heap.size w (w1.alloc (.cells #[.int .i64 64, .int .i64 4, .int .i64 32, .int .i64 1, .int .i64 8] 24)) := below_alloc' hb1 _
  clear hb1
  generalize w1.alloc (.cells #[.int .i64 64, .int .i64 4, .int .i64 32, .int .i64 1, .int .i64 8] 24) = wa at hbx hbe ⊢
  obtain ⟨d0, d1, d2, d3, d4⟩ := id hbx
  go_wp2_with (first | (go_at_call 36; refine (in_any _ _ _ _ _ _ _).mono ?_; rintro e w2 ⟨rfl, hb⟩; replace hbx := hbx.below hb; replace hbe := below_trans' hbe hb; clear d0 d1 d2 d3 d4; obtain ⟨d0, d1, d2, d3, d4⟩ := id hbx; clear hb) | (go_at_call 32; refine (right_any _ _ _ _ _ _).mono ?_; rintro e w2 ⟨rfl, hb⟩; replace hbx := hbx.below hb; replace hbe := below_trans' hbe hb; clear d0 d1 d2 d3 d4; obtain ⟨d0, d1, d2, d3, d4⟩ := id hbx; clear hb) | (go_at_call 39; refine (pagesT_any _ _ _ _ _ _).mono ?_; rintro e w2 ⟨rfl, hb⟩; replace hbx := hbx.below hb; replace hbe := below_trans' hbe hb; clear d0 d1 d2 d3 d4; obtain ⟨d0, d1, d2, d3, d4⟩ := id hbx; clear hb) | (go_at_call 34; refine (sectors_any _ _ _ _ _ _).mono ?_; rintro e w2 ⟨rfl, hb⟩; replace hbx := hbx.below hb; replace hbe := below_trans' hbe hb; clear d0 d1 d2 d3 d4; obtain ⟨d0, d1, d2, d3, d4⟩ := id hbx; clear hb) | (go_at_call 43; refine (half_any _ _ _ _ _ _ _).mono ?_; rintro e w2 ⟨rfl, hb⟩; replace hbx := hbx.below hb; replace hbe := below_trans' hbe hb; clear d0 d1 d2 d3 d4; obtain ⟨d0, d1, d2, d3, d4⟩ := id hbx; clear hb) | (go_at_call 45; refine (area_any _ _ _ _ _ _ _).mono ?_; rintro e w2 ⟨rfl, hb⟩; replace hbx := hbx.below hb; replace hbe := below_trans' hbe hb; clear d0 d1 d2 d3 d4; obtain ⟨d0, d1, d2, d3, d4⟩ := id hbx; clear hb) | (go_at_call 37; refine (seg_any _ _ _ _ _ _ _).mono ?_; rintro e w2 ⟨rfl, hb⟩; replace hbx := hbx.below hb; replace hbe := below_trans' hbe hb; clear d0 d1 d2 d3 d4; obtain ⟨d0, d1, d2, d3, d4⟩ := id hbx; clear hb))
  go_ret
  exact ⟨rfl, hbe⟩
end Go.Proofs.Yteeamlidmkpohaa


/-
  How arguments that came in are read: numbers, bools, bytes, geometries.
-/
set_option linter.unusedVariables false
set_option maxRecDepth 100000
namespace Go.Proofs.Yteeamlidmkpohaa
open Go.ChangeShapes Go.WideShapes Go.ChangeAt Go.RowKit

section
variable {H : Type} {enc : TypeId × Value → H} {w : World} {base b0 : Nat} {sp : Nat → Bool} {held : Bool} {r : Reach} {v : Value} {d : DataW H} {p : List MemPlace}

def IntIn (n : Int) : Prop := -9223372036854775808 ≤ n ∧ n ≤ 9223372036854775807
def ArgInt (v : Value) (a : Int) : Prop := v = .int .i64 a ∧ IntIn a
def ArgByte (v : Value) (a : Int) : Prop := v = .int .u8 a ∧ 0 ≤ a ∧ a ≤ 255
def ArgGeo (x : Value) (v s m u j : Int) : Prop := x = .agg #[.int .i64 v, .int .i64 s, .int .i64 m, .int .i64 u, .int .i64 j] ∧ IntIn v ∧ IntIn s ∧ IntIn m ∧ IntIn u ∧ IntIn j

theorem open_argInt (hv : Value.okWide Try.prog w r b0 3 v) (h : DataW.Trod enc Try.prog w base sp held 3 v d p) : ∃ a, ArgInt v a := by
  obtain ⟨a, rfl, rfl, rfl, wa⟩ := open_int Try.underlying3 hv h
  exact ⟨a, rfl, wf_i64b wa⟩
theorem open_argByte (hv : Value.okWide Try.prog w r b0 5 v) (h : DataW.Trod enc Try.prog w base sp held 5 v d p) : ∃ a, ArgByte v a := by
  obtain ⟨a, rfl, rfl, rfl, wa⟩ := open_int Try.underlying5 hv h
  exact ⟨a, rfl, wf_u8b wa⟩

theorem cells3 : Try.prog.cellsOf 3 = 1 := by kernel_rfl
theorem cells24 : Try.prog.cellsOf 24 = 5 := by kernel_rfl

theorem open_argGeo (hv : Value.okWide Try.prog w r b0 24 v) (h : DataW.Trod enc Try.prog w base sp held 24 v d p) : ∃ v1 s m u j, ArgGeo v v1 s m u j := by
  obtain ⟨cs, rfl, hsz⟩ := okWide_struct Try.underlying24 hv
  obtain ⟨fuel, hf⟩ := h
  obtain ⟨xs, n, _, _, hlen, hxl, hg⟩ := DataW.trod_struct Try.underlying24 hf
  have one : ∀ (i : Nat) (f : Field), (i < 5) → f.type = 3 → f.offset = i → DataW.trod enc Try.prog w base sp held n f.type ((((Value.agg cs).cells.toList).drop f.offset).take (Try.prog.cellsOf f.type)) = xs[i]? →
      ∃ a : Int, ((cs.toList.drop i).take 1) = [.int .i64 a] ∧ IntIn a := by
    intro i f hi ht ho hx
    rw [ht, ho, cells3] at hx
    have hxi : xs[i]? = some (xs[i]'(by simp at hxl; omega)) := List.getElem?_eq_getElem (by simp at hxl; omega)
    rw [hxi] at hx
    obtain ⟨a, ha, _, wa⟩ := DataW.trod_int Try.underlying3 hx
    exact ⟨a, by simpa [Value.cells] using ha, wf_i64b wa⟩
  obtain ⟨a0, e0, w0⟩ := one 0 _ (by omega) rfl rfl (hg 0 _ rfl)
  obtain ⟨a1, e1, w1⟩ := one 1 _ (by omega) rfl rfl (hg 1 _ rfl)
  obtain ⟨a2, e2, w2⟩ := one 2 _ (by omega) rfl rfl (hg 2 _ rfl)
  obtain ⟨a3, e3, w3⟩ := one 3 _ (by omega) rfl rfl (hg 3 _ rfl)
  obtain ⟨a4, e4, w4⟩ := one 4 _ (by omega) rfl rfl (hg 4 _ rfl)
  refine ⟨a0, a1, a2, a3, a4, ?_, w0, w1, w2, w3, w4⟩
  rw [cells24] at hsz
  obtain ⟨l⟩ := cs
  match l, hsz with
  | [c0, c1, c2, c3, c4], _ =>
    simp at e0 e1 e2 e3 e4
    subst e0 e1 e2 e3 e4
    rfl
end
end Go.Proofs.Yteeamlidmkpohaa


/-
  The layout: the walks of the statements LayoutFields, LayoutIn and LayoutPlaces.
-/
set_option linter.unusedVariables false
set_option linter.unusedSimpArgs false
namespace Go.Proofs.Yteeamlidmkpohaa
open Go.RowKit Go.Sort

theorem emod_of_neg (x n : Int) (hn : 1 ≤ n) : x % n = if (-x) % n = 0 then 0 else n - (-x) % n := by
  have e := Int.emod_add_mul_ediv (-x) n
  have h0 := Int.emod_nonneg (-x) (show n ≠ 0 by omega)
  have h1 := Int.emod_lt_of_pos (-x) (show 0 < n by omega)
  generalize (-x) / n = q at e
  generalize (-x) % n = r at e h0 h1 ⊢
  by_cases h : r = 0
  · rw [if_pos h]
    have : x = n * (-q) := by rw [Int.mul_neg]; omega
    rw [this, Int.mul_emod_right]
  · rw [if_neg h]
    have : x = (n - r) + n * (-q - 1) := by rw [Int.mul_sub, Int.mul_neg]; omega
    rw [this, Int.add_mul_emod_self_left, Int.emod_eq_of_lt (by omega) (by omega)]

theorem pick_pos (x n : Int) (w : World) (hn : 1 ≤ n) (hn' : n ≤ 9223372036854775807) (hx : -9223372036854775808 ≤ x) (hx' : x ≤ 9223372036854775807) :
    Calls Try.prog 31 #[.int .i64 x, .int .i64 n] w fun e w' => e = .returned (.int .i64 (x % n)) ∧ w = w' := by
  have h0 := Int.emod_nonneg x (show n ≠ 0 by omega)
  have h1 := Int.emod_lt_of_pos x (show 0 < n by omega)
  by_cases hs : 0 ≤ x
  · have e : x.tmod n = x % n := Int.tmod_eq_emod_of_nonneg hs
    have e' : wrap64 (x % n) = x % n := by unfold wrap64; omega
    go_enter Try.func31, Try.ntmps31
    go_wp2
    go_ret
    exact ⟨rfl, rfl⟩
  · have hd : (x.tmod n) = -((-x) % n) := by rw [show x = -(-x) by omega, Int.neg_tmod, Int.tmod_eq_emod_of_nonneg (by omega)]; simp
    have h2 := Int.emod_nonneg (-x) (show n ≠ 0 by omega)
    have h3 := Int.emod_lt_of_pos (-x) (show 0 < n by omega)
    have E := Lib.hid (emod_of_neg x n hn)
    go_enter Try.func31, Try.ntmps31
    go_wp2
    all_goals go_ret
    all_goals refine ⟨ret_i ?_, rfl⟩
    all_goals rw [E.out]
    · rw [if_neg (by omega)]; omega
    · rw [if_pos (by omega)]; omega
theorem pick_none (x n : Int) (w : World) (hn : n < 1) :
    Calls Try.prog 31 #[.int .i64 x, .int .i64 n] w fun e w' => e = .returned (.int .i64 0) ∧ w = w' := by
  go_enter Try.func31, Try.ntmps31
  go_wp2
  go_ret
  exact ⟨rfl, rfl⟩

set_option maxRecDepth 100000 in
set_option maxHeartbeats 2000000 in
theorem layoutFields_walk (a0 a1 : Int) (w : World) (h0 : -9223372036854775808 ≤ a0) (h0' : a0 ≤ 9223372036854775807) :
    Calls Try.prog 3 #[.int .i64 a0, .int .i64 a1] w fun e w' => e = .returned (.bool true) ∧ Below w.heap.size w w' := by
  have creg := @cell_grown
  obtain ⟨k, hk, k0, k5⟩ : ∃ k, a0 % 5 = k ∧ 0 ≤ k ∧ k < 5 := ⟨_, rfl, by omega, by omega⟩
  go_enter Try.func3, Try.ntmps3
  go_wp2_with (first | (go_at_call 29; refine (awake11 _).mono ?_; rintro e w1 ⟨rfl, hb1⟩) | (go_at_call 30; refine (small_any _).mono ?_; rintro e w2 ⟨rfl, hb2⟩) | (go_at_call 31; refine (pick_pos _ _ _ (by omega) (by omega) h0 h0').mono ?_; rintro e w3 ⟨rfl, rfl⟩; rw [hk]; have HK := Lib.hid hk; clear hk; rcases (show k = 0 ∨ k = 1 ∨ k = 2 ∨ k = 3 ∨ k = 4 by omega) with rfl | rfl | rfl | rfl | rfl))
  all_goals
    refine wp_region_quiet_below (by kernel_rfl) (by kernel_rfl) ?_
    repeat (go_big_quiet_step (first | exact Calls.regrown_of (right_any _ _ _ _ _ _) | exact Calls.regrown_of (rright_any _ _ _ _ _ _) | exact Calls.regrown_of (sectors_any _ _ _ _ _ _) | exact Calls.regrown_of (rsectorsT_any _ _ _ _ _ _)))
    refine wpQuiet_nil ?_
    intro _ hw'
    obtain ⟨⟨dq, osq⟩, hw''⟩ := hw'
    subst hw''
    go_wp2
    go_ret
    exact ⟨rfl, below_trans' (below_alloc' (below_trans' hb1 hb2) _) (below_regrown _ dq osq)⟩

theorem layoutFields_row (w : World) {v0 v1 : Value} {a0 a1 : Int} (A0 : ArgInt v0 a0) (A1 : ArgInt v1 a1) :
    Calls Try.prog 3 #[v0, v1] w fun e w' => e = .returned (.bool true) ∧ Below w.heap.size w w' := by
  obtain ⟨rfl, h0⟩ := A0
  obtain ⟨rfl, _⟩ := A1
  exact layoutFields_walk a0 a1 w h0.1 h0.2
end Go.Proofs.Yteeamlidmkpohaa


/-
  The layout: the walks of the statements LayoutIn and LayoutPlaces.
-/
set_option linter.unusedVariables false
set_option linter.unusedSimpArgs false
namespace Go.Proofs.Yteeamlidmkpohaa
open Go.RowKit Go.Sort

theorem pick_pos_b (x n : Int) (w : World) (hn : 1 ≤ n) (hn' : n ≤ 9223372036854775807) (hx : -9223372036854775808 ≤ x) (hx' : x ≤ 9223372036854775807) :
    Calls Try.prog 31 #[.int .i64 x, .int .i64 n] w fun e w' => e = .returned (.int .i64 (x % n)) ∧ Below w.heap.size w w' :=
  (pick_pos x n w hn hn' hx hx').mono fun _ _ ⟨h, h'⟩ => ⟨h, below_eq h'⟩

theorem in_seg {v s m u j : Int} (hR : rightW v s m u j = true) {n o : Int} (h : 0 ≤ n) (h' : n < s) (ho : 0 ≤ o) (ho' : o < m) : inW v s m u j (segW v s m u j n + o) = some n :=
  in_found hR h h' (by omega) (by omega)
theorem in_before {v s m u j : Int} (hR : rightW v s m u j = true) : inW v s m u j (segW v s m u j 0 - 1) = none := by
  have R := right_plain hR
  have := R.s1
  have h := (seg_plain hR (k := 0) (by omega) (by omega)).1
  rw [in_plain hR, if_pos (by omega)]
theorem in_behind {v s m u j : Int} (hR : rightW v s m u j = true) : inW v s m u j (plan3 v s m j) = none := by
  have R := right_plain hR
  have := R.p3; have := R.sm
  rw [in_plain hR, if_neg (by omega), if_pos (by omega)]
theorem in_minus {v s m u j : Int} (hR : rightW v s m u j = true) : inW v s m u j (-1) = none := by
  have R := right_plain hR
  have := R.j1; have := R.pg2
  rw [in_plain hR, if_pos (by omega)]
theorem seg_size {v s m u j : Int} (hR : rightW v s m u j = true) {n : Int} (h : 0 ≤ n) (h' : n < s) : 1 ≤ segW v s m u j n ∧ segW v s m u j n + m ≤ 262144 := by
  have R := right_plain hR
  have := R.j1; have := R.pg2; have := R.p3; have := R.le
  obtain ⟨e, a, b⟩ := seg_plain hR h h'
  omega

set_option maxRecDepth 100000 in
set_option maxHeartbeats 4000000 in
theorem layoutIn_false (v s m u j a b : Int) (w : World) (hR : rightW v s m u j = false) :
    Calls Try.prog 4 #[.agg #[.int .i64 v, .int .i64 s, .int .i64 m, .int .i64 u, .int .i64 j], .int .i64 a, .int .i64 b] w fun e w' => e = .returned (.bool true) ∧ Below w.heap.size w w' := by
  go_enter Try.func4, Try.ntmps4
  go_wp2_with fail
  have creg := @cell_grown
  have hbx := BoxG.new v s m u j w
  have hbe : Below w.heap.size w (w.alloc (.cells #[.int .i64 v, .int .i64 s, .int .i64 m, .int .i64 u, .int .i64 j] 24)) := below_alloc' (Below.refl _ _) _
  generalize w.alloc (.cells #[.int .i64 v, .int .i64 s, .int .i64 m, .int .i64 u, .int .i64 j] 24) = wa at hbx hbe ⊢
  obtain ⟨d0, d1, d2, d3, d4⟩ := id hbx
  go_wp2_with (first | (go_at_call 29; refine (awake11 _).mono ?_; rintro e wb ⟨rfl, hb⟩; replace hbx := hbx.below hb; replace hbe := below_trans' hbe hb; clear d0 d1 d2 d3 d4; obtain ⟨d0, d1, d2, d3, d4⟩ := id hbx; clear hb) | (go_at_call 32; refine (right_any _ _ _ _ _ _).mono ?_; rintro e wc ⟨rfl, hb⟩; replace hbx := hbx.below hb; replace hbe := below_trans' hbe hb; clear d0 d1 d2 d3 d4; obtain ⟨d0, d1, d2, d3, d4⟩ := id hbx; clear hb))
  go_ret
  exact ⟨rfl, hbe⟩

set_option maxRecDepth 100000 in
set_option maxHeartbeats 4000000 in
theorem layoutIn_true (v s m u j a b : Int) (w : World) (hR : rightW v s m u j = true) (ha : IntIn a) (hb : IntIn b) :
    Calls Try.prog 4 #[.agg #[.int .i64 v, .int .i64 s, .int .i64 m, .int .i64 u, .int .i64 j], .int .i64 a, .int .i64 b] w fun e w' => e = .returned (.bool true) ∧ Below w.heap.size w w' := by
  have R := right_plain hR
  have hs1 := R.s1; have hs2 := R.s2; have hm1 := R.m1; have hm2 := R.m2
  have n0 := Int.emod_nonneg a (show s ≠ 0 by omega)
  have n1 := Int.emod_lt_of_pos a (show 0 < s by omega)
  have o0 := Int.emod_nonneg b (show m ≠ 0 by omega)
  have o1 := Int.emod_lt_of_pos b (show 0 < m by omega)
  obtain ⟨z0, z1⟩ := seg_size hR n0 n1
  obtain ⟨y0, y1⟩ := seg_size hR (n := 0) (by omega) (by omega)
  have i1 := in_seg hR n0 n1 o0 o1
  have i2 := in_before hR
  have i3 := in_behind hR
  have i4 := in_minus hR
  have i5 : sectorsW v s m u j = plan3 v s m j := by unfold sectorsW; rw [if_pos hR]
  obtain ⟨ha0, ha1⟩ := ha
  obtain ⟨hb0, hb1⟩ := hb
  have p1 := fun w => pick_pos_b a s w (by omega) (by omega) ha0 ha1
  have p2 := fun w => pick_pos_b b m w (by omega) (by omega) hb0 hb1
  have P1 := Lib.hid p1
  have P2 := Lib.hid p2
  clear p1 p2 R
  go_enter Try.func4, Try.ntmps4
  go_wp2_with fail
  have creg := @cell_grown
  have hbx := BoxG.new v s m u j w
  have hbe : Below w.heap.size w (w.alloc (.cells #[.int .i64 v, .int .i64 s, .int .i64 m, .int .i64 u, .int .i64 j] 24)) := below_alloc' (Below.refl _ _) _
  generalize w.alloc (.cells #[.int .i64 v, .int .i64 s, .int .i64 m, .int .i64 u, .int .i64 j] 24) = wa at hbx hbe ⊢
  obtain ⟨d0, d1, d2, d3, d4⟩ := id hbx
  go_wp2_with (first | (go_at_call 29; refine (awake11 _).mono ?_; rintro e wb ⟨rfl, hb⟩; replace hbx := hbx.below hb; replace hbe := below_trans' hbe hb; clear d0 d1 d2 d3 d4; obtain ⟨d0, d1, d2, d3, d4⟩ := id hbx; clear hb) | (go_at_call 32; refine (right_any _ _ _ _ _ _).mono ?_; rintro e wc ⟨rfl, hb⟩; replace hbx := hbx.below hb; replace hbe := below_trans' hbe hb; clear d0 d1 d2 d3 d4; obtain ⟨d0, d1, d2, d3, d4⟩ := id hbx; clear hb) | (go_at_call 31; refine (P1.out _).mono ?_; rintro e wd ⟨rfl, hb⟩; replace hbx := hbx.below hb; replace hbe := below_trans' hbe hb; clear d0 d1 d2 d3 d4; obtain ⟨d0, d1, d2, d3, d4⟩ := id hbx; clear hb))
  have hlq := hbx.lt
  refine wp_region_quiet_below (by kernel_rfl) (by kernel_rfl) ?_
  repeat (go_big_quiet_step (first | exact Calls.regrown_of (P2.out _) | exact Calls.regrown_of (seg_any _ _ _ _ _ _ _) | exact Calls.regrown_of (in_any _ _ _ _ _ _ _)))
  refine wpQuiet_nil ?_
  intro _ hw'
  obtain ⟨⟨dq, osq⟩, hw''⟩ := hw'
  subst hw''
  replace hbx := hbx.below (below_regrown wd dq osq)
  replace hbe := below_trans' hbe (below_regrown wd dq osq)
  clear d0 d1 d2 d3 d4 hlq
  generalize grow (redrawn wd dq) osq = we at hbx hbe ⊢
  obtain ⟨d0, d1, d2, d3, d4⟩ := id hbx
  go_wp2_with fail
  have hlq := hbx.lt
  refine wp_region_quiet_below (by kernel_rfl) (by kernel_rfl) ?_
  repeat (go_big_quiet_step (first | exact Calls.regrown_of (seg_any _ _ _ _ _ _ _) | exact Calls.regrown_of (in_any _ _ _ _ _ _ _)))
  refine wpQuiet_nil ?_
  intro _ hw'
  obtain ⟨⟨dq, osq⟩, hw''⟩ := hw'
  subst hw''
  replace hbx := hbx.below (below_regrown we dq osq)
  replace hbe := below_trans' hbe (below_regrown we dq osq)
  clear d0 d1 d2 d3 d4 hlq
  generalize grow (redrawn we dq) osq = wf at hbx hbe ⊢
  obtain ⟨d0, d1, d2, d3, d4⟩ := id hbx
  go_wp2_with fail
  have hlq := hbx.lt
  refine wp_region_quiet_below (by kernel_rfl) (by kernel_rfl) ?_
  repeat (go_big_quiet_step (first | exact Calls.regrown_of (sectors_any _ _ _ _ _ _) | exact Calls.regrown_of (in_any _ _ _ _ _ _ _)))
  refine wpQuiet_nil ?_
  intro _ hw'
  obtain ⟨⟨dq, osq⟩, hw''⟩ := hw'
  subst hw''
  replace hbx := hbx.below (below_regrown wf dq osq)
  replace hbe := below_trans' hbe (below_regrown wf dq osq)
  clear d0 d1 d2 d3 d4 hlq
  generalize grow (redrawn wf dq) osq = wg at hbx hbe ⊢
  obtain ⟨d0, d1, d2, d3, d4⟩ := id hbx
  go_wp2_with (go_at_call 36; refine (in_any _ _ _ _ _ _ _).mono ?_; rintro e wh ⟨rfl, hb⟩; replace hbx := hbx.below hb; replace hbe := below_trans' hbe hb; clear d0 d1 d2 d3 d4; obtain ⟨d0, d1, d2, d3, d4⟩ := id hbx; clear hb)
  go_ret
  exact ⟨rfl, hbe⟩

theorem layoutIn_row (w : World) {x0 x1 x2 : Value} {v s m u j a b : Int} (A0 : ArgGeo x0 v s m u j) (A1 : ArgInt x1 a) (A2 : ArgInt x2 b) :
    Calls Try.prog 4 #[x0, x1, x2] w fun e w' => e = .returned (.bool true) ∧ Below w.heap.size w w' := by
  obtain ⟨rfl, _⟩ := A0
  obtain ⟨rfl, ha⟩ := A1
  obtain ⟨rfl, hb⟩ := A2
  cases hR : rightW v s m u j
  · exact layoutIn_false v s m u j a b w hR
  · exact layoutIn_true v s m u j a b w hR ha hb

set_option maxRecDepth 100000 in
set_option maxHeartbeats 8000000 in
theorem layoutPlaces_walk (v s m u j i at_ : Int) (w : World) (h0 : -9223372036854775808 ≤ at_) (h1 : at_ ≤ 9223372036854775807) :
    Calls Try.prog 5 #[.agg #[.int .i64 v, .int .i64 s, .int .i64 m, .int .i64 u, .int .i64 j], .int .i64 i, .int .i64 at_] w fun e w' => e = .returned (.bool true) ∧ Below w.heap.size w w' := by
  go_enter Try.func5, Try.ntmps5
  go_wp2_with fail
  have creg := @cell_grown
  have hbx := BoxG.new v s m u j w
  have hbe : Below w.heap.size w (w.alloc (.cells #[.int .i64 v, .int .i64 s, .int .i64 m, .int .i64 u, .int .i64 j] 24)) := below_alloc' (Below.refl _ _) _
  generalize w.alloc (.cells #[.int .i64 v, .int .i64 s, .int .i64 m, .int .i64 u, .int .i64 j] 24) = wa at hbx hbe ⊢
  obtain ⟨d0, d1, d2, d3, d4⟩ := id hbx
  go_wp2_with (first | (go_at_call 29; refine (awake11 _).mono ?_; rintro e wb ⟨rfl, hb⟩; replace hbx := hbx.below hb; replace hbe := below_trans' hbe hb; clear d0 d1 d2 d3 d4; obtain ⟨d0, d1, d2, d3, d4⟩ := id hbx; clear hb) | (go_at_call 36; refine (in_any _ _ _ _ _ _ _).mono ?_; rintro e wc ⟨rfl, hb⟩; replace hbx := hbx.below hb; replace hbe := below_trans' hbe hb; clear d0 d1 d2 d3 d4; obtain ⟨d0, d1, d2, d3, d4⟩ := id hbx; clear hb) | (go_at_call 38; refine (rin_any _ _ _ _ _ _ _ h0 h1).mono ?_; rintro e wd ⟨rfl, hb⟩; replace hbx := hbx.below hb; replace hbe := below_trans' hbe hb; clear d0 d1 d2 d3 d4; obtain ⟨d0, d1, d2, d3, d4⟩ := id hbx; clear hb))
  simp only [List.append]
  have hlq := hbx.lt
  refine wp_region_quiet_below (by kernel_rfl) (by kernel_rfl) ?_
  repeat (go_big_quiet_step (first | exact Calls.regrown_of (right_any _ _ _ _ _ _) | exact Calls.regrown_of (rright_any _ _ _ _ _ _) | exact Calls.regrown_of (sectors_any _ _ _ _ _ _) | exact Calls.regrown_of (rsectorsT_any _ _ _ _ _ _) | exact Calls.regrown_of (pagesT_any _ _ _ _ _ _) | exact Calls.regrown_of (rpagesT_any _ _ _ _ _ _) | exact Calls.regrown_of (slot_any _ _ _ _ _ _ _) | exact Calls.regrown_of (rslot_any _ _ _ _ _ _ _) | exact Calls.regrown_of (half_any _ _ _ _ _ _ _) | exact Calls.regrown_of (rhalf_any _ _ _ _ _ _ _) | exact Calls.regrown_of (area_any _ _ _ _ _ _ _) | exact Calls.regrown_of (rarea_any _ _ _ _ _ _ _) | exact Calls.regrown_of (seg_any _ _ _ _ _ _ _) | exact Calls.regrown_of (rseg_any _ _ _ _ _ _ _)))
  refine wpQuiet_nil ?_
  intro _ hw'
  obtain ⟨⟨dq, osq⟩, hw''⟩ := hw'
  subst hw''
  replace hbx := hbx.below (below_regrown wd dq osq)
  replace hbe := below_trans' hbe (below_regrown wd dq osq)
  clear d0 d1 d2 d3 d4 hlq
  generalize grow (redrawn wd dq) osq = we at hbx hbe ⊢
  obtain ⟨d0, d1, d2, d3, d4⟩ := id hbx
  go_wp2
  go_ret
  exact ⟨rfl, hbe⟩

theorem layoutPlaces_row (w : World) {x0 x1 x2 : Value} {v s m u j a b : Int} (A0 : ArgGeo x0 v s m u j) (A1 : ArgInt x1 a) (A2 : ArgInt x2 b) :
    Calls Try.prog 5 #[x0, x1, x2] w fun e w' => e = .returned (.bool true) ∧ Below w.heap.size w w' := by
  obtain ⟨rfl, _⟩ := A0
  obtain ⟨rfl, ha⟩ := A1
  obtain ⟨rfl, hb⟩ := A2
  exact layoutPlaces_walk v s m u j a b w hb.1 hb.2
end Go.Proofs.Yteeamlidmkpohaa


/-
  DevArmed.
-/
set_option linter.unusedVariables false
set_option linter.unusedSimpArgs false
namespace Go.Proofs.Yteeamlidmkpohaa
open Go.RowKit Go.Sort

/-- a step of a life, as it is handed in -/
structure Do8 where
  op : Int
  sec : Int
  n : Int
  byte : Int
  fv : Value
  fs : List Int
def In64 (n : Int) : Prop := -9223372036854775808 ≤ n ∧ n ≤ 9223372036854775807
structure DoAt (w : World) (ad : Addr) (x : Do8) : Prop where
  c0 : w.cell? ad = some (.int .i64 x.op)
  c1 : w.cell? ⟨ad.block, ad.off + 1, none⟩ = some (.int .i64 x.sec)
  c2 : w.cell? ⟨ad.block, ad.off + 2, none⟩ = some (.int .i64 x.n)
  c3 : w.cell? ⟨ad.block, ad.off + 3, none⟩ = some (.int .u8 x.byte)
  c4 : w.cell? ⟨ad.block, ad.off + 4, none⟩ = some x.fv
  ints : IntsIs w x.fv x.fs
  i0 : In64 x.op
  i1 : In64 x.sec
  i2 : In64 x.n
  i3 : 0 ≤ x.byte ∧ x.byte ≤ 255
  i4 : ∀ f ∈ x.fs, In64 f
/-- a list of them -/
def DosAt (w : World) (A : Option Addr) (l : List Do8) : Prop := ∀ i x, l[i]? = some x → ∃ ad, A = some ad ∧ DoAt w (ad.add (i * 5)) x
def DosIs (w : World) (v : Value) (l : List Do8) : Prop := ∃ A c, v = .slice A l.length c ∧ l.length ≤ c ∧ c ≤ maxLen ∧ DosAt w A l

theorem DoAt.below {w w' : World} {ad : Addr} {x : Do8} (h : DoAt w ad x) (hb : Below w.heap.size w w') : DoAt w' ad x :=
  ⟨(hb.cell (cell_lt h.c0)).trans h.c0, (hb.cell (cell_lt h.c1)).trans h.c1, (hb.cell (cell_lt h.c2)).trans h.c2, (hb.cell (cell_lt h.c3)).trans h.c3, (hb.cell (cell_lt h.c4)).trans h.c4, by
    obtain ⟨A, c, e, h1, h2, h3⟩ := h.ints
    exact ⟨A, c, e, h1, h2, h3.below hb⟩, h.i0, h.i1, h.i2, h.i3, h.i4⟩
theorem DosAt.at_ {w : World} {A : Option Addr} {l : List Do8} (h : DosAt w A l) (k : Nat) (hk : k < l.length) : ∃ ad x, A = some ad ∧ l[k]? = some x ∧ DoAt w (ad.add (k * 5)) x := by
  obtain ⟨ad, e, h1⟩ := h k (l[k]) (by simp [hk])
  exact ⟨ad, _, e, by simp [hk], h1⟩

/-- behind i steps of an armed disk -/
def ArmD (D : Dk) (n i : Int) : Prop := D.n = 3 ∧ (i < n → D.armed = n - i ∧ D.down = false) ∧ (n ≤ i → D.down = true)

theorem may_ok {D : Dk} {k : Int} (h : D.down = false) (h2 : k < D.n) (h1 : 0 ≤ k) : D.may k = 0 := by
  rw [Dk.may, h, if_neg (by simp), if_neg (by omega), if_neg (by omega)]
theorem may_down {D : Dk} {k : Int} (h : D.down = true) : D.may k = 9 := by
  rw [Dk.may, if_pos h]
theorem armD_start {z : Int} (h : 0 ≤ z) : ArmD ((Dk.new 3).arm (1 + z)) (1 + z) 0 := by
  have e : (Dk.new 3).arm (1 + z) = { Dk.new 3 with armed := 1 + z } := by
    simp [Dk.arm, Dk.new]
    omega
  rw [e]
  exact ⟨rfl, fun _ => ⟨by simp, rfl⟩, fun h => by omega⟩
theorem armD_crash {D : Dk} {n i : Int} (h : ArmD D n i) (hi : i < n) : ArmD D.crash n (i + 1) ∧ D.crash.down = decide (i = n - 1) := by
  obtain ⟨h1, h2, h3⟩ := h
  obtain ⟨h4, h5⟩ := h2 hi
  have e : D.crash = { D with armed := D.armed - 1, down := decide (D.armed - 1 = 0) } := by
    unfold Dk.crash
    rw [if_pos (by omega)]
  rw [e]
  refine ⟨⟨h1, fun hh => ⟨by show D.armed - 1 = _; omega, by show decide (D.armed - 1 = 0) = false; rw [decide_eq_false_iff_not]; omega⟩, fun hh => by show decide (D.armed - 1 = 0) = true; rw [decide_eq_true_iff]; omega⟩, ?_⟩
  show decide (D.armed - 1 = 0) = decide (i = n - 1)
  rw [decide_eq_decide]
  omega
theorem armD_write {D : Dk} {n i : Int} (h : ArmD D n i) (hi : i < n) (k : Int) (l : List Int) : ArmD (D.write k l) n (i + 1) ∧ (D.write k l).down = decide (i = n - 1) := armD_crash (D := D.put k l) h hi
theorem armD_sync {D : Dk} {n i : Int} (h : ArmD D n i) (hi : i < n) : ArmD D.sync n (i + 1) ∧ D.sync.down = decide (i = n - 1) := by
  have hc := armD_crash h hi
  unfold Dk.sync
  by_cases e : D.crash.down = true
  · rw [if_pos e]; exact hc
  · rw [if_neg e]; exact hc
theorem armD_down {D : Dk} {n i : Int} (h : ArmD D n i) (hi : n ≤ i) : ArmD D n (i + 1) := ⟨h.1, fun hh => by omega, fun _ => h.2.2 hi⟩

set_option maxRecDepth 100000 in
set_option maxHeartbeats 4000000 in
theorem devArmed_walk (w : World) (a : Int) (v : Value) (l : List Do8) (ha : In64 a) (hl : DosIs w v l) :
    Calls Try.prog 10 #[.int .i64 a, v] w fun e w' => e = .returned (.bool true) ∧ Below w.heap.size w w' := by
  obtain ⟨A, c, rfl, hlc, hcm, hA⟩ := hl
  have hB := Below.refl w.heap.size w
  have q1 := ha.1
  have q2 := ha.2
  go_enter Try.func10, Try.ntmps10
  go_wp2_with
    (first
      | (go_at_call 49; refine (awake08 _).mono ?_; rintro e w1 ⟨rfl, hb⟩; replace hB := below_trans' hB hb; clear hb))
  · have hmc : 80 ≤ 80 := by omega
    have hml : 80 ≤ l.length := by omega
    go_wp2_with
      (first
        | (go_at_call 31; refine (pick_pos_b _ _ _ (by omega) (by omega) q1 q2).mono ?_; rintro e w1 ⟨rfl, hb⟩; replace hB := below_trans' hB hb; clear hb; have p1 : 0 ≤ a % 80 := (by omega); have p2 : a % 80 < 80 := (by omega); generalize a % 80 = z at p1 p2 ⊢)
        | (go_at_call 50; refine (Dev.new_ _ hB 3 (by decide) (by decide)).mono ?_; rintro e w2 ⟨rfl, hD, hb⟩; clear hb; generalize w1.heap.size + 2 = p at hD ⊢; generalize w1.heap.size + 1 = mo at hD ⊢; generalize w1.heap.size = ms at hD ⊢)
        | (go_at_call 57; refine (hD.arm _ (by omega)).mono ?_; rintro e w1 ⟨rfl, hD1, hb⟩; replace hD := hD1; clear hD1 hb))
    go_loopw [6] (fun x wr => ∃ k : Nat, k ≤ 80 ∧ x = .int .i64 k ∧ ∃ D, Dev w wr p ms mo D ∧ ArmD D (1 + z) k) (fun x _ => 80 - (intOf x).toNat)
    case atStart => exact ⟨0, by omega, rfl, _, hD, armD_start (by omega)⟩
    case round =>
      obtain ⟨k, hk, rfl, D, hDr, hAD⟩ := hrel
      clear hD
      by_cases hlt : k < 80
      · obtain ⟨ad, x, rfl, hx, hdo0⟩ := hA.at_ k (by omega)
        have hdo := hdo0.below hDr.be
        have c0 := hdo.c0
        have c1 := hdo.c1
        have c3 := hdo.c3
        have hop := hdo.i0
        obtain ⟨s1, s2⟩ := hdo.i1
        obtain ⟨b1, b2⟩ := hdo.i3
        by_cases ho : x.op.tmod 2 = 0
        · rcases Int.lt_trichotomy (k : Int) z with hkz | hkz | hkz
          · have hdn := (hAD.2.1 (by omega)).2
            obtain ⟨hA2, hsd⟩ := armD_sync hAD (by omega)
            have hsd : D.sync.down = false := by rw [hsd, decide_eq_false_iff_not]; omega
            go_wp2_with
              (first
                | (go_at_call 51; refine (hDr.sync0 hdn hsd).mono ?_; rintro e w5 ⟨rfl, hD5, hb⟩; clear hb)
                | (go_at_call 59; refine (hD5.isDown hsd).mono ?_; rintro e w6 ⟨rfl, rfl⟩))
            go_roundw
            case rel => exact ⟨k + 1, by omega, by go_num, _, hD5, by simpa using hA2⟩
            case measure => simp [intOf]; omega
          · subst hkz
            have hdn := (hAD.2.1 (by omega)).2
            obtain ⟨hA2, hsd⟩ := armD_sync hAD (by omega)
            have hsd : D.sync.down = true := by rw [hsd, decide_eq_true_iff]; omega
            go_wp2_with
              (first
                | (go_at_call 51; refine (hDr.sync9 hdn hsd).mono ?_; rintro e w5 ⟨rfl, hD5, hb⟩; clear hb)
                | (go_at_call 59; refine (hD5.isDown hsd).mono ?_; rintro e w6 ⟨rfl, rfl⟩))
            go_roundw
            case rel => exact ⟨k + 1, by omega, by go_num, _, hD5, by simpa using hA2⟩
            case measure => simp [intOf]; omega
          · have hdn := hAD.2.2 (by omega)
            have hA2 := armD_down hAD (by omega)
            go_wp2_with
              (first
                | (go_at_call 51; refine (hDr.syncNo hdn).mono ?_; rintro e w5 ⟨rfl, rfl⟩; have hsd := hdn; have hD5 := hDr)
                | (go_at_call 59; refine (hD5.isDown hsd).mono ?_; rintro e w6 ⟨rfl, rfl⟩))
            go_roundw
            case rel => exact ⟨k + 1, by omega, by go_num, _, hD5, by simpa using hA2⟩
            case measure => simp [intOf]; omega
        · rcases Int.lt_trichotomy (k : Int) z with hkz | hkz | hkz
          · have hdn := (hAD.2.1 (by omega)).2
            have hA2 := fun kk ll => (armD_write hAD (by omega) kk ll).1
            have hwd : ∀ kk ll, (D.write kk ll).down = false := fun kk ll => by rw [(armD_write hAD (by omega) kk ll).2, decide_eq_false_iff_not]; omega
            have hmy : ∀ kk, 0 ≤ kk → kk < 3 → D.may kk = 0 := fun kk h1 h2 => may_ok hdn (by have := hAD.1; omega) h1
            have hDw := hDr.drew
            go_wp2
            go_region_held3 (fun w' => w'.cell? ⟨(ad.add (k * 5)).block, (ad.add (k * 5)).off + 1, none⟩ = some (.int .i64 x.sec) ∧ w'.cell? ⟨(ad.add (k * 5)).block, (ad.add (k * 5)).off + 3, none⟩ = some (.int .u8 x.byte)) (exact ⟨c1, c3⟩)
              (first
                | (go_at_call 31; refine (pick_pos_b _ _ _ (by omega) (by omega) s1 s2).mono ?_; rintro e w5 ⟨rfl, hb⟩; have t1 : 0 ≤ x.sec % 3 := (by omega); have t2 : x.sec % 3 < 3 := (by omega); generalize x.sec % 3 = sk at t1 t2 ⊢; replace hDw := hDw.below hb; (try replace hv := hv.below hb); have hdx := hdo0.below hDw.be; replace c1 := hdx.c1; replace c3 := hdx.c3; clear hb hdx)
                | (go_at_call 53; refine (full_any _ _ b1 b2).mono ?_; rintro e w5 ⟨v, rfl, hv0, hb⟩; have hv := BytesIs.of_own (fullL_sec _).1 hv0; replace hDw := hDw.below hb; have hdx := hdo0.below hDw.be; replace c1 := hdx.c1; replace c3 := hdx.c3; clear hb hdx hv0)
                | (go_at_call 52; refine (hDw.write0 _ (hmy _ (by omega) (by omega)) hv (fullL_sec _) (hwd _ _)).mono ?_; rintro e w5 ⟨rfl, hD5, hb⟩; have hsd := hwd sk (fullL x.byte); have hA3 := hA2 sk (fullL x.byte); have hdx := hdo0.below hD5.be; replace c1 := hdx.c1; replace c3 := hdx.c3; clear hb))
            all_goals
              go_wp2_with
                (first
                  | (go_at_call 59; refine (hD5.isDown hsd).mono ?_; rintro e w6 ⟨rfl, rfl⟩))
              go_roundw
              case rel => exact ⟨k + 1, by omega, by go_num, _, hD5, by simpa using hA3⟩
              case measure => simp [intOf]; omega
          · subst hkz
            have hdn := (hAD.2.1 (by omega)).2
            have hA2 := fun kk ll => (armD_write hAD (by omega) kk ll).1
            have hwd : ∀ kk ll, (D.write kk ll).down = true := fun kk ll => by rw [(armD_write hAD (by omega) kk ll).2, decide_eq_true_iff]; omega
            have hmy : ∀ kk, 0 ≤ kk → kk < 3 → D.may kk = 0 := fun kk h1 h2 => may_ok hdn (by have := hAD.1; omega) h1
            have hDw := hDr.drew
            go_wp2
            go_region_held3 (fun w' => w'.cell? ⟨(ad.add (k * 5)).block, (ad.add (k * 5)).off + 1, none⟩ = some (.int .i64 x.sec) ∧ w'.cell? ⟨(ad.add (k * 5)).block, (ad.add (k * 5)).off + 3, none⟩ = some (.int .u8 x.byte)) (exact ⟨c1, c3⟩)
              (first
                | (go_at_call 31; refine (pick_pos_b _ _ _ (by omega) (by omega) s1 s2).mono ?_; rintro e w5 ⟨rfl, hb⟩; have t1 : 0 ≤ x.sec % 3 := (by omega); have t2 : x.sec % 3 < 3 := (by omega); generalize x.sec % 3 = sk at t1 t2 ⊢; replace hDw := hDw.below hb; (try replace hv := hv.below hb); have hdx := hdo0.below hDw.be; replace c1 := hdx.c1; replace c3 := hdx.c3; clear hb hdx)
                | (go_at_call 53; refine (full_any _ _ b1 b2).mono ?_; rintro e w5 ⟨v, rfl, hv0, hb⟩; have hv := BytesIs.of_own (fullL_sec _).1 hv0; replace hDw := hDw.below hb; have hdx := hdo0.below hDw.be; replace c1 := hdx.c1; replace c3 := hdx.c3; clear hb hdx hv0)
                | (go_at_call 52; refine (hDw.write9 _ (hmy _ (by omega) (by omega)) hv (fullL_sec _) (hwd _ _)).mono ?_; rintro e w5 ⟨rfl, hD5, hb⟩; have hsd := hwd sk (fullL x.byte); have hA3 := hA2 sk (fullL x.byte); have hdx := hdo0.below hD5.be; replace c1 := hdx.c1; replace c3 := hdx.c3; clear hb))
            all_goals
              go_wp2_with
                (first
                  | (go_at_call 59; refine (hD5.isDown hsd).mono ?_; rintro e w6 ⟨rfl, rfl⟩))
              go_roundw
              case rel => exact ⟨k + 1, by omega, by go_num, _, hD5, by simpa using hA3⟩
              case measure => simp [intOf]; omega
          · have hdn := hAD.2.2 (by omega)
            have hA2 := armD_down hAD (by omega)
            have hmy : ∀ kk, D.may kk = 9 := fun kk => may_down hdn
            have hDw := hDr.drew
            go_wp2
            go_region_held3 (fun w' => w'.cell? ⟨(ad.add (k * 5)).block, (ad.add (k * 5)).off + 1, none⟩ = some (.int .i64 x.sec) ∧ w'.cell? ⟨(ad.add (k * 5)).block, (ad.add (k * 5)).off + 3, none⟩ = some (.int .u8 x.byte)) (exact ⟨c1, c3⟩)
              (first
                | (go_at_call 31; refine (pick_pos_b _ _ _ (by omega) (by omega) s1 s2).mono ?_; rintro e w5 ⟨rfl, hb⟩; have t1 : 0 ≤ x.sec % 3 := (by omega); have t2 : x.sec % 3 < 3 := (by omega); generalize x.sec % 3 = sk at t1 t2 ⊢; replace hDw := hDw.below hb; (try replace hv := hv.below hb); have hdx := hdo0.below hDw.be; replace c1 := hdx.c1; replace c3 := hdx.c3; clear hb hdx)
                | (go_at_call 53; refine (full_any _ _ b1 b2).mono ?_; rintro e w5 ⟨v, rfl, hv0, hb⟩; have hv := BytesIs.of_own (fullL_sec _).1 hv0; replace hDw := hDw.below hb; have hdx := hdo0.below hDw.be; replace c1 := hdx.c1; replace c3 := hdx.c3; clear hb hdx hv0)
                | (go_at_call 52; refine (hDw.writeNo _ (hmy _) (by decide) _).mono ?_; rintro e w5 ⟨rfl, rfl⟩; have hsd := hdn; have hA3 := hA2; have hD5 := hDw))
            all_goals
              go_wp2_with
                (first
                  | (go_at_call 59; refine (hD5.isDown hsd).mono ?_; rintro e w6 ⟨rfl, rfl⟩))
              go_roundw
              case rel => exact ⟨k + 1, by omega, by go_num, _, hD5, by simpa using hA3⟩
              case measure => simp [intOf]; omega
      · have hkM : k = 80 := by omega
        subst hkM
        have hf0 : (D.wake []).down = false := rfl
        have hn3 : (D.wake []).n = 3 := hAD.1
        have hmy : (D.wake []).may 0 = 0 := may_ok hf0 (by omega) (by omega)
        have hwd : ∀ l, ((D.wake []).write 0 l).down = false := fun l => by rw [Dk.write_calm rfl]; rfl
        have hsd : ∀ l, ((D.wake []).write 0 l).sync.down = false := fun l => by rw [Dk.write_calm rfl, Dk.sync_calm rfl rfl]; rfl
        go_wp2_with
          (first
            | (go_at_call 54; refine (hDr.wake (IntsIs.nil _) (fun h => absurd rfl h)).mono ?_; rintro e w5 ⟨rfl, hD5, hb⟩; clear hb)
            | (go_at_call 59; refine (hD5.isDown hf0).mono ?_; rintro e w6 ⟨rfl, rfl⟩)
            | (go_at_call 53; refine (full_any _ _ (by decide) (by decide)).mono ?_; rintro e w6 ⟨v, rfl, hv0, hb⟩; have hv := BytesIs.of_own (fullL_sec _).1 hv0; replace hD5 := hD5.below hb; clear hb hv0)
            | (go_at_call 52; refine (hD5.write0 _ hmy hv (fullL_sec _) (hwd _)).mono ?_; rintro e w7 ⟨rfl, hD7, hb⟩; clear hb)
            | (go_at_call 51; refine (hD7.sync0 (hwd _) (hsd _)).mono ?_; rintro e w8 ⟨rfl, hD8, hb⟩; clear hb))
        go_ret
        exact ⟨rfl, hD8.be⟩
  · have hmc : l.length ≤ 80 := by omega
    have hml : l.length ≤ l.length := by omega
    go_wp2_with
      (first
        | (go_at_call 31; refine (pick_pos_b _ _ _ (by omega) (by omega) q1 q2).mono ?_; rintro e w1 ⟨rfl, hb⟩; replace hB := below_trans' hB hb; clear hb; have p1 : 0 ≤ a % 80 := (by omega); have p2 : a % 80 < 80 := (by omega); generalize a % 80 = z at p1 p2 ⊢)
        | (go_at_call 50; refine (Dev.new_ _ hB 3 (by decide) (by decide)).mono ?_; rintro e w2 ⟨rfl, hD, hb⟩; clear hb; generalize w1.heap.size + 2 = p at hD ⊢; generalize w1.heap.size + 1 = mo at hD ⊢; generalize w1.heap.size = ms at hD ⊢)
        | (go_at_call 57; refine (hD.arm _ (by omega)).mono ?_; rintro e w1 ⟨rfl, hD1, hb⟩; replace hD := hD1; clear hD1 hb))
    go_loopw [6] (fun x wr => ∃ k : Nat, k ≤ l.length ∧ x = .int .i64 k ∧ ∃ D, Dev w wr p ms mo D ∧ ArmD D (1 + z) k) (fun x _ => l.length - (intOf x).toNat)
    case atStart => exact ⟨0, by omega, rfl, _, hD, armD_start (by omega)⟩
    case round =>
      obtain ⟨k, hk, rfl, D, hDr, hAD⟩ := hrel
      clear hD
      by_cases hlt : k < l.length
      · obtain ⟨ad, x, rfl, hx, hdo0⟩ := hA.at_ k (by omega)
        have hdo := hdo0.below hDr.be
        have c0 := hdo.c0
        have c1 := hdo.c1
        have c3 := hdo.c3
        have hop := hdo.i0
        obtain ⟨s1, s2⟩ := hdo.i1
        obtain ⟨b1, b2⟩ := hdo.i3
        by_cases ho : x.op.tmod 2 = 0
        · rcases Int.lt_trichotomy (k : Int) z with hkz | hkz | hkz
          · have hdn := (hAD.2.1 (by omega)).2
            obtain ⟨hA2, hsd⟩ := armD_sync hAD (by omega)
            have hsd : D.sync.down = false := by rw [hsd, decide_eq_false_iff_not]; omega
            go_wp2_with
              (first
                | (go_at_call 51; refine (hDr.sync0 hdn hsd).mono ?_; rintro e w5 ⟨rfl, hD5, hb⟩; clear hb)
                | (go_at_call 59; refine (hD5.isDown hsd).mono ?_; rintro e w6 ⟨rfl, rfl⟩))
            go_roundw
            case rel => exact ⟨k + 1, by omega, by go_num, _, hD5, by simpa using hA2⟩
            case measure => simp [intOf]; omega
          · subst hkz
            have hdn := (hAD.2.1 (by omega)).2
            obtain ⟨hA2, hsd⟩ := armD_sync hAD (by omega)
            have hsd : D.sync.down = true := by rw [hsd, decide_eq_true_iff]; omega
            go_wp2_with
              (first
                | (go_at_call 51; refine (hDr.sync9 hdn hsd).mono ?_; rintro e w5 ⟨rfl, hD5, hb⟩; clear hb)
                | (go_at_call 59; refine (hD5.isDown hsd).mono ?_; rintro e w6 ⟨rfl, rfl⟩))
            go_roundw
            case rel => exact ⟨k + 1, by omega, by go_num, _, hD5, by simpa using hA2⟩
            case measure => simp [intOf]; omega
          · have hdn := hAD.2.2 (by omega)
            have hA2 := armD_down hAD (by omega)
            go_wp2_with
              (first
                | (go_at_call 51; refine (hDr.syncNo hdn).mono ?_; rintro e w5 ⟨rfl, rfl⟩; have hsd := hdn; have hD5 := hDr)
                | (go_at_call 59; refine (hD5.isDown hsd).mono ?_; rintro e w6 ⟨rfl, rfl⟩))
            go_roundw
            case rel => exact ⟨k + 1, by omega, by go_num, _, hD5, by simpa using hA2⟩
            case measure => simp [intOf]; omega
        · rcases Int.lt_trichotomy (k : Int) z with hkz | hkz | hkz
          · have hdn := (hAD.2.1 (by omega)).2
            have hA2 := fun kk ll => (armD_write hAD (by omega) kk ll).1
            have hwd : ∀ kk ll, (D.write kk ll).down = false := fun kk ll => by rw [(armD_write hAD (by omega) kk ll).2, decide_eq_false_iff_not]; omega
            have hmy : ∀ kk, 0 ≤ kk → kk < 3 → D.may kk = 0 := fun kk h1 h2 => may_ok hdn (by have := hAD.1; omega) h1
            have hDw := hDr.drew
            go_wp2
            go_region_held3 (fun w' => w'.cell? ⟨(ad.add (k * 5)).block, (ad.add (k * 5)).off + 1, none⟩ = some (.int .i64 x.sec) ∧ w'.cell? ⟨(ad.add (k * 5)).block, (ad.add (k * 5)).off + 3, none⟩ = some (.int .u8 x.byte)) (exact ⟨c1, c3⟩)
              (first
                | (go_at_call 31; refine (pick_pos_b _ _ _ (by omega) (by omega) s1 s2).mono ?_; rintro e w5 ⟨rfl, hb⟩; have t1 : 0 ≤ x.sec % 3 := (by omega); have t2 : x.sec % 3 < 3 := (by omega); generalize x.sec % 3 = sk at t1 t2 ⊢; replace hDw := hDw.below hb; (try replace hv := hv.below hb); have hdx := hdo0.below hDw.be; replace c1 := hdx.c1; replace c3 := hdx.c3; clear hb hdx)
                | (go_at_call 53; refine (full_any _ _ b1 b2).mono ?_; rintro e w5 ⟨v, rfl, hv0, hb⟩; have hv := BytesIs.of_own (fullL_sec _).1 hv0; replace hDw := hDw.below hb; have hdx := hdo0.below hDw.be; replace c1 := hdx.c1; replace c3 := hdx.c3; clear hb hdx hv0)
                | (go_at_call 52; refine (hDw.write0 _ (hmy _ (by omega) (by omega)) hv (fullL_sec _) (hwd _ _)).mono ?_; rintro e w5 ⟨rfl, hD5, hb⟩; have hsd := hwd sk (fullL x.byte); have hA3 := hA2 sk (fullL x.byte); have hdx := hdo0.below hD5.be; replace c1 := hdx.c1; replace c3 := hdx.c3; clear hb))
            all_goals
              go_wp2_with
                (first
                  | (go_at_call 59; refine (hD5.isDown hsd).mono ?_; rintro e w6 ⟨rfl, rfl⟩))
              go_roundw
              case rel => exact ⟨k + 1, by omega, by go_num, _, hD5, by simpa using hA3⟩
              case measure => simp [intOf]; omega
          · subst hkz
            have hdn := (hAD.2.1 (by omega)).2
            have hA2 := fun kk ll => (armD_write hAD (by omega) kk ll).1
            have hwd : ∀ kk ll, (D.write kk ll).down = true := fun kk ll => by rw [(armD_write hAD (by omega) kk ll).2, decide_eq_true_iff]; omega
            have hmy : ∀ kk, 0 ≤ kk → kk < 3 → D.may kk = 0 := fun kk h1 h2 => may_ok hdn (by have := hAD.1; omega) h1
            have hDw := hDr.drew
            go_wp2
            go_region_held3 (fun w' => w'.cell? ⟨(ad.add (k * 5)).block, (ad.add (k * 5)).off + 1, none⟩ = some (.int .i64 x.sec) ∧ w'.cell? ⟨(ad.add (k * 5)).block, (ad.add (k * 5)).off + 3, none⟩ = some (.int .u8 x.byte)) (exact ⟨c1, c3⟩)
              (first
                | (go_at_call 31; refine (pick_pos_b _ _ _ (by omega) (by omega) s1 s2).mono ?_; rintro e w5 ⟨rfl, hb⟩; have t1 : 0 ≤ x.sec % 3 := (by omega); have t2 : x.sec % 3 < 3 := (by omega); generalize x.sec % 3 = sk at t1 t2 ⊢; replace hDw := hDw.below hb; (try replace hv := hv.below hb); have hdx := hdo0.below hDw.be; replace c1 := hdx.c1; replace c3 := hdx.c3; clear hb hdx)
                | (go_at_call 53; refine (full_any _ _ b1 b2).mono ?_; rintro e w5 ⟨v, rfl, hv0, hb⟩; have hv := BytesIs.of_own (fullL_sec _).1 hv0; replace hDw := hDw.below hb; have hdx := hdo0.below hDw.be; replace c1 := hdx.c1; replace c3 := hdx.c3; clear hb hdx hv0)
                | (go_at_call 52; refine (hDw.write9 _ (hmy _ (by omega) (by omega)) hv (fullL_sec _) (hwd _ _)).mono ?_; rintro e w5 ⟨rfl, hD5, hb⟩; have hsd := hwd sk (fullL x.byte); have hA3 := hA2 sk (fullL x.byte); have hdx := hdo0.below hD5.be; replace c1 := hdx.c1; replace c3 := hdx.c3; clear hb))
            all_goals
              go_wp2_with
                (first
                  | (go_at_call 59; refine (hD5.isDown hsd).mono ?_; rintro e w6 ⟨rfl, rfl⟩))
              go_roundw
              case rel => exact ⟨k + 1, by omega, by go_num, _, hD5, by simpa using hA3⟩
              case measure => simp [intOf]; omega
          · have hdn := hAD.2.2 (by omega)
            have hA2 := armD_down hAD (by omega)
            have hmy : ∀ kk, D.may kk = 9 := fun kk => may_down hdn
            have hDw := hDr.drew
            go_wp2
            go_region_held3 (fun w' => w'.cell? ⟨(ad.add (k * 5)).block, (ad.add (k * 5)).off + 1, none⟩ = some (.int .i64 x.sec) ∧ w'.cell? ⟨(ad.add (k * 5)).block, (ad.add (k * 5)).off + 3, none⟩ = some (.int .u8 x.byte)) (exact ⟨c1, c3⟩)
              (first
                | (go_at_call 31; refine (pick_pos_b _ _ _ (by omega) (by omega) s1 s2).mono ?_; rintro e w5 ⟨rfl, hb⟩; have t1 : 0 ≤ x.sec % 3 := (by omega); have t2 : x.sec % 3 < 3 := (by omega); generalize x.sec % 3 = sk at t1 t2 ⊢; replace hDw := hDw.below hb; (try replace hv := hv.below hb); have hdx := hdo0.below hDw.be; replace c1 := hdx.c1; replace c3 := hdx.c3; clear hb hdx)
                | (go_at_call 53; refine (full_any _ _ b1 b2).mono ?_; rintro e w5 ⟨v, rfl, hv0, hb⟩; have hv := BytesIs.of_own (fullL_sec _).1 hv0; replace hDw := hDw.below hb; have hdx := hdo0.below hDw.be; replace c1 := hdx.c1; replace c3 := hdx.c3; clear hb hdx hv0)
                | (go_at_call 52; refine (hDw.writeNo _ (hmy _) (by decide) _).mono ?_; rintro e w5 ⟨rfl, rfl⟩; have hsd := hdn; have hA3 := hA2; have hD5 := hDw))
            all_goals
              go_wp2_with
                (first
                  | (go_at_call 59; refine (hD5.isDown hsd).mono ?_; rintro e w6 ⟨rfl, rfl⟩))
              go_roundw
              case rel => exact ⟨k + 1, by omega, by go_num, _, hD5, by simpa using hA3⟩
              case measure => simp [intOf]; omega
      · have hkM : k = l.length := by omega
        subst hkM
        have hf0 : (D.wake []).down = false := rfl
        have hn3 : (D.wake []).n = 3 := hAD.1
        have hmy : (D.wake []).may 0 = 0 := may_ok hf0 (by omega) (by omega)
        have hwd : ∀ l, ((D.wake []).write 0 l).down = false := fun l => by rw [Dk.write_calm rfl]; rfl
        have hsd : ∀ l, ((D.wake []).write 0 l).sync.down = false := fun l => by rw [Dk.write_calm rfl, Dk.sync_calm rfl rfl]; rfl
        go_wp2_with
          (first
            | (go_at_call 54; refine (hDr.wake (IntsIs.nil _) (fun h => absurd rfl h)).mono ?_; rintro e w5 ⟨rfl, hD5, hb⟩; clear hb)
            | (go_at_call 59; refine (hD5.isDown hf0).mono ?_; rintro e w6 ⟨rfl, rfl⟩)
            | (go_at_call 53; refine (full_any _ _ (by decide) (by decide)).mono ?_; rintro e w6 ⟨v, rfl, hv0, hb⟩; have hv := BytesIs.of_own (fullL_sec _).1 hv0; replace hD5 := hD5.below hb; clear hb hv0)
            | (go_at_call 52; refine (hD5.write0 _ hmy hv (fullL_sec _) (hwd _)).mono ?_; rintro e w7 ⟨rfl, hD7, hb⟩; clear hb)
            | (go_at_call 51; refine (hD7.sync0 (hwd _) (hsd _)).mono ?_; rintro e w8 ⟨rfl, hD8, hb⟩; clear hb))
        go_ret
        exact ⟨rfl, hD8.be⟩
end Go.Proofs.Yteeamlidmkpohaa


/-
  One step of a life: of the device and of the reference.
-/
set_option linter.unusedVariables false
set_option linter.unusedSimpArgs false
namespace Go.Proofs.Yteeamlidmkpohaa
open Go.RowKit Go.Sort

theorem cell_blk {w : World} {b : Nat} {cs : Array Value} {t : TypeId} {fr : Nat × Nat} (h : w.heap[b]? = some (.cells cs t fr)) (i : Nat) (u : Value) (hu : cs[i]? = some u) : w.cell? ⟨b, i, none⟩ = some u := by
  simp [World.cell?, h, hu]
theorem slice_block {A : Option Addr} {n c m d : Nat} {b : Nat} (h : (Value.slice A n c).ownBlock = some b) : (Value.slice A m d).ownBlock = some b := by
  cases A with
  | none => cases h
  | some a => exact h
theorem fullL_bytey (b : Int) : Bytey (fullL b) := (fullL_sec b).2
theorem fullL_len (b : Int) : (fullL b).length = 512 := (fullL_sec b).1
theorem Bytey.take {l : List Int} (h : Bytey l) (n : Nat) : Bytey (l.take n) := fun x hx => h x (List.mem_of_mem_take hx)
theorem BytesIs.take {w : World} {A : Option Addr} {c : Nat} {l : List Int} (h : BytesIs w (.slice A l.length c) l) (n : Nat) (hn : n ≤ l.length) : BytesIs w (.slice A n c) (l.take n) := by
  obtain ⟨A', c', e, hc, hm, hA⟩ := h
  simp only [Value.slice.injEq, true_and] at e
  obtain ⟨rfl, rfl⟩ := e
  have hl : (l.take n).length = n := by simp; omega
  refine ⟨A, c, by rw [hl], by omega, hm, fun j u hu => ?_⟩
  simp only [bytesV, List.getElem?_map, Option.map_eq_some_iff] at hu
  obtain ⟨x, hx, rfl⟩ := hu
  have hj : j < n := by
    rcases Nat.lt_or_ge j n with h1 | h1
    · exact h1
    · rw [List.getElem?_eq_none (by omega)] at hx; cases hx
  rw [List.getElem?_take_of_lt hj] at hx
  exact hA j _ (by simp [bytesV, hx])
/-- what a step writes -/
def Do8.bytes (x : Do8) : List Int := if x.n.tmod 7 = 3 then (fullL x.byte).take (x.n % 512).toNat else fullL x.byte
theorem Do8.bytes_bytey (x : Do8) : Bytey x.bytes := by
  unfold Do8.bytes
  split
  · exact (fullL_bytey _).take _
  · exact fullL_bytey _
theorem Do8.bytes_len (x : Do8) : x.bytes.length ≤ 512 := by
  unfold Do8.bytes
  split
  · simp [fullL_len]; omega
  · rw [fullL_len]; omega

set_option maxRecDepth 100000
set_option maxHeartbeats 1000000 in
theorem doBytes_any (w : World) (x : Do8) (h1 : In64 x.n) (h2 : 0 ≤ x.byte ∧ x.byte ≤ 255) :
    Calls Try.prog 137 #[.agg #[.int .i64 x.op, .int .i64 x.sec, .int .i64 x.n, .int .u8 x.byte, x.fv]] w fun e w' => ∃ v, e = .returned v ∧ BytesIs w' v x.bytes ∧ (∀ b, v.ownBlock = some b → w.heap.size ≤ b) ∧ Below w.heap.size w w' := by
  obtain ⟨q1, q2⟩ := h1
  obtain ⟨b1, b2⟩ := h2
  have hfl := fullL_len x.byte
  have hcl := fullL_bytey x.byte
  have hob := heap_alloc_new w (.cells #[.int .i64 x.op, .int .i64 x.sec, .int .i64 x.n, .int .u8 x.byte, x.fv] 43)
  by_cases ht : x.n.tmod 7 = 3
  · have e : x.bytes = (fullL x.byte).take (x.n % 512).toNat := by simp [Do8.bytes, ht]
    rw [e]
    have HT := Lib.hid ht
    have ht1 : (x.n.tmod 7 == 3) = true := by simpa using ht
    have m1 : 0 ≤ x.n % 512 := by omega
    have m2 : x.n % 512 ≤ 512 := by omega
    have HOB := Lib.hid hob
    clear ht e hob
    go_enter Try.func137, Try.ntmps137
    go_wp2_with
      (first
        | (go_at_call 53; refine (full_any _ _ b1 b2).mono ?_; rintro e w1 ⟨v, rfl, ho, hb⟩; have k2 : w1.cell? ⟨w.heap.size, 2, none⟩ = some (.int .i64 x.n) := ((hb.cell (p := ⟨w.heap.size, 2, none⟩) (by simp)).trans (cell_blk HOB.out 2 _ rfl)); have hv := BytesIs.of_own hfl ho; have hfr := Lib.hid (own_fresh ho); have hvv := Lib.hid hv; obtain ⟨A, c, e9, hc1, hc2, _⟩ := hv; rw [hfl] at e9 hc1; subst e9; clear ho)
        | (go_at_call 31; refine (pick_pos _ _ _ (by omega) (by omega) q1 q2).mono ?_; rintro e w2 ⟨rfl, rfl⟩; generalize hz : x.n % 512 = z at m1 m2 ⊢; have HZ := Lib.hid hz; clear hz))
    go_ret
    refine ⟨_, rfl, ?_, fun b e => ?_, ?_⟩
    · have := BytesIs.take (l := fullL x.byte) (n := z.toNat) (by rw [hfl]; exact hvv.out) (by rw [hfl]; omega)
      rw [HZ.out]
      exact this
    · have := hfr.out b (slice_block (n := z.toNat) (c := c) e); simp at this; omega
    · exact below_alloc' (Below.refl _ _) _ |>.trans (hb.mono (by simp))
  · have e : x.bytes = fullL x.byte := by simp [Do8.bytes, ht]
    rw [e]
    have HT := Lib.hid ht
    have ht1 : (x.n.tmod 7 == 3) = false := by simpa using ht
    have HOB := Lib.hid hob
    clear ht e hob
    go_enter Try.func137, Try.ntmps137
    go_wp2_with
      (first
        | (go_at_call 53; refine (full_any _ _ b1 b2).mono ?_; rintro e w1 ⟨v, rfl, ho, hb⟩; have k2 : w1.cell? ⟨w.heap.size, 2, none⟩ = some (.int .i64 x.n) := ((hb.cell (p := ⟨w.heap.size, 2, none⟩) (by simp)).trans (cell_blk HOB.out 2 _ rfl)); have hv := Lib.hid (BytesIs.of_own hfl ho); have hfr := Lib.hid (own_fresh ho); clear ho))
    go_ret
    refine ⟨_, rfl, hv.out, fun b e => ?_, ?_⟩
    · have := hfr.out b e; simp at this; omega
    · exact below_alloc' (Below.refl _ _) _ |>.trans (hb.mono (by simp))
end Go.Proofs.Yteeamlidmkpohaa


/-
  step: each answer of the device is the reference's.
-/
set_option linter.unusedVariables false
set_option linter.unusedSimpArgs false
namespace Go.Proofs.Yteeamlidmkpohaa
open Go.RowKit Go.Sort

/-- what a step makes of a disk -/
def Do8.does (x : Do8) (D : Dk) : Dk :=
  if x.op % 8 ≤ 2 then D.writes x.sec x.bytes else if x.op % 8 = 3 then D.syncs else if x.op % 8 = 4 then D.arm x.n else if x.op % 8 ≤ 6 then D else D.wake x.fs
/-- a step, as it is handed on: its numbers are numbers, its fates a slice of the law's own arguments -/
structure DoOk (w0 w : World) (x : Do8) : Prop where
  i0 : In64 x.op
  i1 : In64 x.sec
  i2 : In64 x.n
  i3 : 0 ≤ x.byte ∧ x.byte ≤ 255
  fs : IntsIs w x.fv x.fs
  fo : x.fs ≠ [] → ∀ k, x.fv.ownBlock = some k → k < w0.heap.size
  fl : x.fs.length ≤ 1000
def Do8.val (x : Do8) : Value := .agg #[.int .i64 x.op, .int .i64 x.sec, .int .i64 x.n, .int .u8 x.byte, x.fv]

/-- both are as a step leaves them -/
def StepPost (w0 w : World) (p ms mo r : Nat) (lv : Value) (Y : Nat → Prop) (D' : Dk) (w' : World) : Prop :=
  ∃ (lv' : Value) (L' : List RS) (Y' : Nat → Prop), Pair w0 w' p ms mo r lv' L' Y' D' ∧ Chg (fun b => DF p ms mo b ∨ MF r lv b) w w' ∧ Fresh w (MF r lv) (MF r lv') ∧ Fresh w Y Y'

section
variable {w0 w w' : World} {p ms mo r : Nat} {lv : Value} {L : List RS} {Y : Nat → Prop} {D : Dk}
theorem StepPost.pre {w1 : World} {D' : Dk} (h : StepPost w0 w1 p ms mo r lv Y D' w') (hb : Below w.heap.size w w1) : StepPost w0 w p ms mo r lv Y D' w' := by
  obtain ⟨lv', L', Y', h1, h2, h3, h4⟩ := h
  exact ⟨lv', L', Y', h1, (Chg.of_below hb).trans h2, fun b e => (h3 b e).imp id (fun e => Nat.le_trans hb.size e), fun b e => (h4 b e).imp id (fun e => Nat.le_trans hb.size e)⟩
theorem StepPost.below {w1 : World} {D' : Dk} (h : StepPost w0 w p ms mo r lv Y D' w1) (hb : Below w1.heap.size w1 w') : StepPost w0 w p ms mo r lv Y D' w' := by
  obtain ⟨lv', L', Y', h1, h2, h3, h4⟩ := h
  exact ⟨lv', L', Y', h1.below hb, h2.trans (Chg.of_below hb), h3, h4⟩
theorem StepPost.same (h : Pair w0 w p ms mo r lv L Y D) : StepPost w0 w p ms mo r lv Y D w := ⟨lv, L, Y, h, Chg.refl _ _, Fresh.refl _ _, Fresh.refl _ _⟩

set_option maxRecDepth 100000
set_option maxHeartbeats 2000000 in
theorem step_rest (h : Pair w0 w p ms mo r lv L Y D) (x : Do8) (hx : DoOk w0 w x) (hk : 3 ≤ x.op % 8) :
    Calls Try.prog 71 #[.pointer (some ⟨p, 0, none⟩), .pointer (some ⟨r, 0, none⟩), x.val] w fun e w' => e = .returned (.bool true) ∧ StepPost w0 w p ms mo r lv Y (x.does D) w' := by
  obtain ⟨q1, q2⟩ := hx.i0
  have hn2 := hx.i2.2
  have hob := heap_alloc_new w (.cells #[.int .i64 x.op, .int .i64 x.sec, .int .i64 x.n, .int .u8 x.byte, x.fv] 43)
  have hP := h.alloc (.cells #[.int .i64 x.op, .int .i64 x.sec, .int .i64 x.n, .int .u8 x.byte, x.fv] 43)
  have hbe : Below w.heap.size w (w.alloc (.cells #[.int .i64 x.op, .int .i64 x.sec, .int .i64 x.n, .int .u8 x.byte, x.fv] 43)) := below_alloc' (Below.refl _ _) _
  have hfs := hx.fs.below hbe
  have hfl := hx.fl
  have HFO := Lib.hid hx.fo
  have HB := Lib.hid hbe
  have HX := Lib.hid hx
  clear hbe
  have k0 := cell_blk hob 0 _ rfl
  have k1 := cell_blk hob 1 _ rfl
  have k2 := cell_blk hob 2 _ rfl
  have k4 := cell_blk hob 4 _ rfl
  have hbl : w.heap.size < (w.alloc (.cells #[.int .i64 x.op, .int .i64 x.sec, .int .i64 x.n, .int .u8 x.byte, x.fv] 43)).heap.size := by simp
  have hsz : w0.heap.size ≤ w.heap.size := h.rf.sz
  have H := Lib.hid h
  clear h hx hob
  have hk8 : x.op % 8 < 8 := by omega
  have hcase : x.op % 8 = 3 ∨ x.op % 8 = 4 ∨ x.op % 8 = 5 ∨ x.op % 8 = 6 ∨ x.op % 8 = 7 := by omega
  unfold Do8.val
  have hbd : ∀ k, DF p ms mo k → k ≠ w.heap.size := fun k e => by have := H.out.dv.lt k e; omega
  have hbm : ∀ k, MF r lv k → k ≠ w.heap.size := fun k e => by have := (H.out.rf.mf k e).2; omega
  rcases hcase with e | e | e | e | e
  · have hdo : x.does D = D.syncs := by simp [Do8.does, e]
    rw [hdo]
    have hpk := pick_pos x.op 8
    rw [e] at hpk
    have HPK := Lib.hid hpk
    have HBD := Lib.hid hbd
    clear hpk hdo e hk hk8 hbd hbm
    go_enter Try.func71, Try.ntmps71
    go_wp2_with
      (first
        | (go_at_call 31; refine (HPK.out _ (by omega) (by omega) q1 q2).mono ?_; rintro e w1 ⟨rfl, rfl⟩)
        | (go_at_call 51; refine hP.dv.syncs.mono ?_; rintro e w5 ⟨rfl, hD5, hc5⟩; have hmid := hP.mid hc5)
        | (go_at_call 139; refine hmid.syncs.mono ?_; rintro e w6 ⟨L6, rfl, hR6, hc6⟩; have hst := Lib.hid (hP.step hD5 hc5 hR6 hc6 (Fresh.refl _ _) (Fresh.refl _ _))))
    go_ret
    exact ⟨rfl, StepPost.pre ⟨_, _, _, hst.out⟩ HB.out⟩
  · have hdo : x.does D = D.arm x.n := by simp [Do8.does, e]
    rw [hdo]
    have hpk := pick_pos x.op 8
    rw [e] at hpk
    have HPK := Lib.hid hpk
    have HBD := Lib.hid hbd
    clear hpk hdo e hk hk8 hbd hbm
    go_enter Try.func71, Try.ntmps71
    go_wp2_with
      (first
        | (go_at_call 31; refine (HPK.out _ (by omega) (by omega) q1 q2).mono ?_; rintro e w1 ⟨rfl, rfl⟩)
        | (go_at_call 57; refine (hP.dv.arm _ hn2).mono ?_; rintro e w5 ⟨rfl, hD5, hc5⟩; have hmid := hP.mid hc5; have k2' := (hc5.cell (p := ⟨w.heap.size, 2, none⟩) hbl (fun e => HBD.out _ e rfl)).trans k2)
        | (go_at_call 140; refine (hmid.arm _ hn2).mono ?_; rintro e w6 ⟨rfl, hR6, hc6⟩; have hst := Lib.hid (hP.step hD5 hc5 hR6 (hc6.mono (fun _ _ e => Or.inl e)) (Fresh.refl _ _) (Fresh.refl _ _))))
    go_ret
    exact ⟨rfl, StepPost.pre ⟨_, _, _, hst.out⟩ HB.out⟩
  iterate 2
    · have hdo : x.does D = D := by simp [Do8.does, e]
      rw [hdo]
      have hpk := pick_pos x.op 8
      rw [e] at hpk
      have HPK := Lib.hid hpk
      clear hpk hdo e hk hk8 hbd hbm
      go_enter Try.func71, Try.ntmps71
      go_wp2_with
        (first
          | (go_at_call 31; refine (HPK.out _ (by omega) (by omega) q1 q2).mono ?_; rintro e w1 ⟨rfl, rfl⟩)
          | (go_at_call 55; refine (hP.dv.reads _).mono ?_; rintro e w5 ⟨va, rfl, ha, hfa, hb5⟩; have hP5 := hP.below hb5; have k1' := (hb5.cell (p := ⟨w.heap.size, 1, none⟩) hbl).trans k1)
          | (go_at_call 141; refine (hP5.rf.reads _).mono ?_; rintro e w6 ⟨vb, rfl, hvb, hfb, hb6⟩; have hP6 := hP5.below hb6; replace ha := ha.below hb6; have hmm : (D.may x.sec != D.may x.sec) = false := by simp)
          | (go_at_call 58; refine (sameBytes_eq _ _ _ _ ha hvb).mono ?_; rintro e w7 ⟨rfl, hb7⟩; have hP7 := Lib.hid (hP6.below hb7)))
      go_ret
      refine ⟨rfl, StepPost.pre (StepPost.below (StepPost.below (StepPost.below (StepPost.same hP) hb5) hb6) hb7) HB.out⟩
  · have hdo : x.does D = D.wake x.fs := by simp [Do8.does, e]
    rw [hdo]
    have hpk := pick_pos x.op 8
    rw [e] at hpk
    have HPK := Lib.hid hpk
    have HBD := Lib.hid hbd
    have HBM := Lib.hid hbm
    clear hpk hdo e hk hk8 hbd hbm
    go_enter Try.func71, Try.ntmps71
    go_wp2_with
      (first
        | (go_at_call 31; refine (HPK.out _ (by omega) (by omega) q1 q2).mono ?_; rintro e w1 ⟨rfl, rfl⟩)
        | (go_at_call 142; refine (lentFates_any _ _ _ hfs (by omega)).mono ?_; rintro e w4 ⟨rfl, hL4, hb4⟩; simp only [World.size_alloc] at hL4; have hP4 := hP.below hb4; have hfs4 := hfs.below hb4; have k4' := (hb4.cell (p := ⟨w.heap.size, 4, none⟩) hbl).trans k4; have hbl4 := Nat.lt_of_lt_of_le hbl hb4.size)
        | (go_at_call 54; refine (hP4.dv.wake (hL4.ints (by omega)) (fun _ k e e2 => ?_)).mono ?_
           · have h9 := H.out.dv.lt k e2
             have e9 : w.heap.size + 1 = k := by simpa [Value.ownBlock] using e
             omega
           rintro e w5 ⟨rfl, hD5, hc5⟩
           have hmid := hP4.mid hc5
           have k4'' := (hc5.cell (p := ⟨w.heap.size, 4, none⟩) hbl4 (fun e => HBD.out _ e rfl)).trans k4'
           have hL5 := hL4.chg hc5 (fun e => by have := H.out.dv.lt _ e; omega)
           have hbl5 := Nat.lt_of_lt_of_le hbl4 hc5.size)
        | (go_at_call 74; refine (hmid.wake (fs := x.fs) ?_ ?_).mono ?_
           · by_cases hnil : x.fs = []
             · obtain ⟨A, c, e, u1, u2, u3⟩ := hfs4
               exact ⟨A, c, e, u1, u2, fun j u hu => by rw [hnil] at hu; simp [intsV] at hu⟩
             · exact hfs4.chg hc5 (fun k e e2 => by have := HFO.out hnil k e; have := hP.dv.df k e2; omega)
           · intro hnil k e e2
             have := HFO.out hnil k e
             have := (H.out.rf.mf k e2).1
             omega
           rintro e w6 ⟨L6, rfl, hR6, hc6⟩
           have hst := Lib.hid (hP4.step hD5 hc5 hR6 hc6 (Fresh.refl _ _) (Fresh.refl _ _))
           have k4''' := (hc6.cell (p := ⟨w.heap.size, 4, none⟩) hbl5 (fun e => HBM.out _ e rfl)).trans k4''
           have hL6 := hL5.chg hc6 (fun e => by have := (H.out.rf.mf _ e).2; omega)
           have hfs6 : IntsIs w6 x.fv x.fs := by
             by_cases hnil : x.fs = []
             · obtain ⟨A, c, e, u1, u2, u3⟩ := hfs4
               exact ⟨A, c, e, u1, u2, fun j u hu => by rw [hnil] at hu; simp [intsV] at hu⟩
             · exact (hfs4.chg hc5 (fun k e e2 => by have := HFO.out hnil k e; have := hP.dv.df k e2; omega)).chg hc6 (fun k e e2 => by have := HFO.out hnil k e; have := (H.out.rf.mf k e2).1; omega))
        | (go_at_call 143; refine (keptFates_any _ _ _ _ hL6 hfs6 (by omega)).mono ?_; rintro e w7 ⟨rfl, hb7⟩))
    go_ret
    exact ⟨rfl, StepPost.pre (StepPost.below (StepPost.pre ⟨_, _, _, hst.out⟩ hb4) hb7) HB.out⟩
end
end Go.Proofs.Yteeamlidmkpohaa
