/-
  The layout: the walks of the statements LayoutFields, LayoutIn and LayoutPlaces.
-/
import Derived.Test.YteeamlidmkpohaaLe
import Derived.Test.YteeamlidmkpohaaArg
set_option linter.unusedVariables false
set_option linter.unusedSimpArgs false
namespace Go.Proofs.Yteeamlidmkpohaa
open Go.RowKit Go.Sort

theorem emod_of_neg (x n : Int) (hn : 1 ≤ n) : x % n = if (-x) % n = 0 then 0 else n - (-x) % n := by
  have e := Int.emod_add_mul_ediv (-x) n
  have h0 := Int.emod_nonneg (-x) (show n ≠ 0 by omega)
  have h1 := Int.emod_lt_of_pos (-x) (show 0 < n by omega)
  generalize (-x) / n = q at e
  generalize (-x) % n = r at e h0 h1 ⊢
  by_cases h : r = 0
  · rw [if_pos h]
    have : x = n * (-q) := by rw [Int.mul_neg]; omega
    rw [this, Int.mul_emod_right]
  · rw [if_neg h]
    have : x = (n - r) + n * (-q - 1) := by rw [Int.mul_sub, Int.mul_neg]; omega
    rw [this, Int.add_mul_emod_self_left, Int.emod_eq_of_lt (by omega) (by omega)]

theorem pick_pos (x n : Int) (w : World) (hn : 1 ≤ n) (hn' : n ≤ 9223372036854775807) (hx : -9223372036854775808 ≤ x) (hx' : x ≤ 9223372036854775807) :
    Calls Try.prog 31 #[.int .i64 x, .int .i64 n] w fun e w' => e = .returned (.int .i64 (x % n)) ∧ w = w' := by
  have h0 := Int.emod_nonneg x (show n ≠ 0 by omega)
  have h1 := Int.emod_lt_of_pos x (show 0 < n by omega)
  by_cases hs : 0 ≤ x
  · have e : x.tmod n = x % n := Int.tmod_eq_emod_of_nonneg hs
    have e' : wrap64 (x % n) = x % n := by unfold wrap64; omega
    go_enter Try.func31, Try.ntmps31
    go_wp2
    go_ret
    exact ⟨rfl, rfl⟩
  · have hd : (x.tmod n) = -((-x) % n) := by rw [show x = -(-x) by omega, Int.neg_tmod, Int.tmod_eq_emod_of_nonneg (by omega)]; simp
    have h2 := Int.emod_nonneg (-x) (show n ≠ 0 by omega)
    have h3 := Int.emod_lt_of_pos (-x) (show 0 < n by omega)
    have E := Lib.hid (emod_of_neg x n hn)
    go_enter Try.func31, Try.ntmps31
    go_wp2
    all_goals go_ret
    all_goals refine ⟨ret_i ?_, rfl⟩
    all_goals rw [E.out]
    · rw [if_neg (by omega)]; omega
    · rw [if_pos (by omega)]; omega
theorem pick_none (x n : Int) (w : World) (hn : n < 1) :
    Calls Try.prog 31 #[.int .i64 x, .int .i64 n] w fun e w' => e = .returned (.int .i64 0) ∧ w = w' := by
  go_enter Try.func31, Try.ntmps31
  go_wp2
  go_ret
  exact ⟨rfl, rfl⟩

set_option maxRecDepth 100000 in
set_option maxHeartbeats 2000000 in
theorem layoutFields_walk (a0 a1 : Int) (w : World) (h0 : -9223372036854775808 ≤ a0) (h0' : a0 ≤ 9223372036854775807) :
    Calls Try.prog 3 #[.int .i64 a0, .int .i64 a1] w fun e w' => e = .returned (.bool true) ∧ Below w.heap.size w w' := by
  have creg := @cell_grown
  obtain ⟨k, hk, k0, k5⟩ : ∃ k, a0 % 5 = k ∧ 0 ≤ k ∧ k < 5 := ⟨_, rfl, by omega, by omega⟩
  go_enter Try.func3, Try.ntmps3
  go_wp2_with (first | (go_at_call 29; refine (awake11 _).mono ?_; rintro e w1 ⟨rfl, hb1⟩) | (go_at_call 30; refine (small_any _).mono ?_; rintro e w2 ⟨rfl, hb2⟩) | (go_at_call 31; refine (pick_pos _ _ _ (by omega) (by omega) h0 h0').mono ?_; rintro e w3 ⟨rfl, rfl⟩; rw [hk]; have HK := Lib.hid hk; clear hk; rcases (show k = 0 ∨ k = 1 ∨ k = 2 ∨ k = 3 ∨ k = 4 by omega) with rfl | rfl | rfl | rfl | rfl))
  all_goals
    refine wp_region_quiet_below (by kernel_rfl) (by kernel_rfl) ?_
    repeat (go_big_quiet_step (first | exact Calls.regrown_of (right_any _ _ _ _ _ _) | exact Calls.regrown_of (rright_any _ _ _ _ _ _) | exact Calls.regrown_of (sectors_any _ _ _ _ _ _) | exact Calls.regrown_of (rsectorsT_any _ _ _ _ _ _)))
    refine wpQuiet_nil ?_
    intro _ hw'
    obtain ⟨⟨dq, osq⟩, hw''⟩ := hw'
    subst hw''
    go_wp2
    go_ret
    exact ⟨rfl, below_trans' (below_alloc' (below_trans' hb1 hb2) _) (below_regrown _ dq osq)⟩

theorem layoutFields_row (w : World) {v0 v1 : Value} {a0 a1 : Int} (A0 : ArgInt v0 a0) (A1 : ArgInt v1 a1) :
    Calls Try.prog 3 #[v0, v1] w fun e w' => e = .returned (.bool true) ∧ Below w.heap.size w w' := by
  obtain ⟨rfl, h0⟩ := A0
  obtain ⟨rfl, _⟩ := A1
  exact layoutFields_walk a0 a1 w h0.1 h0.2
end Go.Proofs.Yteeamlidmkpohaa
