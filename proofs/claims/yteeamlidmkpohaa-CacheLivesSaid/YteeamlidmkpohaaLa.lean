/-
  The layout: what each function of the packages layout and peatbankref11 tells, for every geometry and every number.
-/
import Derived.Test.YteeamlidmkpohaaProg
import Derived.Test.YteeamlidmkpohaaBase
set_option linter.unusedVariables false
set_option linter.unusedSimpArgs false
namespace Go.Proofs.Yteeamlidmkpohaa
open Go.RowKit Go.Sort

/-! plain words -/
def fromB (n a b : Int) : Bool := decide (a ≤ n) && decide (n ≤ b)
def pagesW (v s m : Int) : Int := wrap64 (2 + wrap64 ((wrap64 (wrap64 (wrap64 (s * m) + wrap64 (9 * wrap64 (v.tdiv 8))) + 8)).tdiv 4))
def pagesI (v s m : Int) : Int := 2 + (s * m + 9 * (v / 8) + 8) / 4

/-- the four places of a plan -/
def plan1 (j : Int) : Int := wrap64 (2 + wrap64 (2 * j))
def plan2 (v s m j : Int) : Int := wrap64 (plan1 j + wrap64 (4 * pagesW v s m))
def plan3 (v s m j : Int) : Int := wrap64 (plan2 v s m j + wrap64 (s * m))

set_option maxHeartbeats 400000 in
theorem pages_any (v s m u j : Int) (w : World) :
    Calls Try.prog 127 #[.agg #[.int .i64 v, .int .i64 s, .int .i64 m, .int .i64 u, .int .i64 j]] w fun e w' => e = .returned (.int .i64 (pagesW v s m)) ∧ Below w.heap.size w w' := by
  go_enter Try.func127, Try.ntmps127
  go_wp2
  go_ret
  exact ⟨rfl, (Below.refl _ _).alloc (Nat.le_refl _) _⟩

set_option maxHeartbeats 400000 in
theorem rpages_any (v s m u j : Int) (w : World) :
    Calls Try.prog 128 #[.agg #[.int .i64 v, .int .i64 s, .int .i64 m, .int .i64 u, .int .i64 j]] w fun e w' => e = .returned (.int .i64 (pagesW v s m)) ∧ Below w.heap.size w w' := by
  go_enter Try.func128, Try.ntmps128
  go_wp2
  go_ret
  exact ⟨rfl, (Below.refl _ _).alloc (Nat.le_refl _) _⟩

theorem idx3_0 (x y z : Int) (w : World) : (Instr.index 223 (.agg #[.int .i64 x, .int .i64 y, .int .i64 z]) (.int .i64 0)).run Try.prog w = .ok (.int .i64 x) w := by kernel_rfl
theorem idx3_1 (x y z : Int) (w : World) : (Instr.index 223 (.agg #[.int .i64 x, .int .i64 y, .int .i64 z]) (.int .i64 1)).run Try.prog w = .ok (.int .i64 y) w := by kernel_rfl
theorem idx3_2 (x y z : Int) (w : World) : (Instr.index 223 (.agg #[.int .i64 x, .int .i64 y, .int .i64 z]) (.int .i64 2)).run Try.prog w = .ok (.int .i64 z) w := by kernel_rfl
set_option maxRecDepth 100000 in
set_option maxHeartbeats 1000000 in
theorem plan_any (v s m u j : Int) (w : World) :
    Calls Try.prog 124 #[.agg #[.int .i64 v, .int .i64 s, .int .i64 m, .int .i64 u, .int .i64 j]] w fun e w' => e = .returned (.agg #[.int .i64 2, .int .i64 (plan1 j), .int .i64 (plan2 v s m j), .int .i64 (plan3 v s m j)]) ∧ Below w.heap.size w w' := by
  go_enter Try.func124, Try.ntmps124
  go_wp2_with fail
  generalize hW : ((w.alloc (.cells #[.int .i64 v, .int .i64 s, .int .i64 m, .int .i64 u, .int .i64 j] 24)).alloc (.cells #[.int .i64 0, .int .i64 0, .int .i64 0, .int .i64 0] 158)).alloc (.cells #[.int .i64 0, .int .i64 0, .int .i64 0, .int .i64 0] 158) = W
  have hsz : w.heap.size + 2 < W.heap.size := by subst hW; simp
  have h0 : W.cell? ⟨w.heap.size, 0, none⟩ = some (.int .i64 v) ∧ W.cell? ⟨w.heap.size, 1, none⟩ = some (.int .i64 s) ∧ W.cell? ⟨w.heap.size, 2, none⟩ = some (.int .i64 m) ∧ W.cell? ⟨w.heap.size, 3, none⟩ = some (.int .i64 u) ∧ W.cell? ⟨w.heap.size, 4, none⟩ = some (.int .i64 j) := by subst hW; go_simp
  obtain ⟨h0, h1, h2, h3, h4⟩ := h0
  have c0 := cell_regrown h0
  have c1 := cell_regrown h1
  have c2 := cell_regrown h2
  have c3 := cell_regrown h3
  have c4 := cell_regrown h4
  refine wp_region_quiet_below (by kernel_rfl) (by kernel_rfl) ?_
  repeat (go_big_quiet_step (exact Calls.regrown_of (pages_any _ _ _ _ _ _)))
  refine wpQuiet_nil ?_
  intro _ hw'
  obtain ⟨⟨dq, osq⟩, hw''⟩ := hw'
  subst hw''
  have hB := below_regrown W dq osq
  generalize grow (redrawn W dq) osq = W1 at hB ⊢
  clear h0 h1 h2 h3 h4 c0 c1 c2 c3 c4
  subst hW
  obtain ⟨hc, hf⟩ := bcell hB
  have hsz1 := hB.size
  simp only [World.size_alloc] at hc hf hsz1
  have x0 := idx3_0
  have x1 := idx3_1
  have x2 := idx3_2
  go_wp2
  refine wp_loop_rounds 4 ?_
  rw [rounds_succ]
  go_wp2
  rw [rounds_succ]
  go_wp2
  rw [rounds_succ]
  go_wp2
  rw [rounds_succ]
  go_wp2
  have hb0 : Below w.heap.size w W1 := below_trans' (below_alloc' (below_alloc' (below_alloc' (Below.refl _ _) _) _) _) hB
  refine bodyPost_ret (v := .agg #[.int .i64 2, .int .i64 (plan1 j), .int .i64 (plan2 v s m j), .int .i64 (plan3 v s m j)]) (by simp [results, Try.results124, go_sem, plan1, plan2, plan3, hc, hf]) rfl ⟨rfl, ?_⟩
  repeat (first | (with_reducible exact hb0) | (with_reducible refine Below.setCell ?_ ?_ _; rotate_left; (· (simp <;> omega))))

def rightW (v s m u j : Int) : Bool :=
  fromB v 8 4096 && (v.tmod 8 == 0) && fromB s 2 256 && fromB u 1 16 && fromB m (if 16 < wrap64 (2 * wrap64 (wrap64 (8 * u) + 1)) then wrap64 (2 * wrap64 (wrap64 (8 * u) + 1)) else 16) 1024 && fromB j 8 64 && decide (plan3 v s m j ≤ 262144)

theorem idx4_0 (x y z u : Int) (w : World) : (Instr.index 158 (.agg #[.int .i64 x, .int .i64 y, .int .i64 z, .int .i64 u]) (.int .i64 0)).run Try.prog w = .ok (.int .i64 x) w := by kernel_rfl
theorem idx4_1 (x y z u : Int) (w : World) : (Instr.index 158 (.agg #[.int .i64 x, .int .i64 y, .int .i64 z, .int .i64 u]) (.int .i64 1)).run Try.prog w = .ok (.int .i64 y) w := by kernel_rfl
theorem idx4_2 (x y z u : Int) (w : World) : (Instr.index 158 (.agg #[.int .i64 x, .int .i64 y, .int .i64 z, .int .i64 u]) (.int .i64 2)).run Try.prog w = .ok (.int .i64 z) w := by kernel_rfl
theorem idx4_3 (x y z u : Int) (w : World) : (Instr.index 158 (.agg #[.int .i64 x, .int .i64 y, .int .i64 z, .int .i64 u]) (.int .i64 3)).run Try.prog w = .ok (.int .i64 u) w := by kernel_rfl
theorem from_any (n a b : Int) (w : World) :
    Calls Try.prog 123 #[.int .i64 n, .int .i64 a, .int .i64 b] w fun e w' => e = .returned (.bool (fromB n a b)) ∧ w = w' := by
  by_cases h : a ≤ n
  · go_enter Try.func123, Try.ntmps123
    go_wp2
    go_ret
    exact ⟨by simp [fromB, h], rfl⟩
  · have h' : n < a := by omega
    have h'' : decide (a ≤ n) = false := by simpa using h
    clear h
    go_enter Try.func123, Try.ntmps123
    go_wp2
    go_ret
    exact ⟨by simp [fromB, h''], rfl⟩

set_option maxRecDepth 100000 in
set_option maxHeartbeats 1000000 in
theorem right_any (v s m u j : Int) (w : World) :
    Calls Try.prog 32 #[.agg #[.int .i64 v, .int .i64 s, .int .i64 m, .int .i64 u, .int .i64 j]] w fun e w' => e = .returned (.bool (rightW v s m u j)) ∧ Below w.heap.size w w' := by
  have y3 := idx4_3
  go_enter Try.func32, Try.ntmps32
  go_wp2_with (first | (go_at_call 123; refine (from_any _ _ _ _).mono ?_; rintro e w' ⟨rfl, rfl⟩) | (go_at_call 124; refine (plan_any _ _ _ _ _ _).mono ?_; rintro e w1 ⟨rfl, hb⟩))
  all_goals go_ret
  all_goals (refine ⟨?_, ?_⟩; (· (refine congrArg (fun b => Ending.returned (.bool b)) ?_; by_cases hX : 16 < wrap64 (2 * wrap64 (wrap64 (8 * u) + 1)) <;> first | (exfalso; omega) | simp [rightW, *])))
  all_goals first | (with_reducible exact below_trans' (below_alloc' (Below.refl _ _) _) ‹_›) | (with_reducible exact below_alloc' (Below.refl _ _) _)
end Go.Proofs.Yteeamlidmkpohaa
