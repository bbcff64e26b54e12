/-
  The layout: the walks of the statements LayoutIn and LayoutPlaces.
-/
import Derived.Test.YteeamlidmkpohaaLf
set_option linter.unusedVariables false
set_option linter.unusedSimpArgs false
namespace Go.Proofs.Yteeamlidmkpohaa
open Go.RowKit Go.Sort

theorem pick_pos_b (x n : Int) (w : World) (hn : 1 ≤ n) (hn' : n ≤ 9223372036854775807) (hx : -9223372036854775808 ≤ x) (hx' : x ≤ 9223372036854775807) :
    Calls Try.prog 31 #[.int .i64 x, .int .i64 n] w fun e w' => e = .returned (.int .i64 (x % n)) ∧ Below w.heap.size w w' :=
  (pick_pos x n w hn hn' hx hx').mono fun _ _ ⟨h, h'⟩ => ⟨h, below_eq h'⟩

theorem in_seg {v s m u j : Int} (hR : rightW v s m u j = true) {n o : Int} (h : 0 ≤ n) (h' : n < s) (ho : 0 ≤ o) (ho' : o < m) : inW v s m u j (segW v s m u j n + o) = some n :=
  in_found hR h h' (by omega) (by omega)
theorem in_before {v s m u j : Int} (hR : rightW v s m u j = true) : inW v s m u j (segW v s m u j 0 - 1) = none := by
  have R := right_plain hR
  have := R.s1
  have h := (seg_plain hR (k := 0) (by omega) (by omega)).1
  rw [in_plain hR, if_pos (by omega)]
theorem in_behind {v s m u j : Int} (hR : rightW v s m u j = true) : inW v s m u j (plan3 v s m j) = none := by
  have R := right_plain hR
  have := R.p3; have := R.sm
  rw [in_plain hR, if_neg (by omega), if_pos (by omega)]
theorem in_minus {v s m u j : Int} (hR : rightW v s m u j = true) : inW v s m u j (-1) = none := by
  have R := right_plain hR
  have := R.j1; have := R.pg2
  rw [in_plain hR, if_pos (by omega)]
theorem seg_size {v s m u j : Int} (hR : rightW v s m u j = true) {n : Int} (h : 0 ≤ n) (h' : n < s) : 1 ≤ segW v s m u j n ∧ segW v s m u j n + m ≤ 262144 := by
  have R := right_plain hR
  have := R.j1; have := R.pg2; have := R.p3; have := R.le
  obtain ⟨e, a, b⟩ := seg_plain hR h h'
  omega

set_option maxRecDepth 100000 in
set_option maxHeartbeats 4000000 in
theorem layoutIn_false (v s m u j a b : Int) (w : World) (hR : rightW v s m u j = false) :
    Calls Try.prog 4 #[.agg #[.int .i64 v, .int .i64 s, .int .i64 m, .int .i64 u, .int .i64 j], .int .i64 a, .int .i64 b] w fun e w' => e = .returned (.bool true) ∧ Below w.heap.size w w' := by
  go_enter Try.func4, Try.ntmps4
  go_wp2_with fail
  have creg := @cell_grown
  have hbx := BoxG.new v s m u j w
  have hbe : Below w.heap.size w (w.alloc (.cells #[.int .i64 v, .int .i64 s, .int .i64 m, .int .i64 u, .int .i64 j] 24)) := below_alloc' (Below.refl _ _) _
  generalize w.alloc (.cells #[.int .i64 v, .int .i64 s, .int .i64 m, .int .i64 u, .int .i64 j] 24) = wa at hbx hbe ⊢
  obtain ⟨d0, d1, d2, d3, d4⟩ := id hbx
  go_wp2_with (first | (go_at_call 29; refine (awake11 _).mono ?_; rintro e wb ⟨rfl, hb⟩; replace hbx := hbx.below hb; replace hbe := below_trans' hbe hb; clear d0 d1 d2 d3 d4; obtain ⟨d0, d1, d2, d3, d4⟩ := id hbx; clear hb) | (go_at_call 32; refine (right_any _ _ _ _ _ _).mono ?_; rintro e wc ⟨rfl, hb⟩; replace hbx := hbx.below hb; replace hbe := below_trans' hbe hb; clear d0 d1 d2 d3 d4; obtain ⟨d0, d1, d2, d3, d4⟩ := id hbx; clear hb))
  go_ret
  exact ⟨rfl, hbe⟩

set_option maxRecDepth 100000 in
set_option maxHeartbeats 4000000 in
theorem layoutIn_true (v s m u j a b : Int) (w : World) (hR : rightW v s m u j = true) (ha : IntIn a) (hb : IntIn b) :
    Calls Try.prog 4 #[.agg #[.int .i64 v, .int .i64 s, .int .i64 m, .int .i64 u, .int .i64 j], .int .i64 a, .int .i64 b] w fun e w' => e = .returned (.bool true) ∧ Below w.heap.size w w' := by
  have R := right_plain hR
  have hs1 := R.s1; have hs2 := R.s2; have hm1 := R.m1; have hm2 := R.m2
  have n0 := Int.emod_nonneg a (show s ≠ 0 by omega)
  have n1 := Int.emod_lt_of_pos a (show 0 < s by omega)
  have o0 := Int.emod_nonneg b (show m ≠ 0 by omega)
  have o1 := Int.emod_lt_of_pos b (show 0 < m by omega)
  obtain ⟨z0, z1⟩ := seg_size hR n0 n1
  obtain ⟨y0, y1⟩ := seg_size hR (n := 0) (by omega) (by omega)
  have i1 := in_seg hR n0 n1 o0 o1
  have i2 := in_before hR
  have i3 := in_behind hR
  have i4 := in_minus hR
  have i5 : sectorsW v s m u j = plan3 v s m j := by unfold sectorsW; rw [if_pos hR]
  obtain ⟨ha0, ha1⟩ := ha
  obtain ⟨hb0, hb1⟩ := hb
  have p1 := fun w => pick_pos_b a s w (by omega) (by omega) ha0 ha1
  have p2 := fun w => pick_pos_b b m w (by omega) (by omega) hb0 hb1
  have P1 := Lib.hid p1
  have P2 := Lib.hid p2
  clear p1 p2 R
  go_enter Try.func4, Try.ntmps4
  go_wp2_with fail
  have creg := @cell_grown
  have hbx := BoxG.new v s m u j w
  have hbe : Below w.heap.size w (w.alloc (.cells #[.int .i64 v, .int .i64 s, .int .i64 m, .int .i64 u, .int .i64 j] 24)) := below_alloc' (Below.refl _ _) _
  generalize w.alloc (.cells #[.int .i64 v, .int .i64 s, .int .i64 m, .int .i64 u, .int .i64 j] 24) = wa at hbx hbe ⊢
  obtain ⟨d0, d1, d2, d3, d4⟩ := id hbx
  go_wp2_with (first | (go_at_call 29; refine (awake11 _).mono ?_; rintro e wb ⟨rfl, hb⟩; replace hbx := hbx.below hb; replace hbe := below_trans' hbe hb; clear d0 d1 d2 d3 d4; obtain ⟨d0, d1, d2, d3, d4⟩ := id hbx; clear hb) | (go_at_call 32; refine (right_any _ _ _ _ _ _).mono ?_; rintro e wc ⟨rfl, hb⟩; replace hbx := hbx.below hb; replace hbe := below_trans' hbe hb; clear d0 d1 d2 d3 d4; obtain ⟨d0, d1, d2, d3, d4⟩ := id hbx; clear hb) | (go_at_call 31; refine (P1.out _).mono ?_; rintro e wd ⟨rfl, hb⟩; replace hbx := hbx.below hb; replace hbe := below_trans' hbe hb; clear d0 d1 d2 d3 d4; obtain ⟨d0, d1, d2, d3, d4⟩ := id hbx; clear hb))
  have hlq := hbx.lt
  refine wp_region_quiet_below (by kernel_rfl) (by kernel_rfl) ?_
  repeat (go_big_quiet_step (first | exact Calls.regrown_of (P2.out _) | exact Calls.regrown_of (seg_any _ _ _ _ _ _ _) | exact Calls.regrown_of (in_any _ _ _ _ _ _ _)))
  refine wpQuiet_nil ?_
  intro _ hw'
  obtain ⟨⟨dq, osq⟩, hw''⟩ := hw'
  subst hw''
  replace hbx := hbx.below (below_regrown wd dq osq)
  replace hbe := below_trans' hbe (below_regrown wd dq osq)
  clear d0 d1 d2 d3 d4 hlq
  generalize grow (redrawn wd dq) osq = we at hbx hbe ⊢
  obtain ⟨d0, d1, d2, d3, d4⟩ := id hbx
  go_wp2_with fail
  have hlq := hbx.lt
  refine wp_region_quiet_below (by kernel_rfl) (by kernel_rfl) ?_
  repeat (go_big_quiet_step (first | exact Calls.regrown_of (seg_any _ _ _ _ _ _ _) | exact Calls.regrown_of (in_any _ _ _ _ _ _ _)))
  refine wpQuiet_nil ?_
  intro _ hw'
  obtain ⟨⟨dq, osq⟩, hw''⟩ := hw'
  subst hw''
  replace hbx := hbx.below (below_regrown we dq osq)
  replace hbe := below_trans' hbe (below_regrown we dq osq)
  clear d0 d1 d2 d3 d4 hlq
  generalize grow (redrawn we dq) osq = wf at hbx hbe ⊢
  obtain ⟨d0, d1, d2, d3, d4⟩ := id hbx
  go_wp2_with fail
  have hlq := hbx.lt
  refine wp_region_quiet_below (by kernel_rfl) (by kernel_rfl) ?_
  repeat (go_big_quiet_step (first | exact Calls.regrown_of (sectors_any _ _ _ _ _ _) | exact Calls.regrown_of (in_any _ _ _ _ _ _ _)))
  refine wpQuiet_nil ?_
  intro _ hw'
  obtain ⟨⟨dq, osq⟩, hw''⟩ := hw'
  subst hw''
  replace hbx := hbx.below (below_regrown wf dq osq)
  replace hbe := below_trans' hbe (below_regrown wf dq osq)
  clear d0 d1 d2 d3 d4 hlq
  generalize grow (redrawn wf dq) osq = wg at hbx hbe ⊢
  obtain ⟨d0, d1, d2, d3, d4⟩ := id hbx
  go_wp2_with (go_at_call 36; refine (in_any _ _ _ _ _ _ _).mono ?_; rintro e wh ⟨rfl, hb⟩; replace hbx := hbx.below hb; replace hbe := below_trans' hbe hb; clear d0 d1 d2 d3 d4; obtain ⟨d0, d1, d2, d3, d4⟩ := id hbx; clear hb)
  go_ret
  exact ⟨rfl, hbe⟩

theorem layoutIn_row (w : World) {x0 x1 x2 : Value} {v s m u j a b : Int} (A0 : ArgGeo x0 v s m u j) (A1 : ArgInt x1 a) (A2 : ArgInt x2 b) :
    Calls Try.prog 4 #[x0, x1, x2] w fun e w' => e = .returned (.bool true) ∧ Below w.heap.size w w' := by
  obtain ⟨rfl, _⟩ := A0
  obtain ⟨rfl, ha⟩ := A1
  obtain ⟨rfl, hb⟩ := A2
  cases hR : rightW v s m u j
  · exact layoutIn_false v s m u j a b w hR
  · exact layoutIn_true v s m u j a b w hR ha hb

set_option maxRecDepth 100000 in
set_option maxHeartbeats 8000000 in
theorem layoutPlaces_walk (v s m u j i at_ : Int) (w : World) (h0 : -9223372036854775808 ≤ at_) (h1 : at_ ≤ 9223372036854775807) :
    Calls Try.prog 5 #[.agg #[.int .i64 v, .int .i64 s, .int .i64 m, .int .i64 u, .int .i64 j], .int .i64 i, .int .i64 at_] w fun e w' => e = .returned (.bool true) ∧ Below w.heap.size w w' := by
  go_enter Try.func5, Try.ntmps5
  go_wp2_with fail
  have creg := @cell_grown
  have hbx := BoxG.new v s m u j w
  have hbe : Below w.heap.size w (w.alloc (.cells #[.int .i64 v, .int .i64 s, .int .i64 m, .int .i64 u, .int .i64 j] 24)) := below_alloc' (Below.refl _ _) _
  generalize w.alloc (.cells #[.int .i64 v, .int .i64 s, .int .i64 m, .int .i64 u, .int .i64 j] 24) = wa at hbx hbe ⊢
  obtain ⟨d0, d1, d2, d3, d4⟩ := id hbx
  go_wp2_with (first | (go_at_call 29; refine (awake11 _).mono ?_; rintro e wb ⟨rfl, hb⟩; replace hbx := hbx.below hb; replace hbe := below_trans' hbe hb; clear d0 d1 d2 d3 d4; obtain ⟨d0, d1, d2, d3, d4⟩ := id hbx; clear hb) | (go_at_call 36; refine (in_any _ _ _ _ _ _ _).mono ?_; rintro e wc ⟨rfl, hb⟩; replace hbx := hbx.below hb; replace hbe := below_trans' hbe hb; clear d0 d1 d2 d3 d4; obtain ⟨d0, d1, d2, d3, d4⟩ := id hbx; clear hb) | (go_at_call 38; refine (rin_any _ _ _ _ _ _ _ h0 h1).mono ?_; rintro e wd ⟨rfl, hb⟩; replace hbx := hbx.below hb; replace hbe := below_trans' hbe hb; clear d0 d1 d2 d3 d4; obtain ⟨d0, d1, d2, d3, d4⟩ := id hbx; clear hb))
  simp only [List.append]
  have hlq := hbx.lt
  refine wp_region_quiet_below (by kernel_rfl) (by kernel_rfl) ?_
  repeat (go_big_quiet_step (first | exact Calls.regrown_of (right_any _ _ _ _ _ _) | exact Calls.regrown_of (rright_any _ _ _ _ _ _) | exact Calls.regrown_of (sectors_any _ _ _ _ _ _) | exact Calls.regrown_of (rsectorsT_any _ _ _ _ _ _) | exact Calls.regrown_of (pagesT_any _ _ _ _ _ _) | exact Calls.regrown_of (rpagesT_any _ _ _ _ _ _) | exact Calls.regrown_of (slot_any _ _ _ _ _ _ _) | exact Calls.regrown_of (rslot_any _ _ _ _ _ _ _) | exact Calls.regrown_of (half_any _ _ _ _ _ _ _) | exact Calls.regrown_of (rhalf_any _ _ _ _ _ _ _) | exact Calls.regrown_of (area_any _ _ _ _ _ _ _) | exact Calls.regrown_of (rarea_any _ _ _ _ _ _ _) | exact Calls.regrown_of (seg_any _ _ _ _ _ _ _) | exact Calls.regrown_of (rseg_any _ _ _ _ _ _ _)))
  refine wpQuiet_nil ?_
  intro _ hw'
  obtain ⟨⟨dq, osq⟩, hw''⟩ := hw'
  subst hw''
  replace hbx := hbx.below (below_regrown wd dq osq)
  replace hbe := below_trans' hbe (below_regrown wd dq osq)
  clear d0 d1 d2 d3 d4 hlq
  generalize grow (redrawn wd dq) osq = we at hbx hbe ⊢
  obtain ⟨d0, d1, d2, d3, d4⟩ := id hbx
  go_wp2
  go_ret
  exact ⟨rfl, hbe⟩

theorem layoutPlaces_row (w : World) {x0 x1 x2 : Value} {v s m u j a b : Int} (A0 : ArgGeo x0 v s m u j) (A1 : ArgInt x1 a) (A2 : ArgInt x2 b) :
    Calls Try.prog 5 #[x0, x1, x2] w fun e w' => e = .returned (.bool true) ∧ Below w.heap.size w w' := by
  obtain ⟨rfl, _⟩ := A0
  obtain ⟨rfl, ha⟩ := A1
  obtain ⟨rfl, hb⟩ := A2
  exact layoutPlaces_walk v s m u j a b w hb.1 hb.2
end Go.Proofs.Yteeamlidmkpohaa
