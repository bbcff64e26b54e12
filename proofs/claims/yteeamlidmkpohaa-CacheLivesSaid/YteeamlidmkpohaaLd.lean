/-
  The layout: the reference's In, which goes through the segments, tells what In of the package tells.
-/
import Derived.Test.YteeamlidmkpohaaLc
set_option linter.unusedVariables false
set_option linter.unusedSimpArgs false
namespace Go.Proofs.Yteeamlidmkpohaa
open Go.RowKit Go.Sort

/-- what a right geometry is, in plain numbers -/
structure Right (v s m u j : Int) : Prop where
  v1 : 8 ≤ v
  v2 : v ≤ 4096
  s1 : 2 ≤ s
  s2 : s ≤ 256
  m1 : 16 ≤ m
  m2 : m ≤ 1024
  j1 : 8 ≤ j
  j2 : j ≤ 64
  sm : 0 ≤ s * m
  pg : pagesW v s m = pagesI v s m
  pg2 : 2 ≤ pagesI v s m
  p1 : plan1 j = 2 + 2 * j
  p2 : plan2 v s m j = 2 + 2 * j + 4 * pagesI v s m
  p3 : plan3 v s m j = 2 + 2 * j + 4 * pagesI v s m + s * m
  le : plan3 v s m j ≤ 262144

theorem right_plain {v s m u j : Int} (h : rightW v s m u j = true) : Right v s m u j := by
  have hm := right_m h
  rw [← rright_eq] at h
  simp only [rrightW, Bool.and_eq_true, decide_eq_true_eq] at h
  obtain ⟨hf, hle⟩ := h
  unfold fieldsW at hf
  by_cases k1 : v < 8
  · rw [if_pos k1] at hf; cases hf
  rw [if_neg k1] at hf
  by_cases k2 : 4096 < v
  · rw [if_pos k2] at hf; cases hf
  rw [if_neg k2] at hf
  by_cases k3 : v % 8 ≠ 0
  · rw [if_pos k3] at hf; cases hf
  rw [if_neg k3] at hf
  by_cases k4 : s < 2
  · rw [if_pos k4] at hf; cases hf
  rw [if_neg k4] at hf
  by_cases k5 : 256 < s
  · rw [if_pos k5] at hf; cases hf
  rw [if_neg k5] at hf
  by_cases k6 : u < 1
  · rw [if_pos k6] at hf; cases hf
  rw [if_neg k6] at hf
  by_cases k7 : 16 < u
  · rw [if_pos k7] at hf; cases hf
  rw [if_neg k7] at hf
  by_cases k8 : m < 16
  · rw [if_pos k8] at hf; cases hf
  rw [if_neg k8] at hf
  by_cases k9 : 1024 < m
  · rw [if_pos k9] at hf; cases hf
  rw [if_neg k9] at hf
  by_cases k10 : m < 2 * (8 * u + 1)
  · rw [if_pos k10] at hf; cases hf
  rw [if_neg k10] at hf
  simp only [decide_eq_true_eq] at hf
  have sm0 : 0 ≤ s * m := Int.mul_nonneg (by omega) (by omega)
  have sm1 : s * m ≤ 256 * 1024 := Int.mul_le_mul (by omega) (by omega) (by omega) (by omega)
  have hv : v.tdiv 8 = v / 8 := Int.tdiv_eq_ediv_of_nonneg (by omega)
  have e0 : wrap64 (wrap64 (s * m) + wrap64 (9 * wrap64 (v.tdiv 8))) = s * m + 9 * (v / 8) := by rw [hv]; unfold wrap64; omega
  have e1 : wrap64 (s * m + 9 * (v / 8) + 8) = s * m + 9 * (v / 8) + 8 := by unfold wrap64; omega
  have e2 : (s * m + 9 * (v / 8) + 8).tdiv 4 = (s * m + 9 * (v / 8) + 8) / 4 := Int.tdiv_eq_ediv_of_nonneg (by omega)
  have pg : pagesW v s m = pagesI v s m := by
    unfold pagesW pagesI
    rw [e0, e1, e2]
    unfold wrap64
    omega
  have pg2 : 2 ≤ pagesI v s m := by unfold pagesI; omega
  have pg3 : pagesI v s m ≤ 70000 := by unfold pagesI; omega
  have p1 : plan1 j = 2 + 2 * j := by unfold plan1 wrap64; omega
  have p2 : plan2 v s m j = 2 + 2 * j + 4 * pagesI v s m := by unfold plan2; rw [p1, pg]; unfold wrap64; omega
  have p3 : plan3 v s m j = 2 + 2 * j + 4 * pagesI v s m + s * m := by unfold plan3; rw [p2]; unfold wrap64; omega
  exact ⟨by omega, by omega, by omega, by omega, by omega, by omega, by omega, by omega, sm0, pg, pg2, p1, p2, p3, hle⟩

theorem seg_plain {v s m u j : Int} (hR : rightW v s m u j = true) {k : Int} (h : 0 ≤ k) (h' : k < s) : segW v s m u j k = 2 + 2 * j + 4 * pagesI v s m + k * m ∧ 0 ≤ k * m ∧ k * m + m ≤ s * m := by
  have R := right_plain hR
  have a1 : 0 ≤ k * m := Int.mul_nonneg h (by have := R.m1; omega)
  have a2 : (k + 1) * m ≤ s * m := Int.mul_le_mul_of_nonneg_right (by omega) (by have := R.m1; omega)
  rw [Int.add_mul, Int.one_mul] at a2
  have := R.m1
  have := R.le
  have := R.p3
  have := R.p2
  have := R.j1
  have := R.pg2
  refine ⟨?_, a1, a2⟩
  rw [segW, if_pos hR, if_neg (by omega), if_neg (by omega), R.p2]
  unfold wrap64
  omega

theorem in_plain {v s m u j : Int} (hR : rightW v s m u j = true) (at_ : Int) :
    inW v s m u j at_ = if at_ < 2 + 2 * j + 4 * pagesI v s m then none else if 2 + 2 * j + 4 * pagesI v s m + s * m ≤ at_ then none else some ((at_ - (2 + 2 * j + 4 * pagesI v s m)) / m) := by
  have R := right_plain hR
  have := R.le; have := R.p3; have := R.j1; have := R.pg2; have := R.m1; have := R.sm
  rw [inW, if_pos hR, R.p2, R.p3]
  by_cases h1 : at_ < 2 + 2 * j + 4 * pagesI v s m
  · rw [if_pos h1, if_pos h1]
  rw [if_neg h1, if_neg h1]
  by_cases h2 : 2 + 2 * j + 4 * pagesI v s m + s * m ≤ at_
  · rw [if_pos h2, if_pos h2]
  rw [if_neg h2, if_neg h2]
  have e1 : wrap64 (at_ - (2 + 2 * j + 4 * pagesI v s m)) = at_ - (2 + 2 * j + 4 * pagesI v s m) := by unfold wrap64; omega
  have e2 : (at_ - (2 + 2 * j + 4 * pagesI v s m)).tdiv m = (at_ - (2 + 2 * j + 4 * pagesI v s m)) / m := Int.tdiv_eq_ediv_of_nonneg (by omega)
  rw [e1, e2]
  have a := Int.ediv_nonneg (a := at_ - (2 + 2 * j + 4 * pagesI v s m)) (b := m) (by omega) (by omega)
  have b := Int.ediv_le_self (a := at_ - (2 + 2 * j + 4 * pagesI v s m)) m (by omega)
  congr 1
  unfold wrap64
  omega

/-- the segment of a place is the first that reaches it -/
theorem in_found {v s m u j : Int} (hR : rightW v s m u j = true) {k at_ : Int} (h : 0 ≤ k) (h' : k < s) (h1 : segW v s m u j k ≤ at_) (h2 : at_ - segW v s m u j k < m) : inW v s m u j at_ = some k := by
  have R := right_plain hR
  have := R.m1
  obtain ⟨e, a1, a2⟩ := seg_plain hR h h'
  rw [in_plain hR, if_neg (by omega), if_neg (by omega)]
  congr 1
  have e3 : at_ - (2 + 2 * j + 4 * pagesI v s m) = (at_ - segW v s m u j k) + k * m := by omega
  rw [e3, Int.add_mul_ediv_right _ _ (by omega), Int.ediv_eq_zero_of_lt (by omega) h2]
  omega
theorem in_nowhere {v s m u j : Int} (hR : rightW v s m u j = true) {at_ : Int} (h : ∀ k : Int, 0 ≤ k → k < s → segW v s m u j k ≤ at_ → m ≤ at_ - segW v s m u j k) : inW v s m u j at_ = none := by
  have R := right_plain hR
  have := R.m1
  rw [in_plain hR]
  by_cases h1 : at_ < 2 + 2 * j + 4 * pagesI v s m
  · rw [if_pos h1]
  rw [if_neg h1]
  by_cases h2 : 2 + 2 * j + 4 * pagesI v s m + s * m ≤ at_
  · rw [if_pos h2]
  exfalso
  have q0 : 0 ≤ (at_ - (2 + 2 * j + 4 * pagesI v s m)) / m := Int.ediv_nonneg (by omega) (by omega)
  have q1 : (at_ - (2 + 2 * j + 4 * pagesI v s m)) / m < s := by
    rw [Int.ediv_lt_iff_lt_mul (by omega)]; omega
  obtain ⟨e, a1, a2⟩ := seg_plain hR q0 q1
  have r := Int.emod_add_mul_ediv (at_ - (2 + 2 * j + 4 * pagesI v s m)) m
  have r1 := Int.emod_nonneg (at_ - (2 + 2 * j + 4 * pagesI v s m)) (show m ≠ 0 by omega)
  have r2 := Int.emod_lt_of_pos (at_ - (2 + 2 * j + 4 * pagesI v s m)) (show 0 < m by omega)
  have hc := h _ q0 q1
  rw [e, Int.mul_comm _ m] at hc
  have := hc (by omega)
  omega

set_option maxRecDepth 100000 in
set_option maxHeartbeats 1000000 in
theorem rin_false (v s m u j : Int) (at_ : Int) (w : World) (hR : rightW v s m u j = false) :
    Calls Try.prog 38 #[.agg #[.int .i64 v, .int .i64 s, .int .i64 m, .int .i64 u, .int .i64 j], .int .i64 at_] w fun e w' => e = .returned (.tuple #[.int .i64 ((inW v s m u j at_).getD 0), .bool (inW v s m u j at_).isSome]) ∧ Below w.heap.size w w' := by
  by_cases hs : 0 < s
  all_goals
    go_enter Try.func38, Try.ntmps38
    go_wp2
    refine wp_loop_once ?_
    go_wp2_with (go_at_call 33; refine (rright_any _ _ _ _ _ _).mono ?_; rintro e w1 ⟨rfl, hb1⟩; obtain ⟨hc1, hf1⟩ := bcell hb1; have hz1 := hb1.size; simp only [World.size_alloc] at hc1 hf1 hz1)
    go_ret2
    refine ⟨ret_ib ?_ ?_, ?_⟩
    · simp [inW, hR]
    · simp [inW, hR]
    · first | (with_reducible exact below_trans' (below_alloc' (Below.refl _ _) _) hb1) | (with_reducible exact below_alloc' (Below.refl _ _) _)

/-- The box of a geometry lies where it lay. -/
def BoxG (v s m u j : Int) (b : Nat) (w : World) : Prop :=
  w.cell? ⟨b, 0, none⟩ = some (.int .i64 v) ∧ w.cell? ⟨b, 1, none⟩ = some (.int .i64 s) ∧ w.cell? ⟨b, 2, none⟩ = some (.int .i64 m) ∧ w.cell? ⟨b, 3, none⟩ = some (.int .i64 u) ∧ w.cell? ⟨b, 4, none⟩ = some (.int .i64 j)
theorem BoxG.new (v s m u j : Int) (w : World) : BoxG v s m u j w.heap.size (w.alloc (.cells #[.int .i64 v, .int .i64 s, .int .i64 m, .int .i64 u, .int .i64 j] 24)) := by
  refine ⟨?_, ?_, ?_, ?_, ?_⟩ <;> go_simp
theorem BoxG.lt {v s m u j : Int} {b : Nat} {w : World} (h : BoxG v s m u j b w) : b < w.heap.size := World.block_lt_of_cell? w ⟨b, 0, none⟩ h.1
theorem BoxG.below {v s m u j : Int} {b : Nat} {w w' : World} (h : BoxG v s m u j b w) (hb : Below w.heap.size w w') : BoxG v s m u j b w' := by
  have hl := h.lt
  obtain ⟨h0, h1, h2, h3, h4⟩ := h
  obtain ⟨hc, _⟩ := bcell hb
  exact ⟨(hc _ _ hl).trans h0, (hc _ _ hl).trans h1, (hc _ _ hl).trans h2, (hc _ _ hl).trans h3, (hc _ _ hl).trans h4⟩
theorem BoxG.alloc {v s m u j : Int} {b : Nat} {w : World} (h : BoxG v s m u j b w) (o : Obj) : BoxG v s m u j b (w.alloc o) := h.below (below_alloc' (Below.refl _ _) o)

set_option maxRecDepth 100000 in
set_option maxHeartbeats 2000000 in
theorem rin_true (v s m u j : Int) (at_ : Int) (w : World) (hR : rightW v s m u j = true) (ha : -9223372036854775808 ≤ at_) (ha' : at_ ≤ 9223372036854775807) :
    Calls Try.prog 38 #[.agg #[.int .i64 v, .int .i64 s, .int .i64 m, .int .i64 u, .int .i64 j], .int .i64 at_] w fun e w' => e = .returned (.tuple #[.int .i64 ((inW v s m u j at_).getD 0), .bool (inW v s m u j at_).isSome]) ∧ Below w.heap.size w w' := by
  have R := right_plain hR
  have hs1 := R.s1
  have hs2 := R.s2
  have HR := Lib.hid hR
  clear R
  go_enter Try.func38, Try.ntmps38
  go_wp2
  have hbox := BoxG.new v s m u j w
  have hbw : Below w.heap.size w (w.alloc (.cells #[.int .i64 v, .int .i64 s, .int .i64 m, .int .i64 u, .int .i64 j] 24)) := below_alloc' (Below.refl _ _) _
  generalize w.alloc (.cells #[.int .i64 v, .int .i64 s, .int .i64 m, .int .i64 u, .int .i64 j] 24) = wa at hbox hbw ⊢
  go_loopw [6] (fun x wr => ∃ k : Nat, (k : Int) ≤ s ∧ x = .int .i64 k ∧ (∀ i : Int, 0 ≤ i → i < k → segW v s m u j i ≤ at_ → m ≤ at_ - segW v s m u j i) ∧ BoxG v s m u j w.heap.size wr ∧ Below w.heap.size w wr) (fun x _ => (s - intOf x).toNat)
  case atStart => exact ⟨0, by omega, rfl, fun i h1 h2 => by omega, hbox, hbw⟩
  case round =>
    obtain ⟨k, hk, rfl, hno, hbx, hbe⟩ := hrel
    have HN := Lib.hid hno
    clear hno hbox hbw
    obtain ⟨c0, c1, c2, c3, c4⟩ := id hbx
    have hR := HR.out
    by_cases hlt : (k : Int) < s
    · by_cases h1 : segW v s m u j k ≤ at_
      · have hw : wrap64 (at_ - segW v s m u j k) = at_ - segW v s m u j k := by
          obtain ⟨e, a1, a2⟩ := seg_plain hR (k := k) (by omega) hlt
          have R := right_plain hR
          have := R.pg2; have := R.j1
          rw [e] at h1 ⊢
          unfold wrap64
          omega
        by_cases h2 : at_ - segW v s m u j k < m
        · go_wp2_with (first | (go_at_call 33; refine (rright_any _ _ _ _ _ _).mono ?_; rintro e w1 ⟨rfl, hb1⟩; obtain ⟨d0, d1, d2, d3, d4⟩ := hbx.below hb1) | (go_at_call 47; refine (rseg_any _ _ _ _ _ _ _).mono ?_; rintro e w2 ⟨rfl, hb2⟩; obtain ⟨e0, e1, e2, e3, e4⟩ := (hbx.below hb1).below hb2))
          go_ret2
          have hf := in_found hR (by omega) hlt h1 h2
          refine ⟨ret_ib ?_ ?_, ?_⟩
          · rw [hf]; rfl
          · rw [hf]; rfl
          · exact below_trans' (below_trans' hbe hb1) hb2
        · have h2' : m ≤ at_ - segW v s m u j k := by omega
          go_wp2_with (first | (go_at_call 33; refine (rright_any _ _ _ _ _ _).mono ?_; rintro e w1 ⟨rfl, hb1⟩; obtain ⟨d0, d1, d2, d3, d4⟩ := hbx.below hb1) | (go_at_call 47; refine (rseg_any _ _ _ _ _ _ _).mono ?_; rintro e w2 ⟨rfl, hb2⟩; obtain ⟨e0, e1, e2, e3, e4⟩ := (hbx.below hb1).below hb2))
          go_roundw
          case rel => exact ⟨k + 1, by omega, by go_num, fun i i1 i2 i3 => (if e : i = k then by rw [e]; exact h2' else HN.out i i1 (by omega) i3), (hbx.below hb1).below hb2, below_trans' (below_trans' hbe hb1) hb2⟩
          case measure => simp [intOf]; omega
      · have h1' : at_ < segW v s m u j k := by omega
        go_wp2_with (first | (go_at_call 33; refine (rright_any _ _ _ _ _ _).mono ?_; rintro e w1 ⟨rfl, hb1⟩; obtain ⟨d0, d1, d2, d3, d4⟩ := hbx.below hb1) | (go_at_call 47; refine (rseg_any _ _ _ _ _ _ _).mono ?_; rintro e w2 ⟨rfl, hb2⟩; obtain ⟨e0, e1, e2, e3, e4⟩ := (hbx.below hb1).below hb2))
        go_roundw
        case rel => exact ⟨k + 1, by omega, by go_num, fun i i1 i2 i3 => (if e : i = k then by rw [e] at i3; omega else HN.out i i1 (by omega) i3), (hbx.below hb1).below hb2, below_trans' (below_trans' hbe hb1) hb2⟩
        case measure => simp [intOf]; omega
    · go_wp2_with (first | (go_at_call 33; refine (rright_any _ _ _ _ _ _).mono ?_; rintro e w1 ⟨rfl, hb1⟩; obtain ⟨d0, d1, d2, d3, d4⟩ := hbx.below hb1) | (go_at_call 47; refine (rseg_any _ _ _ _ _ _ _).mono ?_; rintro e w2 ⟨rfl, hb2⟩; obtain ⟨e0, e1, e2, e3, e4⟩ := (hbx.below hb1).below hb2))
      go_ret2
      have hf := in_nowhere hR (at_ := at_) (fun i i1 i2 i3 => HN.out i i1 (by omega) i3)
      refine ⟨ret_ib ?_ ?_, ?_⟩
      · rw [hf]; rfl
      · rw [hf]; rfl
      · exact hbe

theorem rin_any (v s m u j : Int) (at_ : Int) (w : World) (ha : -9223372036854775808 ≤ at_) (ha' : at_ ≤ 9223372036854775807) :
    Calls Try.prog 38 #[.agg #[.int .i64 v, .int .i64 s, .int .i64 m, .int .i64 u, .int .i64 j], .int .i64 at_] w fun e w' => e = .returned (.tuple #[.int .i64 ((inW v s m u j at_).getD 0), .bool (inW v s m u j at_).isSome]) ∧ Below w.heap.size w w' := by
  cases hR : rightW v s m u j
  · exact rin_false v s m u j at_ w hR
  · exact rin_true v s m u j at_ w hR ha ha'
end Go.Proofs.Yteeamlidmkpohaa
