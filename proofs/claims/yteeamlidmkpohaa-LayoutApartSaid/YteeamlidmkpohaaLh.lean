/-
  The layout: rows of bools that are covered.
-/
import Derived.Test.YteeamlidmkpohaaLg
import Derived.Deep.RegionHeld3
import Derived.Deep.OwnRows
set_option linter.unusedVariables false
set_option linter.unusedSimpArgs false
namespace Go.Proofs.Yteeamlidmkpohaa
open Go.RowKit Go.Sort

/-- Block B is a row of N bools, c. -/
def BoolRow (w : World) (B N : Nat) (c : Nat → Bool) : Prop := w.heap[B]? = some (.cells ((List.range N).map (fun i => Value.bool (c i))).toArray 4 (0, 0))
theorem BoolRow.lt {w : World} {B N : Nat} {c : Nat → Bool} (h : BoolRow w B N c) : B < w.heap.size := (Array.getElem?_eq_some_iff.1 h).1
theorem BoolRow.cell {w : World} {B N : Nat} {c : Nat → Bool} (h : BoolRow w B N c) {i : Nat} (hi : i < N) : w.cell? ⟨B, i, none⟩ = some (.bool (c i)) := by
  unfold World.cell?
  simp only [show w.heap[B]? = _ from h]
  simp [hi]
theorem BoolRow.free {w : World} {B N : Nat} {c : Nat → Bool} (h : BoolRow w B N c) (i : Nat) : w.frozen? ⟨B, i, none⟩ = false := by
  unfold World.frozen?
  simp only [show w.heap[B]? = _ from h]
  simp
theorem BoolRow.congr {w : World} {B N : Nat} {c c' : Nat → Bool} (h : BoolRow w B N c) (e : ∀ i, i < N → c i = c' i) : BoolRow w B N c' := by
  unfold BoolRow at *
  rw [h]
  have : (List.range N).map (fun i => Value.bool (c i)) = (List.range N).map (fun i => Value.bool (c' i)) := List.map_congr_left fun i hi => by rw [e i (List.mem_range.1 hi)]
  rw [this]
theorem BoolRow.set {w : World} {B N : Nat} {c : Nat → Bool} (h : BoolRow w B N c) (k : Nat) : BoolRow (w.setCell ⟨B, k, none⟩ (.bool true)) B N (fun i => c i || i == k) := by
  unfold BoolRow at *
  unfold World.setCell
  simp only [Array.getElem?_modify, if_true, h, Option.map_some]
  congr 2
  simp only [Option.isSome_none, Bool.false_eq_true, if_false]
  apply Array.ext
  · simp
  · intro i h1 h2
    simp at h1
    by_cases e : k = i
    · subst e; simp
    · rw [Array.getElem_setIfInBounds_ne (by simpa using h1) e]
      have : (i == k) = false := by simp; exact fun h => e h.symm
      simp [this]
theorem BoolRow.chg {F : Nat → Prop} {w w' : World} {B N : Nat} {c : Nat → Bool} (h : BoolRow w B N c) (hc : Chg F w w') (hF : ¬ F B) : BoolRow w' B N c := (hc.block B h.lt hF).trans h
theorem BoolRow.below {w w' : World} {B N : Nat} {c : Nat → Bool} (h : BoolRow w B N c) (hc : Below w.heap.size w w') : BoolRow w' B N c := (hc.block B h.lt).trans h

set_option maxRecDepth 100000 in
set_option maxHeartbeats 2000000 in
theorem cover_ok (w : World) (B N : Nat) (c : Nat → Bool) (hr : BoolRow w B N c) (hN : N ≤ 1000000) (at_ n : Int) (a m : Nat) (ea : at_ = a) (em : n = m) (hle : a + m ≤ N) (hfree : ∀ i, a ≤ i → i < a + m → c i = false) :
    Calls Try.prog 48 #[.slice (some ⟨B, 0, none⟩) N N, .int .i64 at_, .int .i64 n] w fun e w' =>
      e = .returned (.bool true) ∧ BoolRow w' B N (fun i => c i || (decide (a ≤ i) && decide (i < a + m))) ∧ Chg (fun b => b = B) w w' := by
  subst ea em
  have HF := Lib.hid hfree
  clear hfree
  go_enter Try.func48, Try.ntmps48
  go_wp2
  go_loopw [7] (fun x wr => ∃ k : Nat, k ≤ m ∧ x = .int .i64 k ∧ BoolRow wr B N (fun i => c i || (decide (a ≤ i) && decide (i < a + k))) ∧ Chg (fun b => b = B) w wr) (fun x _ => m - (intOf x).toNat)
  case atStart => exact ⟨0, by omega, rfl, hr.congr (fun i _ => by (have e : (decide (a ≤ i) && decide (i < a + 0)) = false := by simp); rw [e]; simp), Chg.refl _ _⟩
  case round =>
    obtain ⟨k, hk, rfl, hb, hc⟩ := hrel
    by_cases hlt : k < m
    · have h1 := hb.cell (i := a + k) (by omega)
      have h2 := hb.free (a + k)
      have e1 : (c (a + k) || (decide (a ≤ a + k) && decide (a + k < a + k))) = false := by rw [HF.out (a + k) (by omega) (by omega)]; simp
      rw [e1] at h1
      have h3 : ¬ ((a : Int) < 0) := by omega
      go_wp2
      go_roundw
      case rel =>
        refine ⟨k + 1, by omega, by go_num, (hb.set (a + k)).congr (fun i _ => ?_), hc.setCell (fun _ => rfl) _⟩
        by_cases e : i = a + k
        · subst e
          have e2 : (decide (a ≤ a + k) && decide (a + k < a + (k + 1))) = true := by simp
          rw [e2]; simp
        · have e2 : (decide (a ≤ i) && decide (i < a + (k + 1))) = (decide (a ≤ i) && decide (i < a + k)) := by
            congr 1
            rw [decide_eq_decide]
            omega
          have e3 : (i == a + k) = false := by simpa using e
          rw [e2, e3]; simp
      case measure => simp [intOf]; omega
    · obtain rfl : k = m := by omega
      go_wp2
      go_ret
      exact ⟨rfl, hb, hc⟩



/- APART -/
set_option maxRecDepth 100000 in
set_option maxHeartbeats 4000000 in
theorem layoutApart_false (v s m u j : Int) (w : World) (hR : rightW v s m u j = false) :
    Calls Try.prog 6 #[.agg #[.int .i64 v, .int .i64 s, .int .i64 m, .int .i64 u, .int .i64 j]] w fun e w' => e = .returned (.bool true) ∧ Below w.heap.size w w' := by
  have e1 : sectorsW v s m u j = 0 := by simp [sectorsW, hR]
  have e2 : pagesT v s m u j = 0 := by simp [pagesT, hR]
  go_enter Try.func6, Try.ntmps6
  go_wp2_with fail
  have creg := @cell_grown
  have hbx := BoxG.new v s m u j w
  have hbe : Below w.heap.size w (w.alloc (.cells #[.int .i64 v, .int .i64 s, .int .i64 m, .int .i64 u, .int .i64 j] 24)) := below_alloc' (Below.refl _ _) _
  generalize w.alloc (.cells #[.int .i64 v, .int .i64 s, .int .i64 m, .int .i64 u, .int .i64 j] 24) = wa at hbx hbe ⊢
  obtain ⟨d0, d1, d2, d3, d4⟩ := id hbx
  go_wp2_with (first | (go_at_call 29; refine (awake11 _).mono ?_; rintro e wb ⟨rfl, hb⟩; replace hbx := hbx.below hb; replace hbe := below_trans' hbe hb; clear d0 d1 d2 d3 d4; obtain ⟨d0, d1, d2, d3, d4⟩ := id hbx; clear hb) | (go_at_call 32; refine (right_any _ _ _ _ _ _).mono ?_; rintro e wc ⟨rfl, hb⟩; replace hbx := hbx.below hb; replace hbe := below_trans' hbe hb; clear d0 d1 d2 d3 d4; obtain ⟨d0, d1, d2, d3, d4⟩ := id hbx; clear hb) | (go_at_call 34; refine (sectors_any _ _ _ _ _ _).mono ?_; rintro e wd ⟨rfl, hb⟩; replace hbx := hbx.below hb; replace hbe := below_trans' hbe hb; clear d0 d1 d2 d3 d4; obtain ⟨d0, d1, d2, d3, d4⟩ := id hbx; clear hb) | (go_at_call 39; refine (pagesT_any _ _ _ _ _ _).mono ?_; rintro e we ⟨rfl, hb⟩; replace hbx := hbx.below hb; replace hbe := below_trans' hbe hb; clear d0 d1 d2 d3 d4; obtain ⟨d0, d1, d2, d3, d4⟩ := id hbx; clear hb))
  go_ret
  exact ⟨rfl, hbe⟩

theorem BoxG.chg {v s m u j : Int} {b B : Nat} {w w' : World} (h : BoxG v s m u j b w) (hc : Chg (fun k => k = B) w w') (hne : b ≠ B) : BoxG v s m u j b w' := by
  have hl := h.lt
  obtain ⟨h0, h1, h2, h3, h4⟩ := h
  exact ⟨(hc.cell (p := ⟨b, 0, none⟩) hl hne).trans h0, (hc.cell (p := ⟨b, 1, none⟩) hl hne).trans h1, (hc.cell (p := ⟨b, 2, none⟩) hl hne).trans h2, (hc.cell (p := ⟨b, 3, none⟩) hl hne).trans h3, (hc.cell (p := ⟨b, 4, none⟩) hl hne).trans h4⟩
theorem chg_below {w w1 w2 : World} {B : Nat} (h : Below w.heap.size w w1) (hc : Chg (fun k => k = B) w1 w2) (hB : w.heap.size ≤ B) : Below w.heap.size w w2 :=
  h.trans (hc.below h.size (fun k _ e => by omega))
theorem boolRow_new (w : World) (N : Nat) : BoolRow (w.alloc (.cells (madeCells #[Value.bool false] N) 4)) w.heap.size N (fun _ => false) := by
  unfold BoolRow World.alloc
  simp only [Array.getElem?_push_size]
  congr 2
  apply Array.ext <;> simp [madeCells, Nat.mod_one]

theorem wrap64_of {x : Int} (h : -9223372036854775808 ≤ x ∧ x ≤ 9223372036854775807) : wrap64 x = x := by unfold wrap64; omega
/-- what lies ahead of round i of the first loop -/
def cov (j p : Nat) (i x : Nat) : Bool :=
  if i = 0 then false else if i = 1 then decide (x = 0) || (decide (2 ≤ x) && decide (x < 2 + j)) || (decide (2 + 2 * j ≤ x) && decide (x < 2 + 2 * j + 2 * p)) else decide (x < 2 + 2 * j + 4 * p)

set_option maxRecDepth 100000 in
set_option maxHeartbeats 4000000 in
theorem layoutApart_true (v s m u j : Int) (w : World) (hR : rightW v s m u j = true) :
    Calls Try.prog 6 #[.agg #[.int .i64 v, .int .i64 s, .int .i64 m, .int .i64 u, .int .i64 j]] w fun e w' => e = .returned (.bool true) ∧ Below w.heap.size w w' := by
  have R := right_plain hR
  obtain ⟨S, hS⟩ := Int.eq_ofNat_of_zero_le (show 0 ≤ s by have := R.s1; omega)
  obtain ⟨M, hM⟩ := Int.eq_ofNat_of_zero_le (show 0 ≤ m by have := R.m1; omega)
  obtain ⟨J, hJ⟩ := Int.eq_ofNat_of_zero_le (show 0 ≤ j by have := R.j1; omega)
  obtain ⟨p, hp⟩ := Int.eq_ofNat_of_zero_le (show 0 ≤ pagesI v s m by have := R.pg2; omega)
  obtain ⟨N, hN⟩ := Int.eq_ofNat_of_zero_le (show 0 ≤ plan3 v s m j by have := R.p3; have := R.sm; omega)
  have e1 : sectorsW v s m u j = N := by simp [sectorsW, hR, hN]
  have e2 : pagesT v s m u j = p := by rw [pagesT, if_pos hR, R.pg, hp]
  have hNp : N = 2 + 2 * J + 4 * p + S * M := by have := R.p3; rw [hN, hp, hS, hM] at this; rw [← Int.natCast_mul] at this; omega
  have hle : N ≤ 262144 := by have := R.le; omega
  have hpb : p ≤ 262144 := by omega
  have hS2 : S ≤ 256 := by have := R.s2; omega
  have hmk := fun W : World => Go.run_make_row' (P := Try.prog) 34 4 (.bool false) 1 Try.underlying34 (by kernel_rfl) rfl .i64 .i64 N (by omega) (by omega) W
  have o01 : oneW v s m u j 0 0 1 = ((0 : Nat) : Int) := by rw [oneW, if_pos hR, if_neg (by omega)]; decide +kernel
  have q1 := R.j1
  have q2 := R.j2
  have o02 : oneW v s m u j 0 2 j = ((2 : Nat) : Int) := by
    rw [oneW, if_pos hR, if_neg (by omega), Int.zero_emod, Int.zero_mul]; rw [wrap64_of (x := 0) (by omega), wrap64_of (by omega)]; rfl
  have o03 : oneW v s m u j 0 (plan1 j) (wrap64 (2 * pagesW v s m)) = ((2 + 2 * J : Nat) : Int) := by
    rw [oneW, if_pos hR, if_neg (by omega), R.p1, Int.zero_emod, Int.zero_mul]; rw [wrap64_of (x := 0) (by omega), wrap64_of (by omega)]; omega
  have o11 : oneW v s m u j 1 0 1 = ((1 : Nat) : Int) := by rw [oneW, if_pos hR, if_neg (by omega)]; decide +kernel
  have h12 : (1 : Int) % 2 = 1 := by decide
  have o12 : oneW v s m u j 1 2 j = ((2 + J : Nat) : Int) := by
    rw [oneW, if_pos hR, if_neg (by omega), h12, Int.one_mul]; rw [wrap64_of (x := j) (by omega), wrap64_of (by omega)]; omega
  have o13 : oneW v s m u j 1 (plan1 j) (wrap64 (2 * pagesW v s m)) = ((2 + 2 * J + 2 * p : Nat) : Int) := by
    rw [oneW, if_pos hR, if_neg (by omega), R.p1, R.pg, h12, Int.one_mul, hp]; rw [wrap64_of (x := 2 * (p : Int)) (by omega), wrap64_of (x := 2 * (p : Int)) (by omega), wrap64_of (by omega)]; omega
  have w2p : IntKind.i64.wrap (2 * (p : Int)) = 2 * p := IntWalk.i64_in _ (by omega)
  have HS := Lib.hid hS
  have HM := Lib.hid hM
  have HJ := Lib.hid hJ
  have HP := Lib.hid hp
  have HN := Lib.hid hN
  have HNp := Lib.hid hNp
  clear hS hM hJ hp hN hNp R h12 q1 q2
  go_enter Try.func6, Try.ntmps6
  go_wp2_with fail
  have creg := @cell_grown
  have hbx := BoxG.new v s m u j w
  have hbe : Below w.heap.size w (w.alloc (.cells #[.int .i64 v, .int .i64 s, .int .i64 m, .int .i64 u, .int .i64 j] 24)) := below_alloc' (Below.refl _ _) _
  generalize w.alloc (.cells #[.int .i64 v, .int .i64 s, .int .i64 m, .int .i64 u, .int .i64 j] 24) = wa at hbx hbe ⊢
  obtain ⟨d0, d1, d2, d3, d4⟩ := id hbx
  go_wp2_with (first | (go_at_call 29; refine (awake11 _).mono ?_; rintro e wb ⟨rfl, hb⟩; replace hbx := hbx.below hb; replace hbe := below_trans' hbe hb; clear d0 d1 d2 d3 d4; obtain ⟨d0, d1, d2, d3, d4⟩ := id hbx; clear hb) | (go_at_call 32; refine (right_any _ _ _ _ _ _).mono ?_; rintro e wc ⟨rfl, hb⟩; replace hbx := hbx.below hb; replace hbe := below_trans' hbe hb; clear d0 d1 d2 d3 d4; obtain ⟨d0, d1, d2, d3, d4⟩ := id hbx; clear hb) | (go_at_call 34; refine (sectors_any _ _ _ _ _ _).mono ?_; rintro e wd ⟨rfl, hb⟩; replace hbx := hbx.below hb; replace hbe := below_trans' hbe hb; clear d0 d1 d2 d3 d4; obtain ⟨d0, d1, d2, d3, d4⟩ := id hbx; clear hb))
  have hbx1 := hbx.alloc (.cells (madeCells #[Value.bool false] N) 4)
  have hbe1 := below_alloc' hbe (.cells (madeCells #[Value.bool false] N) 4)
  have hrow := boolRow_new wd N
  have hBl : w.heap.size < wd.heap.size := hbx.lt
  have hBw : w.heap.size ≤ wd.heap.size := hbe.size
  generalize wd.heap.size = B at hrow hBl hBw ⊢
  generalize wd.alloc (.cells (madeCells #[Value.bool false] N) 4) = w0 at hbx1 hbe1 hrow ⊢
  clear hbx hbe d0 d1 d2 d3 d4 hmk
  go_loopw [4, 5] (fun x y wr => ∃ i : Int, 0 ≤ i ∧ i ≤ 2 ∧ x = .bool true ∧ y = .int .i64 i ∧ BoxG v s m u j w.heap.size wr ∧ BoolRow wr B N (cov J p i.toNat) ∧ Below w.heap.size w wr) (fun _ y _ => (2 - intOf y).toNat)
  case atStart => exact ⟨0, by omega, by omega, rfl, rfl, hbx1, hrow.congr (fun i _ => by simp [cov]), hbe1⟩
  case round =>
    obtain ⟨i, hi0, hi, rfl, rfl, hbx, hr, hbe⟩ := hrel
    clear hbx1 hbe1 hrow
    obtain ⟨d0, d1, d2, d3, d4⟩ := id hbx
    rcases (show i = 0 ∨ i = 1 ∨ i = 2 by omega) with rfl | rfl | rfl
    · go_wp2_with fail
      have tok_a : True := trivial
      have tok_b : True := trivial
      have tok_c : True := trivial
      replace hbx : BoxG v s m u j w.heap.size wr.drew := hbx
      replace hr : BoolRow wr.drew B N (cov J p 0) := hr
      replace hbe := hbe.drew
      go_region_held3 (fun w' => w'.cell? ⟨w.heap.size, 0, none⟩ = some (.int .i64 v) ∧ w'.cell? ⟨w.heap.size, 1, none⟩ = some (.int .i64 s) ∧ w'.cell? ⟨w.heap.size, 2, none⟩ = some (.int .i64 m) ∧ w'.cell? ⟨w.heap.size, 3, none⟩ = some (.int .i64 u) ∧ w'.cell? ⟨w.heap.size, 4, none⟩ = some (.int .i64 j)) (exact hbx) (first | (go_at_call 41; refine (slot_any _ _ _ _ _ _ _).mono ?_; rintro e w1 ⟨rfl, hb⟩; replace hbx := hbx.below hb; replace hr := hr.below hb; replace hbe := below_trans' hbe hb; clear d0 d1 d2 d3 d4; obtain ⟨d0, d1, d2, d3, d4⟩ := id hbx; clear hb) | (go_at_call 43; refine (half_any _ _ _ _ _ _ _).mono ?_; rintro e w1 ⟨rfl, hb⟩; replace hbx := hbx.below hb; replace hr := hr.below hb; replace hbe := below_trans' hbe hb; clear d0 d1 d2 d3 d4; obtain ⟨d0, d1, d2, d3, d4⟩ := id hbx; clear hb) | (go_at_call 45; refine (area_any _ _ _ _ _ _ _).mono ?_; rintro e w1 ⟨rfl, hb⟩; replace hbx := hbx.below hb; replace hr := hr.below hb; replace hbe := below_trans' hbe hb; clear d0 d1 d2 d3 d4; obtain ⟨d0, d1, d2, d3, d4⟩ := id hbx; clear hb) | (go_at_call 39; refine (pagesT_any _ _ _ _ _ _).mono ?_; rintro e w1 ⟨rfl, hb⟩; replace hbx := hbx.below hb; replace hr := hr.below hb; replace hbe := below_trans' hbe hb; clear d0 d1 d2 d3 d4; obtain ⟨d0, d1, d2, d3, d4⟩ := id hbx; clear hb) | (go_at_call 48; have _t := tok_a; clear _t tok_a; refine (cover_ok _ _ _ _ hr (by omega) _ _ (0) (1) (by first | exact o01 | rfl) (by rfl) (by have := HNp.out; omega) (by intro x x1 x2; simp [cov] <;> omega)).mono ?_; rintro e w1 ⟨rfl, hr1, hb⟩; replace hr := hr1; clear hr1; replace hbx := hbx.chg hb (by omega); replace hbe := chg_below hbe hb (by omega); clear d0 d1 d2 d3 d4; obtain ⟨d0, d1, d2, d3, d4⟩ := id hbx; clear hb) | (go_at_call 48; have _t := tok_b; clear _t tok_b; refine (cover_ok _ _ _ _ hr (by omega) _ _ (2) (J) (by first | exact o02 | rfl) (by exact HJ.out) (by have := HNp.out; omega) (by intro x x1 x2; simp [cov] <;> omega)).mono ?_; rintro e w1 ⟨rfl, hr1, hb⟩; replace hr := hr1; clear hr1; replace hbx := hbx.chg hb (by omega); replace hbe := chg_below hbe hb (by omega); clear d0 d1 d2 d3 d4; obtain ⟨d0, d1, d2, d3, d4⟩ := id hbx; clear hb) | (go_at_call 48; have _t := tok_c; clear _t tok_c; refine (cover_ok _ _ _ _ hr (by omega) _ _ (2 + 2 * J) (2 * p) (by first | exact o03 | rfl) (by (simp <;> omega)) (by have := HNp.out; omega) (by intro x x1 x2; simp [cov] <;> omega)).mono ?_; rintro e w1 ⟨rfl, hr1, hb⟩; replace hr := hr1; clear hr1; replace hbx := hbx.chg hb (by omega); replace hbe := chg_below hbe hb (by omega); clear d0 d1 d2 d3 d4; obtain ⟨d0, d1, d2, d3, d4⟩ := id hbx; clear hb))
      go_wp2
      go_roundw
      case rel =>
        refine ⟨1, by omega, by omega, rfl, rfl, hbx, hr.congr (fun x hx => ?_), hbe⟩
        simp [cov]
      case measure => simp [intOf]
    · go_wp2_with fail
      have tok_a : True := trivial
      have tok_b : True := trivial
      have tok_c : True := trivial
      replace hbx : BoxG v s m u j w.heap.size wr.drew := hbx
      replace hr : BoolRow wr.drew B N (cov J p 1) := hr
      replace hbe := hbe.drew
      go_region_held3 (fun w' => w'.cell? ⟨w.heap.size, 0, none⟩ = some (.int .i64 v) ∧ w'.cell? ⟨w.heap.size, 1, none⟩ = some (.int .i64 s) ∧ w'.cell? ⟨w.heap.size, 2, none⟩ = some (.int .i64 m) ∧ w'.cell? ⟨w.heap.size, 3, none⟩ = some (.int .i64 u) ∧ w'.cell? ⟨w.heap.size, 4, none⟩ = some (.int .i64 j)) (exact hbx) (first | (go_at_call 41; refine (slot_any _ _ _ _ _ _ _).mono ?_; rintro e w1 ⟨rfl, hb⟩; replace hbx := hbx.below hb; replace hr := hr.below hb; replace hbe := below_trans' hbe hb; clear d0 d1 d2 d3 d4; obtain ⟨d0, d1, d2, d3, d4⟩ := id hbx; clear hb) | (go_at_call 43; refine (half_any _ _ _ _ _ _ _).mono ?_; rintro e w1 ⟨rfl, hb⟩; replace hbx := hbx.below hb; replace hr := hr.below hb; replace hbe := below_trans' hbe hb; clear d0 d1 d2 d3 d4; obtain ⟨d0, d1, d2, d3, d4⟩ := id hbx; clear hb) | (go_at_call 45; refine (area_any _ _ _ _ _ _ _).mono ?_; rintro e w1 ⟨rfl, hb⟩; replace hbx := hbx.below hb; replace hr := hr.below hb; replace hbe := below_trans' hbe hb; clear d0 d1 d2 d3 d4; obtain ⟨d0, d1, d2, d3, d4⟩ := id hbx; clear hb) | (go_at_call 39; refine (pagesT_any _ _ _ _ _ _).mono ?_; rintro e w1 ⟨rfl, hb⟩; replace hbx := hbx.below hb; replace hr := hr.below hb; replace hbe := below_trans' hbe hb; clear d0 d1 d2 d3 d4; obtain ⟨d0, d1, d2, d3, d4⟩ := id hbx; clear hb) | (go_at_call 48; have _t := tok_a; clear _t tok_a; refine (cover_ok _ _ _ _ hr (by omega) _ _ (1) (1) (by first | exact o11 | rfl) (by rfl) (by have := HNp.out; omega) (by intro x x1 x2; simp [cov] <;> omega)).mono ?_; rintro e w1 ⟨rfl, hr1, hb⟩; replace hr := hr1; clear hr1; replace hbx := hbx.chg hb (by omega); replace hbe := chg_below hbe hb (by omega); clear d0 d1 d2 d3 d4; obtain ⟨d0, d1, d2, d3, d4⟩ := id hbx; clear hb) | (go_at_call 48; have _t := tok_b; clear _t tok_b; refine (cover_ok _ _ _ _ hr (by omega) _ _ (2 + J) (J) (by first | exact o12 | rfl) (by exact HJ.out) (by have := HNp.out; omega) (by intro x x1 x2; simp [cov] <;> omega)).mono ?_; rintro e w1 ⟨rfl, hr1, hb⟩; replace hr := hr1; clear hr1; replace hbx := hbx.chg hb (by omega); replace hbe := chg_below hbe hb (by omega); clear d0 d1 d2 d3 d4; obtain ⟨d0, d1, d2, d3, d4⟩ := id hbx; clear hb) | (go_at_call 48; have _t := tok_c; clear _t tok_c; refine (cover_ok _ _ _ _ hr (by omega) _ _ (2 + 2 * J + 2 * p) (2 * p) (by first | exact o13 | rfl) (by (simp <;> omega)) (by have := HNp.out; omega) (by intro x x1 x2; simp [cov] <;> omega)).mono ?_; rintro e w1 ⟨rfl, hr1, hb⟩; replace hr := hr1; clear hr1; replace hbx := hbx.chg hb (by omega); replace hbe := chg_below hbe hb (by omega); clear d0 d1 d2 d3 d4; obtain ⟨d0, d1, d2, d3, d4⟩ := id hbx; clear hb))
      go_wp2
      go_roundw
      case rel =>
        refine ⟨2, by omega, by omega, rfl, rfl, hbx, hr.congr (fun x hx => ?_), hbe⟩
        rw [Bool.eq_iff_iff]; simp [cov]; omega
      case measure => simp [intOf]
    · go_wp2
      go_loopw [4, 6] (fun x y wr => ∃ k : Nat, k ≤ S ∧ x = .bool true ∧ y = .int .i64 k ∧ BoxG v s m u j w.heap.size wr ∧ BoolRow wr B N (fun x => decide (x < 2 + 2 * J + 4 * p + k * M)) ∧ Below w.heap.size w wr) (fun _ y _ => S - (intOf y).toNat)
      case atStart => exact ⟨0, by omega, rfl, rfl, hbx, hr.congr (fun i _ => by simp [cov]), hbe⟩
      case round =>
        clear d0 d1 d2 d3 d4 hbx hr hbe
        obtain ⟨k, hk, rfl, rfl, hbx, hr, hbe⟩ := hrel
        obtain ⟨d0, d1, d2, d3, d4⟩ := id hbx
        by_cases hlt : k < S
        · have hlt' : (k : Int) < s := by have := HS.out; omega
          have SEG : Hid (segW v s m u j k = ((2 + 2 * J + 4 * p + k * M : Nat) : Int)) := by
            have h1 := (seg_plain hR (k := k) (by omega) hlt').1
            rw [HP.out, HJ.out, HM.out] at h1
            show _ = _
            rw [HM.out, HJ.out, h1, ← Int.natCast_mul]
            omega
          have HL2 : Hid (2 + 2 * J + 4 * p + k * M + M ≤ N) := by
            have h1 : (k + 1) * M ≤ S * M := Nat.mul_le_mul_right _ hlt
            rw [Nat.add_mul, Nat.one_mul] at h1
            have := HNp.out
            show _ ≤ _
            omega
          go_wp2_with fail
          replace hbx : BoxG v s m u j w.heap.size wr.drew := hbx
          replace hr : BoolRow wr.drew B N (fun x => decide (x < 2 + 2 * J + 4 * p + k * M)) := hr
          replace hbe := hbe.drew
          go_region_held3 (fun w' => w'.cell? ⟨w.heap.size, 0, none⟩ = some (.int .i64 v) ∧ w'.cell? ⟨w.heap.size, 1, none⟩ = some (.int .i64 s) ∧ w'.cell? ⟨w.heap.size, 2, none⟩ = some (.int .i64 m) ∧ w'.cell? ⟨w.heap.size, 3, none⟩ = some (.int .i64 u) ∧ w'.cell? ⟨w.heap.size, 4, none⟩ = some (.int .i64 j)) (exact hbx) (first | (go_at_call 37; refine (seg_any _ _ _ _ _ _ _).mono ?_; rintro e w1 ⟨rfl, hb⟩; replace hbx := hbx.below hb; replace hr := hr.below hb; replace hbe := below_trans' hbe hb; clear d0 d1 d2 d3 d4; obtain ⟨d0, d1, d2, d3, d4⟩ := id hbx; clear hb) | (go_at_call 48; refine (cover_ok _ _ _ _ hr (by omega) _ _ (2 + 2 * J + 4 * p + k * M) M SEG.out HM.out HL2.out (by intro x x1 x2; simp <;> omega)).mono ?_; rintro e w1 ⟨rfl, hr1, hb⟩; replace hr := hr1; clear hr1; replace hbx := hbx.chg hb (by omega); replace hbe := chg_below hbe hb (by omega); clear d0 d1 d2 d3 d4; obtain ⟨d0, d1, d2, d3, d4⟩ := id hbx; clear hb))
          go_wp2
          go_roundw
          case rel =>
            refine ⟨k + 1, by omega, rfl, by go_num, hbx, hr.congr (fun x hx => ?_), hbe⟩
            rw [Bool.eq_iff_iff, Nat.add_mul, Nat.one_mul]
            simp
            omega
          case measure => simp [intOf]; omega
        · obtain rfl : k = S := by omega
          have hrN : BoolRow wr B N (fun _ => true) := hr.congr (fun x hx => by have := HNp.out; simp; omega)
          have hge : s ≤ (k : Int) := by have := HS.out; omega
          clear hr
          go_wp2
          go_loop [4, 7] (fun x y => ∃ q : Nat, q ≤ N ∧ x = .bool true ∧ y = .int .i64 q) (fun _ y => N - (intOf y).toNat)
          case atStart => exact ⟨0, by omega, rfl, rfl⟩
          case round =>
            obtain ⟨q, hq, rfl, rfl⟩ := hrel
            by_cases hlt : q < N
            · have h1 := hrN.cell hlt
              go_wp2
              go_round
              case rel => exact ⟨q + 1, by omega, rfl, by go_num⟩
              case measure => simp [intOf]; omega
            · obtain rfl : q = N := by omega
              go_wp2
              go_ret
              exact ⟨ret_b (by simp; omega), hbe⟩

theorem layoutApart_row (w : World) {x0 : Value} {v s m u j : Int} (A0 : ArgGeo x0 v s m u j) :
    Calls Try.prog 6 #[x0] w fun e w' => e = .returned (.bool true) ∧ Below w.heap.size w w' := by
  obtain ⟨rfl, _⟩ := A0
  cases hR : rightW v s m u j
  · exact layoutApart_false v s m u j w hR
  · exact layoutApart_true v s m u j w hR
end Go.Proofs.Yteeamlidmkpohaa
