/-
  step: each answer of the device is the reference's.
-/
import Derived.Test.YteeamlidmkpohaaSb
import Derived.Deep.RegionHeld3
set_option linter.unusedVariables false
set_option linter.unusedSimpArgs false
namespace Go.Proofs.Yteeamlidmkpohaa
open Go.RowKit Go.Sort

/-- what a step makes of a disk -/
def Do8.does (x : Do8) (D : Dk) : Dk :=
  if x.op % 8 ≤ 2 then D.writes x.sec x.bytes else if x.op % 8 = 3 then D.syncs else if x.op % 8 = 4 then D.arm x.n else if x.op % 8 ≤ 6 then D else D.wake x.fs
/-- a step, as it is handed on: its numbers are numbers, its fates a slice of the law's own arguments -/
structure DoOk (w0 w : World) (x : Do8) : Prop where
  i0 : In64 x.op
  i1 : In64 x.sec
  i2 : In64 x.n
  i3 : 0 ≤ x.byte ∧ x.byte ≤ 255
  fs : IntsIs w x.fv x.fs
  fo : x.fs ≠ [] → ∀ k, x.fv.ownBlock = some k → k < w0.heap.size
  fl : x.fs.length ≤ 1000
def Do8.val (x : Do8) : Value := .agg #[.int .i64 x.op, .int .i64 x.sec, .int .i64 x.n, .int .u8 x.byte, x.fv]

/-- both are as a step leaves them -/
def StepPost (w0 w : World) (p ms mo r : Nat) (lv : Value) (Y : Nat → Prop) (D' : Dk) (w' : World) : Prop :=
  ∃ (lv' : Value) (L' : List RS) (Y' : Nat → Prop), Pair w0 w' p ms mo r lv' L' Y' D' ∧ Chg (fun b => DF p ms mo b ∨ MF r lv b) w w' ∧ Fresh w (MF r lv) (MF r lv') ∧ Fresh w Y Y'

section
variable {w0 w w' : World} {p ms mo r : Nat} {lv : Value} {L : List RS} {Y : Nat → Prop} {D : Dk}
theorem StepPost.pre {w1 : World} {D' : Dk} (h : StepPost w0 w1 p ms mo r lv Y D' w') (hb : Below w.heap.size w w1) : StepPost w0 w p ms mo r lv Y D' w' := by
  obtain ⟨lv', L', Y', h1, h2, h3, h4⟩ := h
  exact ⟨lv', L', Y', h1, (Chg.of_below hb).trans h2, fun b e => (h3 b e).imp id (fun e => Nat.le_trans hb.size e), fun b e => (h4 b e).imp id (fun e => Nat.le_trans hb.size e)⟩
theorem StepPost.below {w1 : World} {D' : Dk} (h : StepPost w0 w p ms mo r lv Y D' w1) (hb : Below w1.heap.size w1 w') : StepPost w0 w p ms mo r lv Y D' w' := by
  obtain ⟨lv', L', Y', h1, h2, h3, h4⟩ := h
  exact ⟨lv', L', Y', h1.below hb, h2.trans (Chg.of_below hb), h3, h4⟩
theorem StepPost.same (h : Pair w0 w p ms mo r lv L Y D) : StepPost w0 w p ms mo r lv Y D w := ⟨lv, L, Y, h, Chg.refl _ _, Fresh.refl _ _, Fresh.refl _ _⟩

set_option maxRecDepth 100000
set_option maxHeartbeats 2000000 in
theorem step_rest (h : Pair w0 w p ms mo r lv L Y D) (x : Do8) (hx : DoOk w0 w x) (hk : 3 ≤ x.op % 8) :
    Calls Try.prog 71 #[.pointer (some ⟨p, 0, none⟩), .pointer (some ⟨r, 0, none⟩), x.val] w fun e w' => e = .returned (.bool true) ∧ StepPost w0 w p ms mo r lv Y (x.does D) w' := by
  obtain ⟨q1, q2⟩ := hx.i0
  have hn2 := hx.i2.2
  have hob := heap_alloc_new w (.cells #[.int .i64 x.op, .int .i64 x.sec, .int .i64 x.n, .int .u8 x.byte, x.fv] 43)
  have hP := h.alloc (.cells #[.int .i64 x.op, .int .i64 x.sec, .int .i64 x.n, .int .u8 x.byte, x.fv] 43)
  have hbe : Below w.heap.size w (w.alloc (.cells #[.int .i64 x.op, .int .i64 x.sec, .int .i64 x.n, .int .u8 x.byte, x.fv] 43)) := below_alloc' (Below.refl _ _) _
  have hfs := hx.fs.below hbe
  have hfl := hx.fl
  have HFO := Lib.hid hx.fo
  have HB := Lib.hid hbe
  have HX := Lib.hid hx
  clear hbe
  have k0 := cell_blk hob 0 _ rfl
  have k1 := cell_blk hob 1 _ rfl
  have k2 := cell_blk hob 2 _ rfl
  have k4 := cell_blk hob 4 _ rfl
  have hbl : w.heap.size < (w.alloc (.cells #[.int .i64 x.op, .int .i64 x.sec, .int .i64 x.n, .int .u8 x.byte, x.fv] 43)).heap.size := by simp
  have hsz : w0.heap.size ≤ w.heap.size := h.rf.sz
  have H := Lib.hid h
  clear h hx hob
  have hk8 : x.op % 8 < 8 := by omega
  have hcase : x.op % 8 = 3 ∨ x.op % 8 = 4 ∨ x.op % 8 = 5 ∨ x.op % 8 = 6 ∨ x.op % 8 = 7 := by omega
  unfold Do8.val
  have hbd : ∀ k, DF p ms mo k → k ≠ w.heap.size := fun k e => by have := H.out.dv.lt k e; omega
  have hbm : ∀ k, MF r lv k → k ≠ w.heap.size := fun k e => by have := (H.out.rf.mf k e).2; omega
  rcases hcase with e | e | e | e | e
  · have hdo : x.does D = D.syncs := by simp [Do8.does, e]
    rw [hdo]
    have hpk := pick_pos x.op 8
    rw [e] at hpk
    have HPK := Lib.hid hpk
    have HBD := Lib.hid hbd
    clear hpk hdo e hk hk8 hbd hbm
    go_enter Try.func71, Try.ntmps71
    go_wp2_with
      (first
        | (go_at_call 31; refine (HPK.out _ (by omega) (by omega) q1 q2).mono ?_; rintro e w1 ⟨rfl, rfl⟩)
        | (go_at_call 51; refine hP.dv.syncs.mono ?_; rintro e w5 ⟨rfl, hD5, hc5⟩; have hmid := hP.mid hc5)
        | (go_at_call 139; refine hmid.syncs.mono ?_; rintro e w6 ⟨L6, rfl, hR6, hc6⟩; have hst := Lib.hid (hP.step hD5 hc5 hR6 hc6 (Fresh.refl _ _) (Fresh.refl _ _))))
    go_ret
    exact ⟨rfl, StepPost.pre ⟨_, _, _, hst.out⟩ HB.out⟩
  · have hdo : x.does D = D.arm x.n := by simp [Do8.does, e]
    rw [hdo]
    have hpk := pick_pos x.op 8
    rw [e] at hpk
    have HPK := Lib.hid hpk
    have HBD := Lib.hid hbd
    clear hpk hdo e hk hk8 hbd hbm
    go_enter Try.func71, Try.ntmps71
    go_wp2_with
      (first
        | (go_at_call 31; refine (HPK.out _ (by omega) (by omega) q1 q2).mono ?_; rintro e w1 ⟨rfl, rfl⟩)
        | (go_at_call 57; refine (hP.dv.arm _ hn2).mono ?_; rintro e w5 ⟨rfl, hD5, hc5⟩; have hmid := hP.mid hc5; have k2' := (hc5.cell (p := ⟨w.heap.size, 2, none⟩) hbl (fun e => HBD.out _ e rfl)).trans k2)
        | (go_at_call 140; refine (hmid.arm _ hn2).mono ?_; rintro e w6 ⟨rfl, hR6, hc6⟩; have hst := Lib.hid (hP.step hD5 hc5 hR6 (hc6.mono (fun _ _ e => Or.inl e)) (Fresh.refl _ _) (Fresh.refl _ _))))
    go_ret
    exact ⟨rfl, StepPost.pre ⟨_, _, _, hst.out⟩ HB.out⟩
  iterate 2
    · have hdo : x.does D = D := by simp [Do8.does, e]
      rw [hdo]
      have hpk := pick_pos x.op 8
      rw [e] at hpk
      have HPK := Lib.hid hpk
      clear hpk hdo e hk hk8 hbd hbm
      go_enter Try.func71, Try.ntmps71
      go_wp2_with
        (first
          | (go_at_call 31; refine (HPK.out _ (by omega) (by omega) q1 q2).mono ?_; rintro e w1 ⟨rfl, rfl⟩)
          | (go_at_call 55; refine (hP.dv.reads _).mono ?_; rintro e w5 ⟨va, rfl, ha, hfa, hb5⟩; have hP5 := hP.below hb5; have k1' := (hb5.cell (p := ⟨w.heap.size, 1, none⟩) hbl).trans k1)
          | (go_at_call 141; refine (hP5.rf.reads _).mono ?_; rintro e w6 ⟨vb, rfl, hvb, hfb, hb6⟩; have hP6 := hP5.below hb6; replace ha := ha.below hb6; have hmm : (D.may x.sec != D.may x.sec) = false := by simp)
          | (go_at_call 58; refine (sameBytes_eq _ _ _ _ ha hvb).mono ?_; rintro e w7 ⟨rfl, hb7⟩; have hP7 := Lib.hid (hP6.below hb7)))
      go_ret
      refine ⟨rfl, StepPost.pre (StepPost.below (StepPost.below (StepPost.below (StepPost.same hP) hb5) hb6) hb7) HB.out⟩
  · have hdo : x.does D = D.wake x.fs := by simp [Do8.does, e]
    rw [hdo]
    have hpk := pick_pos x.op 8
    rw [e] at hpk
    have HPK := Lib.hid hpk
    have HBD := Lib.hid hbd
    have HBM := Lib.hid hbm
    clear hpk hdo e hk hk8 hbd hbm
    go_enter Try.func71, Try.ntmps71
    go_wp2_with
      (first
        | (go_at_call 31; refine (HPK.out _ (by omega) (by omega) q1 q2).mono ?_; rintro e w1 ⟨rfl, rfl⟩)
        | (go_at_call 142; refine (lentFates_any _ _ _ hfs (by omega)).mono ?_; rintro e w4 ⟨rfl, hL4, hb4⟩; simp only [World.size_alloc] at hL4; have hP4 := hP.below hb4; have hfs4 := hfs.below hb4; have k4' := (hb4.cell (p := ⟨w.heap.size, 4, none⟩) hbl).trans k4; have hbl4 := Nat.lt_of_lt_of_le hbl hb4.size)
        | (go_at_call 54; refine (hP4.dv.wake (hL4.ints (by omega)) (fun _ k e e2 => ?_)).mono ?_
           · have h9 := H.out.dv.lt k e2
             have e9 : w.heap.size + 1 = k := by simpa [Value.ownBlock] using e
             omega
           rintro e w5 ⟨rfl, hD5, hc5⟩
           have hmid := hP4.mid hc5
           have k4'' := (hc5.cell (p := ⟨w.heap.size, 4, none⟩) hbl4 (fun e => HBD.out _ e rfl)).trans k4'
           have hL5 := hL4.chg hc5 (fun e => by have := H.out.dv.lt _ e; omega)
           have hbl5 := Nat.lt_of_lt_of_le hbl4 hc5.size)
        | (go_at_call 74; refine (hmid.wake (fs := x.fs) ?_ ?_).mono ?_
           · by_cases hnil : x.fs = []
             · obtain ⟨A, c, e, u1, u2, u3⟩ := hfs4
               exact ⟨A, c, e, u1, u2, fun j u hu => by rw [hnil] at hu; simp [intsV] at hu⟩
             · exact hfs4.chg hc5 (fun k e e2 => by have := HFO.out hnil k e; have := hP.dv.df k e2; omega)
           · intro hnil k e e2
             have := HFO.out hnil k e
             have := (H.out.rf.mf k e2).1
             omega
           rintro e w6 ⟨L6, rfl, hR6, hc6⟩
           have hst := Lib.hid (hP4.step hD5 hc5 hR6 hc6 (Fresh.refl _ _) (Fresh.refl _ _))
           have k4''' := (hc6.cell (p := ⟨w.heap.size, 4, none⟩) hbl5 (fun e => HBM.out _ e rfl)).trans k4''
           have hL6 := hL5.chg hc6 (fun e => by have := (H.out.rf.mf _ e).2; omega)
           have hfs6 : IntsIs w6 x.fv x.fs := by
             by_cases hnil : x.fs = []
             · obtain ⟨A, c, e, u1, u2, u3⟩ := hfs4
               exact ⟨A, c, e, u1, u2, fun j u hu => by rw [hnil] at hu; simp [intsV] at hu⟩
             · exact (hfs4.chg hc5 (fun k e e2 => by have := HFO.out hnil k e; have := hP.dv.df k e2; omega)).chg hc6 (fun k e e2 => by have := HFO.out hnil k e; have := (H.out.rf.mf k e2).1; omega))
        | (go_at_call 143; refine (keptFates_any _ _ _ _ hL6 hfs6 (by omega)).mono ?_; rintro e w7 ⟨rfl, hb7⟩))
    go_ret
    exact ⟨rfl, StepPost.pre (StepPost.below (StepPost.pre ⟨_, _, _, hst.out⟩ hb4) hb7) HB.out⟩
end
end Go.Proofs.Yteeamlidmkpohaa
