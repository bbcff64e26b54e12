/-
  step: a sector is written.
-/
import Derived.Test.YteeamlidmkpohaaSc
set_option linter.unusedVariables false
set_option linter.unusedSimpArgs false
namespace Go.Proofs.Yteeamlidmkpohaa
open Go.RowKit Go.Sort

section
variable {w0 w w' : World} {p ms mo r : Nat} {lv : Value} {L : List RS} {Y : Nat → Prop} {D : Dk}
/-- behind the step a block of its own is written -/
theorem StepPost.over {wm w1 : World} {D' : Dk} {g : Nat} (h : StepPost w0 wm p ms mo r lv Y D' w1) (hb : Below w.heap.size w wm) (hc : Chg (fun b => b = g) w1 w') (hw0 : w0.heap.size ≤ w.heap.size) (hgn : w.heap.size ≤ g) (hgl : g < wm.heap.size)
    (n1 : ¬ DF p ms mo g) (n2 : ¬ MF r lv g) (n3 : ¬ Y g) : StepPost w0 w p ms mo r lv Y D' w' := by
  obtain ⟨lv', L', Y', h1, h2, h3, h4⟩ := h
  refine ⟨lv', L', Y', h1.chg hc (fun k e => by omega) (fun k e e2 => n1 (by rw [← e2]; exact e)) (fun k e e2 => ?_) (fun k e e2 => ?_), ((Chg.of_below hb).trans h2).then hc (fun i hi e => by omega), fun b e => (h3 b e).imp id (fun e => Nat.le_trans hb.size e), fun b e => (h4 b e).imp id (fun e => Nat.le_trans hb.size e)⟩
  · rcases h3 k e with e3 | e3
    · exact n2 (by rw [← e2]; exact e3)
    · omega
  · rcases h4 k e with e3 | e3
    · exact n3 (by rw [← e2]; exact e3)
    · omega

set_option maxRecDepth 100000
set_option maxHeartbeats 4000000 in
theorem step_write (h : Pair w0 w p ms mo r lv L Y D) (x : Do8) (hx : DoOk w0 w x) (hk : x.op % 8 ≤ 2) :
    Calls Try.prog 71 #[.pointer (some ⟨p, 0, none⟩), .pointer (some ⟨r, 0, none⟩), x.val] w fun e w' => e = .returned (.bool true) ∧ StepPost w0 w p ms mo r lv Y (x.does D) w' := by
  obtain ⟨q1, q2⟩ := hx.i0
  have hi2 := Lib.hid hx.i2
  have hi3 := Lib.hid hx.i3
  have hob := heap_alloc_new w (.cells #[.int .i64 x.op, .int .i64 x.sec, .int .i64 x.n, .int .u8 x.byte, x.fv] 43)
  have hP := h.alloc (.cells #[.int .i64 x.op, .int .i64 x.sec, .int .i64 x.n, .int .u8 x.byte, x.fv] 43)
  have hbe : Below w.heap.size w (w.alloc (.cells #[.int .i64 x.op, .int .i64 x.sec, .int .i64 x.n, .int .u8 x.byte, x.fv] 43)) := below_alloc' (Below.refl _ _) _
  have HB := Lib.hid hbe
  obtain ⟨Af, cf, hfv, _, _, _⟩ := hx.fs
  have HFV := Lib.hid hfv
  clear hbe
  have k0 := cell_blk hob 0 _ rfl
  have k1 := cell_blk hob 1 _ rfl
  have hbl : w.heap.size < (w.alloc (.cells #[.int .i64 x.op, .int .i64 x.sec, .int .i64 x.n, .int .u8 x.byte, x.fv] 43)).heap.size := by simp
  have hsz : w0.heap.size ≤ w.heap.size := h.rf.sz
  have hll : x.bytes.length ≤ 512 := x.bytes_len
  have hby := Lib.hid x.bytes_bytey
  have H := Lib.hid h
  clear h hx hob hfv
  have hbd : ∀ k, DF p ms mo k → k < w.heap.size := fun k e => H.out.dv.lt k e
  have hbm : ∀ k, MF r lv k → k < w.heap.size := fun k e => (H.out.rf.mf k e).2
  have hby' : ∀ k, Y k → k < w.heap.size := fun k e => (H.out.rf.y k e).2.1
  have HBD := Lib.hid hbd
  have HBM := Lib.hid hbm
  have HBY := Lib.hid hby'
  clear hbd hbm hby'
  have hdo : x.does D = D.writes x.sec x.bytes := by simp [Do8.does, hk]
  rw [hdo]
  have hcase : x.op % 8 = 0 ∨ x.op % 8 = 1 ∨ x.op % 8 = 2 := by omega
  have hbyt := doBytes_any
  have HBT := Lib.hid hbyt
  clear hdo hk hbyt
  unfold Do8.val
  rcases hcase with e | e | e
  iterate 3
    · have hpk := pick_pos x.op 8
      rw [e] at hpk
      have HPK := Lib.hid hpk
      clear hpk e
      go_enter Try.func71, Try.ntmps71
      go_wp2_with
        (first
          | (go_at_call 31; refine (HPK.out _ (by omega) (by omega) q1 q2).mono ?_; rintro e w1 ⟨rfl, rfl⟩)
          | (go_at_call 137; refine (HBT.out _ x hi2.out hi3.out).mono ?_; rintro e w2 ⟨vb, rfl, hvb, hfb, hb2⟩; have hP2 := hP.below hb2; have k1a := (hb2.cell (p := ⟨w.heap.size, 1, none⟩) hbl).trans k1; have hbl2 := Nat.lt_of_lt_of_le hbl hb2.size; have HV2 := Lib.hid hvb; have HFB := Lib.hid hfb; have HB2 := Lib.hid hb2; clear hvb hfb hb2)
          | (go_at_call 75; refine (lentBytes_any _ _ _ HV2.out (by omega)).mono ?_; rintro e w4 ⟨rfl, hL4, hb4⟩; have hP4 := hP2.below hb4; have k1b := (hb4.cell (p := ⟨w.heap.size, 1, none⟩) hbl2).trans k1a; have hbl4 := Nat.lt_of_lt_of_le hbl2 hb4.size; have HL4 := Lib.hid hL4; have HV4 := Lib.hid (HV2.out.below hb4); have HB4 := Lib.hid hb4; have hb2s : Hid (w.heap.size < w2.heap.size) := Lib.hid hbl2; clear hL4 hb4))
      have hP4' := hP4.drew
      have HL4d : Hid (LentB w4.drew w2.heap.size x.bytes) := Lib.hid (HL4.out.chg (F := fun _ => False) (Chg.refl _ _).drew id)
      have HV4d : Hid (BytesIs w4.drew vb x.bytes) := Lib.hid HV4.out.drew
      have hdw := hP4'.dv.writes x.sec (HL4d.out.bytes (by omega)) hby.out
      have k1c : w4.drew.cell? ⟨w.heap.size, 1, none⟩ = some (.int .i64 x.sec) := k1b
      go_region_held3 (fun w' => w'.cell? ⟨w.heap.size, 1, none⟩ = some (.int .i64 x.sec)) (first | exact k1b | exact k1c | exact m5 | exact m6 | exact m7)
        (first
          | (go_at_call 52; refine hdw.mono ?_
             rintro e w5 ⟨rfl, hD5, hc5⟩
             have hmid := hP4'.mid hc5
             have m5 : w5.cell? ⟨w.heap.size, 1, none⟩ = some (.int .i64 x.sec) := (hc5.cell (p := ⟨w.heap.size, 1, none⟩) hbl4 (fun e => Nat.lt_irrefl _ (HBD.out _ e))).trans k1c
             have hbl5 := Nat.lt_of_lt_of_le hbl4 hc5.size
             have HL5 := Lib.hid (HL4d.out.chg hc5 (fun e => by have := HBD.out _ e; have := hb2s.out; omega))
             have HV5 := Lib.hid (HV4d.out.chg hc5 (fun b e e2 => by have h1 := HBD.out _ e2; have h2 := HFB.out b e; simp only [World.size_alloc] at h2; omega)))
          | (go_at_call 138; refine (hmid.writes _ HV5.out hby.out (fun b e e2 => by have h1 := HBM.out _ e2; have h2 := HFB.out b e; simp only [World.size_alloc] at h2; omega)).mono ?_
             rintro e w6 ⟨lv6, L6, Y6, rfl, hR6, hc6, hm6, hy6⟩
             have m6 : w6.cell? ⟨w.heap.size, 1, none⟩ = some (.int .i64 x.sec) := (hc6.cell (p := ⟨w.heap.size, 1, none⟩) hbl5 (fun e => Nat.lt_irrefl _ (HBM.out _ e))).trans m5
             have hbl6 := Nat.lt_of_lt_of_le hbl5 hc6.size
             have HL6 := Lib.hid (HL5.out.chg hc6 (fun e => by have := HBM.out _ e; have := hb2s.out; omega))
             have HV6 := Lib.hid (HV5.out.chg hc6 (fun b e e2 => by have h1 := HBM.out _ e2; have h2 := HFB.out b e; simp only [World.size_alloc] at h2; omega)))
          | (go_at_call 77; refine (keptBytes_any _ _ _ _ HL6.out HV6.out (by omega)).mono ?_
             rintro e w7 ⟨rfl, hb7⟩
             have m7 : w7.cell? ⟨w.heap.size, 1, none⟩ = some (.int .i64 x.sec) := (hb7.cell (p := ⟨w.heap.size, 1, none⟩) hbl6).trans m6
             have HL7 := Lib.hid (HL6.out.below hb7)))
      have hst : StepPost w0 w4.drew p ms mo r lv Y (D.writes x.sec x.bytes) w7 := StepPost.below ⟨_, _, _, hP4'.step hD5 hc5 hR6 hc6 hm6 hy6⟩ hb7
      have HST := Lib.hid hst
      clear hst hb7 m5 m6 m7 hc5 hc6 hm6 hy6 hR6 hD5 hmid
      go_wp2_with
        (first
          | (go_at_call 78; refine (overBytes_any _ _ _ HL7.out (by omega)).mono ?_; rintro e w8 ⟨rfl, hc8⟩))
      go_ret
      refine ⟨rfl, HST.out.over ?_ hc8 hsz (Nat.le_of_lt hb2s.out) ?_ (fun e => ?_) (fun e => ?_) (fun e => ?_)⟩
      · exact below_trans' (below_trans' HB.out HB2.out) HB4.out |>.drew
      · exact LentB.lt HL4.out
      · have := HBD.out _ e; have := hb2s.out; omega
      · have := HBM.out _ e; have := hb2s.out; omega
      · have := HBY.out _ e; have := hb2s.out; omega
theorem step_any (h : Pair w0 w p ms mo r lv L Y D) (x : Do8) (hx : DoOk w0 w x) :
    Calls Try.prog 71 #[.pointer (some ⟨p, 0, none⟩), .pointer (some ⟨r, 0, none⟩), x.val] w fun e w' => e = .returned (.bool true) ∧ StepPost w0 w p ms mo r lv Y (x.does D) w' := by
  by_cases hk : x.op % 8 ≤ 2
  · exact step_write h x hx hk
  · exact step_rest h x hx (by omega)
end
end Go.Proofs.Yteeamlidmkpohaa
