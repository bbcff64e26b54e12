/-
  A life: read, in one contract; write.
-/
import Derived.Test.YteeamlidmkpohaaTx
import Derived.Test.YteeamlidmkpohaaSc
import Derived.Deep.RegionHeld3
import Derived.Test.YteeamlidmkpohaaSb
set_option linter.unusedVariables false
set_option linter.unusedSimpArgs false
namespace Go.Proofs.Yteeamlidmkpohaa
open Go.RowKit Go.Sort

/-! ### the device, in plain words -/
theorem Dk.crash_opn (D : Dk) : D.crash.opn = D.opn ∧ D.crash.safe = D.safe ∧ D.crash.n = D.n := by
  unfold Dk.crash
  split <;> exact ⟨rfl, rfl, rfl⟩
theorem Dk.latest_of {D D' : Dk} {k : Int} (h1 : D'.opn k = D.opn k) (h2 : D'.safe k = D.safe k) : D'.latest k = D.latest k := by simp [Dk.latest, h1, h2]
theorem Dk.latest_write (D : Dk) (k : Int) (l : List Int) (x : Int) : (D.write k l).latest x = if x = k then l else D.latest x := by
  have h1 : (D.write k l).opn = (D.put k l).opn := (D.put k l).crash_opn.1
  have h2 : (D.write k l).safe = (D.put k l).safe := (D.put k l).crash_opn.2.1
  unfold Dk.latest
  rw [h1, h2]
  by_cases e : x = k
  · simp [Dk.put, e]
  · simp [Dk.put, e]
theorem Dk.write_n (D : Dk) (k : Int) (l : List Int) : (D.write k l).n = D.n := (D.put k l).crash_opn.2.2
theorem Dk.sync_n (D : Dk) : D.sync.n = D.n := by
  obtain ⟨_, _, h3⟩ := D.crash_opn
  unfold Dk.sync
  split
  · exact h3
  · exact h3
theorem Dk.latest_sync (D : Dk) (x : Int) : D.sync.latest x = D.latest x := by
  obtain ⟨h1, h2, h3⟩ := D.crash_opn
  unfold Dk.sync
  split
  · exact Dk.latest_of (by rw [h1]) (by rw [h2])
  · simp only [Dk.latest, Dk.flush, Dk.wiped, Dk.laid, h1, h2]
    cases h : D.opn x <;> simp
theorem Dk.may_nine {D : Dk} {k : Int} (h : D.may k = 9) : D.down = true := by
  unfold Dk.may at h
  split at h
  · assumption
  · split at h
    · cases h
    · split at h <;> cases h
theorem wcode_nine {D : Dk} {k : Int} {l : List Int} (h : D.wcode k l = 9) : (D.writes k l).down = true := by
  unfold Dk.wcode at h
  unfold Dk.writes
  split at h
  · rename_i h1
    rw [if_pos h1]
    exact Dk.may_nine h
  · rename_i h1
    rw [if_neg h1]
    split at h
    · cases h
    · rename_i h2
      rw [if_neg h2]
      cases hd : (D.write k l).down with
      | true => rfl
      | false => rw [hd] at h; cases h
theorem wcode_other {D : Dk} {k : Int} {l : List Int} (h0 : D.wcode k l ≠ 0) (h9 : D.wcode k l ≠ 9) : D.writes k l = D := by
  unfold Dk.wcode at h0 h9
  unfold Dk.writes
  split at h0
  · rename_i h1; rw [if_pos h1]
  · rename_i h1
    rw [if_neg h1] at h9 ⊢
    split at h0
    · rename_i h2; rw [if_pos h2]
    · rename_i h2
      rw [if_neg h2] at h9
      cases hd : (D.write k l).down with
      | true => rw [hd] at h9; exact absurd rfl h9
      | false => rw [hd] at h0; exact absurd rfl h0
theorem wcode_writes {D : Dk} {k : Int} {l : List Int} (h : D.wcode k l = 0) : D.writes k l = D.write k l := by
  obtain ⟨h1, h2, _⟩ := wcode_zero h
  exact (wcode_ok h1 h2).2

section
variable {w0 w w' : World} {p ms mo c mk r x : Nat} {K K' : Ck} {Y Y' Z Z' : Nat → Prop} {D D2 D' : Dk} {lv lv' : Value} {L L' : List RS} {size rd rd' N : Int} {vT vT' : Value} {T T' : List Int}
theorem Tri.lread (h : Tri w0 w p ms mo c mk K Y D r lv L Z D x size rd vT T) (hi : Inv9 K D T rd size N) (k : Int) (hN : N < 900) :
    Calls Try.prog 113 #[.pointer (some ⟨x, 0, none⟩), .int .i64 k] w fun e w' => e = .returned (.bool true) ∧ LfPost w0 w p ms mo c mk r x D size (N + 1) w' := by
  by_cases hm : D.may k = 0
  · refine lread_ok h hi k hN hm rfl ?_
    obtain ⟨hfit, hks⟩ := hi.fit (may_zero hm).1
    have hm1 : 1 ≤ size := by rw [← hi.most]; exact h.cd.ca.m1
    by_cases hk : K.has k
    · left
      refine ⟨hk, ?_⟩
      rcases Int.lt_or_le (placeL T k) 0 with h1 | h1
      · exact absurd (by rw [← hks]; exact Ck.has_keys.1 hk) (placeL_no (n := size.toNat) h1)
      · exact h1
    · right
      refine ⟨hk, ?_⟩
      by_cases h1 : placeL T k < 0
      · exact .inl h1
      · refine .inr ⟨by omega, ?_⟩
        rcases Int.lt_or_le (placeL T k) size with h2 | h2
        · have := placeL_in (T := T) (k := k) (n := size.toNat) (by omega) (by omega)
          rw [← hks] at this
          exact absurd (Ck.has_keys.2 this) hk
        · exact h2
  · refine (lread_no h hi k hN hm).mono ?_
    rintro e w' ⟨rfl, K', Y', lv', L', Z', vT', T', rd', h1, h2, h3⟩
    exact ⟨rfl, K', Y', lv', L', Z', vT', T', rd', h1, h2.mono (by omega), h3⟩

/-- a write is told -/
theorem Inv9.wrote0 (h : Inv9 K D T rd size N) (hm1 : 1 ≤ size) {k : Int} {l : List Int} (hw : D.wcode k l = 0) (hr : WriteRel K D k l K') : Inv9 K' (D.writes k l) (touchL T k) rd size (N + 1) := by
  obtain ⟨w1, w2, w3⟩ := wcode_zero hw
  have hdn := (may_zero w1).1
  rcases hr with ⟨_, u, rfl⟩ | ⟨e, _⟩ | ⟨e, _⟩
  · have hfl := forgetL_len T k
    have hb3 := h.b3
    rw [wcode_writes hw]
    refine ⟨fun _ => ⟨fun e he => ?_, ?_⟩, h.most, touchL_nodup h.nd k, h.rd, ?_, ?_, ?_⟩
    · rw [Dk.latest_write, Dk.write_n]
      rcases keepL_mem he with rfl | ⟨h1, h2⟩
      · exact ⟨by simp, (may_zero w1).2⟩
      · rw [if_neg h2]
        exact (h.fit hdn).1 e h1
    · show (keepL K.C ⟨k, l, u, K.now + 1⟩ K.most).map CE.k = _
      rw [keepL_keys, (h.fit hdn).2, lastN_touch h.nd k (by omega), h.most]
      have : ((size.toNat : Nat) : Int) = size := by omega
      rw [this]
    · show K.now + 1 ≤ N + 1
      have := h.b1; omega
    · show K.hits + K.misses ≤ N + 1
      have := h.b2; omega
    · simp only [touchL, List.length_append, List.length_singleton]
      omega
  · rw [hw] at e; cases e
  · exact absurd hw e
theorem Inv9.wrote9 (h : Inv9 K D T rd size N) {k : Int} {l : List Int} (hw : D.wcode k l = 9) (hr : WriteRel K D k l K') : Inv9 K' (D.writes k l) (forgetL T k) rd size (N + 1) := by
  have hd := wcode_nine hw
  rcases hr with ⟨e, _⟩ | ⟨_, rfl⟩ | ⟨_, e, _⟩
  · rw [hw] at e; cases e
  · have hfl := forgetL_len T k
    have hb3 := h.b3
    refine ⟨fun e => ?_, h.most, forgetL_nodup h.nd k, h.rd, ?_, ?_, ?_⟩
    · rw [hd] at e; cases e
    · show K.now ≤ N + 1
      have := h.b1; omega
    · show K.hits + K.misses ≤ N + 1
      have := h.b2; omega
    · omega
  · exact absurd hw e
theorem Inv9.wroteNo (h : Inv9 K D T rd size N) {k : Int} {l : List Int} (h0 : D.wcode k l ≠ 0) (h9 : D.wcode k l ≠ 9) (hr : WriteRel K D k l K') : Inv9 K' (D.writes k l) T rd size (N + 1) := by
  rw [wcode_other h0 h9]
  rcases hr with ⟨e, _⟩ | ⟨e, _⟩ | ⟨_, _, rfl⟩
  · exact absurd e h0
  · exact absurd e h9
  · exact h.mono (by omega)

set_option maxRecDepth 100000
set_option maxHeartbeats 8000000 in
theorem Tri.lwrite (h : Tri w0 w p ms mo c mk K Y D r lv L Z D x size rd vT T) (hi : Inv9 K D T rd size N) (k : Int) {v : Value} {l : List Int} (hv : BytesIs w v l) (hb : Bytey l) (hl : l.length ≤ 512)
    (hvf : ∀ b, v.ownBlock = some b → ¬ Qs p ms mo c mk Y b ∧ ¬ Rs r lv Z b ∧ ¬ LF x vT b) (hN : N < 900) :
    Calls Try.prog 164 #[.pointer (some ⟨x, 0, none⟩), .int .i64 k, v] w fun e w' => e = .returned (.bool true) ∧ LfPost w0 w p ms mo c mk r x (D.writes k l) size (N + 1) w' := by
  obtain ⟨c0, c1, c2, c3, c4, c5⟩ := h.lb.cells
  have b1 := hi.b1
  have hm1 : 1 ≤ size := by rw [← hi.most]; exact h.cd.ca.m1
  have hTl : T.length ≤ 999 := by have := hi.b3; omega
  have H := Lib.hid h
  have HI := Lib.hid hi
  have HV := Lib.hid hv
  have HB := Lib.hid hb
  have HVF := Lib.hid hvf
  have hnow : K.now < 9223372036854775806 := by omega
  have hgq : ∀ b, b = w.heap.size → ¬ Qs p ms mo c mk Y b := fun b e e2 => by have := (h.cd.qs b e2).2; omega
  have hgr : ∀ b, b = w.heap.size → ¬ Rs r lv Z b := fun b e e2 => by have := (h.rf.rs b e2).2; omega
  have HGQ := Lib.hid hgq
  have HGR := Lib.hid hgr
  clear h hi hv hb hvf hgq hgr
  have hcase : D.wcode k l = 0 ∨ D.wcode k l = 9 ∨ (D.wcode k l ≠ 0 ∧ D.wcode k l ≠ 9) := by omega
  generalize hwc : D.wcode k l = wc at hcase
  have HWC := Lib.hid hwc
  have hww : (wc == wc) = true := by simp
  clear hwc
  have hc0 : (wc = 0 ∧ (wc == 0) = true ∧ (wc == 9) = false) ∨ (wc = 9 ∧ (wc == 0) = false ∧ (wc == 9) = true) ∨ ((wc ≠ 0 ∧ wc ≠ 9) ∧ (wc == 0) = false ∧ (wc == 9) = false) := by
    rcases hcase with rfl | rfl | ⟨h1, h2⟩
    · exact .inl ⟨rfl, rfl, rfl⟩
    · exact .inr (.inl ⟨rfl, rfl, rfl⟩)
    · exact .inr (.inr ⟨⟨h1, h2⟩, by simpa using h1, by simpa using h2⟩)
  clear hcase
  rcases hc0 with ⟨e0, q0, q9⟩ | ⟨e0, q0, q9⟩ | ⟨e0, q0, q9⟩
  iterate 3
    · have HE := Lib.hid e0
      clear e0
      go_enter Try.func164, Try.ntmps164
      go_wp2_with
        (first
          | (go_at_call 75; refine (lentBytes_any _ _ _ HV.out (by omega)).mono ?_; rintro e w2 ⟨rfl, hL2, hb2⟩
             have hT2 := H.out.below hb2
             obtain ⟨d0, d1, d2, d3, d4, d5⟩ := hT2.lb.cells
             have HV2 := Lib.hid (HV.out.below hb2)
             have hgl := hL2.lt
             have hcw := hT2.cd.writes k (hL2.bytes (by omega)) HB.out (fun b e e2 => HGQ.out b (by simpa [Value.ownBlock] using e.symm) (.inl e2)) (fun b e e2 => HGQ.out b (by simpa [Value.ownBlock] using e.symm) (by rw [e2]; exact .inr (.inl (.inl rfl)))) hnow
             have HB2 := Lib.hid hb2
             have HL2 := Lib.hid hL2
             clear hL2 hb2)
          | (go_at_call 107; refine hcw.mono ?_; rintro e w3 ⟨K3, Y3, rfl, hcd3, hc3, hf3, hr3⟩
             rw [HWC.out]
             have hT3 := hT2.cstep hcd3 hc3 hf3
             have HL3 := Lib.hid (HL2.out.chg hc3 (fun e => HGQ.out _ rfl (e.imp id .inl)))
             have HV3 := Lib.hid (HV2.out.chg hc3 (fun b e e2 => (HVF.out b e).1 (e2.imp id .inl)))
             obtain ⟨f0, f1, f2, f3, f4, f5⟩ := hT3.lb.cells
             have HC3 := Lib.hid hc3
             have HF3 := Lib.hid hf3
             have HR3 := Lib.hid hr3
             clear hcw hcd3 hc3 hf3 hr3)
          | (go_at_call 138; refine (hT3.rf.writes k HV3.out HB.out (fun b e e2 => (HVF.out b e).2.1 (.inl e2))).mono ?_; rintro e w4 ⟨lv4, L4, Z4, rfl, hR4, hc4, hm4, hz4⟩
             rw [HWC.out]
             have hT4 := hT3.rstep hR4 hc4 hm4 hz4
             have HL4 := Lib.hid (HL3.out.chg hc4 (fun e => HGR.out _ rfl (.inl e)))
             have HV4 := Lib.hid (HV3.out.chg hc4 (fun b e e2 => (HVF.out b e).2.1 (.inl e2)))
             have HC4 := Lib.hid hc4
             have HM4 := Lib.hid hm4
             have HZ4 := Lib.hid hz4
             clear hR4 hc4 hm4 hz4)
          | (go_at_call 77; refine (keptBytes_any _ _ _ _ HL4.out HV4.out (by omega)).mono ?_; rintro e w5 ⟨rfl, hb5⟩; have hT5 := hT4.below hb5; have HL5 := Lib.hid (HL4.out.below hb5))
          | (go_at_call 78; refine (overBytes_any _ _ _ HL5.out (by omega)).mono ?_; rintro e w6 ⟨rfl, hc6⟩
             have hT6 := hT5.chg hc6 (fun b e => by have := H.out.lb.sz; omega) (fun b e e2 => by
               rcases e with e | e | e
               · exact HGQ.out b e2 (.inl e)
               · exact HGQ.out b e2 (.inr (.inl e))
               · rcases HF3.out b e with e3 | e3
                 · exact HGQ.out b e2 (.inr (.inr e3))
                 · omega) (fun b e e2 => by
               have := HC3.out.size
               rcases e with e | e
               · rcases HM4.out b e with e3 | e3
                 · exact HGR.out b e2 (.inl e3)
                 · omega
               · rcases HZ4.out b e with e3 | e3
                 · exact HGR.out b e2 (.inr e3)
                 · omega) (fun b e e2 => by have := (H.out.lb.lf b e).2; omega)
             obtain ⟨k0, k1, k2, k3, k4, k5⟩ := hT6.lb.cells
             have hC6 : Chg (fun b => w0.heap.size ≤ b) w w6 := ((((Chg.of_below HB2.out).trans (HC3.out.mono (fun b _ e => (hT2.cd.qs b (e.imp id .inl)).1))).trans (HC4.out.mono (fun b _ e => (hT3.rf.mf b e).1))).trans (Chg.of_below hb5)).trans (hc6.mono (fun b _ e => by have := H.out.lb.sz; omega))
             have HC6 := Lib.hid hC6
             have HT6 := Lib.hid hT6
             clear hT2 hT3 hT4 hT5 hT6 hb5 hc6 hC6)
          | (go_at_call 166; refine (HT6.out.lb.touch k hTl).mono ?_; rintro e w9 ⟨vT9, rfl, hl9, hc9, hn9⟩
             have hT9 := HT6.out.lstep hl9 hc9 (fun b e => .inl (hn9 b e)))
          | (go_at_call 203; refine (HT6.out.lb.forget k (by omega)).mono ?_; rintro e w9 ⟨vT9, rfl, hl9, hc9, hn9⟩
             have hT9 := HT6.out.lstep hl9 hc9 (fun b e => .inl (hn9 b e))))
      go_ret
      first
        | exact ⟨rfl, _, _, _, _, _, _, _, _, hT9, HI.out.wrote0 hm1 (HWC.out.trans HE.out) HR3.out, HC6.out.trans (hc9.mono (fun b _ e => by rw [e]; exact H.out.lb.gx))⟩
        | exact ⟨rfl, _, _, _, _, _, _, _, _, hT9, HI.out.wrote9 (HWC.out.trans HE.out) HR3.out, HC6.out.trans (hc9.mono (fun b _ e => by rw [e]; exact H.out.lb.gx))⟩
        | exact ⟨rfl, _, _, _, _, _, _, _, _, HT6.out, HI.out.wroteNo (by rw [HWC.out]; exact HE.out.1) (by rw [HWC.out]; exact HE.out.2) HR3.out, HC6.out⟩
end
end Go.Proofs.Yteeamlidmkpohaa


/-
  A life: step.
-/
set_option linter.unusedVariables false
set_option linter.unusedSimpArgs false
namespace Go.Proofs.Yteeamlidmkpohaa
open Go.RowKit Go.Sort

def bytes9 (x : Do8) : List Int := if x.n.tmod 9 = 4 then (fullL9 x.byte).take (x.n % 512).toNat else fullL9 x.byte
theorem bytes9_bytey (x : Do8) : Bytey (bytes9 x) := by
  unfold bytes9
  split
  · exact Bytey.take (fullL9_sec _).2 _
  · exact (fullL9_sec _).2
theorem bytes9_len (x : Do8) : (bytes9 x).length ≤ 512 := by
  unfold bytes9
  have := (fullL9_sec x.byte).1
  split
  · simp; omega
  · omega
/-- what a step of a cache's life makes of its disk -/
def does9 (x : Do8) (D : Dk) : Dk :=
  if x.op % 9 ≤ 1 then D.writes x.sec (bytes9 x) else if x.op % 9 = 2 then D.syncs else if x.op % 9 = 3 then D.arm x.n else if x.op % 9 = 5 then D.wake x.fs else D

theorem IntsIs.step {F : Nat → Prop} {w w' : World} {v : Value} {fs : List Int} (h : IntsIs w v fs) (hc : Chg F w w') (hF : fs ≠ [] → ∀ k, v.ownBlock = some k → ¬ F k) : IntsIs w' v fs := by
  by_cases hnil : fs = []
  · obtain ⟨A, c, e, u1, u2, u3⟩ := h
    exact ⟨A, c, e, u1, u2, fun j u hu => by rw [hnil] at hu; simp [intsV] at hu⟩
  · exact h.chg hc (hF hnil)

section
variable {w0 w w' : World} {p ms mo c mk r xb : Nat} {K K' : Ck} {Y Y' Z Z' : Nat → Prop} {D D2 D' : Dk} {lv lv' : Value} {L L' : List RS} {size rd rd' N : Int} {vT vT' : Value} {T T' : List Int}
theorem Tri.drew (h : Tri w0 w p ms mo c mk K Y D r lv L Z D2 xb size rd vT T) : Tri w0 w.drew p ms mo c mk K Y D r lv L Z D2 xb size rd vT T :=
  h.chg (F := fun _ => False) ((Chg.refl _ w).drew) (fun _ e => e.elim) (fun _ _ => id) (fun _ _ => id) (fun _ _ => id)
theorem Inv9.syncs (h : Inv9 K D T rd size N) : Inv9 K D.syncs T rd size N := by
  unfold Dk.syncs
  cases hd : D.down with
  | true => simpa using h
  | false =>
    simp only [Bool.false_eq_true, if_false]
    refine ⟨fun _ => ⟨fun e he => ?_, (h.fit hd).2⟩, h.most, h.nd, h.rd, h.b1, h.b2, h.b3⟩
    rw [Dk.latest_sync, Dk.sync_n]
    exact (h.fit hd).1 e he
theorem Inv9.arm (h : Inv9 K D T rd size N) (n : Int) : Inv9 K (D.arm n) T rd size N := by
  unfold Dk.arm
  cases hd : D.down with
  | true => simpa using h
  | false =>
    simp only [Bool.false_eq_true, if_false]
    refine ⟨fun _ => ⟨fun e he => ?_, (h.fit hd).2⟩, h.most, h.nd, h.rd, h.b1, h.b2, h.b3⟩
    exact (h.fit hd).1 e he
theorem Inv9.drop (h : Inv9 K D T rd size N) (hN : 0 ≤ N) (D' : Dk) : Inv9 { K with C := [] } D' [] rd size N :=
  ⟨fun _ => ⟨fun e he => (by cases he), by simp [lastN]⟩, h.most, .nil, h.rd, h.b1, h.b2, by simpa using hN⟩

set_option maxRecDepth 100000
set_option maxHeartbeats 4000000 in
theorem lstep_sync (h : Tri w0 w p ms mo c mk K Y D r lv L Z D xb size rd vT T) (hi : Inv9 K D T rd size N) (x : Do8) (hx : DoOk w0 w x) (hN : N < 900) (he : x.op % 9 = 2) :
    Calls Try.prog 111 #[.pointer (some ⟨xb, 0, none⟩), x.val] w fun e w' => e = .returned (.bool true) ∧ LfPost w0 w p ms mo c mk r xb (does9 x D) size (N + 1) w' := by
  obtain ⟨q1, q2⟩ := hx.i0
  have hob := heap_alloc_new w (.cells #[.int .i64 x.op, .int .i64 x.sec, .int .i64 x.n, .int .u8 x.byte, x.fv] 134)
  have hbe : Below w.heap.size w (w.alloc (.cells #[.int .i64 x.op, .int .i64 x.sec, .int .i64 x.n, .int .u8 x.byte, x.fv] 134)) := below_alloc' (Below.refl _ _) _
  have hT := h.below hbe
  have k0 := cell_blk hob 0 _ rfl
  obtain ⟨c0, c1, c2, c3, c4, c5⟩ := hT.lb.cells
  have hdo : does9 x D = D.syncs := by simp [does9, he]
  rw [hdo]
  have hpk := pick_pos x.op 9
  rw [he] at hpk
  have HPK := Lib.hid hpk
  have HI := Lib.hid hi
  have H := Lib.hid h
  have HB := Lib.hid hbe
  clear hpk hdo he hi h hbe hx hob
  unfold Do8.val
  go_enter Try.func111, Try.ntmps111
  go_wp2_with
    (first
      | (go_at_call 31; refine (HPK.out _ (by omega) (by omega) q1 q2).mono ?_; rintro e w1 ⟨rfl, rfl⟩))
  have hTd := hT.drew
  have hsy := hTd.cd.ca.sync hTd.cd.dv
  have m0 := And.intro hT.lb.cells.1 hT.lb.cells.2.2.1
  have m1 := And.intro hTd.lb.cells.1 hTd.lb.cells.2.2.1
  go_region_held3 (fun w' => w'.cell? ⟨xb, 0, none⟩ = some (.pointer (some ⟨c, 0, none⟩)) ∧ w'.cell? ⟨xb, 2, none⟩ = some (.pointer (some ⟨r, 0, none⟩))) (first | exact m0 | exact m1 | exact m5 | exact m6)
    (first
      | (go_at_call 109; refine hsy.mono ?_
         rintro e w5 ⟨rfl, hD5, hc5⟩
         have hT5 := hTd.cstep (hTd.cd.dstep hD5 hc5) (hc5.mono (fun _ _ e => .inl e)) (Fresh.refl _ _)
         have m5 := And.intro hT5.lb.cells.1 hT5.lb.cells.2.2.1)
      | (go_at_call 139; refine hT5.rf.syncs.mono ?_
         rintro e w6 ⟨L6, rfl, hR6, hc6⟩
         have hT6 := hT5.rstep hR6 hc6 (Fresh.refl _ _) (Fresh.refl _ _)
         have m6 := And.intro hT6.lb.cells.1 hT6.lb.cells.2.2.1))
  go_wp2_with fail
  go_ret
  refine ⟨rfl, _, _, _, _, _, _, _, _, hT6, HI.out.syncs.mono (by omega), ?_⟩
  exact ((Chg.of_below HB.out).drew.trans (hc5.mono (fun b _ e => hTd.cd.dv.df b e))).trans (hc6.mono (fun b _ e => (hT5.rf.mf b e).1))

set_option maxRecDepth 100000 in
set_option maxHeartbeats 4000000 in
theorem lstep_arm (h : Tri w0 w p ms mo c mk K Y D r lv L Z D xb size rd vT T) (hi : Inv9 K D T rd size N) (x : Do8) (hx : DoOk w0 w x) (hN : N < 900) (hN0 : 0 ≤ N) (he : x.op % 9 = 3) :
    Calls Try.prog 111 #[.pointer (some ⟨xb, 0, none⟩), x.val] w fun e w' => e = .returned (.bool true) ∧ LfPost w0 w p ms mo c mk r xb (does9 x D) size (N + 1) w' := by
  obtain ⟨q1, q2⟩ := hx.i0
  have hn2 := hx.i2.2
  have hob := heap_alloc_new w (.cells #[.int .i64 x.op, .int .i64 x.sec, .int .i64 x.n, .int .u8 x.byte, x.fv] 134)
  have hbe : Below w.heap.size w (w.alloc (.cells #[.int .i64 x.op, .int .i64 x.sec, .int .i64 x.n, .int .u8 x.byte, x.fv] 134)) := below_alloc' (Below.refl _ _) _
  have hT := h.below hbe
  have k0 := cell_blk hob 0 _ rfl
  have k1 := cell_blk hob 1 _ rfl
  have k2 := cell_blk hob 2 _ rfl
  have k3 := cell_blk hob 3 _ rfl
  have k4 := cell_blk hob 4 _ rfl
  have hbl : w.heap.size < (w.alloc (.cells #[.int .i64 x.op, .int .i64 x.sec, .int .i64 x.n, .int .u8 x.byte, x.fv] 134)).heap.size := by simp
  obtain ⟨c0, c1, c2, c3, c4, c5⟩ := hT.lb.cells
  have HDF : Hid (∀ b, DF p ms mo b → b ≠ w.heap.size) := Lib.hid (fun b e => by have := h.cd.dv.lt b e; omega)
  have hfs := hx.fs.below hbe
  have HFS := Lib.hid hfs
  have HFO := Lib.hid hx.fo
  have HX := Lib.hid hx
  have HI := Lib.hid hi
  have H := Lib.hid h
  have HB := Lib.hid hbe
  clear hi h hbe hx hob hfs
  have hdo : does9 x D = D.arm x.n := by simp [does9, he]
  rw [hdo]
  have hpk := pick_pos x.op 9
  rw [he] at hpk
  have HPK := Lib.hid hpk
  clear hpk hdo he
  unfold Do8.val
  go_enter Try.func111, Try.ntmps111
  go_wp2_with
    (first
      | (go_at_call 31; refine (HPK.out _ (by omega) (by omega) q1 q2).mono ?_; rintro e w1 ⟨rfl, rfl⟩))
  have hTd := hT.drew
  have ham := hTd.cd.dv.arm x.n hn2
  have m0 := And.intro hT.lb.cells.2.1 k2
  have m1 := And.intro hTd.lb.cells.2.1 k2
  go_region_held3 (fun w' => w'.cell? ⟨xb, 1, none⟩ = some (.pointer (some ⟨p, 0, none⟩)) ∧ w'.cell? ⟨w.heap.size, 2, none⟩ = some (.int .i64 x.n)) (first | exact m0 | exact m1 | exact m5)
    (first
      | (go_at_call 57; refine ham.mono ?_
         rintro e w5 ⟨rfl, hD5, hc5⟩
         have hT5 := hTd.cstep (hTd.cd.dstep hD5 hc5) (hc5.mono (fun _ _ e => .inl e)) (Fresh.refl _ _)
         have k25 := (hc5.cell (p := ⟨w.heap.size, 2, none⟩) hbl (fun e => HDF.out _ e rfl)).trans k2
         have m5 := And.intro hT5.lb.cells.2.1 k25))
  clear m0 m1 m5
  go_wp2_with fail
  have hT5d := hT5.drew
  have har := hT5d.rf.arm x.n hn2
  have n0 := And.intro hT5.lb.cells.2.2.1 k25
  have n1 := And.intro hT5d.lb.cells.2.2.1 k25
  have hbl5 := Nat.lt_of_lt_of_le hbl hc5.size
  go_region_held3 (fun w' => w'.cell? ⟨xb, 2, none⟩ = some (.pointer (some ⟨r, 0, none⟩)) ∧ w'.cell? ⟨w.heap.size, 2, none⟩ = some (.int .i64 x.n)) (first | exact n0 | exact n1 | exact n6)
    (first
      | (go_at_call 140; refine har.mono ?_
         rintro e w6 ⟨rfl, hR6, hc6⟩
         have hT6 := hT5d.rstep hR6 (hc6.mono (fun _ _ e => Or.inl e)) (Fresh.refl _ _) (Fresh.refl _ _)
         have n6 := And.intro hT6.lb.cells.2.2.1 ((hc6.cell (p := ⟨w.heap.size, 2, none⟩) hbl5 (fun e => by have := H.out.rf.lt; simp only at e; omega)).trans k25)))
  go_wp2_with fail
  go_ret
  refine ⟨rfl, _, _, _, _, _, _, _, _, hT6, (HI.out.arm x.n).mono (by omega), ?_⟩
  exact (((Chg.of_below HB.out).drew.trans (hc5.mono (fun b _ e => hTd.cd.dv.df b e))).drew).trans (hc6.mono (fun b _ e => by rw [e]; exact hT5.rf.gr))

set_option maxRecDepth 100000 in
set_option maxHeartbeats 4000000 in
theorem lstep_drop (h : Tri w0 w p ms mo c mk K Y D r lv L Z D xb size rd vT T) (hi : Inv9 K D T rd size N) (x : Do8) (hx : DoOk w0 w x) (hN : N < 900) (hN0 : 0 ≤ N) (he : x.op % 9 = 4) :
    Calls Try.prog 111 #[.pointer (some ⟨xb, 0, none⟩), x.val] w fun e w' => e = .returned (.bool true) ∧ LfPost w0 w p ms mo c mk r xb (does9 x D) size (N + 1) w' := by
  obtain ⟨q1, q2⟩ := hx.i0
  have hn2 := hx.i2.2
  have hob := heap_alloc_new w (.cells #[.int .i64 x.op, .int .i64 x.sec, .int .i64 x.n, .int .u8 x.byte, x.fv] 134)
  have hbe : Below w.heap.size w (w.alloc (.cells #[.int .i64 x.op, .int .i64 x.sec, .int .i64 x.n, .int .u8 x.byte, x.fv] 134)) := below_alloc' (Below.refl _ _) _
  have hT := h.below hbe
  have k0 := cell_blk hob 0 _ rfl
  have k1 := cell_blk hob 1 _ rfl
  have k2 := cell_blk hob 2 _ rfl
  have k3 := cell_blk hob 3 _ rfl
  have k4 := cell_blk hob 4 _ rfl
  have hbl : w.heap.size < (w.alloc (.cells #[.int .i64 x.op, .int .i64 x.sec, .int .i64 x.n, .int .u8 x.byte, x.fv] 134)).heap.size := by simp
  obtain ⟨c0, c1, c2, c3, c4, c5⟩ := hT.lb.cells
  have HDF : Hid (∀ b, DF p ms mo b → b ≠ w.heap.size) := Lib.hid (fun b e => by have := h.cd.dv.lt b e; omega)
  have hfs := hx.fs.below hbe
  have HFS := Lib.hid hfs
  have HFO := Lib.hid hx.fo
  have HX := Lib.hid hx
  have HI := Lib.hid hi
  have H := Lib.hid h
  have HB := Lib.hid hbe
  clear hi h hbe hx hob hfs
  have hdo : does9 x D = D := by simp [does9, he]
  rw [hdo]
  have hpk := pick_pos x.op 9
  rw [he] at hpk
  have HPK := Lib.hid hpk
  clear hpk hdo he
  have hdr := hT.cd.ca.drop
  unfold Do8.val
  go_enter Try.func111, Try.ntmps111
  go_wp2_with
    (first
      | (go_at_call 31; refine (HPK.out _ (by omega) (by omega) q1 q2).mono ?_; rintro e w1 ⟨rfl, rfl⟩)
      | (go_at_call 104; refine hdr.mono ?_; rintro e w6 ⟨rfl, hca6, hc6⟩
         have hT6 := hT.cstep (hT.cd.cstep hca6 hc6 (Fresh.refl _ _)) (hc6.mono (fun _ _ e => .inr e)) (Fresh.refl _ _)
         obtain ⟨d0, d1, d2, d3, d4, d5⟩ := hT6.lb.cells
         have e4 := hT6.lb.free 4))
  go_ret
  refine ⟨rfl, _, _, _, _, _, _, _, _, hT6.lstep (hT6.lb.put (.slice none 0 0) [] (World.ownsRow_nil _ _ _ _) (fun e => by cases e)) (chg_setCell _ _ _ _) (fun b e => by cases e), (HI.out.drop hN0 D).mono (by omega), ?_⟩
  exact ((Chg.of_below HB.out).trans (hc6.mono (fun b _ e => (hT.cd.ca.cf b e).1))).trans ((chg_setCell _ _ _ _).mono (fun b _ e => by rw [e]; exact H.out.lb.gx))

set_option maxRecDepth 100000 in
set_option maxHeartbeats 4000000 in
theorem lstep_wake (h : Tri w0 w p ms mo c mk K Y D r lv L Z D xb size rd vT T) (hi : Inv9 K D T rd size N) (x : Do8) (hx : DoOk w0 w x) (hN : N < 900) (hN0 : 0 ≤ N) (he : x.op % 9 = 5) :
    Calls Try.prog 111 #[.pointer (some ⟨xb, 0, none⟩), x.val] w fun e w' => e = .returned (.bool true) ∧ LfPost w0 w p ms mo c mk r xb (does9 x D) size (N + 1) w' := by
  obtain ⟨q1, q2⟩ := hx.i0
  have hn2 := hx.i2.2
  have hob := heap_alloc_new w (.cells #[.int .i64 x.op, .int .i64 x.sec, .int .i64 x.n, .int .u8 x.byte, x.fv] 134)
  have hbe : Below w.heap.size w (w.alloc (.cells #[.int .i64 x.op, .int .i64 x.sec, .int .i64 x.n, .int .u8 x.byte, x.fv] 134)) := below_alloc' (Below.refl _ _) _
  have hT := h.below hbe
  have k0 := cell_blk hob 0 _ rfl
  have k1 := cell_blk hob 1 _ rfl
  have k2 := cell_blk hob 2 _ rfl
  have k3 := cell_blk hob 3 _ rfl
  have k4 := cell_blk hob 4 _ rfl
  have hbl : w.heap.size < (w.alloc (.cells #[.int .i64 x.op, .int .i64 x.sec, .int .i64 x.n, .int .u8 x.byte, x.fv] 134)).heap.size := by simp
  obtain ⟨c0, c1, c2, c3, c4, c5⟩ := hT.lb.cells
  have HDF : Hid (∀ b, DF p ms mo b → b ≠ w.heap.size) := Lib.hid (fun b e => by have := h.cd.dv.lt b e; omega)
  have hfs := hx.fs.below hbe
  have HFS := Lib.hid hfs
  have HFO := Lib.hid hx.fo
  have HX := Lib.hid hx
  have HI := Lib.hid hi
  have H := Lib.hid h
  have HB := Lib.hid hbe
  clear hi h hbe hx hob hfs
  have hdo : does9 x D = D.wake x.fs := by simp [does9, he]
  rw [hdo]
  have hpk := pick_pos x.op 9
  rw [he] at hpk
  have HPK := Lib.hid hpk
  clear hpk hdo he
  unfold Do8.val
  go_enter Try.func111, Try.ntmps111
  go_wp2_with
    (first
      | (go_at_call 31; refine (HPK.out _ (by omega) (by omega) q1 q2).mono ?_; rintro e w1 ⟨rfl, rfl⟩))
  have hTd := hT.drew
  have hfsd := HFS.out.step (F := fun _ => False) ((Chg.refl _ _).drew) (fun _ _ _ => id)
  have hwk := hTd.cd.dv.wake hfsd (fun hn k e e2 => by have := HFO.out hn k e; have := hTd.cd.dv.df k e2; omega)
  have m0 := And.intro hT.lb.cells.2.1 k4
  have m1 := And.intro hTd.lb.cells.2.1 k4
  go_region_held3 (fun w' => w'.cell? ⟨xb, 1, none⟩ = some (.pointer (some ⟨p, 0, none⟩)) ∧ w'.cell? ⟨w.heap.size, 4, none⟩ = some x.fv) (first | exact m0 | exact m1 | exact m5)
    (first
      | (go_at_call 54; refine hwk.mono ?_
         rintro e w5 ⟨rfl, hD5, hc5⟩
         have hT5 := hTd.cstep (hTd.cd.dstep hD5 hc5) (hc5.mono (fun _ _ e => .inl e)) (Fresh.refl _ _)
         have k45 := (hc5.cell (p := ⟨w.heap.size, 4, none⟩) hbl (fun e => HDF.out _ e rfl)).trans k4
         have m5 := And.intro hT5.lb.cells.2.1 k45))
  clear m0 m1 m5
  have HFS5 := Lib.hid (hfsd.step hc5 (fun hn k e e2 => by have := HFO.out hn k e; have := hTd.cd.dv.df k e2; omega))
  clear hfsd hwk
  go_wp2_with fail
  have hT5d := hT5.drew
  have hrw := hT5d.rf.wake (HFS5.out.step (F := fun _ => False) ((Chg.refl _ _).drew) (fun _ _ _ => id)) (fun hn k e e2 => by have := HFO.out hn k e; have := (hT5d.rf.mf k e2).1; omega)
  have n0 := And.intro hT5.lb.cells.2.2.1 k45
  have n1 := And.intro hT5d.lb.cells.2.2.1 k45
  have hbl5 := Nat.lt_of_lt_of_le hbl hc5.size
  go_region_held3 (fun w' => w'.cell? ⟨xb, 2, none⟩ = some (.pointer (some ⟨r, 0, none⟩)) ∧ w'.cell? ⟨w.heap.size, 4, none⟩ = some x.fv) (first | exact n0 | exact n1 | exact n6)
    (first
      | (go_at_call 74; refine hrw.mono ?_
         rintro e w6 ⟨L6, rfl, hR6, hc6⟩
         have hT6 := hT5d.rstep hR6 hc6 (Fresh.refl _ _) (Fresh.refl _ _)
         have n6 := And.intro hT6.lb.cells.2.2.1 ((hc6.cell (p := ⟨w.heap.size, 4, none⟩) hbl5 (fun e => by have := (H.out.rf.mf _ e).2; simp only at this; omega)).trans k45)))
  clear n0 n1 n6
  have hdr := hT6.cd.ca.drop
  obtain ⟨d0, d1, d2, d3, d4, d5⟩ := hT6.lb.cells
  go_wp2_with
    (first
      | (go_at_call 104; refine hdr.mono ?_; rintro e w7 ⟨rfl, hca7, hc7⟩
         have hT7 := hT6.cstep (hT6.cd.cstep hca7 hc7 (Fresh.refl _ _)) (hc7.mono (fun _ _ e => .inr e)) (Fresh.refl _ _)
         obtain ⟨f0, f1, f2, f3, f4, f5⟩ := hT7.lb.cells
         have e4 := hT7.lb.free 4))
  go_ret
  refine ⟨rfl, _, _, _, _, _, _, _, _, hT7.lstep (hT7.lb.put (.slice none 0 0) [] (World.ownsRow_nil _ _ _ _) (fun e => by cases e)) (chg_setCell _ _ _ _) (fun b e => by cases e), (HI.out.drop hN0 _).mono (by omega), ?_⟩
  exact (((((Chg.of_below HB.out).drew.trans (hc5.mono (fun b _ e => hTd.cd.dv.df b e))).drew).trans (hc6.mono (fun b _ e => (hT5d.rf.mf b e).1))).trans (hc7.mono (fun b _ e => (hT6.cd.ca.cf b e).1))).trans ((chg_setCell _ _ _ _).mono (fun b _ e => by rw [e]; exact H.out.lb.gx))

set_option maxRecDepth 100000 in
set_option maxHeartbeats 4000000 in
theorem lstep_read (h : Tri w0 w p ms mo c mk K Y D r lv L Z D xb size rd vT T) (hi : Inv9 K D T rd size N) (x : Do8) (hx : DoOk w0 w x) (hN : N < 900) (hN0 : 0 ≤ N) (he : 6 ≤ x.op % 9) :
    Calls Try.prog 111 #[.pointer (some ⟨xb, 0, none⟩), x.val] w fun e w' => e = .returned (.bool true) ∧ LfPost w0 w p ms mo c mk r xb (does9 x D) size (N + 1) w' := by
  obtain ⟨q1, q2⟩ := hx.i0
  have hn2 := hx.i2.2
  have hob := heap_alloc_new w (.cells #[.int .i64 x.op, .int .i64 x.sec, .int .i64 x.n, .int .u8 x.byte, x.fv] 134)
  have hbe : Below w.heap.size w (w.alloc (.cells #[.int .i64 x.op, .int .i64 x.sec, .int .i64 x.n, .int .u8 x.byte, x.fv] 134)) := below_alloc' (Below.refl _ _) _
  have hT := h.below hbe
  have k0 := cell_blk hob 0 _ rfl
  have k1 := cell_blk hob 1 _ rfl
  have k2 := cell_blk hob 2 _ rfl
  have k3 := cell_blk hob 3 _ rfl
  have k4 := cell_blk hob 4 _ rfl
  have hbl : w.heap.size < (w.alloc (.cells #[.int .i64 x.op, .int .i64 x.sec, .int .i64 x.n, .int .u8 x.byte, x.fv] 134)).heap.size := by simp
  obtain ⟨c0, c1, c2, c3, c4, c5⟩ := hT.lb.cells
  have HDF : Hid (∀ b, DF p ms mo b → b ≠ w.heap.size) := Lib.hid (fun b e => by have := h.cd.dv.lt b e; omega)
  have hfs := hx.fs.below hbe
  have HFS := Lib.hid hfs
  have HFO := Lib.hid hx.fo
  have HX := Lib.hid hx
  have HI := Lib.hid hi
  have H := Lib.hid h
  have HB := Lib.hid hbe
  clear hi h hbe hx hob hfs
  have hdo : does9 x D = D := by
    unfold does9
    rw [if_neg (by omega), if_neg (by omega), if_neg (by omega), if_neg (by omega)]
  rw [hdo]
  have hlt9 : x.op % 9 < 9 := by omega
  have hrd := hT.lread HI.out x.sec hN
  have hpk := pick_pos x.op 9
  generalize x.op % 9 = o at he hlt9 hpk
  have HPK := Lib.hid hpk
  clear hpk hdo
  have r0 : (o == 0) = false := by simp; omega
  have r1 : (o == 1) = false := by simp; omega
  have r2 : (o == 2) = false := by simp; omega
  have r3 : (o == 3) = false := by simp; omega
  have r4 : (o == 4) = false := by simp; omega
  have r5 : (o == 5) = false := by simp; omega
  unfold Do8.val
  go_enter Try.func111, Try.ntmps111
  go_wp2_with
    (first
      | (go_at_call 31; refine (HPK.out _ (by omega) (by omega) q1 q2).mono ?_; rintro e w1 ⟨rfl, rfl⟩)
      | (go_at_call 113; refine hrd.mono ?_; rintro e w6 ⟨rfl, K6, Y6, lv6, L6, Z6, vT6, T6, rd6, h6, i6, c6⟩))
  go_ret
  exact ⟨rfl, K6, Y6, lv6, L6, Z6, vT6, T6, rd6, h6, i6, (Chg.of_below HB.out).trans c6⟩
end
end Go.Proofs.Yteeamlidmkpohaa


/-
  A life: step, writing; step, in one contract.
-/
set_option linter.unusedVariables false
set_option linter.unusedSimpArgs false
namespace Go.Proofs.Yteeamlidmkpohaa
open Go.RowKit Go.Sort

section
variable {w0 w w' : World} {p ms mo c mk r xb : Nat} {K K' : Ck} {Y Y' Z Z' : Nat → Prop} {D D2 D' : Dk} {lv lv' : Value} {L L' : List RS} {size rd rd' N : Int} {vT vT' : Value} {T T' : List Int}
set_option maxRecDepth 100000 in
set_option maxHeartbeats 4000000 in
theorem lstep_write (h : Tri w0 w p ms mo c mk K Y D r lv L Z D xb size rd vT T) (hi : Inv9 K D T rd size N) (x : Do8) (hx : DoOk w0 w x) (hN : N < 900) (hN0 : 0 ≤ N) (he : x.op % 9 ≤ 1) :
    Calls Try.prog 111 #[.pointer (some ⟨xb, 0, none⟩), x.val] w fun e w' => e = .returned (.bool true) ∧ LfPost w0 w p ms mo c mk r xb (does9 x D) size (N + 1) w' := by
  obtain ⟨q1, q2⟩ := hx.i0
  have hn2 := hx.i2.2
  have hob := heap_alloc_new w (.cells #[.int .i64 x.op, .int .i64 x.sec, .int .i64 x.n, .int .u8 x.byte, x.fv] 134)
  have hbe : Below w.heap.size w (w.alloc (.cells #[.int .i64 x.op, .int .i64 x.sec, .int .i64 x.n, .int .u8 x.byte, x.fv] 134)) := below_alloc' (Below.refl _ _) _
  have hT := h.below hbe
  have k0 := cell_blk hob 0 _ rfl
  have k1 := cell_blk hob 1 _ rfl
  have k2 := cell_blk hob 2 _ rfl
  have k3 := cell_blk hob 3 _ rfl
  have k4 := cell_blk hob 4 _ rfl
  have hbl : w.heap.size < (w.alloc (.cells #[.int .i64 x.op, .int .i64 x.sec, .int .i64 x.n, .int .u8 x.byte, x.fv] 134)).heap.size := by simp
  obtain ⟨c0, c1, c2, c3, c4, c5⟩ := hT.lb.cells
  have HDF : Hid (∀ b, DF p ms mo b → b ≠ w.heap.size) := Lib.hid (fun b e => by have := h.cd.dv.lt b e; omega)
  have hfs := hx.fs.below hbe
  have HFS := Lib.hid hfs
  have HFO := Lib.hid hx.fo
  have HX := Lib.hid hx
  have HI := Lib.hid hi
  have H := Lib.hid h
  have HB := Lib.hid hbe
  clear hi h hbe hx hob hfs
  have hdo : does9 x D = D.writes x.sec (bytes9 x) := by simp [does9, he]
  rw [hdo]
  have hb3 := HX.out.i3
  obtain ⟨y1, y2⟩ := hb3
  obtain ⟨z1, z2⟩ := HX.out.i2
  have hfl := (fullL9_sec x.byte).1
  have HBY := Lib.hid (bytes9_bytey x)
  have HBL := Lib.hid (bytes9_len x)
  have hpk := pick_pos x.op 9
  have HOB : Hid (∀ b, w.heap.size ≤ b → ¬ Qs p ms mo c mk Y b ∧ ¬ Rs r lv Z b ∧ ¬ LF xb vT b) := Lib.hid (fun b e => ⟨fun e2 => by have := (H.out.cd.qs b e2).2; omega, fun e2 => by have := (H.out.rf.rs b e2).2; omega, fun e2 => by have := (H.out.lb.lf b e2).2; omega⟩)
  have hcase : x.op % 9 = 0 ∨ x.op % 9 = 1 := by omega
  generalize x.op % 9 = o at hcase hpk
  have HPK := Lib.hid hpk
  clear hpk hdo he
  unfold Do8.val
  by_cases ht : x.n.tmod 9 = 4
  · have e : bytes9 x = (fullL9 x.byte).take (x.n % 512).toNat := by simp [bytes9, ht]
    rw [e] at HBY HBL ⊢
    have ht1 : (x.n.tmod 9 == 4) = true := by simpa using ht
    have m1 : 0 ≤ x.n % 512 := by omega
    have m2 : x.n % 512 ≤ 512 := by omega
    have m3 : x.n % 512 < 512 := by omega
    clear ht e
    rcases hcase with rfl | rfl
    iterate 2
      · go_enter Try.func111, Try.ntmps111
        go_wp2_with
          (first
            | (go_at_call 31; refine (HPN.out _ (by omega) (by omega) z1 z2).mono ?_; rintro e w3 ⟨rfl, rfl⟩
               generalize hz : x.n % 512 = z at m1 m2 m3 HBY HBL ⊢
               have HZ := Lib.hid hz
               clear hz)
            | (go_at_call 31; refine (HPK.out _ (by omega) (by omega) q1 q2).mono ?_; rintro e w1 ⟨rfl, rfl⟩)
            | (go_at_call 108; refine (full9_any _ _ y1 y2).mono ?_; rintro e w2 ⟨v, rfl, ho, hb2⟩
               have hT2 := hT.below hb2
               have k12 := (hb2.cell (p := ⟨w.heap.size, 1, none⟩) hbl).trans k1
               have k22 := (hb2.cell (p := ⟨w.heap.size, 2, none⟩) hbl).trans k2
               have hv := BytesIs.of_own hfl ho
               have hfr := Lib.hid (own_fresh ho)
               obtain ⟨A, cc, rfl, hc1, hc2, hc3⟩ := hv
               rw [hfl] at hc1 hfr
               have HV : Hid (BytesIs w2 (.slice A (fullL9 x.byte).length cc) (fullL9 x.byte)) := Lib.hid ⟨A, cc, rfl, by omega, hc2, hc3⟩
               have HB2 := Lib.hid hb2
               have HPN := Lib.hid (pick_pos x.n 512)
               rw [hfl]
               clear ho hb2 hc3)
            | (go_at_call 164
               have hvt := BytesIs.take (n := z.toNat) HV.out (by rw [hfl]; omega)
               refine (hT2.lwrite HI.out x.sec hvt HBY.out HBL.out (fun b e => HOB.out b (by have := hfr.out b (slice_block e); simp only [World.size_alloc] at this; omega)) hN).mono ?_
               rintro e w6 ⟨rfl, K6, Y6, lv6, L6, Z6, vT6, T6, rd6, h6, i6, c6⟩))
        go_ret
        rw [HZ.out]
        exact ⟨rfl, K6, Y6, lv6, L6, Z6, vT6, T6, rd6, h6, i6, ((Chg.of_below HB.out).trans (Chg.of_below HB2.out)).trans c6⟩
  · have e : bytes9 x = fullL9 x.byte := by simp [bytes9, ht]
    rw [e] at HBY HBL ⊢
    have ht1 : (x.n.tmod 9 == 4) = false := by simpa using ht
    clear ht e
    rcases hcase with rfl | rfl
    iterate 2
      · go_enter Try.func111, Try.ntmps111
        go_wp2_with
          (first
            | (go_at_call 31; refine (HPK.out _ (by omega) (by omega) q1 q2).mono ?_; rintro e w1 ⟨rfl, rfl⟩)
            | (go_at_call 108; refine (full9_any _ _ y1 y2).mono ?_; rintro e w2 ⟨v, rfl, ho, hb2⟩
               have hT2 := hT.below hb2
               have k12 := (hb2.cell (p := ⟨w.heap.size, 1, none⟩) hbl).trans k1
               have k22 := (hb2.cell (p := ⟨w.heap.size, 2, none⟩) hbl).trans k2
               have HV := Lib.hid (BytesIs.of_own hfl ho)
               have hfr := Lib.hid (own_fresh ho)
               have HB2 := Lib.hid hb2
               clear ho hb2)
            | (go_at_call 164
               refine (hT2.lwrite HI.out x.sec HV.out HBY.out HBL.out (fun b e => HOB.out b (by have := hfr.out b e; simp only [World.size_alloc] at this; omega)) hN).mono ?_
               rintro e w6 ⟨rfl, K6, Y6, lv6, L6, Z6, vT6, T6, rd6, h6, i6, c6⟩))
        go_ret
        exact ⟨rfl, K6, Y6, lv6, L6, Z6, vT6, T6, rd6, h6, i6, ((Chg.of_below HB.out).trans (Chg.of_below HB2.out)).trans c6⟩
theorem Tri.lstep9 (h : Tri w0 w p ms mo c mk K Y D r lv L Z D xb size rd vT T) (hi : Inv9 K D T rd size N) (x : Do8) (hx : DoOk w0 w x) (hN : N < 900) (hN0 : 0 ≤ N) :
    Calls Try.prog 111 #[.pointer (some ⟨xb, 0, none⟩), x.val] w fun e w' => e = .returned (.bool true) ∧ LfPost w0 w p ms mo c mk r xb (does9 x D) size (N + 1) w' := by
  have hc : x.op % 9 ≤ 1 ∨ x.op % 9 = 2 ∨ x.op % 9 = 3 ∨ x.op % 9 = 4 ∨ x.op % 9 = 5 ∨ 6 ≤ x.op % 9 := by omega
  rcases hc with e | e | e | e | e | e
  · exact lstep_write h hi x hx hN hN0 e
  · exact lstep_sync h hi x hx hN e
  · exact lstep_arm h hi x hx hN hN0 e
  · exact lstep_drop h hi x hx hN hN0 e
  · exact lstep_wake h hi x hx hN hN0 e
  · exact lstep_read h hi x hx hN hN0 e
end
end Go.Proofs.Yteeamlidmkpohaa
