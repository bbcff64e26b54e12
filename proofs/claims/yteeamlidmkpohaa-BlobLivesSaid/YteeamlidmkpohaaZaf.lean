/-
  A life: read, in one contract; write.
-/
import Derived.Test.YteeamlidmkpohaaZad
import Derived.Test.YteeamlidmkpohaaZae
import Derived.Deep.RegionHeld3
import Derived.Deep.Slices
set_option linter.unusedVariables false
set_option linter.unusedSimpArgs false
namespace Go.Proofs.Yteeamlidmkpohaa
open Go.RowKit Go.Sort

/-! ### the device, in plain words -/
theorem Dk.crash_opn (D : Dk) : D.crash.opn = D.opn ∧ D.crash.safe = D.safe ∧ D.crash.n = D.n := by
  unfold Dk.crash
  split <;> exact ⟨rfl, rfl, rfl⟩
theorem Dk.latest_of {D D' : Dk} {k : Int} (h1 : D'.opn k = D.opn k) (h2 : D'.safe k = D.safe k) : D'.latest k = D.latest k := by simp [Dk.latest, h1, h2]
theorem Dk.latest_write (D : Dk) (k : Int) (l : List Int) (x : Int) : (D.write k l).latest x = if x = k then l else D.latest x := by
  have h1 : (D.write k l).opn = (D.put k l).opn := (D.put k l).crash_opn.1
  have h2 : (D.write k l).safe = (D.put k l).safe := (D.put k l).crash_opn.2.1
  unfold Dk.latest
  rw [h1, h2]
  by_cases e : x = k
  · simp [Dk.put, e]
  · simp [Dk.put, e]
theorem Dk.write_n (D : Dk) (k : Int) (l : List Int) : (D.write k l).n = D.n := (D.put k l).crash_opn.2.2
theorem Dk.sync_n (D : Dk) : D.sync.n = D.n := by
  obtain ⟨_, _, h3⟩ := D.crash_opn
  unfold Dk.sync
  split
  · exact h3
  · exact h3
theorem Dk.latest_sync (D : Dk) (x : Int) : D.sync.latest x = D.latest x := by
  obtain ⟨h1, h2, h3⟩ := D.crash_opn
  unfold Dk.sync
  split
  · exact Dk.latest_of (by rw [h1]) (by rw [h2])
  · simp only [Dk.latest, Dk.flush, Dk.wiped, Dk.laid, h1, h2]
    cases h : D.opn x <;> simp
theorem Dk.may_nine {D : Dk} {k : Int} (h : D.may k = 9) : D.down = true := by
  unfold Dk.may at h
  split at h
  · assumption
  · split at h
    · cases h
    · split at h <;> cases h
theorem wcode_nine {D : Dk} {k : Int} {l : List Int} (h : D.wcode k l = 9) : (D.writes k l).down = true := by
  unfold Dk.wcode at h
  unfold Dk.writes
  split at h
  · rename_i h1
    rw [if_pos h1]
    exact Dk.may_nine h
  · rename_i h1
    rw [if_neg h1]
    split at h
    · cases h
    · rename_i h2
      rw [if_neg h2]
      cases hd : (D.write k l).down with
      | true => rfl
      | false => rw [hd] at h; cases h
theorem wcode_other {D : Dk} {k : Int} {l : List Int} (h0 : D.wcode k l ≠ 0) (h9 : D.wcode k l ≠ 9) : D.writes k l = D := by
  unfold Dk.wcode at h0 h9
  unfold Dk.writes
  split at h0
  · rename_i h1; rw [if_pos h1]
  · rename_i h1
    rw [if_neg h1] at h9 ⊢
    split at h0
    · rename_i h2; rw [if_pos h2]
    · rename_i h2
      rw [if_neg h2] at h9
      cases hd : (D.write k l).down with
      | true => rw [hd] at h9; exact absurd rfl h9
      | false => rw [hd] at h0; exact absurd rfl h0
theorem wcode_writes {D : Dk} {k : Int} {l : List Int} (h : D.wcode k l = 0) : D.writes k l = D.write k l := by
  obtain ⟨h1, h2, _⟩ := wcode_zero h
  exact (wcode_ok h1 h2).2

section
variable {w0 w w' : World} {p ms mo c mk r x : Nat} {K K' : Ck} {Y Y' Z Z' : Nat → Prop} {D D2 D' : Dk} {lv lv' : Value} {L L' : List RS} {size rd rd' N : Int} {vT vT' : Value} {T T' : List Int}
theorem Tri.lread (h : Tri w0 w p ms mo c mk K Y D r lv L Z D x size rd vT T) (hi : Inv9 K D T rd size N) (k : Int) (hN : N < 900) :
    Calls Try.prog 113 #[.pointer (some ⟨x, 0, none⟩), .int .i64 k] w fun e w' => e = .returned (.bool true) ∧ LfPost w0 w p ms mo c mk r x D size (N + 1) w' := by
  by_cases hm : D.may k = 0
  · refine lread_ok h hi k hN hm rfl ?_
    obtain ⟨hfit, hks⟩ := hi.fit (may_zero hm).1
    have hm1 : 1 ≤ size := by rw [← hi.most]; exact h.cd.ca.m1
    by_cases hk : K.has k
    · left
      refine ⟨hk, ?_⟩
      rcases Int.lt_or_le (placeL T k) 0 with h1 | h1
      · exact absurd (by rw [← hks]; exact Ck.has_keys.1 hk) (placeL_no (n := size.toNat) h1)
      · exact h1
    · right
      refine ⟨hk, ?_⟩
      by_cases h1 : placeL T k < 0
      · exact .inl h1
      · refine .inr ⟨by omega, ?_⟩
        rcases Int.lt_or_le (placeL T k) size with h2 | h2
        · have := placeL_in (T := T) (k := k) (n := size.toNat) (by omega) (by omega)
          rw [← hks] at this
          exact absurd (Ck.has_keys.2 this) hk
        · exact h2
  · refine (lread_no h hi k hN hm).mono ?_
    rintro e w' ⟨rfl, K', Y', lv', L', Z', vT', T', rd', h1, h2, h3⟩
    exact ⟨rfl, K', Y', lv', L', Z', vT', T', rd', h1, h2.mono (by omega), h3⟩

/-- a write is told -/
theorem Inv9.wrote0 (h : Inv9 K D T rd size N) (hm1 : 1 ≤ size) {k : Int} {l : List Int} (hw : D.wcode k l = 0) (hr : WriteRel K D k l K') : Inv9 K' (D.writes k l) (touchL T k) rd size (N + 1) := by
  obtain ⟨w1, w2, w3⟩ := wcode_zero hw
  have hdn := (may_zero w1).1
  rcases hr with ⟨_, u, rfl⟩ | ⟨e, _⟩ | ⟨e, _⟩
  · have hfl := forgetL_len T k
    have hb3 := h.b3
    rw [wcode_writes hw]
    refine ⟨fun _ => ⟨fun e he => ?_, ?_⟩, h.most, touchL_nodup h.nd k, h.rd, ?_, ?_, ?_⟩
    · rw [Dk.latest_write, Dk.write_n]
      rcases keepL_mem he with rfl | ⟨h1, h2⟩
      · exact ⟨by simp, (may_zero w1).2⟩
      · rw [if_neg h2]
        exact (h.fit hdn).1 e h1
    · show (keepL K.C ⟨k, l, u, K.now + 1⟩ K.most).map CE.k = _
      rw [keepL_keys, (h.fit hdn).2, lastN_touch h.nd k (by omega), h.most]
      have : ((size.toNat : Nat) : Int) = size := by omega
      rw [this]
    · show K.now + 1 ≤ N + 1
      have := h.b1; omega
    · show K.hits + K.misses ≤ N + 1
      have := h.b2; omega
    · simp only [touchL, List.length_append, List.length_singleton]
      omega
  · rw [hw] at e; cases e
  · exact absurd hw e
theorem Inv9.wrote9 (h : Inv9 K D T rd size N) {k : Int} {l : List Int} (hw : D.wcode k l = 9) (hr : WriteRel K D k l K') : Inv9 K' (D.writes k l) (forgetL T k) rd size (N + 1) := by
  have hd := wcode_nine hw
  rcases hr with ⟨e, _⟩ | ⟨_, rfl⟩ | ⟨_, e, _⟩
  · rw [hw] at e; cases e
  · have hfl := forgetL_len T k
    have hb3 := h.b3
    refine ⟨fun e => ?_, h.most, forgetL_nodup h.nd k, h.rd, ?_, ?_, ?_⟩
    · rw [hd] at e; cases e
    · show K.now ≤ N + 1
      have := h.b1; omega
    · show K.hits + K.misses ≤ N + 1
      have := h.b2; omega
    · omega
  · exact absurd hw e
theorem Inv9.wroteNo (h : Inv9 K D T rd size N) {k : Int} {l : List Int} (h0 : D.wcode k l ≠ 0) (h9 : D.wcode k l ≠ 9) (hr : WriteRel K D k l K') : Inv9 K' (D.writes k l) T rd size (N + 1) := by
  rw [wcode_other h0 h9]
  rcases hr with ⟨e, _⟩ | ⟨e, _⟩ | ⟨_, _, rfl⟩
  · exact absurd e h0
  · exact absurd e h9
  · exact h.mono (by omega)

set_option maxRecDepth 100000
set_option maxHeartbeats 8000000 in
theorem Tri.lwrite (h : Tri w0 w p ms mo c mk K Y D r lv L Z D x size rd vT T) (hi : Inv9 K D T rd size N) (k : Int) {v : Value} {l : List Int} (hv : BytesIs w v l) (hb : Bytey l) (hl : l.length ≤ 512)
    (hvf : ∀ b, v.ownBlock = some b → ¬ Qs p ms mo c mk Y b ∧ ¬ Rs r lv Z b ∧ ¬ LF x vT b) (hN : N < 900) :
    Calls Try.prog 164 #[.pointer (some ⟨x, 0, none⟩), .int .i64 k, v] w fun e w' => e = .returned (.bool true) ∧ LfPost w0 w p ms mo c mk r x (D.writes k l) size (N + 1) w' := by
  obtain ⟨c0, c1, c2, c3, c4, c5⟩ := h.lb.cells
  have b1 := hi.b1
  have hm1 : 1 ≤ size := by rw [← hi.most]; exact h.cd.ca.m1
  have hTl : T.length ≤ 999 := by have := hi.b3; omega
  have H := Lib.hid h
  have HI := Lib.hid hi
  have HV := Lib.hid hv
  have HB := Lib.hid hb
  have HVF := Lib.hid hvf
  have hnow : K.now < 9223372036854775806 := by omega
  have hgq : ∀ b, b = w.heap.size → ¬ Qs p ms mo c mk Y b := fun b e e2 => by have := (h.cd.qs b e2).2; omega
  have hgr : ∀ b, b = w.heap.size → ¬ Rs r lv Z b := fun b e e2 => by have := (h.rf.rs b e2).2; omega
  have HGQ := Lib.hid hgq
  have HGR := Lib.hid hgr
  clear h hi hv hb hvf hgq hgr
  have hcase : D.wcode k l = 0 ∨ D.wcode k l = 9 ∨ (D.wcode k l ≠ 0 ∧ D.wcode k l ≠ 9) := by omega
  generalize hwc : D.wcode k l = wc at hcase
  have HWC := Lib.hid hwc
  have hww : (wc == wc) = true := by simp
  clear hwc
  have hc0 : (wc = 0 ∧ (wc == 0) = true ∧ (wc == 9) = false) ∨ (wc = 9 ∧ (wc == 0) = false ∧ (wc == 9) = true) ∨ ((wc ≠ 0 ∧ wc ≠ 9) ∧ (wc == 0) = false ∧ (wc == 9) = false) := by
    rcases hcase with rfl | rfl | ⟨h1, h2⟩
    · exact .inl ⟨rfl, rfl, rfl⟩
    · exact .inr (.inl ⟨rfl, rfl, rfl⟩)
    · exact .inr (.inr ⟨⟨h1, h2⟩, by simpa using h1, by simpa using h2⟩)
  clear hcase
  rcases hc0 with ⟨e0, q0, q9⟩ | ⟨e0, q0, q9⟩ | ⟨e0, q0, q9⟩
  iterate 3
    · have HE := Lib.hid e0
      clear e0
      go_enter Try.func164, Try.ntmps164
      go_wp2_with
        (first
          | (go_at_call 75; refine (lentBytes_any _ _ _ HV.out (by omega)).mono ?_; rintro e w2 ⟨rfl, hL2, hb2⟩
             have hT2 := H.out.below hb2
             obtain ⟨d0, d1, d2, d3, d4, d5⟩ := hT2.lb.cells
             have HV2 := Lib.hid (HV.out.below hb2)
             have hgl := hL2.lt
             have hcw := hT2.cd.writes k (hL2.bytes (by omega)) HB.out (fun b e e2 => HGQ.out b (by simpa [Value.ownBlock] using e.symm) (.inl e2)) (fun b e e2 => HGQ.out b (by simpa [Value.ownBlock] using e.symm) (by rw [e2]; exact .inr (.inl (.inl rfl)))) hnow
             have HB2 := Lib.hid hb2
             have HL2 := Lib.hid hL2
             clear hL2 hb2)
          | (go_at_call 107; refine hcw.mono ?_; rintro e w3 ⟨K3, Y3, rfl, hcd3, hc3, hf3, hr3⟩
             rw [HWC.out]
             have hT3 := hT2.cstep hcd3 hc3 hf3
             have HL3 := Lib.hid (HL2.out.chg hc3 (fun e => HGQ.out _ rfl (e.imp id .inl)))
             have HV3 := Lib.hid (HV2.out.chg hc3 (fun b e e2 => (HVF.out b e).1 (e2.imp id .inl)))
             obtain ⟨f0, f1, f2, f3, f4, f5⟩ := hT3.lb.cells
             have HC3 := Lib.hid hc3
             have HF3 := Lib.hid hf3
             have HR3 := Lib.hid hr3
             clear hcw hcd3 hc3 hf3 hr3)
          | (go_at_call 138; refine (hT3.rf.writes k HV3.out HB.out (fun b e e2 => (HVF.out b e).2.1 (.inl e2))).mono ?_; rintro e w4 ⟨lv4, L4, Z4, rfl, hR4, hc4, hm4, hz4⟩
             rw [HWC.out]
             have hT4 := hT3.rstep hR4 hc4 hm4 hz4
             have HL4 := Lib.hid (HL3.out.chg hc4 (fun e => HGR.out _ rfl (.inl e)))
             have HV4 := Lib.hid (HV3.out.chg hc4 (fun b e e2 => (HVF.out b e).2.1 (.inl e2)))
             have HC4 := Lib.hid hc4
             have HM4 := Lib.hid hm4
             have HZ4 := Lib.hid hz4
             clear hR4 hc4 hm4 hz4)
          | (go_at_call 77; refine (keptBytes_any _ _ _ _ HL4.out HV4.out (by omega)).mono ?_; rintro e w5 ⟨rfl, hb5⟩; have hT5 := hT4.below hb5; have HL5 := Lib.hid (HL4.out.below hb5))
          | (go_at_call 78; refine (overBytes_any _ _ _ HL5.out (by omega)).mono ?_; rintro e w6 ⟨rfl, hc6⟩
             have hT6 := hT5.chg hc6 (fun b e => by have := H.out.lb.sz; omega) (fun b e e2 => by
               rcases e with e | e | e
               · exact HGQ.out b e2 (.inl e)
               · exact HGQ.out b e2 (.inr (.inl e))
               · rcases HF3.out b e with e3 | e3
                 · exact HGQ.out b e2 (.inr (.inr e3))
                 · omega) (fun b e e2 => by
               have := HC3.out.size
               rcases e with e | e
               · rcases HM4.out b e with e3 | e3
                 · exact HGR.out b e2 (.inl e3)
                 · omega
               · rcases HZ4.out b e with e3 | e3
                 · exact HGR.out b e2 (.inr e3)
                 · omega) (fun b e e2 => by have := (H.out.lb.lf b e).2; omega)
             obtain ⟨k0, k1, k2, k3, k4, k5⟩ := hT6.lb.cells
             have hC6 : Chg (fun b => w0.heap.size ≤ b) w w6 := ((((Chg.of_below HB2.out).trans (HC3.out.mono (fun b _ e => (hT2.cd.qs b (e.imp id .inl)).1))).trans (HC4.out.mono (fun b _ e => (hT3.rf.mf b e).1))).trans (Chg.of_below hb5)).trans (hc6.mono (fun b _ e => by have := H.out.lb.sz; omega))
             have HC6 := Lib.hid hC6
             have HT6 := Lib.hid hT6
             clear hT2 hT3 hT4 hT5 hT6 hb5 hc6 hC6)
          | (go_at_call 166; refine (HT6.out.lb.touch k hTl).mono ?_; rintro e w9 ⟨vT9, rfl, hl9, hc9, hn9⟩
             have hT9 := HT6.out.lstep hl9 hc9 (fun b e => .inl (hn9 b e)))
          | (go_at_call 203; refine (HT6.out.lb.forget k (by omega)).mono ?_; rintro e w9 ⟨vT9, rfl, hl9, hc9, hn9⟩
             have hT9 := HT6.out.lstep hl9 hc9 (fun b e => .inl (hn9 b e))))
      go_ret
      first
        | exact ⟨rfl, _, _, _, _, _, _, _, _, hT9, HI.out.wrote0 hm1 (HWC.out.trans HE.out) HR3.out, HC6.out.trans (hc9.mono (fun b _ e => by rw [e]; exact H.out.lb.gx))⟩
        | exact ⟨rfl, _, _, _, _, _, _, _, _, hT9, HI.out.wrote9 (HWC.out.trans HE.out) HR3.out, HC6.out.trans (hc9.mono (fun b _ e => by rw [e]; exact H.out.lb.gx))⟩
        | exact ⟨rfl, _, _, _, _, _, _, _, _, HT6.out, HI.out.wroteNo (by rw [HWC.out]; exact HE.out.1) (by rw [HWC.out]; exact HE.out.2) HR3.out, HC6.out⟩
end
end Go.Proofs.Yteeamlidmkpohaa


/-
  A life: step.
-/
set_option linter.unusedVariables false
set_option linter.unusedSimpArgs false
namespace Go.Proofs.Yteeamlidmkpohaa
open Go.RowKit Go.Sort

def bytes9 (x : Do8) : List Int := if x.n.tmod 9 = 4 then (fullL9 x.byte).take (x.n % 512).toNat else fullL9 x.byte
theorem bytes9_bytey (x : Do8) : Bytey (bytes9 x) := by
  unfold bytes9
  split
  · exact Bytey.take (fullL9_sec _).2 _
  · exact (fullL9_sec _).2
theorem bytes9_len (x : Do8) : (bytes9 x).length ≤ 512 := by
  unfold bytes9
  have := (fullL9_sec x.byte).1
  split
  · simp; omega
  · omega
/-- what a step of a cache's life makes of its disk -/
def does9 (x : Do8) (D : Dk) : Dk :=
  if x.op % 9 ≤ 1 then D.writes x.sec (bytes9 x) else if x.op % 9 = 2 then D.syncs else if x.op % 9 = 3 then D.arm x.n else if x.op % 9 = 5 then D.wake x.fs else D

theorem IntsIs.step {F : Nat → Prop} {w w' : World} {v : Value} {fs : List Int} (h : IntsIs w v fs) (hc : Chg F w w') (hF : fs ≠ [] → ∀ k, v.ownBlock = some k → ¬ F k) : IntsIs w' v fs := by
  by_cases hnil : fs = []
  · obtain ⟨A, c, e, u1, u2, u3⟩ := h
    exact ⟨A, c, e, u1, u2, fun j u hu => by rw [hnil] at hu; simp [intsV] at hu⟩
  · exact h.chg hc (hF hnil)

section
variable {w0 w w' : World} {p ms mo c mk r xb : Nat} {K K' : Ck} {Y Y' Z Z' : Nat → Prop} {D D2 D' : Dk} {lv lv' : Value} {L L' : List RS} {size rd rd' N : Int} {vT vT' : Value} {T T' : List Int}
theorem Tri.drew (h : Tri w0 w p ms mo c mk K Y D r lv L Z D2 xb size rd vT T) : Tri w0 w.drew p ms mo c mk K Y D r lv L Z D2 xb size rd vT T :=
  h.chg (F := fun _ => False) ((Chg.refl _ w).drew) (fun _ e => e.elim) (fun _ _ => id) (fun _ _ => id) (fun _ _ => id)
theorem Inv9.syncs (h : Inv9 K D T rd size N) : Inv9 K D.syncs T rd size N := by
  unfold Dk.syncs
  cases hd : D.down with
  | true => simpa using h
  | false =>
    simp only [Bool.false_eq_true, if_false]
    refine ⟨fun _ => ⟨fun e he => ?_, (h.fit hd).2⟩, h.most, h.nd, h.rd, h.b1, h.b2, h.b3⟩
    rw [Dk.latest_sync, Dk.sync_n]
    exact (h.fit hd).1 e he
theorem Inv9.arm (h : Inv9 K D T rd size N) (n : Int) : Inv9 K (D.arm n) T rd size N := by
  unfold Dk.arm
  cases hd : D.down with
  | true => simpa using h
  | false =>
    simp only [Bool.false_eq_true, if_false]
    refine ⟨fun _ => ⟨fun e he => ?_, (h.fit hd).2⟩, h.most, h.nd, h.rd, h.b1, h.b2, h.b3⟩
    exact (h.fit hd).1 e he
theorem Inv9.drop (h : Inv9 K D T rd size N) (hN : 0 ≤ N) (D' : Dk) : Inv9 { K with C := [] } D' [] rd size N :=
  ⟨fun _ => ⟨fun e he => (by cases he), by simp [lastN]⟩, h.most, .nil, h.rd, h.b1, h.b2, by simpa using hN⟩

set_option maxRecDepth 100000
set_option maxHeartbeats 4000000 in
theorem lstep_sync (h : Tri w0 w p ms mo c mk K Y D r lv L Z D xb size rd vT T) (hi : Inv9 K D T rd size N) (x : Do8) (hx : DoOk w0 w x) (hN : N < 900) (he : x.op % 9 = 2) :
    Calls Try.prog 111 #[.pointer (some ⟨xb, 0, none⟩), x.val] w fun e w' => e = .returned (.bool true) ∧ LfPost w0 w p ms mo c mk r xb (does9 x D) size (N + 1) w' := by
  obtain ⟨q1, q2⟩ := hx.i0
  have hob := heap_alloc_new w (.cells #[.int .i64 x.op, .int .i64 x.sec, .int .i64 x.n, .int .u8 x.byte, x.fv] 134)
  have hbe : Below w.heap.size w (w.alloc (.cells #[.int .i64 x.op, .int .i64 x.sec, .int .i64 x.n, .int .u8 x.byte, x.fv] 134)) := below_alloc' (Below.refl _ _) _
  have hT := h.below hbe
  have k0 := cell_blk hob 0 _ rfl
  obtain ⟨c0, c1, c2, c3, c4, c5⟩ := hT.lb.cells
  have hdo : does9 x D = D.syncs := by simp [does9, he]
  rw [hdo]
  have hpk := pick_pos x.op 9
  rw [he] at hpk
  have HPK := Lib.hid hpk
  have HI := Lib.hid hi
  have H := Lib.hid h
  have HB := Lib.hid hbe
  clear hpk hdo he hi h hbe hx hob
  unfold Do8.val
  go_enter Try.func111, Try.ntmps111
  go_wp2_with
    (first
      | (go_at_call 31; refine (HPK.out _ (by omega) (by omega) q1 q2).mono ?_; rintro e w1 ⟨rfl, rfl⟩))
  have hTd := hT.drew
  have hsy := hTd.cd.ca.sync hTd.cd.dv
  have m0 := And.intro hT.lb.cells.1 hT.lb.cells.2.2.1
  have m1 := And.intro hTd.lb.cells.1 hTd.lb.cells.2.2.1
  go_region_held3 (fun w' => w'.cell? ⟨xb, 0, none⟩ = some (.pointer (some ⟨c, 0, none⟩)) ∧ w'.cell? ⟨xb, 2, none⟩ = some (.pointer (some ⟨r, 0, none⟩))) (first | exact m0 | exact m1 | exact m5 | exact m6)
    (first
      | (go_at_call 109; refine hsy.mono ?_
         rintro e w5 ⟨rfl, hD5, hc5⟩
         have hT5 := hTd.cstep (hTd.cd.dstep hD5 hc5) (hc5.mono (fun _ _ e => .inl e)) (Fresh.refl _ _)
         have m5 := And.intro hT5.lb.cells.1 hT5.lb.cells.2.2.1)
      | (go_at_call 139; refine hT5.rf.syncs.mono ?_
         rintro e w6 ⟨L6, rfl, hR6, hc6⟩
         have hT6 := hT5.rstep hR6 hc6 (Fresh.refl _ _) (Fresh.refl _ _)
         have m6 := And.intro hT6.lb.cells.1 hT6.lb.cells.2.2.1))
  go_wp2_with fail
  go_ret
  refine ⟨rfl, _, _, _, _, _, _, _, _, hT6, HI.out.syncs.mono (by omega), ?_⟩
  exact ((Chg.of_below HB.out).drew.trans (hc5.mono (fun b _ e => hTd.cd.dv.df b e))).trans (hc6.mono (fun b _ e => (hT5.rf.mf b e).1))

set_option maxRecDepth 100000 in
set_option maxHeartbeats 4000000 in
theorem lstep_arm (h : Tri w0 w p ms mo c mk K Y D r lv L Z D xb size rd vT T) (hi : Inv9 K D T rd size N) (x : Do8) (hx : DoOk w0 w x) (hN : N < 900) (hN0 : 0 ≤ N) (he : x.op % 9 = 3) :
    Calls Try.prog 111 #[.pointer (some ⟨xb, 0, none⟩), x.val] w fun e w' => e = .returned (.bool true) ∧ LfPost w0 w p ms mo c mk r xb (does9 x D) size (N + 1) w' := by
  obtain ⟨q1, q2⟩ := hx.i0
  have hn2 := hx.i2.2
  have hob := heap_alloc_new w (.cells #[.int .i64 x.op, .int .i64 x.sec, .int .i64 x.n, .int .u8 x.byte, x.fv] 134)
  have hbe : Below w.heap.size w (w.alloc (.cells #[.int .i64 x.op, .int .i64 x.sec, .int .i64 x.n, .int .u8 x.byte, x.fv] 134)) := below_alloc' (Below.refl _ _) _
  have hT := h.below hbe
  have k0 := cell_blk hob 0 _ rfl
  have k1 := cell_blk hob 1 _ rfl
  have k2 := cell_blk hob 2 _ rfl
  have k3 := cell_blk hob 3 _ rfl
  have k4 := cell_blk hob 4 _ rfl
  have hbl : w.heap.size < (w.alloc (.cells #[.int .i64 x.op, .int .i64 x.sec, .int .i64 x.n, .int .u8 x.byte, x.fv] 134)).heap.size := by simp
  obtain ⟨c0, c1, c2, c3, c4, c5⟩ := hT.lb.cells
  have HDF : Hid (∀ b, DF p ms mo b → b ≠ w.heap.size) := Lib.hid (fun b e => by have := h.cd.dv.lt b e; omega)
  have hfs := hx.fs.below hbe
  have HFS := Lib.hid hfs
  have HFO := Lib.hid hx.fo
  have HX := Lib.hid hx
  have HI := Lib.hid hi
  have H := Lib.hid h
  have HB := Lib.hid hbe
  clear hi h hbe hx hob hfs
  have hdo : does9 x D = D.arm x.n := by simp [does9, he]
  rw [hdo]
  have hpk := pick_pos x.op 9
  rw [he] at hpk
  have HPK := Lib.hid hpk
  clear hpk hdo he
  unfold Do8.val
  go_enter Try.func111, Try.ntmps111
  go_wp2_with
    (first
      | (go_at_call 31; refine (HPK.out _ (by omega) (by omega) q1 q2).mono ?_; rintro e w1 ⟨rfl, rfl⟩))
  have hTd := hT.drew
  have ham := hTd.cd.dv.arm x.n hn2
  have m0 := And.intro hT.lb.cells.2.1 k2
  have m1 := And.intro hTd.lb.cells.2.1 k2
  go_region_held3 (fun w' => w'.cell? ⟨xb, 1, none⟩ = some (.pointer (some ⟨p, 0, none⟩)) ∧ w'.cell? ⟨w.heap.size, 2, none⟩ = some (.int .i64 x.n)) (first | exact m0 | exact m1 | exact m5)
    (first
      | (go_at_call 57; refine ham.mono ?_
         rintro e w5 ⟨rfl, hD5, hc5⟩
         have hT5 := hTd.cstep (hTd.cd.dstep hD5 hc5) (hc5.mono (fun _ _ e => .inl e)) (Fresh.refl _ _)
         have k25 := (hc5.cell (p := ⟨w.heap.size, 2, none⟩) hbl (fun e => HDF.out _ e rfl)).trans k2
         have m5 := And.intro hT5.lb.cells.2.1 k25))
  clear m0 m1 m5
  go_wp2_with fail
  have hT5d := hT5.drew
  have har := hT5d.rf.arm x.n hn2
  have n0 := And.intro hT5.lb.cells.2.2.1 k25
  have n1 := And.intro hT5d.lb.cells.2.2.1 k25
  have hbl5 := Nat.lt_of_lt_of_le hbl hc5.size
  go_region_held3 (fun w' => w'.cell? ⟨xb, 2, none⟩ = some (.pointer (some ⟨r, 0, none⟩)) ∧ w'.cell? ⟨w.heap.size, 2, none⟩ = some (.int .i64 x.n)) (first | exact n0 | exact n1 | exact n6)
    (first
      | (go_at_call 140; refine har.mono ?_
         rintro e w6 ⟨rfl, hR6, hc6⟩
         have hT6 := hT5d.rstep hR6 (hc6.mono (fun _ _ e => Or.inl e)) (Fresh.refl _ _) (Fresh.refl _ _)
         have n6 := And.intro hT6.lb.cells.2.2.1 ((hc6.cell (p := ⟨w.heap.size, 2, none⟩) hbl5 (fun e => by have := H.out.rf.lt; simp only at e; omega)).trans k25)))
  go_wp2_with fail
  go_ret
  refine ⟨rfl, _, _, _, _, _, _, _, _, hT6, (HI.out.arm x.n).mono (by omega), ?_⟩
  exact (((Chg.of_below HB.out).drew.trans (hc5.mono (fun b _ e => hTd.cd.dv.df b e))).drew).trans (hc6.mono (fun b _ e => by rw [e]; exact hT5.rf.gr))

set_option maxRecDepth 100000 in
set_option maxHeartbeats 4000000 in
theorem lstep_drop (h : Tri w0 w p ms mo c mk K Y D r lv L Z D xb size rd vT T) (hi : Inv9 K D T rd size N) (x : Do8) (hx : DoOk w0 w x) (hN : N < 900) (hN0 : 0 ≤ N) (he : x.op % 9 = 4) :
    Calls Try.prog 111 #[.pointer (some ⟨xb, 0, none⟩), x.val] w fun e w' => e = .returned (.bool true) ∧ LfPost w0 w p ms mo c mk r xb (does9 x D) size (N + 1) w' := by
  obtain ⟨q1, q2⟩ := hx.i0
  have hn2 := hx.i2.2
  have hob := heap_alloc_new w (.cells #[.int .i64 x.op, .int .i64 x.sec, .int .i64 x.n, .int .u8 x.byte, x.fv] 134)
  have hbe : Below w.heap.size w (w.alloc (.cells #[.int .i64 x.op, .int .i64 x.sec, .int .i64 x.n, .int .u8 x.byte, x.fv] 134)) := below_alloc' (Below.refl _ _) _
  have hT := h.below hbe
  have k0 := cell_blk hob 0 _ rfl
  have k1 := cell_blk hob 1 _ rfl
  have k2 := cell_blk hob 2 _ rfl
  have k3 := cell_blk hob 3 _ rfl
  have k4 := cell_blk hob 4 _ rfl
  have hbl : w.heap.size < (w.alloc (.cells #[.int .i64 x.op, .int .i64 x.sec, .int .i64 x.n, .int .u8 x.byte, x.fv] 134)).heap.size := by simp
  obtain ⟨c0, c1, c2, c3, c4, c5⟩ := hT.lb.cells
  have HDF : Hid (∀ b, DF p ms mo b → b ≠ w.heap.size) := Lib.hid (fun b e => by have := h.cd.dv.lt b e; omega)
  have hfs := hx.fs.below hbe
  have HFS := Lib.hid hfs
  have HFO := Lib.hid hx.fo
  have HX := Lib.hid hx
  have HI := Lib.hid hi
  have H := Lib.hid h
  have HB := Lib.hid hbe
  clear hi h hbe hx hob hfs
  have hdo : does9 x D = D := by simp [does9, he]
  rw [hdo]
  have hpk := pick_pos x.op 9
  rw [he] at hpk
  have HPK := Lib.hid hpk
  clear hpk hdo he
  have hdr := hT.cd.ca.drop
  unfold Do8.val
  go_enter Try.func111, Try.ntmps111
  go_wp2_with
    (first
      | (go_at_call 31; refine (HPK.out _ (by omega) (by omega) q1 q2).mono ?_; rintro e w1 ⟨rfl, rfl⟩)
      | (go_at_call 104; refine hdr.mono ?_; rintro e w6 ⟨rfl, hca6, hc6⟩
         have hT6 := hT.cstep (hT.cd.cstep hca6 hc6 (Fresh.refl _ _)) (hc6.mono (fun _ _ e => .inr e)) (Fresh.refl _ _)
         obtain ⟨d0, d1, d2, d3, d4, d5⟩ := hT6.lb.cells
         have e4 := hT6.lb.free 4))
  go_ret
  refine ⟨rfl, _, _, _, _, _, _, _, _, hT6.lstep (hT6.lb.put (.slice none 0 0) [] (World.ownsRow_nil _ _ _ _) (fun e => by cases e)) (chg_setCell _ _ _ _) (fun b e => by cases e), (HI.out.drop hN0 D).mono (by omega), ?_⟩
  exact ((Chg.of_below HB.out).trans (hc6.mono (fun b _ e => (hT.cd.ca.cf b e).1))).trans ((chg_setCell _ _ _ _).mono (fun b _ e => by rw [e]; exact H.out.lb.gx))

set_option maxRecDepth 100000 in
set_option maxHeartbeats 4000000 in
theorem lstep_wake (h : Tri w0 w p ms mo c mk K Y D r lv L Z D xb size rd vT T) (hi : Inv9 K D T rd size N) (x : Do8) (hx : DoOk w0 w x) (hN : N < 900) (hN0 : 0 ≤ N) (he : x.op % 9 = 5) :
    Calls Try.prog 111 #[.pointer (some ⟨xb, 0, none⟩), x.val] w fun e w' => e = .returned (.bool true) ∧ LfPost w0 w p ms mo c mk r xb (does9 x D) size (N + 1) w' := by
  obtain ⟨q1, q2⟩ := hx.i0
  have hn2 := hx.i2.2
  have hob := heap_alloc_new w (.cells #[.int .i64 x.op, .int .i64 x.sec, .int .i64 x.n, .int .u8 x.byte, x.fv] 134)
  have hbe : Below w.heap.size w (w.alloc (.cells #[.int .i64 x.op, .int .i64 x.sec, .int .i64 x.n, .int .u8 x.byte, x.fv] 134)) := below_alloc' (Below.refl _ _) _
  have hT := h.below hbe
  have k0 := cell_blk hob 0 _ rfl
  have k1 := cell_blk hob 1 _ rfl
  have k2 := cell_blk hob 2 _ rfl
  have k3 := cell_blk hob 3 _ rfl
  have k4 := cell_blk hob 4 _ rfl
  have hbl : w.heap.size < (w.alloc (.cells #[.int .i64 x.op, .int .i64 x.sec, .int .i64 x.n, .int .u8 x.byte, x.fv] 134)).heap.size := by simp
  obtain ⟨c0, c1, c2, c3, c4, c5⟩ := hT.lb.cells
  have HDF : Hid (∀ b, DF p ms mo b → b ≠ w.heap.size) := Lib.hid (fun b e => by have := h.cd.dv.lt b e; omega)
  have hfs := hx.fs.below hbe
  have HFS := Lib.hid hfs
  have HFO := Lib.hid hx.fo
  have HX := Lib.hid hx
  have HI := Lib.hid hi
  have H := Lib.hid h
  have HB := Lib.hid hbe
  clear hi h hbe hx hob hfs
  have hdo : does9 x D = D.wake x.fs := by simp [does9, he]
  rw [hdo]
  have hpk := pick_pos x.op 9
  rw [he] at hpk
  have HPK := Lib.hid hpk
  clear hpk hdo he
  unfold Do8.val
  go_enter Try.func111, Try.ntmps111
  go_wp2_with
    (first
      | (go_at_call 31; refine (HPK.out _ (by omega) (by omega) q1 q2).mono ?_; rintro e w1 ⟨rfl, rfl⟩))
  have hTd := hT.drew
  have hfsd := HFS.out.step (F := fun _ => False) ((Chg.refl _ _).drew) (fun _ _ _ => id)
  have hwk := hTd.cd.dv.wake hfsd (fun hn k e e2 => by have := HFO.out hn k e; have := hTd.cd.dv.df k e2; omega)
  have m0 := And.intro hT.lb.cells.2.1 k4
  have m1 := And.intro hTd.lb.cells.2.1 k4
  go_region_held3 (fun w' => w'.cell? ⟨xb, 1, none⟩ = some (.pointer (some ⟨p, 0, none⟩)) ∧ w'.cell? ⟨w.heap.size, 4, none⟩ = some x.fv) (first | exact m0 | exact m1 | exact m5)
    (first
      | (go_at_call 54; refine hwk.mono ?_
         rintro e w5 ⟨rfl, hD5, hc5⟩
         have hT5 := hTd.cstep (hTd.cd.dstep hD5 hc5) (hc5.mono (fun _ _ e => .inl e)) (Fresh.refl _ _)
         have k45 := (hc5.cell (p := ⟨w.heap.size, 4, none⟩) hbl (fun e => HDF.out _ e rfl)).trans k4
         have m5 := And.intro hT5.lb.cells.2.1 k45))
  clear m0 m1 m5
  have HFS5 := Lib.hid (hfsd.step hc5 (fun hn k e e2 => by have := HFO.out hn k e; have := hTd.cd.dv.df k e2; omega))
  clear hfsd hwk
  go_wp2_with fail
  have hT5d := hT5.drew
  have hrw := hT5d.rf.wake (HFS5.out.step (F := fun _ => False) ((Chg.refl _ _).drew) (fun _ _ _ => id)) (fun hn k e e2 => by have := HFO.out hn k e; have := (hT5d.rf.mf k e2).1; omega)
  have n0 := And.intro hT5.lb.cells.2.2.1 k45
  have n1 := And.intro hT5d.lb.cells.2.2.1 k45
  have hbl5 := Nat.lt_of_lt_of_le hbl hc5.size
  go_region_held3 (fun w' => w'.cell? ⟨xb, 2, none⟩ = some (.pointer (some ⟨r, 0, none⟩)) ∧ w'.cell? ⟨w.heap.size, 4, none⟩ = some x.fv) (first | exact n0 | exact n1 | exact n6)
    (first
      | (go_at_call 74; refine hrw.mono ?_
         rintro e w6 ⟨L6, rfl, hR6, hc6⟩
         have hT6 := hT5d.rstep hR6 hc6 (Fresh.refl _ _) (Fresh.refl _ _)
         have n6 := And.intro hT6.lb.cells.2.2.1 ((hc6.cell (p := ⟨w.heap.size, 4, none⟩) hbl5 (fun e => by have := (H.out.rf.mf _ e).2; simp only at this; omega)).trans k45)))
  clear n0 n1 n6
  have hdr := hT6.cd.ca.drop
  obtain ⟨d0, d1, d2, d3, d4, d5⟩ := hT6.lb.cells
  go_wp2_with
    (first
      | (go_at_call 104; refine hdr.mono ?_; rintro e w7 ⟨rfl, hca7, hc7⟩
         have hT7 := hT6.cstep (hT6.cd.cstep hca7 hc7 (Fresh.refl _ _)) (hc7.mono (fun _ _ e => .inr e)) (Fresh.refl _ _)
         obtain ⟨f0, f1, f2, f3, f4, f5⟩ := hT7.lb.cells
         have e4 := hT7.lb.free 4))
  go_ret
  refine ⟨rfl, _, _, _, _, _, _, _, _, hT7.lstep (hT7.lb.put (.slice none 0 0) [] (World.ownsRow_nil _ _ _ _) (fun e => by cases e)) (chg_setCell _ _ _ _) (fun b e => by cases e), (HI.out.drop hN0 _).mono (by omega), ?_⟩
  exact (((((Chg.of_below HB.out).drew.trans (hc5.mono (fun b _ e => hTd.cd.dv.df b e))).drew).trans (hc6.mono (fun b _ e => (hT5d.rf.mf b e).1))).trans (hc7.mono (fun b _ e => (hT6.cd.ca.cf b e).1))).trans ((chg_setCell _ _ _ _).mono (fun b _ e => by rw [e]; exact H.out.lb.gx))

set_option maxRecDepth 100000 in
set_option maxHeartbeats 4000000 in
theorem lstep_read (h : Tri w0 w p ms mo c mk K Y D r lv L Z D xb size rd vT T) (hi : Inv9 K D T rd size N) (x : Do8) (hx : DoOk w0 w x) (hN : N < 900) (hN0 : 0 ≤ N) (he : 6 ≤ x.op % 9) :
    Calls Try.prog 111 #[.pointer (some ⟨xb, 0, none⟩), x.val] w fun e w' => e = .returned (.bool true) ∧ LfPost w0 w p ms mo c mk r xb (does9 x D) size (N + 1) w' := by
  obtain ⟨q1, q2⟩ := hx.i0
  have hn2 := hx.i2.2
  have hob := heap_alloc_new w (.cells #[.int .i64 x.op, .int .i64 x.sec, .int .i64 x.n, .int .u8 x.byte, x.fv] 134)
  have hbe : Below w.heap.size w (w.alloc (.cells #[.int .i64 x.op, .int .i64 x.sec, .int .i64 x.n, .int .u8 x.byte, x.fv] 134)) := below_alloc' (Below.refl _ _) _
  have hT := h.below hbe
  have k0 := cell_blk hob 0 _ rfl
  have k1 := cell_blk hob 1 _ rfl
  have k2 := cell_blk hob 2 _ rfl
  have k3 := cell_blk hob 3 _ rfl
  have k4 := cell_blk hob 4 _ rfl
  have hbl : w.heap.size < (w.alloc (.cells #[.int .i64 x.op, .int .i64 x.sec, .int .i64 x.n, .int .u8 x.byte, x.fv] 134)).heap.size := by simp
  obtain ⟨c0, c1, c2, c3, c4, c5⟩ := hT.lb.cells
  have HDF : Hid (∀ b, DF p ms mo b → b ≠ w.heap.size) := Lib.hid (fun b e => by have := h.cd.dv.lt b e; omega)
  have hfs := hx.fs.below hbe
  have HFS := Lib.hid hfs
  have HFO := Lib.hid hx.fo
  have HX := Lib.hid hx
  have HI := Lib.hid hi
  have H := Lib.hid h
  have HB := Lib.hid hbe
  clear hi h hbe hx hob hfs
  have hdo : does9 x D = D := by
    unfold does9
    rw [if_neg (by omega), if_neg (by omega), if_neg (by omega), if_neg (by omega)]
  rw [hdo]
  have hlt9 : x.op % 9 < 9 := by omega
  have hrd := hT.lread HI.out x.sec hN
  have hpk := pick_pos x.op 9
  generalize x.op % 9 = o at he hlt9 hpk
  have HPK := Lib.hid hpk
  clear hpk hdo
  have r0 : (o == 0) = false := by simp; omega
  have r1 : (o == 1) = false := by simp; omega
  have r2 : (o == 2) = false := by simp; omega
  have r3 : (o == 3) = false := by simp; omega
  have r4 : (o == 4) = false := by simp; omega
  have r5 : (o == 5) = false := by simp; omega
  unfold Do8.val
  go_enter Try.func111, Try.ntmps111
  go_wp2_with
    (first
      | (go_at_call 31; refine (HPK.out _ (by omega) (by omega) q1 q2).mono ?_; rintro e w1 ⟨rfl, rfl⟩)
      | (go_at_call 113; refine hrd.mono ?_; rintro e w6 ⟨rfl, K6, Y6, lv6, L6, Z6, vT6, T6, rd6, h6, i6, c6⟩))
  go_ret
  exact ⟨rfl, K6, Y6, lv6, L6, Z6, vT6, T6, rd6, h6, i6, (Chg.of_below HB.out).trans c6⟩
end
end Go.Proofs.Yteeamlidmkpohaa


/-
  A life: step, writing; step, in one contract.
-/
set_option linter.unusedVariables false
set_option linter.unusedSimpArgs false
namespace Go.Proofs.Yteeamlidmkpohaa
open Go.RowKit Go.Sort

section
variable {w0 w w' : World} {p ms mo c mk r xb : Nat} {K K' : Ck} {Y Y' Z Z' : Nat → Prop} {D D2 D' : Dk} {lv lv' : Value} {L L' : List RS} {size rd rd' N : Int} {vT vT' : Value} {T T' : List Int}
set_option maxRecDepth 100000 in
set_option maxHeartbeats 4000000 in
theorem lstep_write (h : Tri w0 w p ms mo c mk K Y D r lv L Z D xb size rd vT T) (hi : Inv9 K D T rd size N) (x : Do8) (hx : DoOk w0 w x) (hN : N < 900) (hN0 : 0 ≤ N) (he : x.op % 9 ≤ 1) :
    Calls Try.prog 111 #[.pointer (some ⟨xb, 0, none⟩), x.val] w fun e w' => e = .returned (.bool true) ∧ LfPost w0 w p ms mo c mk r xb (does9 x D) size (N + 1) w' := by
  obtain ⟨q1, q2⟩ := hx.i0
  have hn2 := hx.i2.2
  have hob := heap_alloc_new w (.cells #[.int .i64 x.op, .int .i64 x.sec, .int .i64 x.n, .int .u8 x.byte, x.fv] 134)
  have hbe : Below w.heap.size w (w.alloc (.cells #[.int .i64 x.op, .int .i64 x.sec, .int .i64 x.n, .int .u8 x.byte, x.fv] 134)) := below_alloc' (Below.refl _ _) _
  have hT := h.below hbe
  have k0 := cell_blk hob 0 _ rfl
  have k1 := cell_blk hob 1 _ rfl
  have k2 := cell_blk hob 2 _ rfl
  have k3 := cell_blk hob 3 _ rfl
  have k4 := cell_blk hob 4 _ rfl
  have hbl : w.heap.size < (w.alloc (.cells #[.int .i64 x.op, .int .i64 x.sec, .int .i64 x.n, .int .u8 x.byte, x.fv] 134)).heap.size := by simp
  obtain ⟨c0, c1, c2, c3, c4, c5⟩ := hT.lb.cells
  have HDF : Hid (∀ b, DF p ms mo b → b ≠ w.heap.size) := Lib.hid (fun b e => by have := h.cd.dv.lt b e; omega)
  have hfs := hx.fs.below hbe
  have HFS := Lib.hid hfs
  have HFO := Lib.hid hx.fo
  have HX := Lib.hid hx
  have HI := Lib.hid hi
  have H := Lib.hid h
  have HB := Lib.hid hbe
  clear hi h hbe hx hob hfs
  have hdo : does9 x D = D.writes x.sec (bytes9 x) := by simp [does9, he]
  rw [hdo]
  have hb3 := HX.out.i3
  obtain ⟨y1, y2⟩ := hb3
  obtain ⟨z1, z2⟩ := HX.out.i2
  have hfl := (fullL9_sec x.byte).1
  have HBY := Lib.hid (bytes9_bytey x)
  have HBL := Lib.hid (bytes9_len x)
  have hpk := pick_pos x.op 9
  have HOB : Hid (∀ b, w.heap.size ≤ b → ¬ Qs p ms mo c mk Y b ∧ ¬ Rs r lv Z b ∧ ¬ LF xb vT b) := Lib.hid (fun b e => ⟨fun e2 => by have := (H.out.cd.qs b e2).2; omega, fun e2 => by have := (H.out.rf.rs b e2).2; omega, fun e2 => by have := (H.out.lb.lf b e2).2; omega⟩)
  have hcase : x.op % 9 = 0 ∨ x.op % 9 = 1 := by omega
  generalize x.op % 9 = o at hcase hpk
  have HPK := Lib.hid hpk
  clear hpk hdo he
  unfold Do8.val
  by_cases ht : x.n.tmod 9 = 4
  · have e : bytes9 x = (fullL9 x.byte).take (x.n % 512).toNat := by simp [bytes9, ht]
    rw [e] at HBY HBL ⊢
    have ht1 : (x.n.tmod 9 == 4) = true := by simpa using ht
    have m1 : 0 ≤ x.n % 512 := by omega
    have m2 : x.n % 512 ≤ 512 := by omega
    have m3 : x.n % 512 < 512 := by omega
    clear ht e
    rcases hcase with rfl | rfl
    iterate 2
      · go_enter Try.func111, Try.ntmps111
        go_wp2_with
          (first
            | (go_at_call 31; refine (HPN.out _ (by omega) (by omega) z1 z2).mono ?_; rintro e w3 ⟨rfl, rfl⟩
               generalize hz : x.n % 512 = z at m1 m2 m3 HBY HBL ⊢
               have HZ := Lib.hid hz
               clear hz)
            | (go_at_call 31; refine (HPK.out _ (by omega) (by omega) q1 q2).mono ?_; rintro e w1 ⟨rfl, rfl⟩)
            | (go_at_call 108; refine (full9_any _ _ y1 y2).mono ?_; rintro e w2 ⟨v, rfl, ho, hb2⟩
               have hT2 := hT.below hb2
               have k12 := (hb2.cell (p := ⟨w.heap.size, 1, none⟩) hbl).trans k1
               have k22 := (hb2.cell (p := ⟨w.heap.size, 2, none⟩) hbl).trans k2
               have hv := BytesIs.of_own hfl ho
               have hfr := Lib.hid (own_fresh ho)
               obtain ⟨A, cc, rfl, hc1, hc2, hc3⟩ := hv
               rw [hfl] at hc1 hfr
               have HV : Hid (BytesIs w2 (.slice A (fullL9 x.byte).length cc) (fullL9 x.byte)) := Lib.hid ⟨A, cc, rfl, by omega, hc2, hc3⟩
               have HB2 := Lib.hid hb2
               have HPN := Lib.hid (pick_pos x.n 512)
               rw [hfl]
               clear ho hb2 hc3)
            | (go_at_call 164
               have hvt := BytesIs.take (n := z.toNat) HV.out (by rw [hfl]; omega)
               refine (hT2.lwrite HI.out x.sec hvt HBY.out HBL.out (fun b e => HOB.out b (by have := hfr.out b (slice_block e); simp only [World.size_alloc] at this; omega)) hN).mono ?_
               rintro e w6 ⟨rfl, K6, Y6, lv6, L6, Z6, vT6, T6, rd6, h6, i6, c6⟩))
        go_ret
        rw [HZ.out]
        exact ⟨rfl, K6, Y6, lv6, L6, Z6, vT6, T6, rd6, h6, i6, ((Chg.of_below HB.out).trans (Chg.of_below HB2.out)).trans c6⟩
  · have e : bytes9 x = fullL9 x.byte := by simp [bytes9, ht]
    rw [e] at HBY HBL ⊢
    have ht1 : (x.n.tmod 9 == 4) = false := by simpa using ht
    clear ht e
    rcases hcase with rfl | rfl
    iterate 2
      · go_enter Try.func111, Try.ntmps111
        go_wp2_with
          (first
            | (go_at_call 31; refine (HPK.out _ (by omega) (by omega) q1 q2).mono ?_; rintro e w1 ⟨rfl, rfl⟩)
            | (go_at_call 108; refine (full9_any _ _ y1 y2).mono ?_; rintro e w2 ⟨v, rfl, ho, hb2⟩
               have hT2 := hT.below hb2
               have k12 := (hb2.cell (p := ⟨w.heap.size, 1, none⟩) hbl).trans k1
               have k22 := (hb2.cell (p := ⟨w.heap.size, 2, none⟩) hbl).trans k2
               have HV := Lib.hid (BytesIs.of_own hfl ho)
               have hfr := Lib.hid (own_fresh ho)
               have HB2 := Lib.hid hb2
               clear ho hb2)
            | (go_at_call 164
               refine (hT2.lwrite HI.out x.sec HV.out HBY.out HBL.out (fun b e => HOB.out b (by have := hfr.out b e; simp only [World.size_alloc] at this; omega)) hN).mono ?_
               rintro e w6 ⟨rfl, K6, Y6, lv6, L6, Z6, vT6, T6, rd6, h6, i6, c6⟩))
        go_ret
        exact ⟨rfl, K6, Y6, lv6, L6, Z6, vT6, T6, rd6, h6, i6, ((Chg.of_below HB.out).trans (Chg.of_below HB2.out)).trans c6⟩
theorem Tri.lstep9 (h : Tri w0 w p ms mo c mk K Y D r lv L Z D xb size rd vT T) (hi : Inv9 K D T rd size N) (x : Do8) (hx : DoOk w0 w x) (hN : N < 900) (hN0 : 0 ≤ N) :
    Calls Try.prog 111 #[.pointer (some ⟨xb, 0, none⟩), x.val] w fun e w' => e = .returned (.bool true) ∧ LfPost w0 w p ms mo c mk r xb (does9 x D) size (N + 1) w' := by
  have hc : x.op % 9 ≤ 1 ∨ x.op % 9 = 2 ∨ x.op % 9 = 3 ∨ x.op % 9 = 4 ∨ x.op % 9 = 5 ∨ 6 ≤ x.op % 9 := by omega
  rcases hc with e | e | e | e | e | e
  · exact lstep_write h hi x hx hN hN0 e
  · exact lstep_sync h hi x hx hN e
  · exact lstep_arm h hi x hx hN hN0 e
  · exact lstep_drop h hi x hx hN hN0 e
  · exact lstep_wake h hi x hx hN hN0 e
  · exact lstep_read h hi x hx hN hN0 e
end
end Go.Proofs.Yteeamlidmkpohaa


/-
  A cache whose bytes are those of its device: Read and Write keep it so. Two such caches and a device, apart.
-/
set_option linter.unusedVariables false
set_option linter.unusedSimpArgs false
namespace Go.Proofs.Yteeamlidmkpohaa
open Go.RowKit Go.Sort

structure FitN (K : Ck) (D : Dk) (N : Int) : Prop where
  fit : D.down = false → K.fit D
  b1 : K.now ≤ N
  b2 : K.hits + K.misses ≤ N

section
variable {w0 w w' : World} {p ms mo c mk : Nat} {K K' : Ck} {Y Y' : Nat → Prop} {D D' : Dk} {N : Int}
theorem FitN.mono (h : FitN K D N) {M : Int} (hM : N ≤ M) : FitN K D M := ⟨h.fit, Int.le_trans h.b1 hM, Int.le_trans h.b2 hM⟩
theorem FitN.new {D : Dk} {n : Int} : FitN ⟨n, 0, 0, 0, []⟩ D 0 := ⟨fun _ e he => (by cases he), by simp, by simp⟩
theorem FitN.drop (h : FitN K D N) (D' : Dk) : FitN { K with C := [] } D' N := ⟨fun _ e he => (by cases he), h.b1, h.b2⟩
theorem FitN.read (h : FitN K D N) {k : Int} (hr : ReadRel K D k K') : FitN K' D (N + 1) ∧ K'.most = K.most := by
  have h1 := h.b1
  have h2 := h.b2
  rcases hr with ⟨_, rfl⟩ | ⟨hm, u, ⟨_, rfl⟩ | ⟨_, rfl⟩⟩
  · exact ⟨h.mono (by omega), rfl⟩
  · refine ⟨⟨fun hd => Ck.fit_touch (v := u) (h.fit hd) hm rfl, ?_, ?_⟩, rfl⟩
    · show K.now + 1 ≤ N + 1; omega
    · show K.hits + 1 + K.misses ≤ N + 1; omega
  · refine ⟨⟨fun hd => Ck.fit_touch (v := u) (h.fit hd) hm rfl, ?_, ?_⟩, rfl⟩
    · show K.now + 1 ≤ N + 1; omega
    · show K.hits + (K.misses + 1) ≤ N + 1; omega
theorem wcode_down {D : Dk} {k : Int} {l : List Int} (h : D.wcode k l = 9) : (D.writes k l).down = true := by
  unfold Dk.wcode at h
  unfold Dk.writes
  by_cases h1 : D.may k = 0
  · rw [if_neg (by simp [h1])] at h ⊢
    split at h
    · cases h
    · rename_i h2
      rw [if_neg h2]
      cases hd : (D.write k l).down with
      | true => rfl
      | false => rw [hd] at h; cases h
  · rw [if_pos h1] at h ⊢
    unfold Dk.may at h
    cases hd : D.down with
    | true => rfl
    | false =>
      rw [hd] at h
      simp only [Bool.false_eq_true, if_false] at h
      split at h
      · cases h
      · split at h <;> cases h
theorem FitN.write (h : FitN K D N) {k : Int} {l : List Int} (hr : WriteRel K D k l K') : FitN K' (D.writes k l) (N + 1) ∧ K'.most = K.most := by
  have h1 := h.b1
  have h2 := h.b2
  rcases hr with ⟨hw, u, rfl⟩ | ⟨hw, rfl⟩ | ⟨hw0, hw9, rfl⟩
  · obtain ⟨w1, w2, w3⟩ := wcode_zero hw
    rw [wcode_writes hw]
    refine ⟨⟨fun _ e he => ?_, ?_, ?_⟩, rfl⟩
    · rw [Dk.latest_write, Dk.write_n]
      rcases keepL_mem he with rfl | ⟨h1, h2⟩
      · exact ⟨by simp, (may_zero w1).2⟩
      · rw [if_neg h2]
        exact h.fit (may_zero w1).1 e h1
    · show K.now + 1 ≤ N + 1; omega
    · show K.hits + K.misses ≤ N + 1; omega
  · refine ⟨⟨fun hd => ?_, ?_, ?_⟩, rfl⟩
    · rw [wcode_down hw] at hd; cases hd
    · show K.now ≤ N + 1; omega
    · show K.hits + K.misses ≤ N + 1; omega
  · rw [wcode_other hw0 hw9]
    exact ⟨h.mono (by omega), rfl⟩
theorem FitN.syncs (h : FitN K D N) : FitN K D.syncs N := by
  unfold Dk.syncs
  cases hd : D.down with
  | true => simpa using h
  | false =>
    simp only [Bool.false_eq_true, if_false]
    refine ⟨fun _ e he => ?_, h.b1, h.b2⟩
    rw [Dk.latest_sync, Dk.sync_n]
    exact h.fit hd e he
theorem FitN.arm (h : FitN K D N) (n : Int) : FitN K (D.arm n) N := by
  unfold Dk.arm
  cases hd : D.down with
  | true => simpa using h
  | false =>
    simp only [Bool.false_eq_true, if_false]
    exact ⟨fun _ e he => h.fit hd e he, h.b1, h.b2⟩

theorem CD.readsF (h : CD w0 w p ms mo c mk K Y D) (hi : FitN K D N) (k : Int) (hN : N < 1000000000) :
    Calls Try.prog 105 #[.pointer (some ⟨c, 0, none⟩), .int .i64 k] w fun e w' => ∃ v K' Y', e = .returned (.tuple #[v, .int .i64 (D.may k)]) ∧ w'.ownsRow w.heap.size 5 1 v (D.rbytes k).length (bytesV (D.rbytes k)) ∧ (∀ b, v.ownBlock = some b → ¬ Y' b) ∧
      CD w0 w' p ms mo c mk K' Y' D ∧ FitN K' D (N + 1) ∧ Chg (CF c mk) w w' ∧ Fresh w Y Y' := by
  have b1 := hi.b1
  have b2 := hi.b2
  have h1 := h.ca.h0
  have h2 := h.ca.s0
  refine (h.reads hi.fit k (by omega) (by omega) (by omega)).mono ?_
  rintro e w' ⟨v, K', Y', rfl, ho, hy, hcd, hc, hf, hr⟩
  exact ⟨v, K', Y', rfl, ho, hy, hcd, (hi.read hr).1, hc, hf⟩
theorem CD.writesF (h : CD w0 w p ms mo c mk K Y D) (hi : FitN K D N) (k : Int) {v : Value} {l : List Int} (hv : BytesIs w v l) (hb : Bytey l) (hvd : ∀ b, v.ownBlock = some b → ¬ DF p ms mo b) (hvc : ∀ b, v.ownBlock = some b → b ≠ c) (hN : N < 1000000000) :
    Calls Try.prog 107 #[.pointer (some ⟨c, 0, none⟩), .int .i64 k, v] w fun e w' => ∃ K' Y', e = .returned (.int .i64 (D.wcode k l)) ∧
      CD w0 w' p ms mo c mk K' Y' (D.writes k l) ∧ FitN K' (D.writes k l) (N + 1) ∧ Chg (fun b => DF p ms mo b ∨ CF c mk b) w w' ∧ Fresh w Y Y' := by
  have b1 := hi.b1
  refine (h.writes k hv hb hvd hvc (by omega)).mono ?_
  rintro e w' ⟨K', Y', rfl, hcd, hc, hf, hr⟩
  exact ⟨K', Y', rfl, hcd, (hi.write hr).1, hc, hf⟩
end

theorem Dk.writes_n (D : Dk) (k : Int) (l : List Int) : (D.writes k l).n = D.n := by
  unfold Dk.writes
  split
  · rfl
  · split
    · rfl
    · exact Dk.write_n D k l
theorem Dk.syncs_n (D : Dk) : D.syncs.n = D.n := by
  unfold Dk.syncs
  split
  · rfl
  · exact Dk.sync_n D

/-- two caches over devices of their own, and a device alone; all apart -/
structure Trio (w0 w : World) (p ms mo c mk : Nat) (K : Ck) (Y : Nat → Prop) (D : Dk) (p2 ms2 mo2 c2 mk2 : Nat) (K2 : Ck) (Y2 : Nat → Prop) (D2 : Dk) (p3 ms3 mo3 : Nat) (D3 : Dk) : Prop where
  a : CD w0 w p ms mo c mk K Y D
  b : CD w0 w p2 ms2 mo2 c2 mk2 K2 Y2 D2
  d : Dev w0 w p3 ms3 mo3 D3
  ab : ∀ b, Qs p ms mo c mk Y b → ¬ Qs p2 ms2 mo2 c2 mk2 Y2 b
  ad : ∀ b, Qs p ms mo c mk Y b → ¬ DF p3 ms3 mo3 b
  bd : ∀ b, Qs p2 ms2 mo2 c2 mk2 Y2 b → ¬ DF p3 ms3 mo3 b
section
variable {w0 w w' : World} {p ms mo c mk p2 ms2 mo2 c2 mk2 p3 ms3 mo3 : Nat} {K K' K2 : Ck} {Y Y' Y2 : Nat → Prop} {D D' D2 D3 : Dk} {N : Int}
theorem Trio.below (h : Trio w0 w p ms mo c mk K Y D p2 ms2 mo2 c2 mk2 K2 Y2 D2 p3 ms3 mo3 D3) (hb : Below w.heap.size w w') : Trio w0 w' p ms mo c mk K Y D p2 ms2 mo2 c2 mk2 K2 Y2 D2 p3 ms3 mo3 D3 :=
  ⟨h.a.below hb, h.b.below hb, h.d.below hb, h.ab, h.ad, h.bd⟩
theorem qs_fresh {w : World} (hc : Fresh w Y Y') : ∀ b, Qs p ms mo c mk Y' b → Qs p ms mo c mk Y b ∨ w.heap.size ≤ b := fun b e => by
  rcases e with e | e | e
  · exact .inl (.inl e)
  · exact .inl (.inr (.inl e))
  · exact (hc b e).imp (fun e => .inr (.inr e)) id
theorem Trio.astep (h : Trio w0 w p ms mo c mk K Y D p2 ms2 mo2 c2 mk2 K2 Y2 D2 p3 ms3 mo3 D3) (hd : CD w0 w' p ms mo c mk K' Y' D') (hc : Chg (fun b => DF p ms mo b ∨ CF c mk b) w w') (hf : Fresh w Y Y') : Trio w0 w' p ms mo c mk K' Y' D' p2 ms2 mo2 c2 mk2 K2 Y2 D2 p3 ms3 mo3 D3 := by
  have hq : ∀ b, (DF p ms mo b ∨ CF c mk b) → Qs p ms mo c mk Y b := fun b e => e.imp id .inl
  have h0 : ∀ b, (DF p ms mo b ∨ CF c mk b) → w0.heap.size ≤ b := fun b e => (h.a.qs b (hq b e)).1
  refine ⟨hd, h.b.chg hc h0 (fun b e e2 => h.ab b (hq b e2) (.inl e)) (fun b e e2 => h.ab b (hq b e2) (.inr (.inl e))) (fun b e e2 => h.ab b (hq b e2) (.inr (.inr e))), h.d.chg hc h0 (fun b e e2 => h.ad b (hq b e2) e), fun b e e2 => ?_, fun b e e2 => ?_, h.bd⟩
  · rcases qs_fresh hf b e with e3 | e3
    · exact h.ab b e3 e2
    · have := (h.b.qs b e2).2; omega
  · rcases qs_fresh hf b e with e3 | e3
    · exact h.ad b e3 e2
    · have := h.d.lt b e2; omega
theorem Trio.bstep {K2' : Ck} {Y2' : Nat → Prop} {D2' : Dk} (h : Trio w0 w p ms mo c mk K Y D p2 ms2 mo2 c2 mk2 K2 Y2 D2 p3 ms3 mo3 D3) (hd : CD w0 w' p2 ms2 mo2 c2 mk2 K2' Y2' D2') (hc : Chg (fun b => DF p2 ms2 mo2 b ∨ CF c2 mk2 b) w w') (hf : Fresh w Y2 Y2') : Trio w0 w' p ms mo c mk K Y D p2 ms2 mo2 c2 mk2 K2' Y2' D2' p3 ms3 mo3 D3 := by
  have hq : ∀ b, (DF p2 ms2 mo2 b ∨ CF c2 mk2 b) → Qs p2 ms2 mo2 c2 mk2 Y2 b := fun b e => e.imp id .inl
  have h0 : ∀ b, (DF p2 ms2 mo2 b ∨ CF c2 mk2 b) → w0.heap.size ≤ b := fun b e => (h.b.qs b (hq b e)).1
  refine ⟨h.a.chg hc h0 (fun b e e2 => h.ab b (.inl e) (hq b e2)) (fun b e e2 => h.ab b (.inr (.inl e)) (hq b e2)) (fun b e e2 => h.ab b (.inr (.inr e)) (hq b e2)), hd, h.d.chg hc h0 (fun b e e2 => h.bd b (hq b e2) e), fun b e e2 => ?_, h.ad, fun b e e2 => ?_⟩
  · rcases qs_fresh hf b e2 with e3 | e3
    · exact h.ab b e e3
    · have := (h.a.qs b e).2; omega
  · rcases qs_fresh hf b e with e3 | e3
    · exact h.bd b e3 e2
    · have := h.d.lt b e2; omega
theorem Trio.dstep {D3' : Dk} (h : Trio w0 w p ms mo c mk K Y D p2 ms2 mo2 c2 mk2 K2 Y2 D2 p3 ms3 mo3 D3) (hd : Dev w0 w' p3 ms3 mo3 D3') (hc : Chg (DF p3 ms3 mo3) w w') : Trio w0 w' p ms mo c mk K Y D p2 ms2 mo2 c2 mk2 K2 Y2 D2 p3 ms3 mo3 D3' := by
  have h0 := h.d.df
  exact ⟨h.a.chg hc h0 (fun b e e2 => h.ad b (.inl e) e2) (fun b e e2 => h.ad b (.inr (.inl e)) e2) (fun b e e2 => h.ad b (.inr (.inr e)) e2), h.b.chg hc h0 (fun b e e2 => h.bd b (.inl e) e2) (fun b e e2 => h.bd b (.inr (.inl e)) e2) (fun b e e2 => h.bd b (.inr (.inr e)) e2), hd, h.ab, h.ad, h.bd⟩
end
end Go.Proofs.Yteeamlidmkpohaa


/-
  step: a sector is written.
-/
set_option linter.unusedVariables false
set_option linter.unusedSimpArgs false
namespace Go.Proofs.Yteeamlidmkpohaa
open Go.RowKit Go.Sort

section
variable {w0 w w' : World} {p ms mo r : Nat} {lv : Value} {L : List RS} {Y : Nat → Prop} {D : Dk}
/-- behind the step a block of its own is written -/
theorem StepPost.over {wm w1 : World} {D' : Dk} {g : Nat} (h : StepPost w0 wm p ms mo r lv Y D' w1) (hb : Below w.heap.size w wm) (hc : Chg (fun b => b = g) w1 w') (hw0 : w0.heap.size ≤ w.heap.size) (hgn : w.heap.size ≤ g) (hgl : g < wm.heap.size)
    (n1 : ¬ DF p ms mo g) (n2 : ¬ MF r lv g) (n3 : ¬ Y g) : StepPost w0 w p ms mo r lv Y D' w' := by
  obtain ⟨lv', L', Y', h1, h2, h3, h4⟩ := h
  refine ⟨lv', L', Y', h1.chg hc (fun k e => by omega) (fun k e e2 => n1 (by rw [← e2]; exact e)) (fun k e e2 => ?_) (fun k e e2 => ?_), ((Chg.of_below hb).trans h2).then hc (fun i hi e => by omega), fun b e => (h3 b e).imp id (fun e => Nat.le_trans hb.size e), fun b e => (h4 b e).imp id (fun e => Nat.le_trans hb.size e)⟩
  · rcases h3 k e with e3 | e3
    · exact n2 (by rw [← e2]; exact e3)
    · omega
  · rcases h4 k e with e3 | e3
    · exact n3 (by rw [← e2]; exact e3)
    · omega

set_option maxRecDepth 100000
set_option maxHeartbeats 4000000 in
theorem step_write (h : Pair w0 w p ms mo r lv L Y D) (x : Do8) (hx : DoOk w0 w x) (hk : x.op % 8 ≤ 2) :
    Calls Try.prog 71 #[.pointer (some ⟨p, 0, none⟩), .pointer (some ⟨r, 0, none⟩), x.val] w fun e w' => e = .returned (.bool true) ∧ StepPost w0 w p ms mo r lv Y (x.does D) w' := by
  obtain ⟨q1, q2⟩ := hx.i0
  have hi2 := Lib.hid hx.i2
  have hi3 := Lib.hid hx.i3
  have hob := heap_alloc_new w (.cells #[.int .i64 x.op, .int .i64 x.sec, .int .i64 x.n, .int .u8 x.byte, x.fv] 43)
  have hP := h.alloc (.cells #[.int .i64 x.op, .int .i64 x.sec, .int .i64 x.n, .int .u8 x.byte, x.fv] 43)
  have hbe : Below w.heap.size w (w.alloc (.cells #[.int .i64 x.op, .int .i64 x.sec, .int .i64 x.n, .int .u8 x.byte, x.fv] 43)) := below_alloc' (Below.refl _ _) _
  have HB := Lib.hid hbe
  obtain ⟨Af, cf, hfv, _, _, _⟩ := hx.fs
  have HFV := Lib.hid hfv
  clear hbe
  have k0 := cell_blk hob 0 _ rfl
  have k1 := cell_blk hob 1 _ rfl
  have hbl : w.heap.size < (w.alloc (.cells #[.int .i64 x.op, .int .i64 x.sec, .int .i64 x.n, .int .u8 x.byte, x.fv] 43)).heap.size := by simp
  have hsz : w0.heap.size ≤ w.heap.size := h.rf.sz
  have hll : x.bytes.length ≤ 512 := x.bytes_len
  have hby := Lib.hid x.bytes_bytey
  have H := Lib.hid h
  clear h hx hob hfv
  have hbd : ∀ k, DF p ms mo k → k < w.heap.size := fun k e => H.out.dv.lt k e
  have hbm : ∀ k, MF r lv k → k < w.heap.size := fun k e => (H.out.rf.mf k e).2
  have hby' : ∀ k, Y k → k < w.heap.size := fun k e => (H.out.rf.y k e).2.1
  have HBD := Lib.hid hbd
  have HBM := Lib.hid hbm
  have HBY := Lib.hid hby'
  clear hbd hbm hby'
  have hdo : x.does D = D.writes x.sec x.bytes := by simp [Do8.does, hk]
  rw [hdo]
  have hcase : x.op % 8 = 0 ∨ x.op % 8 = 1 ∨ x.op % 8 = 2 := by omega
  have hbyt := doBytes_any
  have HBT := Lib.hid hbyt
  clear hdo hk hbyt
  unfold Do8.val
  rcases hcase with e | e | e
  iterate 3
    · have hpk := pick_pos x.op 8
      rw [e] at hpk
      have HPK := Lib.hid hpk
      clear hpk e
      go_enter Try.func71, Try.ntmps71
      go_wp2_with
        (first
          | (go_at_call 31; refine (HPK.out _ (by omega) (by omega) q1 q2).mono ?_; rintro e w1 ⟨rfl, rfl⟩)
          | (go_at_call 137; refine (HBT.out _ x hi2.out hi3.out).mono ?_; rintro e w2 ⟨vb, rfl, hvb, hfb, hb2⟩; have hP2 := hP.below hb2; have k1a := (hb2.cell (p := ⟨w.heap.size, 1, none⟩) hbl).trans k1; have hbl2 := Nat.lt_of_lt_of_le hbl hb2.size; have HV2 := Lib.hid hvb; have HFB := Lib.hid hfb; have HB2 := Lib.hid hb2; clear hvb hfb hb2)
          | (go_at_call 75; refine (lentBytes_any _ _ _ HV2.out (by omega)).mono ?_; rintro e w4 ⟨rfl, hL4, hb4⟩; have hP4 := hP2.below hb4; have k1b := (hb4.cell (p := ⟨w.heap.size, 1, none⟩) hbl2).trans k1a; have hbl4 := Nat.lt_of_lt_of_le hbl2 hb4.size; have HL4 := Lib.hid hL4; have HV4 := Lib.hid (HV2.out.below hb4); have HB4 := Lib.hid hb4; have hb2s : Hid (w.heap.size < w2.heap.size) := Lib.hid hbl2; clear hL4 hb4))
      have hP4' := hP4.drew
      have HL4d : Hid (LentB w4.drew w2.heap.size x.bytes) := Lib.hid (HL4.out.chg (F := fun _ => False) (Chg.refl _ _).drew id)
      have HV4d : Hid (BytesIs w4.drew vb x.bytes) := Lib.hid HV4.out.drew
      have hdw := hP4'.dv.writes x.sec (HL4d.out.bytes (by omega)) hby.out
      have k1c : w4.drew.cell? ⟨w.heap.size, 1, none⟩ = some (.int .i64 x.sec) := k1b
      go_region_held3 (fun w' => w'.cell? ⟨w.heap.size, 1, none⟩ = some (.int .i64 x.sec)) (first | exact k1b | exact k1c | exact m5 | exact m6 | exact m7)
        (first
          | (go_at_call 52; refine hdw.mono ?_
             rintro e w5 ⟨rfl, hD5, hc5⟩
             have hmid := hP4'.mid hc5
             have m5 : w5.cell? ⟨w.heap.size, 1, none⟩ = some (.int .i64 x.sec) := (hc5.cell (p := ⟨w.heap.size, 1, none⟩) hbl4 (fun e => Nat.lt_irrefl _ (HBD.out _ e))).trans k1c
             have hbl5 := Nat.lt_of_lt_of_le hbl4 hc5.size
             have HL5 := Lib.hid (HL4d.out.chg hc5 (fun e => by have := HBD.out _ e; have := hb2s.out; omega))
             have HV5 := Lib.hid (HV4d.out.chg hc5 (fun b e e2 => by have h1 := HBD.out _ e2; have h2 := HFB.out b e; simp only [World.size_alloc] at h2; omega)))
          | (go_at_call 138; refine (hmid.writes _ HV5.out hby.out (fun b e e2 => by have h1 := HBM.out _ e2; have h2 := HFB.out b e; simp only [World.size_alloc] at h2; omega)).mono ?_
             rintro e w6 ⟨lv6, L6, Y6, rfl, hR6, hc6, hm6, hy6⟩
             have m6 : w6.cell? ⟨w.heap.size, 1, none⟩ = some (.int .i64 x.sec) := (hc6.cell (p := ⟨w.heap.size, 1, none⟩) hbl5 (fun e => Nat.lt_irrefl _ (HBM.out _ e))).trans m5
             have hbl6 := Nat.lt_of_lt_of_le hbl5 hc6.size
             have HL6 := Lib.hid (HL5.out.chg hc6 (fun e => by have := HBM.out _ e; have := hb2s.out; omega))
             have HV6 := Lib.hid (HV5.out.chg hc6 (fun b e e2 => by have h1 := HBM.out _ e2; have h2 := HFB.out b e; simp only [World.size_alloc] at h2; omega)))
          | (go_at_call 77; refine (keptBytes_any _ _ _ _ HL6.out HV6.out (by omega)).mono ?_
             rintro e w7 ⟨rfl, hb7⟩
             have m7 : w7.cell? ⟨w.heap.size, 1, none⟩ = some (.int .i64 x.sec) := (hb7.cell (p := ⟨w.heap.size, 1, none⟩) hbl6).trans m6
             have HL7 := Lib.hid (HL6.out.below hb7)))
      have hst : StepPost w0 w4.drew p ms mo r lv Y (D.writes x.sec x.bytes) w7 := StepPost.below ⟨_, _, _, hP4'.step hD5 hc5 hR6 hc6 hm6 hy6⟩ hb7
      have HST := Lib.hid hst
      clear hst hb7 m5 m6 m7 hc5 hc6 hm6 hy6 hR6 hD5 hmid
      go_wp2_with
        (first
          | (go_at_call 78; refine (overBytes_any _ _ _ HL7.out (by omega)).mono ?_; rintro e w8 ⟨rfl, hc8⟩))
      go_ret
      refine ⟨rfl, HST.out.over ?_ hc8 hsz (Nat.le_of_lt hb2s.out) ?_ (fun e => ?_) (fun e => ?_) (fun e => ?_)⟩
      · exact below_trans' (below_trans' HB.out HB2.out) HB4.out |>.drew
      · exact LentB.lt HL4.out
      · have := HBD.out _ e; have := hb2s.out; omega
      · have := HBM.out _ e; have := hb2s.out; omega
      · have := HBY.out _ e; have := hb2s.out; omega
theorem step_any (h : Pair w0 w p ms mo r lv L Y D) (x : Do8) (hx : DoOk w0 w x) :
    Calls Try.prog 71 #[.pointer (some ⟨p, 0, none⟩), .pointer (some ⟨r, 0, none⟩), x.val] w fun e w' => e = .returned (.bool true) ∧ StepPost w0 w p ms mo r lv Y (x.does D) w' := by
  by_cases hk : x.op % 8 ≤ 2
  · exact step_write h x hx hk
  · exact step_rest h x hx (by omega)
end
end Go.Proofs.Yteeamlidmkpohaa


/-
  like: both disks have the same bytes.
-/
set_option linter.unusedVariables false
set_option linter.unusedSimpArgs false
namespace Go.Proofs.Yteeamlidmkpohaa
open Go.RowKit Go.Sort

section
variable {w0 w w' : World} {p ms mo r : Nat} {lv : Value} {L : List RS} {Y : Nat → Prop} {D : Dk}
theorem rowC_bytes {w : World} {g n : Nat} {l : List Int} (h : RowC w g 5 (bytesV l)) (hn : l.length = n) (hm : n ≤ maxLen) : BytesIs w (.slice (some ⟨g, 0, none⟩) n n) l := by
  have := RowC.vals (n := n) (c := n) h (by rw [bytesV_len]; omega) (by omega) hm
  rw [List.take_of_length_le (by rw [bytesV_len]; omega)] at this
  exact this.bytes
theorem Dev.bytes (h : Dev w0 w p ms mo D) (N : Nat) (hN : D.n = N) :
    Calls Try.prog 79 #[.pointer (some ⟨p, 0, none⟩)] w fun e w' => ∃ v, e = .returned v ∧ BytesIs w' v (D.all N) ∧ (∀ b, v.ownBlock = some b → w.heap.size ≤ b) ∧ Below w.heap.size w w' := by
  have hn2 := h.ok.n2
  refine (dbytes_any w p ms mo D h.at_ N hN).mono ?_
  rintro e w' ⟨rfl, hr, hb⟩
  exact ⟨_, rfl, rowC_bytes hr (Dk.all_len h.ok N) (by simp only [maxLen]; omega), fun b e => by simp [Value.ownBlock] at e; omega, hb⟩
theorem Ref.bytes' (h : Ref w0 w r lv L Y D) (N : Nat) (hN : D.n = N) :
    Calls Try.prog 81 #[.pointer (some ⟨r, 0, none⟩)] w fun e w' => ∃ v, e = .returned v ∧ BytesIs w' v (D.all N) ∧ (∀ b, v.ownBlock = some b → w.heap.size ≤ b) ∧ Below w.heap.size w w' := by
  refine (h.bytes N hN).mono ?_
  rintro e w' ⟨v, rfl, ho, hb⟩
  exact ⟨v, rfl, BytesIs.of_own (Dk.all_len h.ok N) ho, own_fresh ho, hb⟩

set_option maxRecDepth 100000
set_option maxHeartbeats 2000000 in
theorem like_any (h : Pair w0 w p ms mo r lv L Y D) (v : Value) (l : List Do8) (hl : DosIs w v l) :
    Calls Try.prog 73 #[.pointer (some ⟨p, 0, none⟩), .pointer (some ⟨r, 0, none⟩), v] w fun e w' => e = .returned (.bool true) ∧ Below w.heap.size w w' := by
  obtain ⟨A, c, rfl, hlc, hcm, hA⟩ := hl
  have hn1 := h.dv.ok.n1
  obtain ⟨N, hN⟩ : ∃ N : Nat, D.n = N := ⟨D.n.toNat, by omega⟩
  have hlen : l.length ≤ 9223372036854775807 := by simp only [maxLen] at hcm; omega
  have hB := Below.refl w.heap.size w
  have hneq : (D.down != D.down) = false := by simp
  have hN1 : 1 ≤ N := by omega
  have HN := Lib.hid hN
  have H := Lib.hid h
  clear hN hn1
  by_cases h9 : N < 9
  · go_enter Try.func73, Try.ntmps73
    go_wp2_with
      (first
        | (go_at_call 59; refine (h.dv.isDown (d := D.down) rfl).mono ?_; rintro e w1 ⟨rfl, rfl⟩)
        | (go_at_call 72; refine h.rf.isDown.mono ?_; rintro e w1 ⟨rfl, rfl⟩)
        | (go_at_call 56; refine (h.dv.sectors (n := (N : Int)) HN.out).mono ?_; rintro e w1 ⟨rfl, rfl⟩)
        | (go_at_call 112; refine (HN.out ▸ h.rf.sectors).mono ?_; rintro e w1 ⟨rfl, rfl⟩)
        | (go_at_call 79; refine (h.dv.bytes N HN.out).mono ?_; rintro e w1 ⟨va, rfl, hva, hfa, hb1⟩; replace hB := below_trans' hB hb1; have h1 := h.below hb1; clear hb1)
        | (go_at_call 81; refine (h1.rf.bytes' N HN.out).mono ?_; rintro e w1 ⟨vb, rfl, hvb, hfb, hb1⟩; replace hB := below_trans' hB hb1; replace hva := hva.below hb1; have h2 := h1.below hb1; clear hb1)
        | (go_at_call 58; refine (sameBytes_eq _ _ _ _ hva hvb).mono ?_; rintro e w1 ⟨rfl, hb1⟩; replace hB := below_trans' hB hb1; have h3 := h2.below hb1; clear hb1))
    clear hva hvb hfa hfb h1 h2 h3
    clear h
    go_loopw [7] (fun t wr => ∃ k : Nat, k ≤ l.length ∧ t = .int .i64 k ∧ Below w.heap.size w wr) (fun t _ => l.length - (intOf t).toNat)
    case atStart => exact ⟨0, by omega, rfl, hB⟩
    case round =>
      obtain ⟨k, hk, rfl, hbr⟩ := hrel
      clear hB
      by_cases hlt : k < l.length
      · obtain ⟨ad, x, rfl, hx, hdo0⟩ := hA.at_ k hlt
        have hdo := hdo0.below hbr
        have c1 := hdo.c1
        have hPr := H.out.below hbr
        have hmm : (D.may x.sec != D.may x.sec) = false := by simp
        have HX := Lib.hid hx
        have HBR := Lib.hid hbr
        clear hx hdo hdo0 hbr
        go_wp2_with
          (first
            | (go_at_call 55; refine (hPr.dv.reads _).mono ?_; rintro e w5 ⟨va, rfl, hva, hfa, hb5⟩; have hP5 := hPr.below hb5; have c1' := (hb5.cell (p := ⟨(ad.add (k * 5)).block, (ad.add (k * 5)).off + 1, none⟩) (cell_lt c1)).trans c1; have HB5 := Lib.hid hb5; clear hb5)
            | (go_at_call 141; refine (hP5.rf.reads _).mono ?_; rintro e w6 ⟨vb, rfl, hvb, hfb, hb6⟩; have hva6 := hva.below hb6; have HB6 := Lib.hid hb6; clear hb6)
            | (go_at_call 58; refine (sameBytes_eq _ _ _ _ hva6 hvb).mono ?_; rintro e w7 ⟨rfl, hb7⟩; have HB7 := Lib.hid hb7; clear hb7))
        go_roundw
        case rel => exact ⟨k + 1, by omega, by go_num, below_trans' (below_trans' (below_trans' HBR.out HB5.out) HB6.out) HB7.out⟩
        case measure => simp [intOf]; omega
      · obtain rfl : k = l.length := by omega
        have HBR := Lib.hid hbr
        clear hbr
        go_wp2_with fail
        go_ret
        exact ⟨rfl, HBR.out⟩
  · have h9' : decide ((N : Int) < 9) = false := by simp; omega
    go_enter Try.func73, Try.ntmps73
    go_wp2_with
      (first
        | (go_at_call 59; refine (h.dv.isDown (d := D.down) rfl).mono ?_; rintro e w1 ⟨rfl, rfl⟩)
        | (go_at_call 72; refine h.rf.isDown.mono ?_; rintro e w1 ⟨rfl, rfl⟩)
        | (go_at_call 56; refine (h.dv.sectors (n := (N : Int)) HN.out).mono ?_; rintro e w1 ⟨rfl, rfl⟩)
        | (go_at_call 112; refine (HN.out ▸ h.rf.sectors).mono ?_; rintro e w1 ⟨rfl, rfl⟩))
    clear h
    go_loopw [7] (fun t wr => ∃ k : Nat, k ≤ l.length ∧ t = .int .i64 k ∧ Below w.heap.size w wr) (fun t _ => l.length - (intOf t).toNat)
    case atStart => exact ⟨0, by omega, rfl, hB⟩
    case round =>
      obtain ⟨k, hk, rfl, hbr⟩ := hrel
      clear hB
      by_cases hlt : k < l.length
      · obtain ⟨ad, x, rfl, hx, hdo0⟩ := hA.at_ k hlt
        have hdo := hdo0.below hbr
        have c1 := hdo.c1
        have hPr := H.out.below hbr
        have hmm : (D.may x.sec != D.may x.sec) = false := by simp
        have HX := Lib.hid hx
        have HBR := Lib.hid hbr
        clear hx hdo hdo0 hbr
        go_wp2_with
          (first
            | (go_at_call 55; refine (hPr.dv.reads _).mono ?_; rintro e w5 ⟨va, rfl, hva, hfa, hb5⟩; have hP5 := hPr.below hb5; have c1' := (hb5.cell (p := ⟨(ad.add (k * 5)).block, (ad.add (k * 5)).off + 1, none⟩) (cell_lt c1)).trans c1; have HB5 := Lib.hid hb5; clear hb5)
            | (go_at_call 141; refine (hP5.rf.reads _).mono ?_; rintro e w6 ⟨vb, rfl, hvb, hfb, hb6⟩; have hva6 := hva.below hb6; have HB6 := Lib.hid hb6; clear hb6)
            | (go_at_call 58; refine (sameBytes_eq _ _ _ _ hva6 hvb).mono ?_; rintro e w7 ⟨rfl, hb7⟩; have HB7 := Lib.hid hb7; clear hb7))
        go_roundw
        case rel => exact ⟨k + 1, by omega, by go_num, below_trans' (below_trans' (below_trans' HBR.out HB5.out) HB6.out) HB7.out⟩
        case measure => simp [intOf]; omega
      · obtain rfl : k = l.length := by omega
        have HBR := Lib.hid hbr
        clear hbr
        go_wp2_with fail
        go_ret
        exact ⟨rfl, HBR.out⟩
end
end Go.Proofs.Yteeamlidmkpohaa


/-
  How arguments that came in are read: slices of ints, of bytes, of fates, of steps.
-/
set_option linter.unusedVariables false
set_option maxRecDepth 100000
namespace Go.Proofs.Yteeamlidmkpohaa
open Go.ChangeShapes Go.WideShapes Go.ChangeAt Go.RowKit Go.Deep

theorem exists_list {α : Type} (P : Nat → α → Prop) : ∀ n, (∀ i, i < n → ∃ x, P i x) → ∃ l : List α, l.length = n ∧ ∀ i x, l[i]? = some x → P i x
  | 0, _ => ⟨[], rfl, fun i x h => by simp at h⟩
  | n + 1, h => by
    obtain ⟨l, hl, hp⟩ := exists_list P n (fun i hi => h i (by omega))
    obtain ⟨x, hx⟩ := h n (by omega)
    refine ⟨l ++ [x], by simp [hl], fun i y hy => ?_⟩
    by_cases e : i < n
    · rw [List.getElem?_append_left (by omega)] at hy
      exact hp i y hy
    · by_cases e2 : i = n
      · subst e2
        rw [List.getElem?_append_right (by omega), hl] at hy
        simp at hy
        exact hy ▸ hx
      · rw [List.getElem?_eq_none (by simp [hl]; omega)] at hy
        cases hy

section
variable {H : Type} {enc : TypeId × Value → H} {w : World} {base b0 : Nat} {sp : Nat → Bool} {held : Bool} {r : Reach} {v : Value} {d : DataW H} {p : List MemPlace}

theorem cells5 : Try.prog.cellsOf 5 = 1 := by kernel_rfl
theorem cells51 : Try.prog.cellsOf 51 = 1 := by kernel_rfl
theorem cells37 : Try.prog.cellsOf 37 = 1 := by kernel_rfl
theorem cells43 : Try.prog.cellsOf 43 = 5 := by kernel_rfl

/-- a field of a struct that was trodden -/
theorem struct_part {t : TypeId} {fs : Array Field} {fuel : Nat} {cs : List Value} {x : DataW H × List MemPlace} (ht : Try.prog.underlying t = some (.struct fs)) (h : DataW.trod enc Try.prog w base sp held fuel t cs = some x) :
    ∃ n, ∀ (i : Nat) (f : Field), fs[i]? = some f → ∃ y, DataW.trod enc Try.prog w base sp held n f.type ((cs.drop f.offset).take (Try.prog.cellsOf f.type)) = some y := by
  obtain ⟨xs, n, _, _, _, hxl, hg⟩ := DataW.trod_struct ht h
  refine ⟨n, fun i f hf => ?_⟩
  have hi : i < xs.length := by
    have := (Array.getElem?_eq_some_iff.1 hf).1
    omega
  exact ⟨xs[i], by rw [hg i f hf]; exact List.getElem?_eq_getElem hi⟩

theorem add_none (a : Addr) : a.add 0 = a := by simp [Addr.add]
theorem take_one {α : Type} {cs : List α} {o : Nat} {c : α} (h : (cs.drop o).take 1 = [c]) : cs[o]? = some c := by
  have := congrArg (fun l => l[0]?) h
  simpa [List.getElem?_take, List.getElem?_drop] using this
theorem part_int {n : Nat} {cs : List Value} {f : Field} {y : DataW H × List MemPlace} (ht : f.type = 3) (h : DataW.trod enc Try.prog w base sp held n f.type ((cs.drop f.offset).take (Try.prog.cellsOf f.type)) = some y) : ∃ z, cs[f.offset]? = some (.int .i64 z) ∧ In64 z := by
  rw [ht, cells3] at h
  obtain ⟨z, hz, _, wz⟩ := DataW.trod_int Try.underlying3 h
  exact ⟨z, take_one hz, wf_i64b wz⟩
theorem part_byte {n : Nat} {cs : List Value} {f : Field} {y : DataW H × List MemPlace} (ht : f.type = 5) (h : DataW.trod enc Try.prog w base sp held n f.type ((cs.drop f.offset).take (Try.prog.cellsOf f.type)) = some y) : ∃ z, cs[f.offset]? = some (.int .u8 z) ∧ 0 ≤ z ∧ z ≤ 255 := by
  rw [ht, cells5] at h
  obtain ⟨z, hz, _, wz⟩ := DataW.trod_int Try.underlying5 h
  exact ⟨z, take_one hz, wf_u8b wz⟩

theorem trod_fates {fuel : Nat} {cs : List Value} {x : DataW H × List MemPlace} (h : DataW.trod enc Try.prog w base sp held fuel 37 cs = some x) : ∃ v fs, cs = [v] ∧ IntsIs w v fs ∧ ∀ f ∈ fs, In64 f := by
  rcases open_slice Try.underlying37 h with ⟨rfl, _⟩ | ⟨a, len, cap, m, n, D, Pl, rfl, hb, hl, hm, hmm, _, hx⟩
  · exact ⟨_, [], rfl, IntsIs.nil w, fun f hf => by cases hf⟩
  · have hlm : len ≤ m := by rw [hmm]; split <;> omega
    obtain ⟨l, hll, hp⟩ := exists_list (fun i z => w.cell? (a.add i) = some (.int .i64 z) ∧ In64 z) len (fun i hi => by
      obtain ⟨cs', h1, h2⟩ := hx i (by omega)
      rw [cells51, Nat.mul_one] at h1
      obtain ⟨_, h3, h4⟩ := World.cells?_some h1
      obtain ⟨n', hf⟩ := struct_part Try.underlying51 h2
      obtain ⟨y, hy⟩ := hf 0 _ rfl
      obtain ⟨z, hz, wz⟩ := part_int rfl hy
      have h5 := h4 0 (by omega)
      rw [add_none] at h5
      exact ⟨z, h5.trans hz, wz⟩)
    subst hll
    refine ⟨_, l, rfl, ⟨some a, cap, rfl, hl, hm, fun j u hu => ⟨a, rfl, ?_⟩⟩, fun f hf => ?_⟩
    · simp only [intsV, List.getElem?_map, Option.map_eq_some_iff] at hu
      obtain ⟨z, hz, rfl⟩ := hu
      exact (hp j z hz).1
    · obtain ⟨i, hi, rfl⟩ := List.mem_iff_getElem.1 hf
      exact (hp i _ (List.getElem?_eq_getElem hi)).2

theorem open_argFates (hv : Value.okWide Try.prog w r b0 37 v) (h : DataW.Trod enc Try.prog w base sp held 37 v d p) : ∃ fs, IntsIs w v fs ∧ ∀ f ∈ fs, In64 f := by
  obtain ⟨a, n, c, rfl⟩ := okWide_slice Try.underlying37 hv
  obtain ⟨fuel, hf⟩ := h
  obtain ⟨v1, fs, e, h1, h2⟩ := trod_fates hf
  simp [Value.cells] at e
  subst e
  exact ⟨fs, h1, h2⟩

theorem part_fates {n : Nat} {cs : List Value} {f : Field} {y : DataW H × List MemPlace} (ht : f.type = 37) (h : DataW.trod enc Try.prog w base sp held n f.type ((cs.drop f.offset).take (Try.prog.cellsOf f.type)) = some y) : ∃ v fs, cs[f.offset]? = some v ∧ IntsIs w v fs ∧ ∀ f ∈ fs, In64 f := by
  rw [ht, cells37] at h
  obtain ⟨v, fs, hz, h1, h2⟩ := trod_fates h
  exact ⟨v, fs, take_one hz, h1, h2⟩

theorem trod_dos {fuel : Nat} {cs : List Value} {x : DataW H × List MemPlace} (h : DataW.trod enc Try.prog w base sp held fuel 36 cs = some x) : ∃ v l, cs = [v] ∧ DosIs w v l := by
  rcases open_slice Try.underlying36 h with ⟨rfl, _⟩ | ⟨a, len, cap, m, n, D, Pl, rfl, hb, hl, hm, hmm, _, hx⟩
  · exact ⟨_, [], rfl, none, 0, rfl, Nat.le_refl _, by simp [maxLen], fun i x h => by simp at h⟩
  · have hlm : len ≤ m := by rw [hmm]; split <;> omega
    obtain ⟨l, hll, hp⟩ := exists_list (fun i z => DoAt w (a.add (i * 5)) z) len (fun i hi => by
      obtain ⟨cs', h1, h2⟩ := hx i (by omega)
      rw [cells43] at h1
      obtain ⟨_, h3, h4⟩ := World.cells?_some h1
      obtain ⟨n', hf⟩ := struct_part Try.underlying43 h2
      obtain ⟨y0, hy0⟩ := hf 0 _ rfl
      obtain ⟨y1, hy1⟩ := hf 1 _ rfl
      obtain ⟨y2, hy2⟩ := hf 2 _ rfl
      obtain ⟨y3, hy3⟩ := hf 3 _ rfl
      obtain ⟨y4, hy4⟩ := hf 4 _ rfl
      obtain ⟨z0, e0, w0⟩ := part_int rfl hy0
      obtain ⟨z1, e1, w1⟩ := part_int rfl hy1
      obtain ⟨z2, e2, w2⟩ := part_int rfl hy2
      obtain ⟨z3, e3, w3⟩ := part_byte rfl hy3
      obtain ⟨fv, fs, e4, w4, w5⟩ := part_fates rfl hy4
      have k0 := h4 0 (by omega)
      rw [add_none] at k0
      exact ⟨⟨z0, z1, z2, z3, fv, fs⟩, k0.trans e0, (h4 1 (by omega)).trans e1, (h4 2 (by omega)).trans e2, (h4 3 (by omega)).trans e3, (h4 4 (by omega)).trans e4, w4, w0, w1, w2, w3, w5⟩)
    subst hll
    exact ⟨_, l, rfl, some a, cap, rfl, hl, hm, fun i x hx => ⟨a, rfl, hp i x hx⟩⟩
theorem open_argDos (hv : Value.okWide Try.prog w r b0 36 v) (h : DataW.Trod enc Try.prog w base sp held 36 v d p) : ∃ l, DosIs w v l := by
  obtain ⟨a, n, c, rfl⟩ := okWide_slice Try.underlying36 hv
  obtain ⟨fuel, hf⟩ := h
  obtain ⟨v1, fs, e, h1⟩ := trod_dos hf
  simp [Value.cells] at e
  subst e
  exact ⟨fs, h1⟩
theorem open_argBytes (hv : Value.okWide Try.prog w r b0 47 v) (h : DataW.Trod enc Try.prog w base sp held 47 v d p) : ∃ l, BytesIs w v l ∧ ∀ x ∈ l, 0 ≤ x ∧ x ≤ 255 := by
  obtain ⟨a, n, c, rfl⟩ := okWide_slice Try.underlying47 hv
  obtain ⟨fuel, hf⟩ := h
  rcases open_slice Try.underlying47 hf with ⟨e, _⟩ | ⟨a', len, cap, m, n', D, Pl, e, hb, hl, hm, hmm, _, hx⟩
  · simp [Value.cells] at e
    obtain ⟨rfl, rfl, rfl⟩ := e
    exact ⟨[], ⟨none, 0, rfl, Nat.le_refl _, by simp [maxLen], fun i x h => by simp [bytesV] at h⟩, fun f hf => by cases hf⟩
  · simp [Value.cells] at e
    obtain ⟨rfl, rfl, rfl⟩ := e
    have hlm : n ≤ m := by rw [hmm]; split <;> omega
    obtain ⟨l, hll, hp⟩ := exists_list (fun i z => w.cell? (a'.add i) = some (.int .u8 z) ∧ 0 ≤ z ∧ z ≤ 255) n (fun i hi => by
      obtain ⟨cs', h1, h2⟩ := hx i (by omega)
      rw [cells5, Nat.mul_one] at h1
      obtain ⟨_, h3, h4⟩ := World.cells?_some h1
      obtain ⟨z, rfl, _, wz⟩ := DataW.trod_int Try.underlying5 h2
      have h5 := h4 0 (by omega)
      rw [add_none] at h5
      exact ⟨z, h5, wf_u8b wz⟩)
    subst hll
    refine ⟨l, ⟨some a', c, rfl, hl, hm, fun j u hu => ⟨a', rfl, ?_⟩⟩, fun f hf => ?_⟩
    · simp only [bytesV, List.getElem?_map, Option.map_eq_some_iff] at hu
      obtain ⟨z, hz, rfl⟩ := hu
      exact (hp j z hz).1
    · obtain ⟨i, hi, rfl⟩ := List.mem_iff_getElem.1 hf
      exact (hp i _ (List.getElem?_eq_getElem hi)).2
end
theorem devArmed_row (w : World) {v0 v1 : Value} {a : Int} {l : List Do8} (A0 : ArgInt v0 a) (A1 : DosIs w v1 l) :
    Calls Try.prog 10 #[v0, v1] w fun e w' => e = .returned (.bool true) ∧ Below w.heap.size w w' := by
  obtain ⟨rfl, h⟩ := A0
  exact devArmed_walk w a v1 l h A1
end Go.Proofs.Yteeamlidmkpohaa


/-
  DevLives.
-/
set_option linter.unusedVariables false
set_option linter.unusedSimpArgs false
namespace Go.Proofs.Yteeamlidmkpohaa
open Go.RowKit Go.Sort

theorem DosAt.below {w w' : World} {A : Option Addr} {l : List Do8} (h : DosAt w A l) (hb : Below w.heap.size w w') : DosAt w' A l := fun i x hx => by
  obtain ⟨ad, e, h1⟩ := h i x hx
  exact ⟨ad, e, h1.below hb⟩
theorem DosIs.below {w w' : World} {v : Value} {l : List Do8} (h : DosIs w v l) (hb : Below w.heap.size w w') : DosIs w' v l := by
  obtain ⟨A, c, e, h1, h2, h3⟩ := h
  exact ⟨A, c, e, h1, h2, h3.below hb⟩
theorem DosAt.take {w : World} {A : Option Addr} {l : List Do8} (h : DosAt w A l) (n : Nat) : DosAt w A (l.take n) := fun i x hx => by
  rcases Nat.lt_or_ge i n with h1 | h1
  · rw [List.getElem?_take_of_lt h1] at hx
    exact h i x hx
  · rw [List.getElem?_eq_none (by simp; omega)] at hx; cases hx
theorem DoAt.okk {w0 w : World} {ad : Addr} {x : Do8} (h0 : DoAt w0 ad x) (h : DoAt w ad x) (hl : x.fs.length ≤ 1000) : DoOk w0 w x :=
  ⟨h.i0, h.i1, h.i2, h.i3, h.ints, fun hn => h0.ints.lt hn, hl⟩

set_option maxRecDepth 100000
/-- the ends of the law: nobody is there -/
theorem devLives_none (w : World) (n : Int) (v : Value) (l : List Do8) (hl : DosIs w v l) (hn : n < 1 ∨ 262144 < n) :
    Calls Try.prog 11 #[.int .i64 n, v] w fun e w' => e = .returned (.bool true) ∧ Below w.heap.size w w' := by
  obtain ⟨A, c, rfl, hlc, hcm, hA⟩ := hl
  have hd := dnew_none w n hn
  have hr := rnew_none w n hn
  have HD := Lib.hid hd
  have HR := Lib.hid hr
  clear hd hr hn
  by_cases h80 : 80 < l.length
  all_goals
    go_enter Try.func11, Try.ntmps11
    go_wp2_with
      (first
        | (go_at_call 50; refine HD.out.mono ?_; rintro e w1 ⟨rfl, rfl⟩)
        | (go_at_call 70; refine HR.out.mono ?_; rintro e w1 ⟨rfl, rfl⟩)
        | (go_at_call 49; refine (awake08 _).mono ?_; rintro e w1 ⟨rfl, hb⟩))
    go_ret
    exact ⟨rfl, hb⟩
set_option maxHeartbeats 4000000 in
theorem devLives_some (w : World) (n : Int) (v : Value) (l : List Do8) (hl : DosIs w v l) (h1 : 1 ≤ n) (h2 : n ≤ 262144) :
    Calls Try.prog 11 #[.int .i64 n, v] w fun e w' => e = .returned (.bool true) ∧ Below w.heap.size w w' := by
  obtain ⟨A, c, rfl, hlc, hcm, hA0⟩ := hl
  have hB := Below.refl w.heap.size w
  by_cases h80 : 80 < l.length
  · have hm : 80 = (l.take 80).length := by simp; omega
    have hA := hA0.take 80
    generalize l.take 80 = l' at hm hA
    have hlc' : l'.length ≤ c := by omega
    have hl8 : l'.length ≤ 80 := by omega
    have HM := Lib.hid hm
    clear hm
    go_enter Try.func11, Try.ntmps11
    go_wp2_with
      (first
        | (go_at_call 50; refine (Dev.new_ _ hB n h1 h2).mono ?_; rintro e w1 ⟨rfl, hD, hb1⟩; have hB1 := below_trans' hB hb1)
        | (go_at_call 70; refine (Ref.new _ _ hB1 n h1 h2).mono ?_; rintro e w2 ⟨rfl, hR, hb2⟩; have hD2 := hD.below hb2))
    have hP : Pair w w2 (w.heap.size + 2) w.heap.size (w.heap.size + 1) w1.heap.size (.slice none 0 0) [] (fun _ => False) (Dk.new n) := by
      refine ⟨hD2, hR, fun b e e2 => ?_, fun b e e2 => e2⟩
      have h9 := hD.lt b e
      rcases e2 with e2 | e2
      · omega
      · cases e2
    clear hD hR hD2 hb1 hb2 hB1 hB
    generalize w.heap.size + 2 = p at hP ⊢
    generalize w.heap.size + 1 = mo at hP ⊢
    generalize hms : w.heap.size = ms at hP ⊢
    generalize w1.heap.size = r at hP ⊢
    have HMS := Lib.hid hms
    clear hms
    go_loopw [7] (fun t wr => ∃ k : Nat, k ≤ 80 ∧ t = .int .i64 k ∧ ∃ (D : Dk) (lv : Value) (L : List RS) (Y : Nat → Prop), Pair w wr p ms mo r lv L Y D) (fun t _ => 80 - (intOf t).toNat)
    case atStart => exact ⟨0, by omega, rfl, _, _, _, _, hP⟩
    case round =>
      obtain ⟨k, hk, rfl, D, lv, L, Y, hPr⟩ := hrel
      clear hP
      have hbr := hPr.dv.be
      by_cases hlt : k < 80
      · obtain ⟨ad, x, rfl, hx, hdo0⟩ := hA.at_ k (by have := HM.out; omega)
        have hdo := hdo0.below hbr
        have c0 := hdo.c0
        have c1 := hdo.c1
        have c2 := hdo.c2
        have c3 := hdo.c3
        have c4 := hdo.c4
        have HOK := Lib.hid (fun hl => DoAt.okk hdo0 hdo hl)
        obtain ⟨Af, cf, hfv, hf1, hf2, _⟩ := hdo.ints
        have hfl : x.fs.length ≤ 9223372036854775807 := by simp only [maxLen] at hf2; omega
        have hval : x.val = .agg #[.int .i64 x.op, .int .i64 x.sec, .int .i64 x.n, .int .u8 x.byte, .slice Af x.fs.length cf] := by unfold Do8.val; rw [hfv]
        rw [hfv] at c4
        have HX := Lib.hid hx
        have HBR := Lib.hid hbr
        have HV := Lib.hid hval
        clear hx hdo hdo0 hbr hfv hval hf1 hf2
        by_cases hbig : 1000 < x.fs.length
        · go_wp2_with
            (first
              | (go_at_call 49; refine (awake08 _).mono ?_; rintro e w5 ⟨rfl, hb5⟩))
          go_ret
          exact ⟨rfl, below_trans' HBR.out hb5⟩
        · have hst := step_any hPr x (HOK.out (by omega))
          rw [HV.out] at hst
          have HST := Lib.hid hst
          clear hst
          go_wp2_with
            (first
              | (go_at_call 71; refine HST.out.mono ?_; rintro e w5 ⟨rfl, hsp⟩; obtain ⟨lv5, L5, Y5, hP5, _, _, _⟩ := hsp; have hneq : ((x.does D).down != (x.does D).down) = false := (by simp))
              | (go_at_call 59; refine (hP5.dv.isDown rfl).mono ?_; rintro e w6 ⟨rfl, rfl⟩)
              | (go_at_call 72; refine hP5.rf.isDown.mono ?_; rintro e w6 ⟨rfl, rfl⟩))
          go_roundw
          case rel => exact ⟨k + 1, by omega, by go_num, _, _, _, _, hP5⟩
          case measure => simp [intOf]; omega
      · obtain rfl : k = 80 := by omega
        have hls : DosIs wr (.slice A 80 c) l' := ⟨A, c, by first | rfl | rw [← HM.out], hlc', hcm, hA.below hbr⟩
        have HLS := Lib.hid hls
        have HBR := Lib.hid hbr
        clear hls hbr hlt
        go_wp2_with
          (first
            | (go_at_call 73; refine (like_any hPr _ _ HLS.out).mono ?_; rintro e w5 ⟨rfl, hb5⟩; have hP5 := hPr.below hb5; have HLS5 := Lib.hid (HLS.out.below hb5); clear HLS hPr)
            | (go_at_call 54; refine (hP5.dv.wake (IntsIs.nil _) (fun h => absurd rfl h)).mono ?_; rintro e w6 ⟨rfl, hD6, hc6⟩; have hmid := hP5.mid hc6)
            | (go_at_call 74; refine (hmid.wake (IntsIs.nil _) (fun h => absurd rfl h)).mono ?_; rintro e w7 ⟨L7, rfl, hR7, hc7⟩; have hst := hP5.step hD6 hc6 hR7 hc7 (Fresh.refl _ _) (Fresh.refl _ _); have hP7 := hst.1; have HLS7 : Hid (DosIs w7 (.slice A 80 c) l') := Lib.hid (⟨A, c, by first | rfl | rw [← HM.out], hlc', hcm, hA.below hP7.dv.be⟩); clear hP5 HLS5 hst hmid hD6 hR7)
            | (go_at_call 73; refine (like_any hP7 _ _ HLS7.out).mono ?_; rintro e w8 ⟨rfl, hb8⟩; have hB8 := below_trans' hP7.dv.be hb8)
            | (go_at_call 49; refine (awake08 _).mono ?_; rintro e w9 ⟨rfl, hb9⟩))
        go_ret
        exact ⟨rfl, below_trans' hB8 hb9⟩
  · have hA := hA0
    have hlc' := hlc
    have hl8 : l.length ≤ 80 := by omega
    have HM : Hid (l.length = l.length) := Lib.hid rfl
    go_enter Try.func11, Try.ntmps11
    go_wp2_with
      (first
        | (go_at_call 50; refine (Dev.new_ _ hB n h1 h2).mono ?_; rintro e w1 ⟨rfl, hD, hb1⟩; have hB1 := below_trans' hB hb1)
        | (go_at_call 70; refine (Ref.new _ _ hB1 n h1 h2).mono ?_; rintro e w2 ⟨rfl, hR, hb2⟩; have hD2 := hD.below hb2))
    have hP : Pair w w2 (w.heap.size + 2) w.heap.size (w.heap.size + 1) w1.heap.size (.slice none 0 0) [] (fun _ => False) (Dk.new n) := by
      refine ⟨hD2, hR, fun b e e2 => ?_, fun b e e2 => e2⟩
      have h9 := hD.lt b e
      rcases e2 with e2 | e2
      · omega
      · cases e2
    clear hD hR hD2 hb1 hb2 hB1 hB
    generalize w.heap.size + 2 = p at hP ⊢
    generalize w.heap.size + 1 = mo at hP ⊢
    generalize hms : w.heap.size = ms at hP ⊢
    generalize w1.heap.size = r at hP ⊢
    have HMS := Lib.hid hms
    clear hms
    go_loopw [7] (fun t wr => ∃ k : Nat, k ≤ l.length ∧ t = .int .i64 k ∧ ∃ (D : Dk) (lv : Value) (L : List RS) (Y : Nat → Prop), Pair w wr p ms mo r lv L Y D) (fun t _ => l.length - (intOf t).toNat)
    case atStart => exact ⟨0, by omega, rfl, _, _, _, _, hP⟩
    case round =>
      obtain ⟨k, hk, rfl, D, lv, L, Y, hPr⟩ := hrel
      clear hP
      have hbr := hPr.dv.be
      by_cases hlt : k < l.length
      · obtain ⟨ad, x, rfl, hx, hdo0⟩ := hA.at_ k (by have := HM.out; omega)
        have hdo := hdo0.below hbr
        have c0 := hdo.c0
        have c1 := hdo.c1
        have c2 := hdo.c2
        have c3 := hdo.c3
        have c4 := hdo.c4
        have HOK := Lib.hid (fun hl => DoAt.okk hdo0 hdo hl)
        obtain ⟨Af, cf, hfv, hf1, hf2, _⟩ := hdo.ints
        have hfl : x.fs.length ≤ 9223372036854775807 := by simp only [maxLen] at hf2; omega
        have hval : x.val = .agg #[.int .i64 x.op, .int .i64 x.sec, .int .i64 x.n, .int .u8 x.byte, .slice Af x.fs.length cf] := by unfold Do8.val; rw [hfv]
        rw [hfv] at c4
        have HX := Lib.hid hx
        have HBR := Lib.hid hbr
        have HV := Lib.hid hval
        clear hx hdo hdo0 hbr hfv hval hf1 hf2
        by_cases hbig : 1000 < x.fs.length
        · go_wp2_with
            (first
              | (go_at_call 49; refine (awake08 _).mono ?_; rintro e w5 ⟨rfl, hb5⟩))
          go_ret
          exact ⟨rfl, below_trans' HBR.out hb5⟩
        · have hst := step_any hPr x (HOK.out (by omega))
          rw [HV.out] at hst
          have HST := Lib.hid hst
          clear hst
          go_wp2_with
            (first
              | (go_at_call 71; refine HST.out.mono ?_; rintro e w5 ⟨rfl, hsp⟩; obtain ⟨lv5, L5, Y5, hP5, _, _, _⟩ := hsp; have hneq : ((x.does D).down != (x.does D).down) = false := (by simp))
              | (go_at_call 59; refine (hP5.dv.isDown rfl).mono ?_; rintro e w6 ⟨rfl, rfl⟩)
              | (go_at_call 72; refine hP5.rf.isDown.mono ?_; rintro e w6 ⟨rfl, rfl⟩))
          go_roundw
          case rel => exact ⟨k + 1, by omega, by go_num, _, _, _, _, hP5⟩
          case measure => simp [intOf]; omega
      · obtain rfl : k = l.length := by omega
        have hls : DosIs wr (.slice A l.length c) l := ⟨A, c, by first | rfl | rw [← HM.out], hlc', hcm, hA.below hbr⟩
        have HLS := Lib.hid hls
        have HBR := Lib.hid hbr
        clear hls hbr hlt
        go_wp2_with
          (first
            | (go_at_call 73; refine (like_any hPr _ _ HLS.out).mono ?_; rintro e w5 ⟨rfl, hb5⟩; have hP5 := hPr.below hb5; have HLS5 := Lib.hid (HLS.out.below hb5); clear HLS hPr)
            | (go_at_call 54; refine (hP5.dv.wake (IntsIs.nil _) (fun h => absurd rfl h)).mono ?_; rintro e w6 ⟨rfl, hD6, hc6⟩; have hmid := hP5.mid hc6)
            | (go_at_call 74; refine (hmid.wake (IntsIs.nil _) (fun h => absurd rfl h)).mono ?_; rintro e w7 ⟨L7, rfl, hR7, hc7⟩; have hst := hP5.step hD6 hc6 hR7 hc7 (Fresh.refl _ _) (Fresh.refl _ _); have hP7 := hst.1; have HLS7 : Hid (DosIs w7 (.slice A l.length c) l) := Lib.hid (⟨A, c, by first | rfl | rw [← HM.out], hlc', hcm, hA.below hP7.dv.be⟩); clear hP5 HLS5 hst hmid hD6 hR7)
            | (go_at_call 73; refine (like_any hP7 _ _ HLS7.out).mono ?_; rintro e w8 ⟨rfl, hb8⟩; have hB8 := below_trans' hP7.dv.be hb8)
            | (go_at_call 49; refine (awake08 _).mono ?_; rintro e w9 ⟨rfl, hb9⟩))
        go_ret
        exact ⟨rfl, below_trans' hB8 hb9⟩
theorem devLives_row (w : World) {v0 v1 : Value} {a : Int} {l : List Do8} (A0 : ArgInt v0 a) (A1 : DosIs w v1 l) :
    Calls Try.prog 11 #[v0, v1] w fun e w' => e = .returned (.bool true) ∧ Below w.heap.size w w' := by
  obtain ⟨rfl, _⟩ := A0
  by_cases h : 1 ≤ a ∧ a ≤ 262144
  · exact devLives_some w a v1 l A1 h.1 h.2
  · exact devLives_none w a v1 l A1 (by omega)
end Go.Proofs.Yteeamlidmkpohaa


/-
  The cache's first example.
-/
set_option linter.unusedVariables false
set_option linter.unusedSimpArgs false
namespace Go.Proofs.Yteeamlidmkpohaa
open Go.RowKit Go.Sort

def tabK : Nat → List Int
  | 0 => []
  | 1 => [0]
  | 2 => [0]
  | 3 => [0, 1]
  | _ => [1, 0]
def tabH : Nat → Int
  | 0 => 0
  | 1 => 0
  | 2 => 1
  | 3 => 1
  | _ => 2
def tabM : Nat → Int
  | 0 => 0
  | 1 => 1
  | 2 => 1
  | _ => 2

section
variable {w0 w w' : World} {p ms mo c mk : Nat}
theorem St9.cast {D : Dk} {most h1 h2 m1 m2 n1 n2 : Int} {k1 k2 : List Int} (h : St9 w0 w p ms mo c mk D most k1 h1 m1 n1) (ek : k1 = k2) (eh : h1 = h2) (em : m1 = m2) (en : n1 = n2) : St9 w0 w p ms mo c mk D most k2 h2 m2 n2 := by
  subst ek; subst eh; subst em; subst en; exact h
theorem aw_step (i : Nat) (hi : i < 4) (h : St9 w0 w p ms mo c mk (Dk.new 4) 2 (tabK i) (tabH i) (tabM i) i) (x : Int) (hx : x = (i : Int) % 3 / 2) :
    Calls Try.prog 105 #[.pointer (some ⟨c, 0, none⟩), .int .i64 x] w fun e w' => ∃ v, e = .returned (.tuple #[v, .int .i64 0]) ∧ St9 w0 w' p ms mo c mk (Dk.new 4) 2 (tabK (i + 1)) (tabH (i + 1)) (tabM (i + 1)) ((i + 1 : Nat) : Int) := by
  match i, hi with
  | 0, _ =>
    obtain rfl : x = 0 := by omega
    refine (h.miss 0 (by decide) (by decide) (by decide) (by decide) (by decide)).mono ?_
    rintro e w' ⟨v, rfl, h1⟩
    exact ⟨v, rfl, h1.cast (by decide) (by decide) (by decide) (by decide)⟩
  | 1, _ =>
    obtain rfl : x = 0 := by omega
    refine (h.hit 0 (by decide) (by decide) (by decide) (by decide) (by decide)).mono ?_
    rintro e w' ⟨v, rfl, h1⟩
    exact ⟨v, rfl, h1.cast (by decide) (by decide) (by decide) (by decide)⟩
  | 2, _ =>
    obtain rfl : x = 1 := by omega
    refine (h.miss 1 (by decide) (by decide) (by decide) (by decide) (by decide)).mono ?_
    rintro e w' ⟨v, rfl, h1⟩
    exact ⟨v, rfl, h1.cast (by decide) (by decide) (by decide) (by decide)⟩
  | 3, _ =>
    obtain rfl : x = 0 := by omega
    refine (h.hit 0 (by decide) (by decide) (by decide) (by decide) (by decide)).mono ?_
    rintro e w' ⟨v, rfl, h1⟩
    exact ⟨v, rfl, h1.cast (by decide) (by decide) (by decide) (by decide)⟩
theorem St9.new (w : World) (hb : Below w0.heap.size w0 w) {D : Dk} (hd : Dev w0 w p ms mo D) (n : Int) (h1 : 1 ≤ n) (h2 : n ≤ 9223372036854775807) :
    Calls Try.prog 65 #[.pointer (some ⟨p, 0, none⟩), .int .i64 n] w fun e w' => ∃ c mk, e = .returned (.pointer (some ⟨c, 0, none⟩)) ∧ St9 w0 w' p ms mo c mk D n [] 0 0 0 := by
  refine (cnew_some w hb hd n h1 h2).mono ?_
  rintro e w' ⟨rfl, hca, hb2⟩
  refine ⟨_, _, rfl, ⟨_, _, ⟨hd.below hb2, hca, fun b e e2 => ?_, fun b e e2 => e2⟩, (fun e he => by cases he), rfl, rfl, rfl, rfl, rfl⟩⟩
  have := hd.lt b e
  rcases e2 with e2 | e2 <;> omega
theorem St9.sectors {D : Dk} {most hits misses now n : Int} {ks : List Int} (h : St9 w0 w p ms mo c mk D most ks hits misses now) (hn : D.n = n) :
    Calls Try.prog 110 #[.pointer (some ⟨c, 0, none⟩)] w fun e w' => e = .returned (.int .i64 n) ∧ w = w' := by
  obtain ⟨K, Y, h1, _⟩ := h.ex
  exact hn ▸ h1.ca.sectors h1.dv

set_option maxRecDepth 100000
set_option maxHeartbeats 4000000 in
theorem awake09 (w : World) : Calls Try.prog 103 #[] w fun e w' => e = .returned (.bool true) ∧ Below w.heap.size w w' := by
  have hB := Below.refl w.heap.size w
  go_enter Try.func103, Try.ntmps103
  go_wp2_with
    (first
      | (go_at_call 50; refine (Dev.new_ _ hB 4 (by decide) (by decide)).mono ?_; rintro e w1 ⟨rfl, hD, hb⟩; have hB1 := hD.be; clear hb)
      | (go_at_call 65; refine (St9.new _ hB1 hD 2 (by decide) (by decide)).mono ?_; rintro e w2 ⟨c, mk, rfl, hS⟩))
  clear hD hB1 hB
  generalize w.heap.size + 2 = p at hS ⊢
  generalize w.heap.size + 1 = mo at hS ⊢
  generalize hms : w.heap.size = ms at hS ⊢
  have HMS := Lib.hid hms
  clear hms
  go_loopw [2] (fun t wr => ∃ k : Nat, k ≤ 4 ∧ t = .int .i64 k ∧ St9 w wr p ms mo c mk (Dk.new 4) 2 (tabK k) (tabH k) (tabM k) k) (fun t _ => 4 - (intOf t).toNat)
  case atStart => exact ⟨0, by omega, rfl, hS⟩
  case round =>
    obtain ⟨k, hk, rfl, hSr⟩ := hrel
    clear hS
    by_cases hlt : k < 4
    · have hst := fun x hx => aw_step k hlt hSr x hx
      have HST := Lib.hid hst
      clear hst hSr
      go_wp2_with
        (first
          | (go_at_call 105; refine (HST.out _ (by first | rfl | omega)).mono ?_; rintro e w3 ⟨v, rfl, h3⟩))
      go_roundw
      case rel => exact ⟨k + 1, by omega, by go_num, h3⟩
      case measure => simp [intOf]; omega
    · obtain rfl : k = 4 := by omega
      clear hlt hk
      have h0 : St9 w wr p ms mo c mk (Dk.new 4) 2 [1, 0] 2 2 4 := hSr.cast rfl rfl rfl rfl
      clear hSr
      go_wp2_with
        (first
          | (go_at_call 158; refine (counts9_any h0).mono ?_; rintro e w4 ⟨rfl, hb4⟩; have h4 := h0.below hb4; clear hb4 h0)
          | (go_at_call 105; refine (h4.miss 2 (by decide) (by decide) (by decide) (by decide) (by decide)).mono ?_; rintro e w5 ⟨v5, rfl, h5⟩; replace h5 := h5.cast (k2 := [0, 2]) (h2 := 2) (m2 := 3) (n2 := 5) (by decide) (by decide) (by decide) (by decide); clear h4)
          | (go_at_call 105; refine (h5.hit 0 (by decide) (by decide) (by decide) (by decide) (by decide)).mono ?_; rintro e w6 ⟨v6, rfl, h6⟩; replace h6 := h6.cast (k2 := [2, 0]) (h2 := 3) (m2 := 3) (n2 := 6) (by decide) (by decide) (by decide) (by decide); clear h5)
          | (go_at_call 158; refine (counts9_any h6).mono ?_; rintro e w7 ⟨rfl, hb7⟩; have h7 := h6.below hb7; clear hb7 h6)
          | (go_at_call 104; refine h7.drop.mono ?_; rintro e w8 ⟨rfl, h8⟩; clear h7)
          | (go_at_call 105; refine (h8.miss 0 (by decide) (by decide) (by decide) (by decide) (by decide)).mono ?_; rintro e w9 ⟨v9, rfl, h9⟩; replace h9 := h9.cast (k2 := [0]) (h2 := 3) (m2 := 4) (n2 := 7) (by decide) (by decide) (by decide) (by decide); clear h8)
          | (go_at_call 105; refine (h9.no (-1) (r := 6) (by decide) (by decide) (by decide) (by decide) (by decide)).mono ?_; rintro e wa ⟨va, rfl, ha⟩; clear h9)
          | (go_at_call 158; refine (counts9_any ha).mono ?_; rintro e wb ⟨rfl, hbb⟩; have hb := ha.below hbb; clear hbb ha)
          | (go_at_call 110; refine (hb.sectors (n := 4) rfl).mono ?_; rintro e wc ⟨rfl, rfl⟩)
          | (go_at_call 50; refine (Dev.new_ _ hb.be 1 (by decide) (by decide)).mono ?_; rintro e we ⟨rfl, hDe, _⟩)
          | (go_at_call 65; refine (cnew_none hDe 0 (by decide)).mono ?_; rintro e wf ⟨rfl, rfl⟩)
          | (go_at_call 65; refine (cnew_nil _ _).mono ?_; rintro e wd ⟨rfl, rfl⟩))
      go_ret
      exact ⟨rfl, hDe.be⟩
end
end Go.Proofs.Yteeamlidmkpohaa


/-
  CacheAlike.
-/
set_option linter.unusedVariables false
set_option linter.unusedSimpArgs false
set_option maxRecDepth 100000
namespace Go.Proofs.Yteeamlidmkpohaa
open Go.RowKit Go.Sort

theorem Dev.newF {w0 : World} (w : World) (hb : Below w0.heap.size w0 w) (n : Int) (h1 : 1 ≤ n) (h2 : n ≤ 262144) :
    Calls Try.prog 50 #[.int .i64 n] w fun e w' => ∃ p ms mo, e = .returned (.pointer (some ⟨p, 0, none⟩)) ∧ Dev w0 w' p ms mo (Dk.new n) ∧ (∀ b, DF p ms mo b → w.heap.size ≤ b) ∧ Below w.heap.size w w' := by
  refine (Dev.new_ w hb n h1 h2).mono ?_
  rintro e w' ⟨rfl, hd, hb2⟩
  exact ⟨_, _, _, rfl, hd, fun b e => by rcases e with e | e | e <;> omega, hb2⟩
theorem CD.newF {w0 w : World} {p ms mo : Nat} {D : Dk} (hd : Dev w0 w p ms mo D) (n : Int) (h1 : 1 ≤ n) (h2 : n ≤ 9223372036854775807) :
    Calls Try.prog 65 #[.pointer (some ⟨p, 0, none⟩), .int .i64 n] w fun e w' => ∃ c mk, e = .returned (.pointer (some ⟨c, 0, none⟩)) ∧ CD w0 w' p ms mo c mk ⟨n, 0, 0, 0, []⟩ (fun _ => False) D ∧ (∀ b, CF c mk b → w.heap.size ≤ b) ∧ Below w.heap.size w w' := by
  refine (cnew_some w hd.be hd n h1 h2).mono ?_
  rintro e w' ⟨rfl, hca, hb⟩
  exact ⟨_, _, rfl, ⟨hd.below hb, hca, fun b e e2 => by have := hd.lt b e; rcases e2 with e2 | e2 <;> omega, fun _ _ => id⟩, fun b e => by rcases e with e | e <;> omega, hb⟩

section
variable {w0 w w' : World} {p ms mo c mk p2 ms2 mo2 c2 mk2 p3 ms3 mo3 : Nat} {K K' K2 : Ck} {Y Y' Y2 : Nat → Prop} {D D' D2 D3 : Dk} {N : Int}
theorem CD.syncs (h : CD w0 w p ms mo c mk K Y D) : Calls Try.prog 109 #[.pointer (some ⟨c, 0, none⟩)] w fun e w' => e = .returned (.int .i64 D.scode) ∧ CD w0 w' p ms mo c mk K Y D.syncs ∧ Chg (DF p ms mo) w w' := by
  refine (h.ca.sync h.dv).mono ?_
  rintro e w' ⟨rfl, hd, hc⟩
  exact ⟨rfl, h.dstep hd hc, hc⟩
theorem Trio.async (h : Trio w0 w p ms mo c mk K Y D p2 ms2 mo2 c2 mk2 K2 Y2 D2 p3 ms3 mo3 D3) : Calls Try.prog 109 #[.pointer (some ⟨c, 0, none⟩)] w fun e w' => e = .returned (.int .i64 D.scode) ∧ Trio w0 w' p ms mo c mk K Y D.syncs p2 ms2 mo2 c2 mk2 K2 Y2 D2 p3 ms3 mo3 D3 := by
  refine h.a.syncs.mono ?_
  rintro e w' ⟨rfl, hd, hc⟩
  exact ⟨rfl, h.astep hd (hc.mono (fun _ _ e => .inl e)) (Fresh.refl _ _)⟩
theorem Trio.bsync (h : Trio w0 w p ms mo c mk K Y D p2 ms2 mo2 c2 mk2 K2 Y2 D2 p3 ms3 mo3 D3) : Calls Try.prog 109 #[.pointer (some ⟨c2, 0, none⟩)] w fun e w' => e = .returned (.int .i64 D2.scode) ∧ Trio w0 w' p ms mo c mk K Y D p2 ms2 mo2 c2 mk2 K2 Y2 D2.syncs p3 ms3 mo3 D3 := by
  refine h.b.syncs.mono ?_
  rintro e w' ⟨rfl, hd, hc⟩
  exact ⟨rfl, h.bstep hd (hc.mono (fun _ _ e => .inl e)) (Fresh.refl _ _)⟩
theorem Trio.dsync (h : Trio w0 w p ms mo c mk K Y D p2 ms2 mo2 c2 mk2 K2 Y2 D2 p3 ms3 mo3 D3) : Calls Try.prog 51 #[.pointer (some ⟨p3, 0, none⟩)] w fun e w' => e = .returned (.int .i64 D3.scode) ∧ Trio w0 w' p ms mo c mk K Y D p2 ms2 mo2 c2 mk2 K2 Y2 D2 p3 ms3 mo3 D3.syncs := by
  refine h.d.syncs.mono ?_
  rintro e w' ⟨rfl, hd, hc⟩
  exact ⟨rfl, h.dstep hd hc⟩
/-- v: bytes that lie beyond a world w1 in which the three were there -/
theorem Trio.awrite (h : Trio w0 w p ms mo c mk K Y D p2 ms2 mo2 c2 mk2 K2 Y2 D2 p3 ms3 mo3 D3) (hi : FitN K D N) (k : Int) {v : Value} {l : List Int} (hv : BytesIs w v l) (hb : Bytey l) (hvq : ∀ b, v.ownBlock = some b → ¬ Qs p ms mo c mk Y b) (hN : N < 1000000000) :
    Calls Try.prog 107 #[.pointer (some ⟨c, 0, none⟩), .int .i64 k, v] w fun e w' => ∃ K' Y', e = .returned (.int .i64 (D.wcode k l)) ∧ Trio w0 w' p ms mo c mk K' Y' (D.writes k l) p2 ms2 mo2 c2 mk2 K2 Y2 D2 p3 ms3 mo3 D3 ∧ FitN K' (D.writes k l) (N + 1) := by
  refine (h.a.writesF hi k hv hb (fun b e e2 => hvq b e (.inl e2)) (fun b e e2 => hvq b e (.inr (.inl (.inl e2)))) hN).mono ?_
  rintro e w' ⟨K', Y', rfl, hcd, hi', hc, hf⟩
  exact ⟨K', Y', rfl, h.astep hcd hc hf, hi'⟩
theorem Trio.bwrite (h : Trio w0 w p ms mo c mk K Y D p2 ms2 mo2 c2 mk2 K2 Y2 D2 p3 ms3 mo3 D3) (hi : FitN K2 D2 N) (k : Int) {v : Value} {l : List Int} (hv : BytesIs w v l) (hb : Bytey l) (hvq : ∀ b, v.ownBlock = some b → ¬ Qs p2 ms2 mo2 c2 mk2 Y2 b) (hN : N < 1000000000) :
    Calls Try.prog 107 #[.pointer (some ⟨c2, 0, none⟩), .int .i64 k, v] w fun e w' => ∃ K' Y', e = .returned (.int .i64 (D2.wcode k l)) ∧ Trio w0 w' p ms mo c mk K Y D p2 ms2 mo2 c2 mk2 K' Y' (D2.writes k l) p3 ms3 mo3 D3 ∧ FitN K' (D2.writes k l) (N + 1) := by
  refine (h.b.writesF hi k hv hb (fun b e e2 => hvq b e (.inl e2)) (fun b e e2 => hvq b e (.inr (.inl (.inl e2)))) hN).mono ?_
  rintro e w' ⟨K', Y', rfl, hcd, hi', hc, hf⟩
  exact ⟨K', Y', rfl, h.bstep hcd hc hf, hi'⟩
theorem Trio.dwrite (h : Trio w0 w p ms mo c mk K Y D p2 ms2 mo2 c2 mk2 K2 Y2 D2 p3 ms3 mo3 D3) (k : Int) {v : Value} {l : List Int} (hv : BytesIs w v l) (hb : Bytey l) :
    Calls Try.prog 52 #[.pointer (some ⟨p3, 0, none⟩), .int .i64 k, v] w fun e w' => e = .returned (.int .i64 (D3.wcode k l)) ∧ Trio w0 w' p ms mo c mk K Y D p2 ms2 mo2 c2 mk2 K2 Y2 D2 p3 ms3 mo3 (D3.writes k l) := by
  refine (h.d.writes k hv hb).mono ?_
  rintro e w' ⟨rfl, hd, hc⟩
  exact ⟨rfl, h.dstep hd hc⟩
theorem Trio.aread (h : Trio w0 w p ms mo c mk K Y D p2 ms2 mo2 c2 mk2 K2 Y2 D2 p3 ms3 mo3 D3) (hi : FitN K D N) (k : Int) (hN : N < 1000000000) :
    Calls Try.prog 105 #[.pointer (some ⟨c, 0, none⟩), .int .i64 k] w fun e w' => ∃ v K' Y', e = .returned (.tuple #[v, .int .i64 (D.may k)]) ∧ BytesIs w' v (D.rbytes k) ∧ (∀ b, v.ownBlock = some b → w.heap.size ≤ b) ∧ Trio w0 w' p ms mo c mk K' Y' D p2 ms2 mo2 c2 mk2 K2 Y2 D2 p3 ms3 mo3 D3 ∧ FitN K' D (N + 1) ∧ Chg (CF c mk) w w' := by
  refine (h.a.readsF hi k hN).mono ?_
  rintro e w' ⟨v, K', Y', rfl, ho, _, hcd, hi', hc, hf⟩
  exact ⟨v, K', Y', rfl, BytesIs.of_own rfl ho, own_fresh ho, h.astep hcd (hc.mono (fun _ _ e => .inr e)) hf, hi', hc⟩
theorem Trio.bread (h : Trio w0 w p ms mo c mk K Y D p2 ms2 mo2 c2 mk2 K2 Y2 D2 p3 ms3 mo3 D3) (hi : FitN K2 D2 N) (k : Int) (hN : N < 1000000000) :
    Calls Try.prog 105 #[.pointer (some ⟨c2, 0, none⟩), .int .i64 k] w fun e w' => ∃ v K' Y', e = .returned (.tuple #[v, .int .i64 (D2.may k)]) ∧ BytesIs w' v (D2.rbytes k) ∧ (∀ b, v.ownBlock = some b → w.heap.size ≤ b) ∧ Trio w0 w' p ms mo c mk K Y D p2 ms2 mo2 c2 mk2 K' Y' D2 p3 ms3 mo3 D3 ∧ FitN K' D2 (N + 1) ∧ Chg (CF c2 mk2) w w' := by
  refine (h.b.readsF hi k hN).mono ?_
  rintro e w' ⟨v, K', Y', rfl, ho, _, hcd, hi', hc, hf⟩
  exact ⟨v, K', Y', rfl, BytesIs.of_own rfl ho, own_fresh ho, h.bstep hcd (hc.mono (fun _ _ e => .inr e)) hf, hi', hc⟩
theorem Trio.adrop (h : Trio w0 w p ms mo c mk K Y D p2 ms2 mo2 c2 mk2 K2 Y2 D2 p3 ms3 mo3 D3) :
    Calls Try.prog 104 #[.pointer (some ⟨c, 0, none⟩)] w fun e w' => e = .returned (.tuple #[]) ∧ Trio w0 w' p ms mo c mk { K with C := [] } Y D p2 ms2 mo2 c2 mk2 K2 Y2 D2 p3 ms3 mo3 D3 := by
  refine h.a.ca.drop.mono ?_
  rintro e w' ⟨rfl, hca, hc⟩
  exact ⟨rfl, h.astep (h.a.cstep hca hc (Fresh.refl _ _)) (hc.mono (fun _ _ e => .inr e)) (Fresh.refl _ _)⟩
theorem Trio.awake_ (h : Trio w0 w p ms mo c mk K Y D p2 ms2 mo2 c2 mk2 K2 Y2 D2 p3 ms3 mo3 D3) {v : Value} {fs : List Int} (hf : IntsIs w v fs) (hne : fs ≠ [] → ∀ k, v.ownBlock = some k → k < w0.heap.size) :
    Calls Try.prog 54 #[.pointer (some ⟨p, 0, none⟩), v] w fun e w' => e = .returned (.tuple #[]) ∧ Trio w0 w' p ms mo c mk K Y (D.wake fs) p2 ms2 mo2 c2 mk2 K2 Y2 D2 p3 ms3 mo3 D3 ∧ Chg (DF p ms mo) w w' := by
  refine (h.a.dv.wake hf (fun a k e e2 => by have := hne a k e; have := h.a.dv.df k e2; omega)).mono ?_
  rintro e w' ⟨rfl, hd, hc⟩
  exact ⟨rfl, h.astep (h.a.dstep hd hc) (hc.mono (fun _ _ e => .inl e)) (Fresh.refl _ _), hc⟩
theorem Trio.dwake_ (h : Trio w0 w p ms mo c mk K Y D p2 ms2 mo2 c2 mk2 K2 Y2 D2 p3 ms3 mo3 D3) {v : Value} {fs : List Int} (hf : IntsIs w v fs) (hne : fs ≠ [] → ∀ k, v.ownBlock = some k → k < w0.heap.size) :
    Calls Try.prog 54 #[.pointer (some ⟨p3, 0, none⟩), v] w fun e w' => e = .returned (.tuple #[]) ∧ Trio w0 w' p ms mo c mk K Y D p2 ms2 mo2 c2 mk2 K2 Y2 D2 p3 ms3 mo3 (D3.wake fs) := by
  refine (h.d.wake hf (fun a k e e2 => by have := hne a k e; have := h.d.df k e2; omega)).mono ?_
  rintro e w' ⟨rfl, hd, hc⟩
  exact ⟨rfl, h.dstep hd hc⟩
theorem Trio.new (ha : CD w0 w p ms mo c mk K (fun _ => False) D) (hb : CD w0 w p2 ms2 mo2 c2 mk2 K2 (fun _ => False) D2) (hd : Dev w0 w p3 ms3 mo3 D3)
    {z1 z2 z3 z4 : Nat} (h1 : ∀ b, DF p ms mo b → b < z1) (h2 : ∀ b, DF p2 ms2 mo2 b → z1 ≤ b ∧ b < z2) (h3 : ∀ b, DF p3 ms3 mo3 b → z2 ≤ b ∧ b < z3) (h4 : ∀ b, CF c mk b → z3 ≤ b ∧ b < z4) (h5 : ∀ b, CF c2 mk2 b → z4 ≤ b) (h12 : z1 ≤ z2) (h23 : z2 ≤ z3) (h34 : z3 ≤ z4) :
    Trio w0 w p ms mo c mk K (fun _ => False) D p2 ms2 mo2 c2 mk2 K2 (fun _ => False) D2 p3 ms3 mo3 D3 := by
  refine ⟨ha, hb, hd, fun b e e2 => ?_, fun b e e2 => ?_, fun b e e2 => ?_⟩
  · rcases e with e | e | e
    · have := h1 b e
      rcases e2 with e2 | e2 | e2
      · have := h2 b e2; omega
      · have := h5 b e2; omega
      · exact e2
    · have := h4 b e
      rcases e2 with e2 | e2 | e2
      · have := h2 b e2; omega
      · have := h5 b e2; omega
      · exact e2
    · exact e
  · have := h3 b e2
    rcases e with e | e | e
    · have := h1 b e; omega
    · have := h4 b e; omega
    · exact e
  · have := h3 b e2
    rcases e with e | e | e
    · have := h2 b e; omega
    · have := h5 b e; omega
    · exact e
end
end Go.Proofs.Yteeamlidmkpohaa
