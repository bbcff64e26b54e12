/-
  The cache over its device: one contract for each of Read, Write.
-/
import Derived.Test.YteeamlidmkpohaaCf
set_option linter.unusedVariables false
set_option linter.unusedSimpArgs false
namespace Go.Proofs.Yteeamlidmkpohaa
open Go.RowKit Go.Sort

theorem mayOk {D : Dk} {k : Int} (h : D.down = false) (h2 : k < D.n) (h1 : 0 ≤ k) : D.may k = 0 := by
  rw [Dk.may, h, if_neg (by simp), if_neg (by omega), if_neg (by omega)]
theorem mayDown {D : Dk} {k : Int} (h : D.down = true) : D.may k = 9 := by rw [Dk.may, if_pos h]
/-- what a write makes of a cache -/
def WriteRel (K : Ck) (D : Dk) (k : Int) (l : List Int) (K' : Ck) : Prop :=
  (D.wcode k l = 0 ∧ ∃ u, K' = K.touch ⟨k, l, u, K.now + 1⟩) ∨ (D.wcode k l = 9 ∧ K' = { K with C := without K.C k }) ∨ (D.wcode k l ≠ 0 ∧ D.wcode k l ≠ 9 ∧ K' = K)

section
variable {w0 w w' : World} {p ms mo c mk : Nat} {K : Ck} {Y : Nat → Prop} {D : Dk}
theorem CD.reads (h : CD w0 w p ms mo c mk K Y D) (hf : D.down = false → K.fit D) (k : Int) (hn : K.now < 9223372036854775806) (hh : K.hits < 9223372036854775806) (hs : K.misses < 9223372036854775806) :
    Calls Try.prog 105 #[.pointer (some ⟨c, 0, none⟩), .int .i64 k] w fun e w' => ∃ v K' Y', e = .returned (.tuple #[v, .int .i64 (D.may k)]) ∧ w'.ownsRow w.heap.size 5 1 v (D.rbytes k).length (bytesV (D.rbytes k)) ∧ (∀ b, v.ownBlock = some b → ¬ Y' b) ∧
      CD w0 w' p ms mo c mk K' Y' D ∧ Chg (CF c mk) w w' ∧ Fresh w Y Y' ∧ ReadRel K D k K' := by
  cases hd : D.down with
  | true =>
    have hm : D.may k = 9 := mayDown hd
    have hr : D.rbytes k = [] := by simp [Dk.rbytes, hm]
    rw [hm, hr]
    refine (cread_down h k hd).mono ?_
    rintro e w' ⟨rfl, rfl⟩
    exact ⟨_, K, Y, rfl, World.ownsRow_nil _ _ _ _, (fun b e => by cases e), h, Chg.refl _ _, Fresh.refl _ _, .inl ⟨by omega, rfl⟩⟩
  | false =>
    have hfit := hf hd
    by_cases hm : D.may k = 0
    · have hr : D.rbytes k = D.latest k := by simp [Dk.rbytes, hm]
      rw [hm, hr, (Dk.latest_sec h.dv.ok k).1]
      by_cases hk : K.has k
      · refine (cread_hit h hfit k hd hk hn hh).mono ?_
        rintro e w' ⟨v, u, Y', rfl, ho, hy, hca, hc, hfr⟩
        exact ⟨v, _, Y', rfl, ho, hy, h.cstep hca hc hfr, hc, hfr, .inr ⟨hm, u, .inl ⟨hk, rfl⟩⟩⟩
      · refine (cread_miss h k hm hk hn hs).mono ?_
        rintro e w' ⟨v, u, Y', rfl, ho, hy, hca, hc, hfr⟩
        exact ⟨v, _, Y', rfl, ho, hy, h.cstep hca hc hfr, hc, hfr, .inr ⟨hm, u, .inr ⟨hk, rfl⟩⟩⟩
    · have hr : D.rbytes k = [] := by simp [Dk.rbytes, hm]
      have hk : ¬ K.has k := by
        rintro ⟨e, he, rfl⟩
        obtain ⟨_, h1, h2⟩ := hfit e he
        exact hm (mayOk hd h2 h1)
      rw [hr]
      refine (cread_no h k rfl hm hk hd).mono ?_
      rintro e w' ⟨rfl, hb⟩
      exact ⟨_, K, Y, rfl, World.ownsRow_nil _ _ _ _, (fun b e => by cases e), h.below hb, Chg.of_below hb, Fresh.refl _ _, .inl ⟨hm, rfl⟩⟩

/-- what a write's code says -/
theorem wcode_zero {D : Dk} {k : Int} {l : List Int} (h : D.wcode k l = 0) : D.may k = 0 ∧ l.length = 512 ∧ (D.write k l).down = false := by
  unfold Dk.wcode at h
  by_cases h1 : D.may k = 0
  · by_cases h2 : l.length = 512
    · rw [if_neg (by simp [h1]), if_neg (by simp [h2])] at h
      refine ⟨h1, h2, ?_⟩
      cases hd : (D.write k l).down with
      | true => rw [hd] at h; cases h
      | false => rfl
    · rw [if_neg (by simp [h1]), if_pos h2] at h; cases h
  · rw [if_pos h1] at h; exact absurd h h1

set_option maxRecDepth 100000
set_option maxHeartbeats 4000000 in
theorem CD.writes (h : CD w0 w p ms mo c mk K Y D) (k : Int) {v : Value} {l : List Int} (hv : BytesIs w v l) (hb : Bytey l) (hvd : ∀ b, v.ownBlock = some b → ¬ DF p ms mo b) (hvc : ∀ b, v.ownBlock = some b → b ≠ c) (hn : K.now < 9223372036854775806) :
    Calls Try.prog 107 #[.pointer (some ⟨c, 0, none⟩), .int .i64 k, v] w fun e w' => ∃ K' Y', e = .returned (.int .i64 (D.wcode k l)) ∧
      CD w0 w' p ms mo c mk K' Y' (D.writes k l) ∧ Chg (fun b => DF p ms mo b ∨ CF c mk b) w w' ∧ Fresh w Y Y' ∧ WriteRel K D k l K' := by
  obtain ⟨c0, c1, c2, c3, c4, c5⟩ := h.ca.cells
  have hkn := h.ca.known
  have hwr := h.dv.writes k hv hb
  have hcl := h.ca.lt
  have HWR := Lib.hid hwr
  have HKN := Lib.hid hkn
  have H := Lib.hid h
  have HV := Lib.hid hv
  have HB := Lib.hid hb
  have HVD := Lib.hid hvd
  have HVC := Lib.hid hvc
  clear hwr hkn h hv hb hvd hvc
  by_cases h0 : D.wcode k l = 0
  · obtain ⟨h1, h2, h3⟩ := wcode_zero h0
    have H0 := Lib.hid h0
    have H2 := Lib.hid (⟨h2, HB.out⟩ : IsSec l)
    have hwr := HWR.out
    rw [h0] at hwr ⊢
    have HWR := Lib.hid hwr
    clear hwr h0 h1 h2 h3
    go_enter Try.func107, Try.ntmps107
    go_wp2_with
      (first
        | (go_at_call 159; refine HKN.out.mono ?_; rintro e1 w1 ⟨rfl, rfl⟩)
        | (go_at_call 52; refine HWR.out.mono ?_
           rintro e1 w2 ⟨rfl, hD2, hc2⟩
           have hH2 := H.out.dstep hD2 hc2
           have HV2 := Lib.hid (HV.out.chg hc2 (fun b e1 e2 => HVD.out b e1 e2))
           have HC2 := Lib.hid hc2
           have HD2 := Lib.hid hD2
           clear hc2 hD2)
        | (go_at_call 161; refine (keep_any hH2.ca k HV2.out H2.out HVC.out (by omega)).mono ?_
           rintro e1 w4 ⟨u, Y4, rfl, hCA4, hc4, hf4⟩))
    go_ret
    refine ⟨_, Y4, rfl, hH2.cstep hCA4 hc4 hf4, (HC2.out.mono (fun _ _ e => Or.inl e)).trans (hc4.mono (fun _ _ e => Or.inr e)), fun b e1 => (hf4 b e1).imp id (fun e => Nat.le_trans HC2.out.size e), .inl ⟨H0.out, u, rfl⟩⟩
  · by_cases h9 : D.wcode k l = 9
    · have H9 := Lib.hid h9
      have hwr := HWR.out
      rw [h9] at hwr ⊢
      have HWR := Lib.hid hwr
      clear hwr h0 h9
      go_enter Try.func107, Try.ntmps107
      go_wp2_with
        (first
          | (go_at_call 159; refine HKN.out.mono ?_; rintro e1 w1 ⟨rfl, rfl⟩)
          | (go_at_call 52; refine HWR.out.mono ?_
             rintro e1 w2 ⟨rfl, hD2, hc2⟩
             have hH2 := H.out.dstep hD2 hc2
             have d3 := hH2.ca.cells.2.2.2.1
             have HMP2 := Lib.hid hH2.ca.mp
             have HC2 := Lib.hid hc2
             have HD2 := Lib.hid hD2
             clear hc2 hD2)
          | (refine wpList_delete Try.underlying119 Try.underlying3 (by rfl) _ _ (by rfl) mk k (by rfl) (by rfl) _ HMP2.out ?_; intro w6 hm6 hc6))
      go_ret
      have hCA6 : CacheAt w0 w6 c mk p { K with C := without K.C k } Y := by
        have hca := hH2.ca
        have hcm := hca.ne
        refine ⟨(hc6.block c hca.lt hcm).trans hca.blk, hm6.congr (mapOf_without hca.ok k), hca.ok.without k, ?_, hca.m1, hca.m2, hca.n0, hca.h0, hca.s0, fun e he => ?_, hca.gc, hca.gm, fun b e => ⟨(hca.y b e).1, Nat.lt_of_lt_of_le (hca.y b e).2.1 hc6.size, (hca.y b e).2.2⟩⟩
        · have h1 := hca.len
          have h2 : (without K.C k).length ≤ K.C.length := List.length_filter_le _ _
          show ((without K.C k).length : Int) ≤ K.most
          omega
        · have hr := hca.rows e (List.mem_filter.1 he).1
          exact ⟨hr.1.chg hc6 (fun b e2 e3 => (hca.y b (hr.2.2 b e2)).2.2.2 e3), hr.2⟩
      have hc6' : Chg (CF c mk) w2 w6 := hc6.mono (fun _ _ e => .inr e)
      exact ⟨_, Y, rfl, hH2.cstep hCA6 hc6' (Fresh.refl _ _), (HC2.out.mono (fun _ _ e => Or.inl e)).trans (hc6'.mono (fun _ _ e => Or.inr e)), Fresh.refl _ _, .inr (.inl ⟨H9.out, rfl⟩)⟩
    · have H0 := Lib.hid h0
      have H9 := Lib.hid h9
      have hr0 : (D.wcode k l == 0) = false := by simpa using h0
      have hr9 : (D.wcode k l == 9) = false := by simpa using h9
      clear h0 h9
      generalize hwc : D.wcode k l = wc at HWR hr0 hr9 ⊢
      have HWC := Lib.hid hwc
      clear hwc
      go_enter Try.func107, Try.ntmps107
      go_wp2_with
        (first
          | (go_at_call 159; refine HKN.out.mono ?_; rintro e1 w1 ⟨rfl, rfl⟩)
          | (go_at_call 52; refine HWR.out.mono ?_
             rintro e1 w2 ⟨rfl, hD2, hc2⟩))
      go_ret
      exact ⟨K, Y, rfl, H.out.dstep hD2 hc2, hc2.mono (fun _ _ e => Or.inl e), Fresh.refl _ _, .inr (.inr ⟨fun e => H0.out (HWC.out ▸ e), fun e => H9.out (HWC.out ▸ e), rfl⟩)⟩
end
end Go.Proofs.Yteeamlidmkpohaa
